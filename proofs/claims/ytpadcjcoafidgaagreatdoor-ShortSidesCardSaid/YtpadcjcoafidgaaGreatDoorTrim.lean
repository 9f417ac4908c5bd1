/- parse.Trim. -/
import Derived.Test.YtpadcjcoafidgaaGreatDoorVs
namespace Go.Proofs.YtpadcjcoafidgaaGreatDoor
open Go.RowKit

def isSp (v : Val) : Bool := v.tok.k == 13
def trim (l : List Val) : List Val := ((l.dropWhile isSp).reverse.dropWhile isSp).reverse
theorem dropWhile_drop {α : Type} (p : α → Bool) : ∀ (l : List α) (k : Nat), k ≤ l.length → (∀ i (h : i < l.length), i < k → p l[i] = true) → (k = l.length ∨ ∃ h : k < l.length, p l[k] = false) → l.dropWhile p = l.drop k
  | [], k, hk, _, _ => by simp
  | a :: l, 0, _, _, h => by
    rcases h with h | ⟨h, hp⟩
    · simp at h
    · simp only [List.getElem_cons_zero] at hp
      simp [hp]
  | a :: l, k + 1, hk, h1, h2 => by
    have ha := h1 0 (by simp) (by omega)
    simp only [List.getElem_cons_zero] at ha
    rw [List.dropWhile_cons, ha, if_pos rfl, List.drop_succ_cons]
    refine dropWhile_drop p l k (by simpa using hk) (fun i hi hik => ?_) ?_
    · have := h1 (i + 1) (by simpa using hi) (by omega)
      simpa using this
    · rcases h2 with h2 | ⟨h, hp⟩
      · exact .inl (by simpa using h2)
      · exact .inr ⟨by simpa using h, by simpa using hp⟩
theorem trim_of (l : List Val) (k m : Nat) (hk : k ≤ l.length) (hm : k + m ≤ l.length) (h1 : ∀ i (h : i < l.length), i < k → isSp l[i] = true) (h2 : k = l.length ∨ ∃ h : k < l.length, isSp l[k] = false)
    (h3 : ∀ i (h : i < l.length), k + m ≤ i → isSp l[i] = true) (h4 : m = 0 ∨ ∃ h : k + m - 1 < l.length, isSp l[k + m - 1] = false) : trim l = (l.drop k).take m := by
  unfold trim
  rw [dropWhile_drop isSp l k hk h1 h2]
  have hlen : (l.drop k).length = l.length - k := List.length_drop ..
  rw [dropWhile_drop isSp (l.drop k).reverse (l.length - k - m) (by rw [List.length_reverse, hlen]; omega)]
  · rw [List.drop_reverse, List.reverse_reverse, hlen]
    congr 1
    omega
  · intro i hi hlt
    rw [List.length_reverse, hlen] at hi
    rw [List.getElem_reverse, List.getElem_drop]
    exact h3 _ _ (by rw [hlen]; omega)
  · have hlr : (l.drop k).reverse.length = l.length - k := by rw [List.length_reverse, hlen]
    rcases h4 with h4 | ⟨h, hp⟩
    · exact .inl (by omega)
    · by_cases hm0 : m = 0
      · exact .inl (by omega)
      · refine .inr ⟨by omega, ?_⟩
        rw [List.getElem_reverse, List.getElem_drop]
        have e : k + ((l.drop k).length - 1 - (l.length - k - m)) = k + m - 1 := by rw [hlen]; omega
        rw [← hp]
        congr 2
theorem isSp_any (x : Val) (w : World) :
    Calls Tryz.prog 90 #[.agg #[.int .i64 x.tok.k, .string x.tok.t, .string x.tok.u, .bool x.tok.wh, .bool x.tok.fl, .slice x.ka x.kn x.kc]] w fun e w' => e = .returned (.bool (isSp x)) ∧ Below w.heap.size w w' := by
  go_enter Tryz.func90, Tryz.ntmps90
  go_wp2_with fail
  go_ret
  exact ⟨rfl, bAlloc1 _ _⟩
/-- The six cells of a value. -/
theorem Vs.cells {w : World} {b off : Nat} {l : List Val} (hc : ∀ (i : Nat) (hi : i < l.length) (j : Nat) (x : Value), l[i].row[j]? = some x → w.cell? ⟨b, off + i * 6 + j, none⟩ = some x) (i : Nat) (hi : i < l.length) :
    w.cell? ⟨b, off + i * 6, none⟩ = some (.int .i64 l[i].tok.k) ∧ w.cell? ⟨b, off + i * 6 + 1, none⟩ = some (.string l[i].tok.t) ∧ w.cell? ⟨b, off + i * 6 + 2, none⟩ = some (.string l[i].tok.u) ∧
    w.cell? ⟨b, off + i * 6 + 3, none⟩ = some (.bool l[i].tok.wh) ∧ w.cell? ⟨b, off + i * 6 + 4, none⟩ = some (.bool l[i].tok.fl) ∧ w.cell? ⟨b, off + i * 6 + 5, none⟩ = some (.slice l[i].ka l[i].kn l[i].kc) :=
  ⟨hc i hi 0 _ rfl, hc i hi 1 _ rfl, hc i hi 2 _ rfl, hc i hi 3 _ rfl, hc i hi 4 _ rfl, hc i hi 5 _ rfl⟩
theorem cellsX {B : Nat} {w wx : World} (hx : Below B w wx) {b off : Nat} {l : List Val} (hb : b < B)
    (hc : ∀ (i : Nat) (hi : i < l.length) (j : Nat) (x : Value), l[i].row[j]? = some x → w.cell? ⟨b, off + i * 6 + j, none⟩ = some x) : ∀ (i : Nat) (hi : i < l.length) (j : Nat) (x : Value), l[i].row[j]? = some x → wx.cell? ⟨b, off + i * 6 + j, none⟩ = some x :=
  fun i hi j x h => (hx.cell (p := ⟨b, _, none⟩) hb).trans (hc i hi j x h)
theorem Vs.sub {w : World} {b off cap : Nat} {l : List Val} (hc : ∀ (i : Nat) (hi : i < l.length) (j : Nat) (x : Value), l[i].row[j]? = some x → w.cell? ⟨b, off + i * 6 + j, none⟩ = some x)
    (k m o : Nat) (ho : k < l.length → o = off + k * 6) (hk : k ≤ l.length) (hm : k + m ≤ l.length) (hb : b < w.heap.size) (hcap : l.length ≤ cap) (hl : l.length ≤ 100000) : Vs w (.slice (some ⟨b, o, none⟩) m (cap - k)) ((l.drop k).take m) := by
  have hlen : ((l.drop k).take m).length = m := by rw [List.length_take, List.length_drop]; omega
  refine ⟨_, cap - k, by rw [hlen], by rw [hlen]; omega, by rw [hlen]; omega, fun _ => ⟨b, o, rfl, hb, fun i hi j x hx => ?_⟩⟩
  rw [List.getElem_take, List.getElem_drop] at hx
  have hcc := hc (k + i) (by rw [hlen] at hi; omega) j x hx
  have := ho (by rw [hlen] at hi; omega)
  rw [show o + i * 6 + j = off + (k + i) * 6 + j by omega]
  exact hcc
set_option maxRecDepth 100000 in
set_option maxHeartbeats 4000000 in
theorem Trim_ne (w : World) (b off cap : Nat) (l : List Val) (hl : l.length ≤ 100000) (hcap : l.length ≤ cap) (hb : b < w.heap.size)
    (hc : ∀ (i : Nat) (hi : i < l.length) (j : Nat) (x : Value), l[i].row[j]? = some x → w.cell? ⟨b, off + i * 6 + j, none⟩ = some x) :
    Calls Tryz.prog 51 #[.slice (some ⟨b, off, none⟩) l.length cap] w fun e w' => ∃ V, e = .returned V ∧ Vs w' V (trim l) ∧ Below w.heap.size w w' := by
  have HC := Lib.hid hc
  clear hc
  go_enter Tryz.func51, Tryz.ntmps51
  go_wp2_with fail
  go_loopw [0] (fun v wr => ∃ k o : Nat, k ≤ l.length ∧ v = .slice (some ⟨b, o, none⟩) (l.length - k) (cap - k) ∧ Hid (k < l.length → o = off + k * 6) ∧ Hid (∀ i (h : i < l.length), i < k → isSp l[i] = true) ∧ Below w.heap.size w wr)
    (fun v _ => lenOf v)
  case atStart => exact ⟨0, off, Nat.zero_le _, rfl, Lib.hid (fun _ => by omega), Lib.hid (fun i _ hi => by omega), Below.refl _ _⟩
  case round =>
    obtain ⟨k, o, hk, rfl, HO, HP, hb1⟩ := hrel
    by_cases hlt : k < l.length
    · obtain ⟨x0, x1, x2, x3, x4, x5⟩ := Vs.cells HC.out k hlt
      have ho := HO.out hlt
      rw [← ho] at x0 x1 x2 x3 x4 x5
      clear ho
      have x0 := (hb1.cell (p := ⟨b, _, none⟩) hb).trans x0
      have x1 := (hb1.cell (p := ⟨b, _, none⟩) hb).trans x1
      have x2 := (hb1.cell (p := ⟨b, _, none⟩) hb).trans x2
      have x3 := (hb1.cell (p := ⟨b, _, none⟩) hb).trans x3
      have x4 := (hb1.cell (p := ⟨b, _, none⟩) hb).trans x4
      have x5 := (hb1.cell (p := ⟨b, _, none⟩) hb).trans x5
      have q0 : (0 : Int) < ((l.length - k : Nat) : Int) := by omega
      have q1 : (1 : Int) ≤ ((l.length - k : Nat) : Int) := by omega
      obtain ⟨y, hy⟩ : ∃ y, l[k] = y := ⟨_, rfl⟩
      rw [hy] at x0 x1 x2 x3 x4 x5
      have HY := Lib.hid hy
      clear hy
      go_wp2_with fail
      refine (isSp_any y _).mono ?_
      rintro e w2 ⟨rfl, hb2⟩
      have hbY := hb1.trans (hb2.mono hb1.size)
      clear x0 x1 x2 x3 x4 x5 hb1 hb2
      cases hs : isSp y
      · have HQ : Hid (k = l.length ∨ ∃ h : k < l.length, isSp l[k] = false) := Lib.hid (.inr ⟨hlt, by rw [HY.out]; exact hs⟩)
        have qk : (l.length : Int) - (k : Int) = ((l.length - k : Nat) : Int) := by omega
        go_wp2_with fail
        go_loopw [4] (fun mv wx => ∃ m : Nat, k + m ≤ l.length ∧ mv = .int .i64 m ∧ Hid (∀ i (h : i < l.length), k + m ≤ i → isSp l[i] = true) ∧ Below w.heap.size w wx)
          (fun mv _ => (intOf mv).toNat)
        case atStart => exact ⟨l.length - k, by omega, rfl, Lib.hid (fun i hi hm => by omega), hbY⟩
        case round =>
          obtain ⟨m, hm, rfl, HR, hbX⟩ := hrel
          clear hbY
          have q2 : (m : Int) ≤ ((cap - k : Nat) : Int) := by omega
          have q5 : (0 : Int) ≤ (m : Int) := by omega
          by_cases hm0 : m = 0
          · have HS : Hid (m = 0 ∨ ∃ h : k + m - 1 < l.length, isSp l[k + m - 1] = false) := Lib.hid (.inl hm0)
            have q3 : ¬ (0 : Int) < (m : Int) := by omega
            clear hm0
            go_wp2_with fail
            refine (Clone_any _ _ _ (Vs.sub (cellsX hbX hb HC.out) k m o HO.out (by omega) (by omega) (by have := hbX.size; omega) hcap hl)).mono ?_
            rintro e w9 ⟨V, rfl, hV, hb9⟩
            go_wp2_with fail
            go_ret
            refine ⟨V, rfl, ?_, hbX.trans (hb9.mono hbX.size)⟩
            rw [trim_of l k m hk (by omega) HP.out HQ.out HR.out HS.out]
            exact hV
          · have q3 : (0 : Int) < (m : Int) := by omega
            have hw1 : IntKind.i64.wrap ((m : Int) - 1) = ((m - 1 : Nat) : Int) := by rw [Go.IntWalk.i64_in _ (by omega)]; omega
            have hlt2 : k + m - 1 < l.length := by omega
            have hadd : off + (k + m - 1) * 6 = o + (m - 1) * 6 := by have := HO.out (by omega); omega
            obtain ⟨x0, x1, x2, x3, x4, x5⟩ := Vs.cells HC.out (k + m - 1) hlt2
            rw [hadd] at x0 x1 x2 x3 x4 x5
            have x0 := (hbX.cell (p := ⟨b, _, none⟩) hb).trans x0
            have x1 := (hbX.cell (p := ⟨b, _, none⟩) hb).trans x1
            have x2 := (hbX.cell (p := ⟨b, _, none⟩) hb).trans x2
            have x3 := (hbX.cell (p := ⟨b, _, none⟩) hb).trans x3
            have x4 := (hbX.cell (p := ⟨b, _, none⟩) hb).trans x4
            have x5 := (hbX.cell (p := ⟨b, _, none⟩) hb).trans x5
            have q6 : (0 : Int) ≤ ((m - 1 : Nat) : Int) := by omega
            have q7 : ((m - 1 : Nat) : Int) < ((l.length - k : Nat) : Int) := by omega
            obtain ⟨y, hy⟩ : ∃ y, l[k + m - 1] = y := ⟨_, rfl⟩
            rw [hy] at x0 x1 x2 x3 x4 x5
            have HY := Lib.hid hy
            clear hadd hy
            go_wp2_with fail
            refine (isSp_any y _).mono ?_
            rintro e w5 ⟨rfl, hb5⟩
            have hbZ := hbX.trans (hb5.mono hbX.size)
            clear x0 x1 x2 x3 x4 x5 hb5
            cases hs : isSp y
            · have HS : Hid (m = 0 ∨ ∃ h : k + m - 1 < l.length, isSp l[k + m - 1] = false) := Lib.hid (.inr ⟨hlt2, by rw [HY.out]; exact hs⟩)
              have hbX := hbZ
              go_wp2_with fail
              refine (Clone_any _ _ _ (Vs.sub (cellsX hbX hb HC.out) k m o HO.out (by omega) (by omega) (by have := hbX.size; omega) hcap hl)).mono ?_
              rintro e w9 ⟨V, rfl, hV, hb9⟩
              go_wp2_with fail
              go_ret
              refine ⟨V, rfl, ?_, hbX.trans (hb9.mono hbX.size)⟩
              rw [trim_of l k m hk (by omega) HP.out HQ.out HR.out HS.out]
              exact hV
            · go_wp2_with fail
              go_roundw
              case rel =>
                refine ⟨m - 1, by omega, rfl, Lib.hid (fun i hi hmi => ?_), hbZ⟩
                by_cases he : i = k + m - 1
                · subst he; rw [HY.out]; exact hs
                · exact HR.out i hi (by omega)
              case measure => simp [intOf] <;> omega
      · go_wp2_with fail
        go_roundw
        case rel =>
          refine ⟨k + 1, if cap - k = 1 then o else o + 6, by omega, ?_, Lib.hid (fun h' => ?_), Lib.hid (fun i hi hik => ?_), hbY⟩
          · rw [show l.length - (k + 1) = l.length - k - 1 by omega, show cap - (k + 1) = cap - k - 1 by omega]
            split <;> rfl
          · have := HO.out hlt
            rw [if_neg (by omega)]; omega
          · by_cases he : i = k
            · subst he; rw [HY.out]; exact hs
            · exact HP.out i hi (by omega)
        case measure => show l.length - k - 1 < l.length - k; omega
    · have hke : k = l.length := by omega
      have HQ : Hid (k = l.length ∨ ∃ h : k < l.length, isSp l[k] = false) := Lib.hid (.inl hke)
      have hbY := hb1
      clear hke
      have q0 : ¬ (0 : Int) < ((l.length - k : Nat) : Int) := by omega
      clear hb1
      have qk : (l.length : Int) - (k : Int) = ((l.length - k : Nat) : Int) := by omega
      go_wp2_with fail
      go_loopw [4] (fun mv wx => ∃ m : Nat, k + m ≤ l.length ∧ mv = .int .i64 m ∧ Hid (∀ i (h : i < l.length), k + m ≤ i → isSp l[i] = true) ∧ Below w.heap.size w wx)
        (fun mv _ => (intOf mv).toNat)
      case atStart => exact ⟨l.length - k, by omega, rfl, Lib.hid (fun i hi hm => by omega), hbY⟩
      case round =>
        obtain ⟨m, hm, rfl, HR, hbX⟩ := hrel
        clear hbY
        have q2 : (m : Int) ≤ ((cap - k : Nat) : Int) := by omega
        have q5 : (0 : Int) ≤ (m : Int) := by omega
        by_cases hm0 : m = 0
        · have HS : Hid (m = 0 ∨ ∃ h : k + m - 1 < l.length, isSp l[k + m - 1] = false) := Lib.hid (.inl hm0)
          have q3 : ¬ (0 : Int) < (m : Int) := by omega
          clear hm0
          go_wp2_with fail
          refine (Clone_any _ _ _ (Vs.sub (cellsX hbX hb HC.out) k m o HO.out (by omega) (by omega) (by have := hbX.size; omega) hcap hl)).mono ?_
          rintro e w9 ⟨V, rfl, hV, hb9⟩
          go_wp2_with fail
          go_ret
          refine ⟨V, rfl, ?_, hbX.trans (hb9.mono hbX.size)⟩
          rw [trim_of l k m hk (by omega) HP.out HQ.out HR.out HS.out]
          exact hV
        · exfalso; omega
theorem Trim_any (w : World) (v : Value) (l : List Val) (h : Vs w v l) :
    Calls Tryz.prog 51 #[v] w fun e w' => ∃ V, e = .returned V ∧ Vs w' V (trim l) ∧ Below w.heap.size w w' := by
  obtain ⟨a, cap, rfl, hcap, hl, hr⟩ := h
  by_cases hne : l = []
  · subst hne
    clear hr hcap hl
    go_enter Tryz.func51, Tryz.ntmps51
    go_wp2_with fail
    go_loopw [0] (fun v wr => v = .slice a 0 cap ∧ Below w.heap.size w wr) (fun _ _ => 0)
    case atStart => exact ⟨rfl, Below.refl _ _⟩
    case round =>
      obtain ⟨rfl, hb1⟩ := hrel
      go_wp2_with fail
      go_loopw [4] (fun mv wx => mv = .int .i64 0 ∧ Below w.heap.size w wx) (fun _ _ => 0)
      case atStart => exact ⟨rfl, hb1⟩
      case round =>
        obtain ⟨rfl, hb2⟩ := hrel
        cases a
        all_goals
          go_wp2_with fail
          refine (Clone_any _ _ [] ⟨_, _, rfl, Nat.zero_le _, Nat.zero_le _, fun h => absurd rfl h⟩).mono ?_
          rintro e w9 ⟨V, rfl, hV, hb9⟩
          go_wp2_with fail
          go_ret
          exact ⟨V, rfl, hV, hb2.trans (hb9.mono hb2.size)⟩
  · obtain ⟨b, off, rfl, hb, hc⟩ := hr hne
    exact Trim_ne w b off cap l hl hcap hb hc
end Go.Proofs.YtpadcjcoafidgaaGreatDoor
