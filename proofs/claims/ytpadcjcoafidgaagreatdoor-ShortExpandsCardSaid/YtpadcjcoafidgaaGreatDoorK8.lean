/- Texts of this seat, laid together: Sides, ShortParts, Spread, Expand, Join, Lives16. -/
import Derived.Test.YtpadcjcoafidgaaGreatDoorK1
import Derived.Test.YtpadcjcoafidgaaGreatDoorK6
import Derived.Test.YtpadcjcoafidgaaGreatDoorK7
import Derived.Deep.RegionHeld3
import Derived.Deep.AppendLies
/-! short.Sides, short.chooser and what it hands back. -/
namespace Go.Proofs.YtpadcjcoafidgaaGreatDoor
open Go.RowKit

def sidesTbl : List Int := [0, 0, 0, 0, 0, 1, 0, 1, 0, 1, 2, 1, 0, 1, 2, 3]
def sideAt (a b : Nat) : Int := sidesTbl[a * 4 + b]?.getD 0
/-- The variable short.sides lies as the program's text lays it. -/
def SidesIn (w : World) : Prop := 1 < w.heap.size ∧ ∀ a b, a < 4 → b < 4 → w.cell? ⟨1, a * 4 + b, none⟩ = some (.int .i64 (sideAt a b))
theorem SidesIn.next {w w' : World} (h : SidesIn w) (hb : Below w.heap.size w w') : SidesIn w' :=
  ⟨Nat.lt_of_lt_of_le h.1 hb.size, fun a b ha hb' => (hb.cell (p := ⟨1, _, none⟩) h.1).trans (h.2 a b ha hb')⟩
def sidesS (n i : Int) : Int := if n < 1 ∨ 4 < n ∨ i < 0 ∨ 4 ≤ i then -1 else sideAt (n - 1).toNat i.toNat
set_option maxHeartbeats 1000000 in
theorem Sides_any (w : World) (h : SidesIn w) (n i : Int) :
    Calls Tryz.prog 22 #[.int .i64 n, .int .i64 i] w fun e w' => e = .returned (.int .i64 (sidesS n i)) ∧ w' = w := by
  have H := Lib.hid h
  clear h
  by_cases h1 : n < 1
  · have HV : Hid (sidesS n i = -1) := Lib.hid (if_pos (.inl h1))
    go_enter Tryz.func22, Tryz.ntmps22
    go_wp2_with fail
    go_ret
    exact ⟨by rw [HV.out]; rfl, rfl⟩
  · by_cases h2 : 4 < n
    · have HV : Hid (sidesS n i = -1) := Lib.hid (if_pos (.inr (.inl h2)))
      go_enter Tryz.func22, Tryz.ntmps22
      go_wp2_with fail
      go_ret
      exact ⟨by rw [HV.out]; rfl, rfl⟩
    · by_cases h3 : i < 0
      · have HV : Hid (sidesS n i = -1) := Lib.hid (if_pos (.inr (.inr (.inl h3))))
        go_enter Tryz.func22, Tryz.ntmps22
        go_wp2_with fail
        go_ret
        exact ⟨by rw [HV.out]; rfl, rfl⟩
      · by_cases h4 : 4 ≤ i
        · have HV : Hid (sidesS n i = -1) := Lib.hid (if_pos (.inr (.inr (.inr h4))))
          go_enter Tryz.func22, Tryz.ntmps22
          go_wp2_with fail
          go_ret
          exact ⟨by rw [HV.out]; rfl, rfl⟩
        · have HV : Hid (sidesS n i = sideAt (n - 1).toNat i.toNat) := Lib.hid (if_neg (by omega))
          obtain ⟨a, ha⟩ : ∃ a : Nat, n - 1 = (a : Int) := ⟨(n - 1).toNat, by omega⟩
          obtain ⟨b, rfl⟩ : ∃ b : Nat, i = (b : Int) := ⟨i.toNat, by omega⟩
          have ha4 : a < 4 := by omega
          have hb4 : b < 4 := by omega
          have c0 := H.out.2 a b ha4 hb4
          have hw : IntKind.i64.wrap (n - 1) = (a : Int) := by rw [Go.IntWalk.i64_in _ (by omega)]; exact ha
          have q1 : (0 : Int) ≤ (a : Int) := by omega
          have q2 : (a : Int) < 4 := by omega
          have q3 : (0 : Int) ≤ (b : Int) := by omega
          have q4 : (b : Int) < 4 := by omega
          have HV2 : Hid (sidesS n (b : Int) = sideAt a b) := Lib.hid (by rw [HV.out, ha]; rfl)
          clear HV ha
          go_enter Tryz.func22, Tryz.ntmps22
          go_wp2_with fail
          go_ret
          exact ⟨by rw [HV2.out]; rfl, rfl⟩
def overS (n i : Int) : Int := if n = 1 then 0 else if n = 2 then i else -1
theorem which_sides (w : World) (h : SidesIn w) (n i : Int) (b : Nat) (hc : w.cell? ⟨b, 0, none⟩ = some (.int .i64 n)) :
    Calls Tryz.prog 94 #[.int .i64 i, .pointer (some ⟨b, 0, none⟩)] w fun e w' => e = .returned (.int .i64 (sidesS n i)) ∧ Below w.heap.size w w' := by
  go_enter Tryz.func94, Tryz.ntmps94
  go_wp2_with fail
  refine (Sides_any w h n i).mono ?_
  rintro e w1 ⟨rfl, rfl⟩
  go_wp2_with fail
  go_ret
  exact ⟨rfl, Below.refl _ _⟩
theorem which_over (w : World) (n i : Int) (b : Nat) (hc : w.cell? ⟨b, 0, none⟩ = some (.int .i64 n)) :
    Calls Tryz.prog 95 #[.int .i64 i, .pointer (some ⟨b, 0, none⟩)] w fun e w' => e = .returned (.int .i64 (overS n i)) ∧ Below w.heap.size w w' := by
  by_cases h1 : n = 1
  · have HV : Hid (overS n i = 0) := Lib.hid (if_pos h1)
    go_enter Tryz.func95, Tryz.ntmps95
    go_wp2_with fail
    go_ret
    exact ⟨by rw [HV.out]; rfl, Below.refl _ _⟩
  · by_cases h2 : n = 2
    · have HV : Hid (overS n i = i) := Lib.hid (by unfold overS; rw [if_neg h1, if_pos h2])
      go_enter Tryz.func95, Tryz.ntmps95
      go_wp2_with fail
      go_ret
      exact ⟨by rw [HV.out]; rfl, Below.refl _ _⟩
    · have HV : Hid (overS n i = -1) := Lib.hid (by unfold overS; rw [if_neg h1, if_neg h2])
      go_enter Tryz.func95, Tryz.ntmps95
      go_wp2_with fail
      go_ret
      exact ⟨by rw [HV.out]; rfl, Below.refl _ _⟩
def aOverflow : ByteArray := ⟨#[111, 118, 101, 114, 102, 108, 111, 119]⟩
/-- Which part a longhand has, of n. -/
def whichS (name : ByteArray) (n i : Int) : Int := if eqB name aOverflow = true then overS n i else sidesS n i
theorem chooser_any (w : World) (name : ByteArray) (n : Int) :
    Calls Tryz.prog 56 #[.string name, .int .i64 n] w fun e w' => ∃ g, e = .returned (.func (.func g) #[] #[.pointer (some ⟨w.heap.size, 0, none⟩)]) ∧ (g = 94 ∨ g = 95) ∧
      (∀ (W : World) (i : Int), SidesIn W → W.cell? ⟨w.heap.size, 0, none⟩ = some (.int .i64 n) → Calls Tryz.prog g #[.int .i64 i, .pointer (some ⟨w.heap.size, 0, none⟩)] W fun e w' => e = .returned (.int .i64 (whichS name n i)) ∧ Below W.heap.size W w') ∧
      w'.cell? ⟨w.heap.size, 0, none⟩ = some (.int .i64 n) ∧ w.heap.size < w'.heap.size ∧ Below w.heap.size w w' := by
  have t1 : (name.toList == [111, 118, 101, 114, 102, 108, 111, 119]) = eqB name aOverflow := toList_lit name aOverflow _ rfl
  cases he : eqB name aOverflow
  · rw [he] at t1
    have HT : Hid (∀ (W : World) (i : Int), SidesIn W → W.cell? ⟨w.heap.size, 0, none⟩ = some (.int .i64 n) → Calls Tryz.prog 94 #[.int .i64 i, .pointer (some ⟨w.heap.size, 0, none⟩)] W fun e w' => e = .returned (.int .i64 (whichS name n i)) ∧ Below W.heap.size W w') := Lib.hid (fun W i hS hc => by
      have := which_sides W hS n i _ hc
      unfold whichS
      rw [he]
      exact this)
    clear he
    go_enter Tryz.func56, Tryz.ntmps56
    go_wp2_with fail
    go_ret
    exact ⟨_, rfl, .inl rfl, HT.out, by simp, by simp, bAlloc1 _ _⟩
  · rw [he] at t1
    have HT : Hid (∀ (W : World) (i : Int), SidesIn W → W.cell? ⟨w.heap.size, 0, none⟩ = some (.int .i64 n) → Calls Tryz.prog 95 #[.int .i64 i, .pointer (some ⟨w.heap.size, 0, none⟩)] W fun e w' => e = .returned (.int .i64 (whichS name n i)) ∧ Below W.heap.size W w') := Lib.hid (fun W i hS hc => by
      have := which_over W n i _ hc
      unfold whichS
      rw [he]
      exact this)
    clear he
    go_enter Tryz.func56, Tryz.ntmps56
    go_wp2_with fail
    go_ret
    exact ⟨_, rfl, .inr rfl, HT.out, by simp, by simp, bAlloc1 _ _⟩
end Go.Proofs.YtpadcjcoafidgaaGreatDoor
/-! short.parts: the values between spaces. -/
namespace Go.Proofs.YtpadcjcoafidgaaGreatDoor
open Go.RowKit

def partsF : Bool → List Val → List Val → Option (List Val)
  | _, [], acc => some acc
  | ap, v :: l, acc => if isSp v = true then partsF true l acc else if ap = true then partsF false l (acc ++ [v]) else none
def partsS (l : List Val) : Option (List Val) := partsF true (trim l) []
set_option maxRecDepth 100000 in
set_option maxHeartbeats 4000000 in
theorem parts_any (w : World) (v : Value) (l : List Val) (h : Vs w v l) :
    Calls Tryz.prog 97 #[v] w fun e w' => ∃ V, e = .returned (.tuple #[V, .bool (partsS l).isSome]) ∧ Vs w' V ((partsS l).getD []) ∧ Below w.heap.size w w' := by
  go_enter Tryz.func97, Tryz.ntmps97
  go_wp2_with fail
  refine (Trim_any w _ l h).mono ?_
  rintro e w1 ⟨v1, rfl, hv1, hb1⟩
  have hlen := hv1.len
  obtain ⟨a1, cap1, rfl, _, _, hc1⟩ := hv1
  have HC := Lib.hid hc1
  have HP : Hid (partsS l = partsF true (trim l) []) := Lib.hid rfl
  obtain ⟨tl, htl⟩ : ∃ t, trim l = t := ⟨_, rfl⟩
  rw [htl] at HP HC hlen ⊢
  clear hc1 htl h
  go_wp2_with fail
  go_loopw [4, 5, 7, 11] (fun out ap _ iv wr => ∃ (k : Nat) (acc : List Val) (b : Bool), k ≤ tl.length ∧ acc.length ≤ k ∧ iv = .int .i64 k ∧ ap = .bool b ∧ Hid (partsF b (tl.drop k) acc = partsS l) ∧
      wr.ownsRow w1.heap.size 26 6 out (acc.map Val.row).length (acc.map Val.row).flatten ∧ Below w1.heap.size w1 wr)
    (fun _ _ _ iv _ => tl.length - (intOf iv).toNat)
  case atStart => exact ⟨0, [], true, by omega, Nat.le_refl _, rfl, rfl, Lib.hid (by rw [List.drop_zero, HP.out]), ⟨by simp, .inl ⟨rfl, rfl⟩⟩, Below.refl _ _⟩
  case round =>
    obtain ⟨k, acc, b, hk, hal, rfl, rfl, HF, hown, hb⟩ := hrel
    by_cases hlt : k < tl.length
    · have hne : tl ≠ [] := by intro e; rw [e] at hlt; simp at hlt
      obtain ⟨bb, off, rfl, hbb, hcc⟩ := HC.out hne
      obtain ⟨x0, x1, x2, x3, x4, x5⟩ := Vs.cells hcc k hlt
      have x0 := (hb.cell (p := ⟨bb, _, none⟩) hbb).trans x0
      have x1 := (hb.cell (p := ⟨bb, _, none⟩) hbb).trans x1
      have x2 := (hb.cell (p := ⟨bb, _, none⟩) hbb).trans x2
      have x3 := (hb.cell (p := ⟨bb, _, none⟩) hbb).trans x3
      have x4 := (hb.cell (p := ⟨bb, _, none⟩) hbb).trans x4
      have x5 := (hb.cell (p := ⟨bb, _, none⟩) hbb).trans x5
      have hd := List.drop_eq_getElem_cons hlt
      obtain ⟨y, hy⟩ : ∃ y, tl[k] = y := ⟨_, rfl⟩
      rw [hy] at x0 x1 x2 x3 x4 x5 hd
      have HD : Hid (partsS l = if isSp y = true then partsF true (tl.drop (k + 1)) acc else if b = true then partsF false (tl.drop (k + 1)) (acc ++ [y]) else none) := Lib.hid (by rw [← HF.out, hd]; rfl)
      have q0 : (0 : Int) ≤ (k : Int) := by omega
      have q1 : (k : Int) < (tl.length : Int) := by omega
      have hsz := hb.size
      clear hcc hy hd
      by_cases hs : y.tok.k = 13
      · have HN : Hid (partsF true (tl.drop (k + 1)) acc = partsS l) := Lib.hid (by rw [HD.out, if_pos (by unfold isSp; rw [hs]; rfl)])
        have hb5 := hb.trans ((bAlloc1 wr (.cells #[.int .i64 13, .string y.tok.t, .string y.tok.u, .bool y.tok.wh, .bool y.tok.fl, .slice y.ka y.kn y.kc] 26)).mono hsz)
        have hown5 := hown.alloc (.cells #[.int .i64 13, .string y.tok.t, .string y.tok.u, .bool y.tok.wh, .bool y.tok.fl, .slice y.ka y.kn y.kc] 26)
        go_wp2_with fail
        go_roundw
        case rel => exact ⟨k + 1, acc, true, by omega, by omega, by go_num, rfl, HN, hown5, hb5⟩
        case measure => simp [intOf]; omega
      · have hsf : isSp y = false := by unfold isSp; simpa using hs
        cases b with
        | true =>
          have HN : Hid (partsF false (tl.drop (k + 1)) (acc ++ [y]) = partsS l) := Lib.hid (by rw [HD.out, hsf]; rfl)
          have hrl : (acc.map Val.row).length ≤ 1954687338211 := by rw [List.length_map]; omega
          have hap : (acc ++ [y]).map Val.row = acc.map Val.row ++ [y.row] := by simp
          have HAP := Lib.hid hap
          clear hap hsf
          go_wp2_with (at_builtin; refine wpList_append_row rfl _ _ 24 26 rfl w1.heap.size 6 72 _ Tryz.underlying24 infoVal rfl (by decide) _ (acc.map Val.row) y.row rfl ((hown.alloc _).alloc _) ⟨wr.heap.size + 1, 0, none⟩ 1 rfl rfl (cells_new2 wr _ _ _) y.row_one (by omega) (by decide) (by simp; omega) ?_; intro v' w6 hown6 hgrow hne6)
          go_roundw
          case rel => exact ⟨k + 1, acc ++ [y], false, by omega, by simp; omega, by go_num, rfl, HN, by rw [HAP.out]; exact hown6, (hb.trans ((bAlloc2 wr _ _).mono hsz)).grown hgrow (by simp; omega) (fun j e => (hown.lt j e).1)⟩
          case measure => simp [intOf]; omega
        | false =>
          have HN : Hid (partsS l = none) := Lib.hid (by rw [HD.out, hsf]; rfl)
          clear hsf
          go_wp2_with fail
          refine bodyPost_ret (v := .tuple #[.slice none 0 0, .bool false]) (by simp [results, Tryz.results97, go_sem]) rfl ⟨_, by rw [HN.out]; rfl, ?_, ?_⟩
          · rw [HN.out]; exact ⟨none, 0, rfl, Nat.le_refl _, Nat.zero_le _, fun h => absurd rfl h⟩
          · exact bNext hb1 (hb.trans ((bAlloc1 wr _).mono hsz))
    · have hke : k = tl.length := by omega
      have HN : Hid (partsS l = some acc) := Lib.hid (by rw [← HF.out, hke, List.drop_length]; rfl)
      have q1 : ¬ (k : Int) < (tl.length : Int) := by omega
      have hal2 : acc.length ≤ 1954687338211 := by omega
      clear hke
      obtain ⟨V, hV⟩ : ∃ V : Value, V = u4 := ⟨_, rfl⟩
      go_wp2_with fail
      refine bodyPost_ret (v := .tuple #[u4, .bool true]) (by simp [results, Tryz.results97, go_sem]) rfl ⟨u4, by rw [HN.out]; rfl, ?_, bNext hb1 hb⟩
      rw [HN.out]
      exact Vs.of_owns hown hal2
end Go.Proofs.YtpadcjcoafidgaaGreatDoor
/-! short.spread where no value for all stands. -/
namespace Go.Proofs.YtpadcjcoafidgaaGreatDoor
open Go.RowKit

/-- The listed variables lie as the program's text lays them. -/
structure Base16 (w : World) : Prop where
  base : Base w
  sh : ShortsIn w
  sd : SidesIn w
theorem Base16.next {w w' : World} (h : Base16 w) (hb : Below w.heap.size w w') : Base16 w' := ⟨h.base.next hb, h.sh.below hb (Nat.le_refl _), h.sd.next hb⟩
def spreadF (name : ByteArray) (all : List Val) (n : Int) : List ByteArray → Nat → List ByteArray → List ByteArray
  | [], _, acc => acc
  | long :: r, i, acc => if whichS name n i < 0 then [] else match all[(whichS name n i).toNat]? with
    | none => []
    | some x => match parseS long [x] with
      | none => []
      | some s => spreadF name all n r (i + 1) (acc ++ [s])
def spreadS (name : ByteArray) (longs : List ByteArray) (l : List Val) : List ByteArray := match partsS l with
  | none => []
  | some all => spreadF name all all.length longs 0 []
theorem spreadS_eq (name : ByteArray) (longs : List ByteArray) (l : List Val) : spreadS name longs l = if (partsS l).isSome = true then spreadF name ((partsS l).getD []) ((partsS l).getD []).length longs 0 [] else [] := by
  unfold spreadS
  cases partsS l <;> rfl
theorem partsF_mem : ∀ (b : Bool) (l acc : List Val) (all : List Val), partsF b l acc = some all → ∀ x ∈ all, x ∈ l ∨ x ∈ acc
  | b, [], acc, all, h, x, hx => by
    simp only [partsF, Option.some.injEq] at h
    subst h
    exact .inr hx
  | b, v :: l, acc, all, h, x, hx => by
    unfold partsF at h
    split at h
    · rcases partsF_mem _ _ _ _ h x hx with h' | h'
      · exact .inl (List.mem_cons_of_mem _ h')
      · exact .inr h'
    · split at h
      · rcases partsF_mem _ _ _ _ h x hx with h' | h'
        · exact .inl (List.mem_cons_of_mem _ h')
        · rcases List.mem_append.1 h' with h' | h'
          · exact .inr h'
          · rw [List.mem_singleton.1 h']; exact .inl (List.mem_cons_self ..)
      · cases h
theorem parts_fits {l : List Val} (hf : ∀ x ∈ l, x.fits) : ∀ x ∈ (partsS l).getD [], x.fits := by
  intro x hx
  cases hp : partsS l with
  | none => rw [hp] at hx; cases hx
  | some all =>
    rw [hp] at hx
    rcases partsF_mem _ _ _ _ hp x hx with h | h
    · exact hf x (trim_mem h)
    · cases h
set_option maxRecDepth 100000 in
set_option maxHeartbeats 8000000 in
theorem spread_some (w : World) (hB : Base16 w) (name : ByteArray) (longs : List ByteArray) (lv v : Value) (l : List Val) (B : Nat) (hs : Strs B w lv longs) (hll : longs.length ≤ 1000) (h : Vs w v l) (hf : ∀ x ∈ l, x.fits) (hw : wideS l = noStr) (all : List Val) (hpa : partsS l = some all)
    (hk : ∀ (n i : Nat), i < longs.length → whichS name n i < n) :
    Calls Tryz.prog 61 #[.string name, lv, v] w fun e w' => ∃ V, e = .returned V ∧ Strs w.heap.size w' V (spreadS name longs l) ∧ Below w.heap.size w w' := by
  have HB := Lib.hid hB
  have HS := Lib.hid hs
  have HK := Lib.hid hk
  obtain ⟨la, lc, rfl, _⟩ := hs.val
  have hF := parts_fits hf
  clear hB hs hk
  go_enter Tryz.func61, Tryz.ntmps61
  go_wp2_with fail
  refine (Wide_any w v l h hf).mono ?_
  rintro e w1 ⟨rfl, hb1⟩
  rw [hw]
  have hz1 : noStr.toList = [] := by rw [noStr, ByteArray.toList_eq]
  have hz2 : noStr.toList.isEmpty = true := by rw [hz1]; rfl
  have hv1 := h.next hb1
  go_wp2_with fail
  refine (parts_any w1 v l hv1).mono ?_
  rintro e w2 ⟨pv, rfl, hp2, hb2⟩
  have hB2 := bNext hb1 hb2
  have hSE := spreadS_eq name longs l
  rw [hpa] at hSE hp2 hF
  simp only [Option.isSome_some, Option.getD_some, if_true] at hSE hp2 hF
  rw [hpa]
  simp only [Option.isSome_some]
  have HE := Lib.hid hSE
  have hal := hp2.len
  have HP := Lib.hid hp2
  obtain ⟨pa, pc, rfl, hpc, _, hpr⟩ := hp2
  have HPR := Lib.hid hpr
  clear hv1 hb1 hb2 hpa hw h hf hSE hpr
  go_wp2_with fail
  refine (chooser_any w2 name _).mono ?_
  rintro e w3 ⟨g, rfl, hg, ht, hc3, hlt3, hb3⟩
  have hB3 := bNext hB2 hb3
  have HT := Lib.hid ht
  have HB3 := Lib.hid (HB.out.next hB3)
  have hsz3 := hB3.size
  obtain ⟨kb, hkb⟩ : ∃ k, w2.heap.size = k := ⟨_, rfl⟩
  rw [hkb] at HT hc3 hlt3 ⊢
  have HC3 := Lib.hid hc3
  have hsz2 := hb3.size
  clear ht hc3
  rcases hg with rfl | rfl
  all_goals
    go_wp2_with fail
    go_loopw [11, 12, 13, 14, 15, 16, 37] (fun out _ _ _ _ _ iv wr => ∃ (k : Nat) (acc : List ByteArray), k ≤ longs.length ∧ acc.length ≤ k ∧ iv = .int .i64 k ∧ Hid (spreadF name all all.length (longs.drop k) k acc = spreadS name longs l) ∧
        wr.ownsRow w3.heap.size 9 1 out acc.length (acc.map Value.string) ∧ Below w3.heap.size w3 wr)
      (fun _ _ _ _ _ _ iv _ => longs.length - (intOf iv).toNat)
    case atStart => exact ⟨0, [], by omega, Nat.le_refl _, rfl, Lib.hid (by rw [HE.out]; rfl), ⟨rfl, .inl ⟨rfl, rfl⟩⟩, Below.refl _ _⟩
    case round =>
      obtain ⟨k, acc, hk, hal2, rfl, HF, hown, hb⟩ := hrel
      have hBr := hB3.trans (hb.mono hsz3)
      by_cases hlt : k < longs.length
      · have hne : longs ≠ [] := by intro e; rw [e] at hlt; simp at hlt
        obtain ⟨b1, o1, c1', e1, _, hbb, hc1⟩ := HS.out.at hne
        simp only [Value.slice.injEq] at e1
        obtain ⟨rfl, -, -⟩ := e1
        have f1 : wr.cell? ⟨b1, o1 + k, none⟩ = some (.string longs[k]) := (hBr.cell (p := ⟨b1, _, none⟩) hbb).trans (hc1 k hlt)
        have hd := List.drop_eq_getElem_cons hlt
        have hkl := HK.out all.length k hlt
        obtain ⟨long, hlong⟩ : ∃ y, longs[k] = y := ⟨_, rfl⟩
        rw [hlong] at f1 hd
        have HD := Lib.hid hd
        have HBr := HB3.out.next hb
        have hbox : wr.cell? ⟨kb, 0, none⟩ = some (.int .i64 (all.length : Int)) := (hb.cell (p := ⟨kb, 0, none⟩) hlt3).trans HC3.out
        have q0 : (0 : Int) ≤ (k : Int) := by omega
        have q1 : (k : Int) < (longs.length : Int) := by omega
        clear hc1 hlong hd
        go_wp2_with fail
        refine (HT.out wr k HBr.sd hbox).mono ?_
        rintro e w5 ⟨rfl, hb5⟩
        have HB5 := HBr.next hb5
        have hb35 := hb.trans (hb5.mono hb.size)
        have hown5 := ownsRow_below hown hb5 (Nat.le_refl _)
        obtain ⟨kk, hkk⟩ : ∃ q, whichS name (all.length : Int) (k : Int) = q := ⟨_, rfl⟩
        rw [hkk] at hkl ⊢
        clear f1 hbox hown hb5
        have HN : Hid (spreadS name longs l = if kk < 0 then [] else match all[kk.toNat]? with
          | none => []
          | some x => match parseS long [x] with
            | none => []
            | some s => spreadF name all all.length (longs.drop (k + 1)) (k + 1) (acc ++ [s])) := Lib.hid (by rw [← HF.out, HD.out, spreadF, hkk])
        by_cases hk0 : kk < 0
        · have HR : Hid (spreadS name longs l = []) := Lib.hid (by rw [HN.out, if_pos hk0])
          go_wp2_with fail
          go_ret
          exact ⟨_, rfl, by rw [HR.out]; exact Rws.nil _ _ _, hB3.trans (hb35.mono hsz3)⟩
        · obtain ⟨q, rfl⟩ : ∃ q : Nat, kk = (q : Int) := ⟨kk.toNat, by omega⟩
          have hq : q < all.length := by omega
          have hane : all ≠ [] := by intro e; rw [e] at hq; simp at hq
          obtain ⟨pb, po, rfl, hpb, hpcell⟩ := HPR.out hane
          have hget : all[q]? = some all[q] := List.getElem?_eq_getElem hq
          have HN2 : Hid (spreadS name longs l = match parseS long [all[q]] with
            | none => []
            | some s => spreadF name all all.length (longs.drop (k + 1)) (k + 1) (acc ++ [s])) := Lib.hid (by rw [HN.out, if_neg hk0, Int.toNat_natCast, hget])
          have hxf := hF _ (List.getElem_mem hq)
          have hpl : pb < w3.heap.size := Nat.lt_of_lt_of_le (by omega) hsz2
          have hVs : Vs w5 (.slice (some ⟨pb, po + q * 6, none⟩) 1 (pc - q)) [all[q]] := by
            have h1 := Vs.sub (cellsX (hb3.mono (Nat.le_of_eq hkb.symm) |>.trans (hb35.mono (by omega))) (by omega) hpcell) q 1 (po + q * 6) (fun _ => rfl) (by omega) (by omega) (by have := hb35.size; omega) hpc hal
            rw [show (all.drop q).take 1 = [all[q]] by rw [List.drop_eq_getElem_cons hq]; rfl] at h1
            exact h1
          have w1' : IntKind.i64.wrap ((q : Int) + 1) = ((q + 1 : Nat) : Int) := by rw [Go.IntWalk.i64_in _ (by omega)]; omega
          have p1 : (0 : Int) ≤ (q : Int) := by omega
          have p2 : (q : Int) ≤ ((q + 1 : Nat) : Int) := by omega
          have p3 : ((q + 1 : Nat) : Int) ≤ (pc : Int) := by omega
          clear hk0 hget hpcell HN
          go_wp2_with fail
          refine (Parse_any w5 HB5.base long _ [all[q]] hVs (fun x hx => by rw [List.mem_singleton.1 hx]; exact hxf)).mono ?_
          rintro e w6 ⟨rfl, hb6⟩
          have hb36 := hb35.trans (hb6.mono hb35.size)
          have hown6 := ownsRow_below hown5 hb6 (Nat.le_refl _)
          have hsz6 := hb36.size
          clear hVs hown5 hb6 hb35
          cases hr : parseS long [all[q]] with
          | none =>
            have HR : Hid (spreadS name longs l = []) := Lib.hid (by rw [HN2.out, hr])
            simp only [resS]
            go_wp2_with fail
            go_ret
            exact ⟨_, rfl, by rw [HR.out]; exact Rws.nil _ _ _, hB3.trans (hb36.mono hsz3)⟩
          | some s =>
            have HN3 : Hid (spreadF name all all.length (longs.drop (k + 1)) (k + 1) (acc ++ [s]) = spreadS name longs l) := Lib.hid (by rw [HN2.out, hr])
            simp only [resS]
            go_wp2_with (at_builtin; refine wpList_append_str rfl _ _ 42 9 rfl w3.heap.size Tryz.underlying42 infoStr _ acc s rfl (hown6.alloc _) w6.heap.size rfl (by simp) (by omega) (by simp; omega) ?_; intro v' w7 hown7 hgrow hne7)
            go_roundw
            case rel => exact ⟨k + 1, acc ++ [s], by omega, by simp; omega, by go_num, HN3, hown7, (hb36.trans ((bAlloc1 w6 _).mono hsz6)).grown hgrow (by simp; omega) (fun j e => (hown6.lt j e).1)⟩
            case measure => simp [intOf]; omega
      · have hke : k = longs.length := by omega
        have q1 : ¬ (k : Int) < (longs.length : Int) := by omega
        have HR : Hid (spreadS name longs l = acc) := Lib.hid (by rw [← HF.out, hke, List.drop_length]; rfl)
        clear hke
        go_wp2_with fail
        go_ret
        exact ⟨_, rfl, by rw [HR.out]; exact (Strs.of_owns hown rfl).base hsz3, hB3.trans (hb.mono hsz3)⟩
set_option maxRecDepth 100000 in
set_option maxHeartbeats 8000000 in
theorem spread_none (w : World) (hB : Base16 w) (name : ByteArray) (longs : List ByteArray) (lv v : Value) (l : List Val) (B : Nat) (hs : Strs B w lv longs) (h : Vs w v l) (hf : ∀ x ∈ l, x.fits) (hw : wideS l = noStr) (hpa : partsS l = none) :
    Calls Tryz.prog 61 #[.string name, lv, v] w fun e w' => ∃ V, e = .returned V ∧ Strs w.heap.size w' V (spreadS name longs l) ∧ Below w.heap.size w w' := by
  have HB := Lib.hid hB
  have HS := Lib.hid hs
  obtain ⟨la, lc, rfl, _⟩ := hs.val
  have HR : Hid (spreadS name longs l = []) := Lib.hid (by unfold spreadS; rw [hpa])
  clear hB hs
  go_enter Tryz.func61, Tryz.ntmps61
  go_wp2_with fail
  refine (Wide_any w v l h hf).mono ?_
  rintro e w1 ⟨rfl, hb1⟩
  rw [hw]
  have hz1 : noStr.toList = [] := by rw [noStr, ByteArray.toList_eq]
  have hz2 : noStr.toList.isEmpty = true := by rw [hz1]; rfl
  have hv1 := h.next hb1
  go_wp2_with fail
  refine (parts_any w1 v l hv1).mono ?_
  rintro e w2 ⟨pv, rfl, hp2, hb2⟩
  have hB2 := bNext hb1 hb2
  rw [hpa] at hp2
  simp only [Option.getD_none] at hp2
  rw [hpa]
  simp only [Option.isSome_none]
  obtain ⟨pa, pc, rfl, _⟩ := hp2
  clear hv1 hb1 hb2 hpa hw h hf
  go_wp2_with fail
  refine (chooser_any w2 name _).mono ?_
  rintro e w3 ⟨g, rfl, hg, ht, hc3, hlt3, hb3⟩
  have hB3 := bNext hB2 hb3
  have HT := Lib.hid ht
  have HB3 := Lib.hid (HB.out.next hB3)
  obtain ⟨kb, hkb⟩ : ∃ k, w2.heap.size = k := ⟨_, rfl⟩
  rw [hkb] at HT hc3 hlt3 ⊢
  clear ht
  rcases hg with rfl | rfl
  all_goals
    go_wp2_with fail
    go_loopw [11, 12, 13, 14, 37] (fun out _ _ _ iv wr => out = .slice none 0 0 ∧ iv = .int .i64 0 ∧ wr = w3) (fun _ _ _ _ _ _ => 0)
    case atStart => exact ⟨rfl, rfl, rfl⟩
    case round =>
      obtain ⟨rfl, rfl, hwr⟩ := hrel
      subst hwr
      by_cases hlt : 0 < longs.length
      · have hne : longs ≠ [] := by intro e; rw [e] at hlt; simp at hlt
        obtain ⟨b1, o1, c1', e1, _, hbb, hc1⟩ := HS.out.at hne
        simp only [Value.slice.injEq] at e1
        obtain ⟨rfl, -, -⟩ := e1
        have f1 : wr.cell? ⟨b1, o1, none⟩ = some (.string longs[0]) := (hB3.cell (p := ⟨b1, _, none⟩) hbb).trans (hc1 0 hlt)
        have q1 : (0 : Int) < (longs.length : Int) := by omega
        clear hc1
        go_wp2_with fail
        refine (HT.out wr 0 HB3.out.sd hc3).mono ?_
        rintro e w5 ⟨rfl, hb5⟩
        have hB5 := bNext hB3 hb5
        go_wp2_with fail
        go_ret
        exact ⟨_, rfl, by rw [HR.out]; exact Rws.nil _ _ _, hB5⟩
      · have q1 : ¬ (0 : Int) < (longs.length : Int) := by omega
        go_wp2_with fail
        go_ret
        exact ⟨_, rfl, by rw [HR.out]; exact Rws.nil _ _ _, hB3⟩
theorem spread_plain (w : World) (hB : Base16 w) (name : ByteArray) (longs : List ByteArray) (lv v : Value) (l : List Val) (B : Nat) (hs : Strs B w lv longs) (hll : longs.length ≤ 1000) (h : Vs w v l) (hf : ∀ x ∈ l, x.fits) (hw : wideS l = noStr)
    (hk : ∀ (n i : Nat), i < longs.length → whichS name n i < n) :
    Calls Tryz.prog 61 #[.string name, lv, v] w fun e w' => ∃ V, e = .returned V ∧ Strs w.heap.size w' V (spreadS name longs l) ∧ Below w.heap.size w w' := by
  cases hpa : partsS l with
  | none => exact spread_none w hB name longs lv v l B hs h hf hw hpa
  | some all => exact spread_some w hB name longs lv v l B hs hll h hf hw all hpa hk
end Go.Proofs.YtpadcjcoafidgaaGreatDoor
/-! short.Expand of a shorthand where no value for all stands. -/
namespace Go.Proofs.YtpadcjcoafidgaaGreatDoor
open Go.RowKit

abbrev LongT := ByteArray × ByteArray × Bool
def LongT.row (x : LongT) : List Value := [.string x.1, .string x.2.1, .bool x.2.2]
theorem LongT.row_one (x : LongT) : ∀ u ∈ x.row, u.oneCell' = true := by
  intro u hu
  simp only [LongT.row, List.mem_cons, List.not_mem_nil, or_false] at hu
  rcases hu with rfl | rfl | rfl <;> rfl
theorem longRows_len (l : List LongT) : ∀ r ∈ l.map LongT.row, r.length = 3 := by
  intro r hr
  obtain ⟨t, _, rfl⟩ := List.mem_map.1 hr
  rfl
theorem infoLong : (Tryz.prog.info? 52).map (fun i => (i.zero, i.size, i.bytes)) = some (some (.agg #[.string ⟨#[]⟩, .string ⟨#[]⟩, .bool false]), 3, 40) := by kernel_rfl
def longRows (longs vals : List ByteArray) (imp : Bool) : List LongT := (longs.zip vals).map fun x => (x.1, x.2, imp)
def expandS (name : ByteArray) (l : List Val) (imp : Bool) : List LongT := longRows (longsOf name) (spreadS name (longsOf name) l) imp
theorem longRows_len2 (longs vals : List ByteArray) (imp : Bool) (h : vals.length ≤ longs.length) : (longRows longs vals imp).length = vals.length := by
  unfold longRows
  rw [List.length_map, List.length_zip]
  omega
theorem longRows_at (longs vals : List ByteArray) (imp : Bool) (k : Nat) (h1 : k < longs.length) (h2 : k < vals.length) (h : k < (longRows longs vals imp).length) : (longRows longs vals imp)[k] = (longs[k], vals[k], imp) := by
  simp [longRows]
theorem spreadF_len (name : ByteArray) (all : List Val) (n : Int) : ∀ (r : List ByteArray) (i : Nat) (acc : List ByteArray), spreadF name all n r i acc = [] ∨ (spreadF name all n r i acc).length = acc.length + r.length
  | [], i, acc => .inr (by simp [spreadF])
  | long :: r, i, acc => by
    unfold spreadF
    split
    · exact .inl rfl
    · split
      · exact .inl rfl
      · split
        · exact .inl rfl
        · rename_i s _
          rcases spreadF_len name all n r (i + 1) (acc ++ [s]) with h | h
          · exact .inl h
          · exact .inr (by rw [h]; simp; omega)
theorem spreadS_len (name : ByteArray) (longs : List ByteArray) (l : List Val) : (spreadS name longs l).length ≤ longs.length := by
  unfold spreadS
  split
  · simp
  · rename_i all _
    rcases spreadF_len name all all.length longs 0 [] with h | h
    · rw [h]; simp
    · rw [h]; simp
theorem longs_four : ∀ k : Fin 6, (longsAt k.val).length ≤ 4 ∧ (eqB (shortAt k.val).1 aOverflow = true → (longsAt k.val).length ≤ 2) := by decide +kernel
theorem longsOf_len (name : ByteArray) : (longsOf name).length ≤ 4 ∧ (eqB name aOverflow = true → (longsOf name).length ≤ 2) := by
  unfold longsOf
  split
  · rename_i k hk
    unfold shortN at hk
    rw [List.findIdx?_eq_some_iff_getElem] at hk
    obtain ⟨h6, hn, -⟩ := hk
    have := longs_four ⟨k, h6⟩
    refine ⟨this.1, fun h => this.2 ?_⟩
    have hs : shortAt k = shortsTbl[k]'h6 := by unfold shortAt; rw [List.getElem?_eq_getElem h6]; rfl
    have he : (shortAt k).1 = name := by rw [hs]; exact bytes_ext (eq_of_beq (by rw [← beq_toListBytes]; exact hn))
    show eqB (shortAt k).1 aOverflow = true
    rw [he]
    exact h
  · exact ⟨by simp, fun _ => by simp⟩
theorem sides_lt : ∀ (a : Fin 4) (b : Fin 4), sideAt a.val b.val < (a.val : Int) + 1 := by decide +kernel
theorem which_lt (name : ByteArray) (n i : Nat) (hi : i < (longsOf name).length) : whichS name n i < n := by
  obtain ⟨h4, h2⟩ := longsOf_len name
  unfold whichS
  split
  · rename_i ho
    have := h2 ho
    unfold overS
    split
    · omega
    · split <;> omega
  · unfold sidesS
    split
    · omega
    · rename_i hc
      have := sides_lt ⟨((n : Int) - 1).toNat, by omega⟩ ⟨(i : Int).toNat, by omega⟩
      simp only at this
      omega
set_option maxRecDepth 100000 in
set_option maxHeartbeats 8000000 in
theorem Expand_gen (w : World) (hB : Base16 w) (name : ByteArray) (v : Value) (l : List Val) (imp : Bool) (h : Vs w v l) (hn : placeN name = none) (vals0 : List ByteArray) (hlv : vals0.length ≤ (longsOf name).length)
    (hsp : ∀ (W : World) (B : Nat) (lv v : Value), Base16 W → Strs B W lv (longsOf name) → Vs W v l → Calls Tryz.prog 61 #[.string name, lv, v] W fun e w' => ∃ V, e = .returned V ∧ Strs W.heap.size w' V vals0 ∧ Below W.heap.size W w') :
    ∀ a n c, v = .slice a n c → Calls Tryz.prog 25 #[.agg #[.string name, .slice a n c, .bool imp]] w fun e w' => ∃ V, e = .returned V ∧ Rws w.heap.size w' 3 V ((longRows (longsOf name) vals0 imp).map LongT.row) ∧ Below w.heap.size w w' := by
  intro a n c hv
  subst hv
  have HB := Lib.hid hB
  have HSP := Lib.hid hsp
  obtain ⟨E0, hE0⟩ : ∃ E, longRows (longsOf name) vals0 imp = E := ⟨_, rfl⟩
  rw [hE0]
  have HE0 := Lib.hid hE0
  clear hsp hE0
  have hrow : findRow name = noRow := by unfold findRow; rw [hn]
  obtain ⟨i0, hi, hz0, hz1, hz2⟩ := info_parts infoLong
  have Hi := Lib.hid hi
  have Hz0 := Lib.hid hz0
  have Hz1 := Lib.hid hz1
  have Hz2 := Lib.hid hz2
  have hO := Own.new w #[.string name, .slice a n c, .bool imp] 48
  have hb0 := bAlloc1 w (.cells #[.string name, .slice a n c, .bool imp] 48)
  have h0 := h.next hb0
  clear hB hi hz0 hz1 hz2 h
  go_enter Tryz.func25, Tryz.ntmps25
  go_wp2_with fail
  refine (Find_any name _).mono ?_
  rintro e w1 ⟨rfl, hb1⟩
  rw [hn, hrow]
  simp only [Option.isSome_none, noRow]
  have hB1 := bNext hb0 hb1
  have hO2 := (hO.next hb1).next (bAlloc1 w1 (.cells #[.string ⟨#[]⟩, .string ⟨#[]⟩, .bool false, .string ⟨#[]⟩] 39))
  have h2 := (h0.next hb1).next (bAlloc1 w1 (.cells #[.string ⟨#[]⟩, .string ⟨#[]⟩, .bool false, .string ⟨#[]⟩] 39))
  have hB2 := bNext hB1 (bAlloc1 w1 (.cells #[.string ⟨#[]⟩, .string ⟨#[]⟩, .bool false, .string ⟨#[]⟩] 39))
  have HB2 := Lib.hid (HB.out.next hB2)
  have m2 := hO2.m
  clear hO hb0 hb1 h0 hB1 hrow
  go_wp2_with fail
  refine (Longs_any name _ HB2.out.sh).mono ?_
  rintro e w3 ⟨lv, rfl, hl3, -, hb3⟩
  have hB3 := bNext hB2 hb3
  have HB3 := Lib.hid (HB2.out.next hb3)
  have hO3 := hO2.next hb3
  have h3 := h2.next hb3
  have m3 := hO3.m
  have HL := Lib.hid hl3
  obtain ⟨la, lc, rfl, _⟩ := hl3.val
  clear m2 hO2 h2 HB2 hB2 hb3
  go_wp2_with fail
  refine (HSP.out w3 _ _ _ HB3.out HL.out h3).mono ?_
  rintro e w4 ⟨sv, rfl, hs4, hb4⟩
  have hB4 := bNext hB3 hb4
  have hO4 := Lib.hid (hO3.next hb4)
  have HS := Lib.hid hs4
  have HL4 := Lib.hid (HL.out.below hb4 (Nat.le_refl _))
  have hsl := hlv
  have hl4 := (longsOf_len name).1
  obtain ⟨sa, sc, rfl, _⟩ := hs4.val
  obtain ⟨vals, hvals⟩ : ∃ x, vals0 = x := ⟨_, rfl⟩
  have HE : Hid (E0 = longRows (longsOf name) vals imp) := Lib.hid (by rw [← HE0.out, hvals])
  clear HE0
  rw [hvals] at HS hsl ⊢
  obtain ⟨longs, hlongs⟩ : ∃ x, longsOf name = x := ⟨_, rfl⟩
  rw [hlongs] at HL4 hsl hl4 HE ⊢
  have hDw : w.heap.size < w4.heap.size := hO4.out.lt
  clear m3 hO3 h3 HL HB3 hB3 hb4 hvals hlongs hs4 hl3
  have hL := longRows_len2 longs vals imp hsl
  obtain ⟨L, hLL⟩ : ∃ L, L = longRows longs vals imp := ⟨_, rfl⟩
  have hAt : ∀ (k : Nat) (h1 : k < longs.length) (h2 : k < vals.length) (h : k < L.length), L[k] = (longs[k], vals[k], imp) := by
    subst hLL
    exact fun k h1 h2 h => longRows_at longs vals imp k h1 h2 h
  rw [← hLL] at HE hL
  have HAt := Lib.hid hAt
  clear hLL hAt
  go_wp2_with fail
  go_loopw [8, 9, 10, 45] (fun out _ _ iv wr => ∃ k : Nat, k ≤ vals.length ∧ iv = .int .i64 k ∧ wr.ownsRow w4.heap.size 52 3 out k ((L.take k).map LongT.row).flatten ∧ Below w4.heap.size w4 wr)
    (fun _ _ _ iv _ => vals.length - (intOf iv).toNat)
  case atStart => exact ⟨0, by omega, rfl, ⟨by simp, .inl ⟨rfl, rfl⟩⟩, Below.refl _ _⟩
  case round =>
    obtain ⟨k, hk, rfl, hown, hb⟩ := hrel
    by_cases hlt : k < vals.length
    · have hvne : vals ≠ [] := by intro e; rw [e] at hlt; simp at hlt
      have hlne : longs ≠ [] := by
        intro e
        rw [e] at hsl
        have h0 : vals.length ≤ 0 := hsl
        omega
      obtain ⟨b1, o1, c1', e1, _, hbb1, hc1⟩ := HS.out.at hvne
      simp only [Value.slice.injEq] at e1
      obtain ⟨rfl, -, -⟩ := e1
      obtain ⟨b2, o2, c2', e2, _, hbb2, hc2⟩ := Strs.at HL4.out hlne
      simp only [Value.slice.injEq] at e2
      obtain ⟨rfl, -, -⟩ := e2
      have f1 : wr.cell? ⟨b1, o1 + k, none⟩ = some (.string vals[k]) := (hb.cell (p := ⟨b1, _, none⟩) hbb1).trans (hc1 k hlt)
      have f2 : wr.cell? ⟨b2, o2 + k, none⟩ = some (.string longs[k]) := (hb.cell (p := ⟨b2, _, none⟩) hbb2).trans (hc2 k (by omega))
      have dm : wr.cell? ⟨w.heap.size, 0 + 2, none⟩ = some (.bool imp) := (hb.cell (p := ⟨w.heap.size, 0 + 2, none⟩) hDw).trans (hO4.out.m 2)
      have hLk := HAt.out k (by omega) hlt (by omega)
      obtain ⟨x, hx⟩ : ∃ x, vals[k] = x := ⟨_, rfl⟩
      obtain ⟨y, hy⟩ : ∃ x, longs[k] = x := ⟨_, rfl⟩
      rw [hx] at f1
      rw [hy] at f2
      rw [hx, hy] at hLk
      have HT : Hid (((L.take (k + 1)).map LongT.row).flatten = ((L.take k).map LongT.row).flatten ++ [Value.string y, Value.string x, Value.bool imp]) := Lib.hid (by
        rw [List.take_succ_eq_append_getElem (by omega), hLk]; simp [LongT.row])
      have p0 : (0 : Int) ≤ (k : Int) := by omega
      have p1 : (k : Int) < (vals.length : Int) := by omega
      have p2 : (k : Int) < (longs.length : Int) := by omega
      have hsz := hb.size
      clear hc1 hc2 hx hy hLk
      go_wp2_with fail
      go_region_held3 (fun w' => w'.cell? ⟨b2, o2 + k, none⟩ = some (.string y) ∧ w'.cell? ⟨w.heap.size, 0 + 2, none⟩ = some (.bool imp)) (go_keep)
        (first
          | ((refine step_append_lies _ (by rfl) _ _ 49 (by rfl) w4.heap.size 52 i0 (.agg #[.string ⟨#[]⟩, .string ⟨#[]⟩, .bool false]) 3 40 Tryz.underlying49 Hi.out Hz0.out Hz1.out Hz2.out rfl (by decide) _ k _ (by rfl) (World.ownsRow.alloc (w := wr.drew) hown _) ⟨wr.heap.size, 0, none⟩ 1 1 [Value.string y, Value.string x, Value.bool imp] (by rfl) rfl (cells_new1 wr.drew _ _ _ rfl) (LongT.row_one (y, x, imp)) (by decide) (by unfold maxLen; omega) (by omega) (by simp; omega) (wr.heap.size + 1) (by simp) ?_); intro g cap w7 hown7 hgrow hat hlt7; have hb7 := (((Below.refl w4.heap.size wr).drew).alloc hsz _).grown hgrow (by simp; omega) (fun j e => (hown.lt j e).1); have f27 := (hb7.cell (p := ⟨b2, o2 + k, none⟩) hbb2).trans f2; have dm7 := (hb7.cell (p := ⟨w.heap.size, 0 + 2, none⟩) hDw).trans dm))
      go_wp2_with fail
      go_roundw
      case rel => exact ⟨k + 1, by omega, by go_num, by rw [HT.out]; exact hown7, hb.trans (hb7.mono (Nat.le_refl _))⟩
      case measure => simp [intOf]; omega
    · have hke : k = vals.length := by omega
      have q1 : ¬ (k : Int) < (vals.length : Int) := by omega
      rw [List.take_of_length_le (by omega)] at hown
      have hkl : k = (L.map LongT.row).length := by rw [List.length_map, hL]; exact hke
      clear hke
      go_wp2_with fail
      go_ret
      refine ⟨_, rfl, ?_, bNext hB4 hb⟩
      rw [HE.out]
      exact (Rws.of_owns hown rfl hkl.symm (longRows_len L)).base hB4.size
theorem Expand_short (w : World) (hB : Base16 w) (name : ByteArray) (v : Value) (l : List Val) (imp : Bool) (h : Vs w v l) (hf : ∀ x ∈ l, x.fits) (hw : wideS l = noStr) (hn : placeN name = none) :
    ∀ a n c, v = .slice a n c → Calls Tryz.prog 25 #[.agg #[.string name, .slice a n c, .bool imp]] w fun e w' => ∃ V, e = .returned V ∧ Rws w.heap.size w' 3 V ((expandS name l imp).map LongT.row) ∧ Below w.heap.size w w' :=
  Expand_gen w hB name v l imp h hn _ (spreadS_len name (longsOf name) l) (fun W B lv v hB hs hv => spread_plain W hB name (longsOf name) lv v l B hs (by have := (longsOf_len name).1; omega) hv hf hw (fun n i hi => which_lt name n i hi))
end Go.Proofs.YtpadcjcoafidgaaGreatDoor
/-! short.Join. -/
namespace Go.Proofs.YtpadcjcoafidgaaGreatDoor
open Go.RowKit

/-- The texts that a slice holds, with room for them. -/
def Ss (w : World) (v : Value) (l : List ByteArray) : Prop :=
  ∃ a cap, v = .slice a l.length cap ∧ l.length ≤ cap ∧ (l ≠ [] → ∃ b off, a = some ⟨b, off, none⟩ ∧ b < w.heap.size ∧ ∀ (i : Nat) (hi : i < l.length), w.cell? ⟨b, off + i, none⟩ = some (.string l[i]))
def fitsS (name : ByteArray) (l : List ByteArray) (n k : Nat) : Bool := (List.range k).all fun i => eqB (l[(whichS name n i).toNat]?.getD noStr) (l[i]?.getD noStr)
def joinB (xs : List ByteArray) : ByteArray := ⟨(Lib.join (xs.map (·.data.toList)) [32]).toArray⟩
def joinFrom (name : ByteArray) (l : List ByteArray) : Nat → Nat → Option ByteArray
  | 0, _ => none
  | f + 1, n => if fitsS name l n l.length = true then some (joinB (l.take n)) else joinFrom name l f (n + 1)
def joinS (name : ByteArray) (l : List ByteArray) : Option ByteArray := if longsOf name = [] ∨ l.length ≠ (longsOf name).length then none else joinFrom name l l.length 1
theorem fits_succ (name : ByteArray) (l : List ByteArray) (n k : Nat) : fitsS name l n (k + 1) = (fitsS name l n k && eqB (l[(whichS name n k).toNat]?.getD noStr) (l[k]?.getD noStr)) := by
  unfold fitsS
  rw [List.range_succ, List.all_append]
  simp
theorem longs_exact : ∀ k : Fin 6, (eqB (shortAt k.val).1 aOverflow = true ∧ (longsAt k.val).length = 2) ∨ (eqB (shortAt k.val).1 aOverflow = false ∧ (longsAt k.val).length = 4) := by decide +kernel
theorem longsOf_exact (name : ByteArray) (h : longsOf name ≠ []) : (eqB name aOverflow = true ∧ (longsOf name).length = 2) ∨ (eqB name aOverflow = false ∧ (longsOf name).length = 4) := by
  unfold longsOf at h ⊢
  split
  · rename_i k hk
    unfold shortN at hk
    rw [List.findIdx?_eq_some_iff_getElem] at hk
    obtain ⟨h6, hn, -⟩ := hk
    have := longs_exact ⟨k, h6⟩
    have hs : shortAt k = shortsTbl[k]'h6 := by unfold shortAt; rw [List.getElem?_eq_getElem h6]; rfl
    have he : (shortAt k).1 = name := by rw [hs]; exact bytes_ext (eq_of_beq (by rw [← beq_toListBytes]; exact hn))
    simp only [he] at this
    exact this
  · rename_i hk
    rw [hk] at h
    exact absurd rfl h
theorem sides_nn : ∀ (a : Fin 4) (b : Fin 4), 0 ≤ sideAt a.val b.val := by decide +kernel
theorem which_nn (name : ByteArray) (h : longsOf name ≠ []) (n i : Nat) (h1 : 1 ≤ n) (hn : n ≤ (longsOf name).length) (hi : i < (longsOf name).length) : 0 ≤ whichS name n i := by
  unfold whichS
  rcases longsOf_exact name h with ⟨ho, hl⟩ | ⟨ho, hl⟩
  · rw [if_pos ho]
    unfold overS
    split
    · omega
    · rw [if_pos (by omega)]; omega
  · rw [if_neg (by rw [ho]; decide)]
    unfold sidesS
    rw [if_neg (by omega)]
    exact sides_nn ⟨((n : Int) - 1).toNat, by omega⟩ ⟨(i : Int).toNat, by omega⟩
theorem eql_nilS (a : Option Addr) (l c : Nat) (w : World) : (binOp .eql 42 (.slice a l c) (.slice none 0 0)).run Tryz.prog w = .ok (.bool a.isNone) w := by
  simp only [binOp]
  simp [run_equal_slice_nil w 42 9 a l c Tryz.underlying42]
theorem lens_le (l : List ByteArray) (h : ∀ s ∈ l, s.size ≤ 100000) : Lib.lens (l.map (·.data.toList)) ≤ 100000 * l.length := by
  induction l with
  | nil => exact Nat.zero_le _
  | cons a l ih =>
    have h1 := h a (List.mem_cons_self ..)
    have h2 := ih (fun s hs => h s (List.mem_cons_of_mem _ hs))
    have h3 : a.data.toList.length = a.size := by rw [Array.length_toList]; rfl
    simp only [List.map_cons, Lib.lens, List.length_cons]
    simp only [Lib.lens] at h2
    simp at h2 ⊢
    omega
theorem joinB_len (l : List ByteArray) (h : ∀ s ∈ l, s.size ≤ 100000) (hn : l.length ≤ 1000) : (Lib.join (l.map (·.data.toList)) (⟨#[32]⟩ : ByteArray).data.toList).length ≤ 140737488355328 := by
  cases l with
  | nil => exact Nat.zero_le _
  | cons a l =>
    have h2 := lens_le (a :: l) h
    rw [List.map_cons, Lib.join_length, List.length_map]
    rw [List.map_cons] at h2
    have h3 : (⟨#[32]⟩ : ByteArray).data.toList.length = 1 := rfl
    rw [h3]
    simp only [List.length_cons] at h2 hn
    omega
theorem toList_eqB (x y : ByteArray) : (x.toList == y.toList) = eqB x y := by
  rw [ByteArray.toList_eq y]
  exact toList_lit x y _ rfl
set_option maxRecDepth 100000 in
set_option maxHeartbeats 8000000 in
theorem Join_any (w : World) (hB : Base16 w) (name : ByteArray) (lv : Value) (l : List ByteArray) (h : Ss w lv l) (hsz : ∀ s ∈ l, s.size ≤ 100000) (hll : l.length ≤ 1000) :
    Calls Tryz.prog 20 #[.string name, lv] w fun e w' => e = .returned (resS (joinS name l)) ∧ Below w.heap.size w w' := by
  obtain ⟨a, cap, rfl, hcap, hr⟩ := h
  have HB := Lib.hid hB
  have HR := Lib.hid hr
  have HZ := Lib.hid hsz
  clear hB hr hsz
  go_enter Tryz.func20, Tryz.ntmps20
  go_wp2_with fail
  refine (Longs_any name w HB.out.sh).mono ?_
  rintro e w1 ⟨lv1, rfl, hl1, hnil, hb1⟩
  by_cases hne : longsOf name = []
  · have HV : Hid (resS (joinS name l) = .tuple #[.string noStr, .bool false]) := Lib.hid (by unfold joinS; rw [if_pos (.inl hne)]; rfl)
    rw [hnil hne]
    clear hnil hl1 hne
    go_wp2_with fail
    rw [eql_nilS]
    go_wp2_with fail
    exact bodyPost_ret (v := .tuple #[.string noStr, .bool false]) (by simp [results, Tryz.results20, go_sem, noStr]) rfl ⟨by rw [HV.out], hb1⟩
  · obtain ⟨b1, o1, c1, rfl, _, hlt1, _⟩ := hl1.at hne
    by_cases hle : l.length = (longsOf name).length
    · have HJ0 : Hid (joinS name l = joinFrom name l l.length 1) := Lib.hid (by unfold joinS; rw [if_neg (by intro h; rcases h with h | h; exact hne h; exact h hle)])
      have HNN : Hid (∀ n i : Nat, 1 ≤ n → n ≤ l.length → i < l.length → 0 ≤ whichS name n i ∧ whichS name n i < n) := Lib.hid (fun n i h1 h2 h3 => ⟨which_nn name hne n i h1 (by omega) (by omega), which_lt name n i (by omega)⟩)
      obtain ⟨m, hm⟩ : ∃ m, (longsOf name).length = m := ⟨_, rfl⟩
      rw [hm] at hle ⊢
      have hml : ((m : Nat) : Int) = (l.length : Int) := by omega
      clear hnil hl1 hne hm
      go_wp2_with fail
      rw [eql_nilS]
      go_wp2_with fail
      go_loopw [7, 8, 9, 10, 33] (fun nv _ _ _ _ wr => ∃ n : Nat, 1 ≤ n ∧ n ≤ l.length + 1 ∧ nv = .int .i64 n ∧ Hid (joinFrom name l (l.length + 1 - n) n = joinS name l) ∧ Below w.heap.size w wr)
        (fun nv _ _ _ _ _ => l.length + 1 - (intOf nv).toNat)
      case atStart => exact ⟨1, by omega, by omega, rfl, Lib.hid (by rw [HJ0.out]; rfl), hb1⟩
      case round =>
        obtain ⟨n, hn1, hn2, rfl, HJ, hb⟩ := hrel
        by_cases hn : n ≤ l.length
        · have HD : Hid (joinS name l = if fitsS name l n l.length = true then some (joinB (l.take n)) else joinFrom name l (l.length - n) (n + 1)) := Lib.hid (by
            rw [← HJ.out, show l.length + 1 - n = (l.length - n) + 1 by omega]; rfl)
          have q1 : (n : Int) ≤ (l.length : Int) := by omega
          go_wp2_with fail
          refine (chooser_any wr name _).mono ?_
          rintro e w3 ⟨g, rfl, hg, ht, hc3, hlt3, hb3⟩
          have hB3 := bNext hb hb3
          have HT := Lib.hid ht
          have HB3 := Lib.hid (HB.out.next hB3)
          have hsz3 := hB3.size
          obtain ⟨kb, hkb⟩ : ∃ k, wr.heap.size = k := ⟨_, rfl⟩
          rw [hkb] at HT hc3 hlt3 ⊢
          have HC3 := Lib.hid hc3
          clear ht hc3 hb hb3
          rcases hg with rfl | rfl
          all_goals
            go_wp2_with fail
            go_loopw [9, 10, 33] (fun fv _ iv wx => ∃ i : Nat, i ≤ l.length ∧ iv = .int .i64 i ∧ fv = .bool (fitsS name l n i) ∧ Below w3.heap.size w3 wx) (fun _ _ iv _ => l.length - (intOf iv).toNat)
            case atStart => exact ⟨0, by omega, rfl, rfl, Below.refl _ _⟩
            case round =>
              obtain ⟨i, hi, rfl, rfl, hb4⟩ := hrel
              have hB4 := hB3.trans (hb4.mono hsz3)
              by_cases hlt : i < l.length
              · have hlne : l ≠ [] := by intro e; rw [e] at hlt; simp at hlt
                obtain ⟨b2, o2, rfl, hb2, hcc⟩ := HR.out hlne
                obtain ⟨hnn, hlt2⟩ := HNN.out n i hn1 hn hlt
                obtain ⟨q, hq⟩ : ∃ q : Nat, whichS name (n : Int) (i : Int) = (q : Int) := ⟨(whichS name (n : Int) (i : Int)).toNat, by omega⟩
                have hql : q < l.length := by omega
                have y0 := (hB4.cell (p := ⟨b2, o2 + i, none⟩) hb2).trans (hcc i hlt)
                have y1 := (hB4.cell (p := ⟨b2, o2 + q, none⟩) hb2).trans (hcc q hql)
                have hfs := fits_succ name l n i
                rw [hq, Int.toNat_natCast, List.getElem?_eq_getElem hql, List.getElem?_eq_getElem hlt] at hfs
                simp only [Option.getD_some] at hfs
                obtain ⟨x, hx⟩ : ∃ x, l[q] = x := ⟨_, rfl⟩
                obtain ⟨y, hy⟩ : ∃ x, l[i] = x := ⟨_, rfl⟩
                rw [hx] at y1 hfs
                rw [hy] at y0 hfs
                have HFS := Lib.hid hfs
                have p1 : (i : Int) < (l.length : Int) := by omega
                have p0 : (0 : Int) ≤ (i : Int) := by omega
                have p2 : (q : Int) < (l.length : Int) := by omega
                have p3 : (0 : Int) ≤ (q : Int) := by omega
                clear hcc hfs hx hy hnn hlt2
                cases hf : fitsS name l n i
                · have HN : Hid (fitsS name l n (i + 1) = false) := Lib.hid (by rw [HFS.out, hf]; rfl)
                  clear y0 y1
                  go_wp2_with fail
                  go_region
                  go_wp2_with fail
                  go_roundw
                  case rel => exact ⟨i + 1, by omega, by go_num, by rw [HN.out], bNext hb4 (below_drew' _)⟩
                  case measure => simp [intOf]; omega
                · have HN : Hid (fitsS name l n (i + 1) = eqB x y) := Lib.hid (by rw [HFS.out, hf]; rfl)
                  have hbox := (hb4.cell (p := ⟨kb, 0, none⟩) hlt3).trans HC3.out
                  have HB4 := HB3.out.next hb4
                  have hxy := toList_eqB x y
                  obtain ⟨t, ht⟩ : ∃ t, eqB x y = t := ⟨_, rfl⟩
                  rw [ht] at hxy HN
                  clear ht
                  go_wp2_with fail
                  go_region_held3 (fun w' => w'.cell? ⟨b2, o2 + i, none⟩ = some (.string y) ∧ w'.cell? ⟨b2, o2 + q, none⟩ = some (.string x)) (go_keep)
                    (first
                      | (have hcall := HT.out _ i (HB4.sd.next (below_drew' _)) hbox; rw [hq] at hcall; refine hcall.mono ?_; rintro e w5 ⟨rfl, hb5⟩; have y05 := cell_later ((below_drew' _).trans hb5) y0; have y15 := cell_later ((below_drew' _).trans hb5) y1))
                  all_goals
                    go_wp2_with fail
                    go_roundw
                    case rel => exact ⟨i + 1, by omega, by go_num, by rw [HN.out], bNext (bNext hb4 (below_drew' _)) hb5⟩
                    case measure => simp [intOf]; omega
              · have hie : i = l.length := by omega
                have p1 : ¬ (i : Int) < (l.length : Int) := by omega
                cases hf : fitsS name l n i
                · have HN : Hid (joinFrom name l (l.length + 1 - (n + 1)) (n + 1) = joinS name l) := Lib.hid (by
                    rw [HD.out, ← hie, hf, show i + 1 - (n + 1) = i - n by omega]; rfl)
                  have hwn : IntKind.i64.wrap ((n : Int) + 1) = ((n + 1 : Nat) : Int) := by rw [Go.IntWalk.i64_in _ (by omega)]; omega
                  clear hie
                  go_wp2_with fail
                  go_roundw
                  case rel => exact ⟨n + 1, by omega, by omega, by go_num, HN, hB4⟩
                  case measure => simp [intOf]; omega
                · have HW : Hid (resS (joinS name l) = .tuple #[.string (joinB (l.take n)), .bool true]) := Lib.hid (by rw [HD.out, ← hie, hf]; rfl)
                  have hlne : l ≠ [] := by intro e; rw [e] at hn; simp at hn; omega
                  obtain ⟨b2, o2, rfl, hb2, hcc⟩ := HR.out hlne
                  have hlen : (l.take n).length = n := by rw [List.length_take]; omega
                  have p2 : (n : Int) ≤ (cap : Int) := by omega
                  have p3 : (0 : Int) ≤ (n : Int) := by omega
                  have hj := Tryz.strings_Join b2 o2 cap (l.take n) ⟨#[32]⟩ _ (fun j x hx => by
                    have hjn : j < n := by
                      have := (List.getElem?_eq_some_iff.1 hx).1
                      omega
                    rw [List.getElem?_take, if_pos hjn, List.getElem?_eq_getElem (show j < l.length by omega)] at hx
                    have := hcc j (by omega)
                    rw [Option.some.inj hx] at this
                    exact (hB4.cell (p := ⟨b2, o2 + j, none⟩) hb2).trans this) (Nat.lt_of_lt_of_le hb2 hB4.size) (by rw [hlen]; omega) (by rw [hlen]; omega) (joinB_len _ (fun s hs => HZ.out s (List.mem_of_mem_take hs)) (by rw [hlen]; omega))
                  rw [hlen] at hj
                  have HJN := Lib.hid hj
                  clear hie hcc hj
                  go_wp2_with fail
                  refine HJN.out.mono ?_
                  rintro e w6 ⟨rfl, hb6⟩
                  go_wp2_with fail
                  exact bodyPost_ret (v := .tuple #[.string (joinB (l.take n)), .bool true]) (by simp [results, Tryz.results20, go_sem, joinB]) rfl ⟨by rw [HW.out], bNext hB4 hb6⟩
        · have HV : Hid (resS (joinS name l) = .tuple #[.string noStr, .bool false]) := Lib.hid (by
            rw [← HJ.out, show l.length + 1 - n = 0 by omega]; rfl)
          have q1 : ¬ (n : Int) ≤ (l.length : Int) := by omega
          go_wp2_with fail
          exact bodyPost_ret (v := .tuple #[.string noStr, .bool false]) (by simp [results, Tryz.results20, go_sem, noStr]) rfl ⟨by rw [HV.out], hb⟩
    · have HV : Hid (resS (joinS name l) = .tuple #[.string noStr, .bool false]) := Lib.hid (by unfold joinS; rw [if_pos (.inr hle)]; rfl)
      have hle' : ¬ ((l.length : Int) = ((longsOf name).length : Int)) := by omega
      clear hnil hl1 hne
      go_wp2_with fail
      rw [eql_nilS]
      go_wp2_with fail
      exact bodyPost_ret (v := .tuple #[.string noStr, .bool false]) (by simp [results, Tryz.results20, go_sem, noStr]) rfl ⟨by rw [HV.out], hb1⟩
end Go.Proofs.YtpadcjcoafidgaaGreatDoor
/-! gouachelaw16.lives. -/
namespace Go.Proofs.YtpadcjcoafidgaaGreatDoor
open Go.RowKit

def longEq (x y : LongT) : Bool := eqB x.1 y.1 && eqB x.2.1 y.2.1 && (x.2.2 == y.2.2)
theorem longEq_iff {x y : LongT} (h : longEq x y = true) : x = y := by
  obtain ⟨a, b, c⟩ := x
  obtain ⟨d, e, f⟩ := y
  unfold longEq at h
  simp only [Bool.and_eq_true, beq_iff_eq] at h
  obtain ⟨⟨h1, h2⟩, h3⟩ := h
  rw [(eqB_iff _ _).1 h1, (eqB_iff _ _).1 h2, h3]
def longsEq : List LongT → List LongT → Bool
  | [], [] => true
  | x :: l, y :: r => longEq x y && longsEq l r
  | _, _ => false
theorem longsEq_iff : ∀ {l r : List LongT}, longsEq l r = true → l = r
  | [], [], _ => rfl
  | x :: l, y :: r, h => by
    unfold longsEq at h
    rw [Bool.and_eq_true] at h
    rw [longEq_iff h.1, longsEq_iff h.2]
  | [], _ :: _, h => by cases h
  | _ :: _, [], h => by cases h
def aMargin : ByteArray := ⟨#[109, 97, 114, 103, 105, 110]⟩
def aMarginRight : ByteArray := ⟨#[109, 97, 114, 103, 105, 110, 45, 114, 105, 103, 104, 116]⟩
def aMarginBottom : ByteArray := ⟨#[109, 97, 114, 103, 105, 110, 45, 98, 111, 116, 116, 111, 109]⟩
def aMarginLeft : ByteArray := ⟨#[109, 97, 114, 103, 105, 110, 45, 108, 101, 102, 116]⟩
def t1p2p : ByteArray := ⟨#[49, 112, 120, 32, 50, 112, 120]⟩
def r1px : ByteArray := ⟨#[49, 112, 120]⟩
def r2px : ByteArray := ⟨#[50, 112, 120]⟩
def marginLongs : List LongT := [(aMarginTop, r1px, false), (aMarginRight, r2px, false), (aMarginBottom, r1px, false), (aMarginLeft, r2px, false)]
theorem live6 : lexOk t1p2p = true ∧ eqB (wideS ((toksOf t1p2p).map Val.of)) noStr = true ∧ (placeN aMargin).isNone = true ∧ longsEq (expandS aMargin ((toksOf t1p2p).map Val.of) false) marginLongs = true := by decide +kernel
theorem live7 : someEq (joinS aMargin [r1px, r2px, r1px, r2px]) t1p2p = true := by decide +kernel
theorem Ss.new (w : World) (l : List ByteArray) (t : TypeId) : Ss (w.alloc (.cells (l.map Value.string).toArray t)) (.slice (some ⟨w.heap.size, 0, none⟩) l.length l.length) l :=
  ⟨_, l.length, rfl, Nat.le_refl _, fun _ => ⟨w.heap.size, 0, rfl, by simp, fun i hi => by
    have hn := heap_alloc_new w (.cells (l.map Value.string).toArray t)
    simp only [World.cell?, hn, Nat.zero_add]
    simp [hi]⟩⟩
set_option maxRecDepth 100000 in
set_option maxHeartbeats 4000000 in
theorem lives16_any (w : World) (hB : Base16 w) :
    Calls Tryz.prog 19 #[] w fun e w' => e = .returned (.bool true) ∧ Below w.heap.size w w' := by
  have HB := Lib.hid hB
  clear hB
  go_enter Tryz.func19, Tryz.ntmps19
  go_wp2_with fail
  refine (values16_any w t1p2p _ (Lexes.of live6.1)).mono ?_
  rintro e w1 ⟨v1, rfl, hv1, hb1⟩
  obtain ⟨va, vc, rfl, hrest⟩ := id hv1
  clear hrest
  go_wp2_with fail
  refine (Expand_short w1 (HB.out.next hb1) aMargin _ _ false hv1 (fits_of live6.1) ((eqB_iff _ _).1 live6.2.1) (Option.isNone_iff_eq_none.1 live6.2.2.1) _ _ _ rfl).mono ?_
  rintro e w2 ⟨v2, rfl, hr2, hb2⟩
  rw [show expandS aMargin ((toksOf t1p2p).map Val.of) false = marginLongs from longsEq_iff live6.2.2.2] at hr2
  have hB2 := bNext hb1 hb2
  have HR2 := Lib.hid hr2
  obtain ⟨b2, o2, c2, rfl, _, hlt2, hc2⟩ := hr2.shape (by decide)
  have HC2 := Lib.hid hc2
  clear hv1 hb1 hb2 hr2 hc2
  go_wp2_with fail
  refine (Join_any _ (HB.out.next (bNext hB2 (bAlloc1 w2 _))) aMargin _ [r1px, r2px, r1px, r2px] (Ss.new w2 [r1px, r2px, r1px, r2px] 9) (by decide) (by decide)).mono ?_
  rintro e w3 ⟨rfl, hb3⟩
  rw [show joinS aMargin [r1px, r2px, r1px, r2px] = some t1p2p from someEq_iff live7]
  simp only [resS]
  have hB3 := bNext (bNext hB2 (bAlloc1 w2 _)) hb3
  have hb23 := bNext (bAlloc1 w2 _) hb3
  have cc := fun (i j : Nat) (x : Value) (h : ((marginLongs.map LongT.row)[i]?.getD [])[j]? = some x) => (hb23.cell (p := ⟨b2, o2 + i * 3 + j, none⟩) hlt2).trans (HC2.out i j x h)
  have x0 : w3.cell? ⟨b2, o2, none⟩ = some (.string aMarginTop) := cc 0 0 _ rfl
  have x1 : w3.cell? ⟨b2, o2 + 1, none⟩ = some (.string r1px) := cc 0 1 _ rfl
  have x2 : w3.cell? ⟨b2, o2 + 2, none⟩ = some (.bool false) := cc 0 2 _ rfl
  have y0 : w3.cell? ⟨b2, o2 + 9, none⟩ = some (.string aMarginLeft) := cc 3 0 _ rfl
  have y1 : w3.cell? ⟨b2, o2 + 9 + 1, none⟩ = some (.string r2px) := cc 3 1 _ rfl
  have y2 : w3.cell? ⟨b2, o2 + 9 + 2, none⟩ = some (.bool false) := cc 3 2 _ rfl
  have h_aMarginTop : aMarginTop.toList = [109, 97, 114, 103, 105, 110, 45, 116, 111, 112] := by rw [ByteArray.toList_eq]; rfl
  have h_aMarginLeft : aMarginLeft.toList = [109, 97, 114, 103, 105, 110, 45, 108, 101, 102, 116] := by rw [ByteArray.toList_eq]; rfl
  have h_r1px : r1px.toList = [49, 112, 120] := by rw [ByteArray.toList_eq]; rfl
  have h_r2px : r2px.toList = [50, 112, 120] := by rw [ByteArray.toList_eq]; rfl
  have h_t1p2p : t1p2p.toList = [49, 112, 120, 32, 50, 112, 120] := by rw [ByteArray.toList_eq]; rfl
  clear cc
  go_wp2_with fail
  go_ret
  exact ⟨rfl, hB3⟩
end Go.Proofs.YtpadcjcoafidgaaGreatDoor
