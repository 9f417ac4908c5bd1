/- value.ident, slices.Contains, value.Wide. -/
import Derived.Test.YtpadcjcoafidgaaGreatDoorFold
namespace Go.Proofs.YtpadcjcoafidgaaGreatDoor
open Go.RowKit

theorem bytes_list {a b : ByteArray} : a.data.toList = b.data.toList ↔ a = b := ⟨fun h => ByteArray.ext (Array.toList_inj.1 h), fun h => by rw [h]⟩
/-- Two texts are the same. -/
def eqB (a b : ByteArray) : Bool := decide (a.data.toList = b.data.toList)
theorem eqB_iff (a b : ByteArray) : eqB a b = true ↔ a = b := by unfold eqB; rw [decide_eq_true_iff]; exact bytes_list
def memB (s : ByteArray) (l : List ByteArray) : Bool := l.any (fun x => eqB s x)
theorem memB_true {s : ByteArray} {l : List ByteArray} (h : s ∈ l) : memB s l = true := List.any_eq_true.2 ⟨s, h, (eqB_iff s s).2 rfl⟩
theorem memB_false {s : ByteArray} {l : List ByteArray} (h : ¬ s ∈ l) : memB s l = false := by
  cases hm : memB s l with
  | false => rfl
  | true =>
    obtain ⟨x, hx, he⟩ := List.any_eq_true.1 hm
    rw [(eqB_iff s x).1 he] at h
    exact absurd hx h
def identS (x : Val) : ByteArray := if x.tok.k = 1 then fold x.tok.t else noStr
/-- A value whose text is no longer than any machine's. -/
def Val.fits (x : Val) : Prop := x.tok.t.size ≤ 4294967295 ∧ x.tok.u.size ≤ 4294967295
theorem ident_any (x : Val) (hx : x.fits) (w : World) :
    Calls Tryz.prog 40 #[.agg #[.int .i64 x.tok.k, .string x.tok.t, .string x.tok.u, .bool x.tok.wh, .bool x.tok.fl, .slice x.ka x.kn x.kc]] w fun e w' => e = .returned (.string (identS x)) ∧ Below w.heap.size w w' := by
  by_cases h1 : x.tok.k = 1
  · have hi : identS x = fold x.tok.t := if_pos h1
    rw [hi]
    clear hi
    go_enter Tryz.func40, Tryz.ntmps40
    go_wp2_with fail
    refine (Fold_any _ _ hx.1).mono ?_
    rintro e w1 ⟨rfl, hb1⟩
    go_wp2_with fail
    go_ret
    exact ⟨rfl, bNext (bAlloc1 _ _) hb1⟩
  · have hi : identS x = noStr := if_neg h1
    rw [hi]
    clear hi
    go_enter Tryz.func40, Tryz.ntmps40
    go_wp2_with fail
    go_ret
    exact ⟨rfl, bAlloc1 _ _⟩
set_option maxHeartbeats 1000000 in
theorem Index_any (B : Nat) (w : World) (v : Value) (l : List ByteArray) (s : ByteArray) (h : Strs B w v l) (hl : l.length ≤ 100000) :
    Calls Tryz.prog 93 #[v, .string s] w fun e w' => (∃ n : Int, e = .returned (.int .i64 n) ∧ decide (0 ≤ n) = memB s l) ∧ Below w.heap.size w w' := by
  have H := Lib.hid h
  obtain ⟨a, c, rfl, _⟩ := h.val
  clear h
  go_enter Tryz.func93, Tryz.ntmps93
  go_wp2_with fail
  go_loopw [5, 8] (fun _ iv wr => ∃ k : Nat, k ≤ l.length ∧ iv = .int .i64 k ∧ Hid (∀ i (h : i < l.length), i < k → s ≠ l[i]) ∧ Below w.heap.size w wr)
    (fun _ iv _ => l.length - (intOf iv).toNat)
  case atStart => exact ⟨0, by omega, rfl, Lib.hid (fun i _ hi => by omega), Below.refl _ _⟩
  case round =>
    obtain ⟨k, hk, rfl, HP, hB⟩ := hrel
    by_cases hlt : k < l.length
    · have hne : l ≠ [] := by intro e; subst e; simp at hlt
      obtain ⟨b1, o1, c1', e1, _, hb1, hc1⟩ := H.out.at hne
      simp only [Value.slice.injEq] at e1
      obtain ⟨rfl, _, _⟩ := e1
      have f1 : wr.cell? ⟨b1, o1 + k, none⟩ = some (.string l[k]) := (hB.cell (p := ⟨b1, _, none⟩) hb1).trans (hc1 k hlt)
      clear hc1
      have q1 : (0 : Int) ≤ (k : Int) := by omega
      have q2 : (k : Int) < (l.length : Int) := by omega
      by_cases he : s = l[k]
      · have hb : (s.toList == l[k].toList) = true := by rw [← he]; simp
        have hm : s ∈ l := by rw [he]; exact List.getElem_mem _
        clear he
        have HM := Lib.hid hm
        clear hm
        go_wp2_with fail
        go_ret
        exact ⟨⟨k, rfl, by rw [memB_true HM.out, decide_eq_true q1]⟩, hB⟩
      · have hb := bytes_ne he
        have HE := Lib.hid he
        clear he
        go_wp2_with fail
        go_roundw
        case rel =>
          refine ⟨k + 1, by omega, by go_num, Lib.hid (fun i hi hik => ?_), hB⟩
          by_cases hj : i = k
          · subst hj; exact HE.out
          · exact HP.out i hi (by omega)
        case measure => simp [intOf]; omega
    · obtain rfl : k = l.length := by omega
      have hm : ¬ (s ∈ l) := by
        intro hm
        obtain ⟨i, hi, he⟩ := List.getElem_of_mem hm
        exact HP.out i hi hi he.symm
      have HM := Lib.hid hm
      clear hm
      go_wp2_with fail
      go_ret
      exact ⟨⟨-1, rfl, by rw [memB_false HM.out]; rfl⟩, hB⟩
theorem Contains_any (B : Nat) (w : World) (v : Value) (l : List ByteArray) (s : ByteArray) (h : Strs B w v l) (hl : l.length ≤ 100000) :
    Calls Tryz.prog 55 #[v, .string s] w fun e w' => e = .returned (.bool (memB s l)) ∧ Below w.heap.size w w' := by
  go_enter Tryz.func55, Tryz.ntmps55
  go_wp2_with fail
  refine (Index_any B w v l s h hl).mono ?_
  rintro e w1 ⟨⟨n, rfl, hn⟩, hb1⟩
  cases hm : memB s l
  · have hn' : ¬ 0 ≤ n := by rw [hm] at hn; simpa using hn
    clear hn
    go_wp2_with fail
    go_ret
    exact ⟨congrArg (fun b => Ending.returned (Value.bool b)) (by rw [hm]; simpa using hn'), hb1⟩
  · have hn' : 0 ≤ n := by rw [hm] at hn; simpa using hn
    clear hn
    go_wp2_with fail
    go_ret
    exact ⟨congrArg (fun b => Ending.returned (Value.bool b)) hm.symm, hb1⟩
def wides : List ByteArray := [⟨#[105, 110, 104, 101, 114, 105, 116]⟩, ⟨#[105, 110, 105, 116, 105, 97, 108]⟩, ⟨#[117, 110, 115, 101, 116]⟩]
def wideS (l : List Val) : ByteArray := match trim l with
  | [x] => if memB (identS x) wides = true then identS x else noStr
  | _ => noStr
theorem trim_mem {l : List Val} {x : Val} (h : x ∈ trim l) : x ∈ l := by
  unfold trim at h
  have h1 := List.mem_reverse.1 h
  have h2 := (List.dropWhile_sublist _).subset h1
  exact (List.dropWhile_sublist _).subset (List.mem_reverse.1 h2)
/-- A slice of one value. -/
theorem Vs.one {w : World} {v : Value} {x : Val} (h : Vs w v [x]) : ∃ b off cap, v = .slice (some ⟨b, off, none⟩) 1 cap ∧ b < w.heap.size ∧
    w.cell? ⟨b, off, none⟩ = some (.int .i64 x.tok.k) ∧ w.cell? ⟨b, off + 1, none⟩ = some (.string x.tok.t) ∧ w.cell? ⟨b, off + 2, none⟩ = some (.string x.tok.u) ∧
    w.cell? ⟨b, off + 3, none⟩ = some (.bool x.tok.wh) ∧ w.cell? ⟨b, off + 4, none⟩ = some (.bool x.tok.fl) ∧ w.cell? ⟨b, off + 5, none⟩ = some (.slice x.ka x.kn x.kc) := by
  obtain ⟨a, cap, hv, _, _, hr⟩ := h
  obtain ⟨b, off, rfl, hb, hc⟩ := hr (by simp)
  obtain ⟨x0, x1, x2, x3, x4, x5⟩ := Vs.cells hc 0 (by simp)
  simp only [Nat.zero_mul, Nat.add_zero] at x0 x1 x2 x3 x4 x5
  exact ⟨b, off, cap, hv, hb, x0, x1, x2, x3, x4, x5⟩
theorem wideS_one {l : List Val} {x : Val} (h : trim l = [x]) : wideS l = if memB (identS x) wides = true then identS x else noStr := by unfold wideS; rw [h]
theorem wideS_not {l : List Val} (h : (trim l).length ≠ 1) : wideS l = noStr := by
  unfold wideS
  split
  · rename_i x hx; rw [hx] at h; exact absurd rfl h
  · rfl
set_option maxHeartbeats 1000000 in
theorem Wide_any (w : World) (v : Value) (l : List Val) (h : Vs w v l) (hf : ∀ x ∈ l, x.fits) :
    Calls Tryz.prog 18 #[v] w fun e w' => e = .returned (.string (wideS l)) ∧ Below w.heap.size w w' := by
  go_enter Tryz.func18, Tryz.ntmps18
  go_wp2_with fail
  refine (Trim_any w _ l h).mono ?_
  rintro e w1 ⟨v1, rfl, hv1, hb1⟩
  by_cases h1 : (trim l).length = 1
  · obtain ⟨x, hx⟩ := List.length_eq_one_iff.1 h1
    have hxf := hf x (trim_mem (by rw [hx]; exact List.mem_singleton.2 rfl))
    have HW := Lib.hid (wideS_one hx)
    rw [hx] at hv1
    obtain ⟨b, off, cap, rfl, hb, x0, x1, x2, x3, x4, x5⟩ := hv1.one
    clear hv1 hx h1
    go_wp2_with fail
    refine (ident_any x hxf _).mono ?_
    rintro e w2 ⟨rfl, hb2⟩
    obtain ⟨z, hz⟩ : ∃ z, identS x = z := ⟨_, rfl⟩
    rw [hz] at HW ⊢
    have hB := bNext hb1 hb2
    clear x0 x1 x2 x3 x4 x5 hz hb1 hb2
    go_wp2_with fail
    refine (Contains_any _ _ _ wides z (Strs.new w2 wides 9 (by decide)) (by decide)).mono ?_
    rintro e w3 ⟨rfl, hb3⟩
    have hB3 := bNext (bNext hB (bAlloc1 _ _)) hb3
    cases hm : memB z wides
    · go_wp2_with fail
      go_ret
      exact ⟨by rw [HW.out, hm]; rfl, hB3⟩
    · go_wp2_with fail
      go_ret
      exact ⟨by rw [HW.out, hm]; rfl, hB3⟩
  · have HW := Lib.hid (wideS_not h1)
    obtain ⟨a, cap, rfl, _⟩ := hv1
    have q1 : ¬ (((trim l).length : Int) = 1) := by omega
    clear h1
    go_wp2_with fail
    go_ret
    exact ⟨by rw [HW.out]; rfl, hb1⟩
end Go.Proofs.YtpadcjcoafidgaaGreatDoor
