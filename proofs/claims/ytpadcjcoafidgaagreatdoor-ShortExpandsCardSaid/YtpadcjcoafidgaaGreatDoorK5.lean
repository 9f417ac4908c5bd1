/- Texts of this seat, laid together: Ident, Int, Hex, Color, Told. -/
import Derived.Test.YtpadcjcoafidgaaGreatDoorShelf
import Derived.Test.YtpadcjcoafidgaaGreatDoorK4
import Derived.Laws.RangeAny
import Derived.Laws.BitsLemmas
import Derived.Deep.RegionHeld3
import Derived.Lib.AppendIntMem
import Derived.Lib.LaidTab
import Derived.Lib.ItoaLen
/-! value.ident, slices.Contains, value.Wide. -/
namespace Go.Proofs.YtpadcjcoafidgaaGreatDoor
open Go.RowKit

theorem bytes_list {a b : ByteArray} : a.data.toList = b.data.toList ↔ a = b := ⟨fun h => ByteArray.ext (Array.toList_inj.1 h), fun h => by rw [h]⟩
/-- Two texts are the same. -/
def eqB (a b : ByteArray) : Bool := decide (a.data.toList = b.data.toList)
theorem eqB_iff (a b : ByteArray) : eqB a b = true ↔ a = b := by unfold eqB; rw [decide_eq_true_iff]; exact bytes_list
def memB (s : ByteArray) (l : List ByteArray) : Bool := l.any (fun x => eqB s x)
theorem memB_true {s : ByteArray} {l : List ByteArray} (h : s ∈ l) : memB s l = true := List.any_eq_true.2 ⟨s, h, (eqB_iff s s).2 rfl⟩
theorem memB_false {s : ByteArray} {l : List ByteArray} (h : ¬ s ∈ l) : memB s l = false := by
  cases hm : memB s l with
  | false => rfl
  | true =>
    obtain ⟨x, hx, he⟩ := List.any_eq_true.1 hm
    rw [(eqB_iff s x).1 he] at h
    exact absurd hx h
def identS (x : Val) : ByteArray := if x.tok.k = 1 then fold x.tok.t else noStr
/-- A value whose text is no longer than any machine's. -/
def Val.fits (x : Val) : Prop := x.tok.t.size ≤ 4294967295 ∧ x.tok.u.size ≤ 4294967295
theorem ident_any (x : Val) (hx : x.fits) (w : World) :
    Calls Tryz.prog 40 #[.agg #[.int .i64 x.tok.k, .string x.tok.t, .string x.tok.u, .bool x.tok.wh, .bool x.tok.fl, .slice x.ka x.kn x.kc]] w fun e w' => e = .returned (.string (identS x)) ∧ Below w.heap.size w w' := by
  by_cases h1 : x.tok.k = 1
  · have hi : identS x = fold x.tok.t := if_pos h1
    rw [hi]
    clear hi
    go_enter Tryz.func40, Tryz.ntmps40
    go_wp2_with fail
    refine (Fold_any _ _ hx.1).mono ?_
    rintro e w1 ⟨rfl, hb1⟩
    go_wp2_with fail
    go_ret
    exact ⟨rfl, bNext (bAlloc1 _ _) hb1⟩
  · have hi : identS x = noStr := if_neg h1
    rw [hi]
    clear hi
    go_enter Tryz.func40, Tryz.ntmps40
    go_wp2_with fail
    go_ret
    exact ⟨rfl, bAlloc1 _ _⟩
set_option maxHeartbeats 1000000 in
theorem Index_any (B : Nat) (w : World) (v : Value) (l : List ByteArray) (s : ByteArray) (h : Strs B w v l) (hl : l.length ≤ 100000) :
    Calls Tryz.prog 93 #[v, .string s] w fun e w' => (∃ n : Int, e = .returned (.int .i64 n) ∧ decide (0 ≤ n) = memB s l) ∧ Below w.heap.size w w' := by
  have H := Lib.hid h
  obtain ⟨a, c, rfl, _⟩ := h.val
  clear h
  go_enter Tryz.func93, Tryz.ntmps93
  go_wp2_with fail
  go_loopw [5, 8] (fun _ iv wr => ∃ k : Nat, k ≤ l.length ∧ iv = .int .i64 k ∧ Hid (∀ i (h : i < l.length), i < k → s ≠ l[i]) ∧ Below w.heap.size w wr)
    (fun _ iv _ => l.length - (intOf iv).toNat)
  case atStart => exact ⟨0, by omega, rfl, Lib.hid (fun i _ hi => by omega), Below.refl _ _⟩
  case round =>
    obtain ⟨k, hk, rfl, HP, hB⟩ := hrel
    by_cases hlt : k < l.length
    · have hne : l ≠ [] := by intro e; subst e; simp at hlt
      obtain ⟨b1, o1, c1', e1, _, hb1, hc1⟩ := H.out.at hne
      simp only [Value.slice.injEq] at e1
      obtain ⟨rfl, _, _⟩ := e1
      have f1 : wr.cell? ⟨b1, o1 + k, none⟩ = some (.string l[k]) := (hB.cell (p := ⟨b1, _, none⟩) hb1).trans (hc1 k hlt)
      clear hc1
      have q1 : (0 : Int) ≤ (k : Int) := by omega
      have q2 : (k : Int) < (l.length : Int) := by omega
      by_cases he : s = l[k]
      · have hb : (s.toList == l[k].toList) = true := by rw [← he]; simp
        have hm : s ∈ l := by rw [he]; exact List.getElem_mem _
        clear he
        have HM := Lib.hid hm
        clear hm
        go_wp2_with fail
        go_ret
        exact ⟨⟨k, rfl, by rw [memB_true HM.out, decide_eq_true q1]⟩, hB⟩
      · have hb := bytes_ne he
        have HE := Lib.hid he
        clear he
        go_wp2_with fail
        go_roundw
        case rel =>
          refine ⟨k + 1, by omega, by go_num, Lib.hid (fun i hi hik => ?_), hB⟩
          by_cases hj : i = k
          · subst hj; exact HE.out
          · exact HP.out i hi (by omega)
        case measure => simp [intOf]; omega
    · obtain rfl : k = l.length := by omega
      have hm : ¬ (s ∈ l) := by
        intro hm
        obtain ⟨i, hi, he⟩ := List.getElem_of_mem hm
        exact HP.out i hi hi he.symm
      have HM := Lib.hid hm
      clear hm
      go_wp2_with fail
      go_ret
      exact ⟨⟨-1, rfl, by rw [memB_false HM.out]; rfl⟩, hB⟩
theorem Contains_any (B : Nat) (w : World) (v : Value) (l : List ByteArray) (s : ByteArray) (h : Strs B w v l) (hl : l.length ≤ 100000) :
    Calls Tryz.prog 55 #[v, .string s] w fun e w' => e = .returned (.bool (memB s l)) ∧ Below w.heap.size w w' := by
  go_enter Tryz.func55, Tryz.ntmps55
  go_wp2_with fail
  refine (Index_any B w v l s h hl).mono ?_
  rintro e w1 ⟨⟨n, rfl, hn⟩, hb1⟩
  cases hm : memB s l
  · have hn' : ¬ 0 ≤ n := by rw [hm] at hn; simpa using hn
    clear hn
    go_wp2_with fail
    go_ret
    exact ⟨congrArg (fun b => Ending.returned (Value.bool b)) (by rw [hm]; simpa using hn'), hb1⟩
  · have hn' : 0 ≤ n := by rw [hm] at hn; simpa using hn
    clear hn
    go_wp2_with fail
    go_ret
    exact ⟨congrArg (fun b => Ending.returned (Value.bool b)) hm.symm, hb1⟩
def wides : List ByteArray := [⟨#[105, 110, 104, 101, 114, 105, 116]⟩, ⟨#[105, 110, 105, 116, 105, 97, 108]⟩, ⟨#[117, 110, 115, 101, 116]⟩]
def wideS (l : List Val) : ByteArray := match trim l with
  | [x] => if memB (identS x) wides = true then identS x else noStr
  | _ => noStr
theorem trim_mem {l : List Val} {x : Val} (h : x ∈ trim l) : x ∈ l := by
  unfold trim at h
  have h1 := List.mem_reverse.1 h
  have h2 := (List.dropWhile_sublist _).subset h1
  exact (List.dropWhile_sublist _).subset (List.mem_reverse.1 h2)
/-- A slice of one value. -/
theorem Vs.one {w : World} {v : Value} {x : Val} (h : Vs w v [x]) : ∃ b off cap, v = .slice (some ⟨b, off, none⟩) 1 cap ∧ b < w.heap.size ∧
    w.cell? ⟨b, off, none⟩ = some (.int .i64 x.tok.k) ∧ w.cell? ⟨b, off + 1, none⟩ = some (.string x.tok.t) ∧ w.cell? ⟨b, off + 2, none⟩ = some (.string x.tok.u) ∧
    w.cell? ⟨b, off + 3, none⟩ = some (.bool x.tok.wh) ∧ w.cell? ⟨b, off + 4, none⟩ = some (.bool x.tok.fl) ∧ w.cell? ⟨b, off + 5, none⟩ = some (.slice x.ka x.kn x.kc) := by
  obtain ⟨a, cap, hv, _, _, hr⟩ := h
  obtain ⟨b, off, rfl, hb, hc⟩ := hr (by simp)
  obtain ⟨x0, x1, x2, x3, x4, x5⟩ := Vs.cells hc 0 (by simp)
  simp only [Nat.zero_mul, Nat.add_zero] at x0 x1 x2 x3 x4 x5
  exact ⟨b, off, cap, hv, hb, x0, x1, x2, x3, x4, x5⟩
theorem wideS_one {l : List Val} {x : Val} (h : trim l = [x]) : wideS l = if memB (identS x) wides = true then identS x else noStr := by unfold wideS; rw [h]
theorem wideS_not {l : List Val} (h : (trim l).length ≠ 1) : wideS l = noStr := by
  unfold wideS
  split
  · rename_i x hx; rw [hx] at h; exact absurd rfl h
  · rfl
set_option maxHeartbeats 1000000 in
theorem Wide_any (w : World) (v : Value) (l : List Val) (h : Vs w v l) (hf : ∀ x ∈ l, x.fits) :
    Calls Tryz.prog 18 #[v] w fun e w' => e = .returned (.string (wideS l)) ∧ Below w.heap.size w w' := by
  go_enter Tryz.func18, Tryz.ntmps18
  go_wp2_with fail
  refine (Trim_any w _ l h).mono ?_
  rintro e w1 ⟨v1, rfl, hv1, hb1⟩
  by_cases h1 : (trim l).length = 1
  · obtain ⟨x, hx⟩ := List.length_eq_one_iff.1 h1
    have hxf := hf x (trim_mem (by rw [hx]; exact List.mem_singleton.2 rfl))
    have HW := Lib.hid (wideS_one hx)
    rw [hx] at hv1
    obtain ⟨b, off, cap, rfl, hb, x0, x1, x2, x3, x4, x5⟩ := hv1.one
    clear hv1 hx h1
    go_wp2_with fail
    refine (ident_any x hxf _).mono ?_
    rintro e w2 ⟨rfl, hb2⟩
    obtain ⟨z, hz⟩ : ∃ z, identS x = z := ⟨_, rfl⟩
    rw [hz] at HW ⊢
    have hB := bNext hb1 hb2
    clear x0 x1 x2 x3 x4 x5 hz hb1 hb2
    go_wp2_with fail
    refine (Contains_any _ _ _ wides z (Strs.new w2 wides 9 (by decide)) (by decide)).mono ?_
    rintro e w3 ⟨rfl, hb3⟩
    have hB3 := bNext (bNext hB (bAlloc1 _ _)) hb3
    cases hm : memB z wides
    · go_wp2_with fail
      go_ret
      exact ⟨by rw [HW.out, hm]; rfl, hB3⟩
    · go_wp2_with fail
      go_ret
      exact ⟨by rw [HW.out, hm]; rfl, hB3⟩
  · have HW := Lib.hid (wideS_not h1)
    obtain ⟨a, cap, rfl, _⟩ := hv1
    have q1 : ¬ (((trim l).length : Int) = 1) := by omega
    clear h1
    go_wp2_with fail
    go_ret
    exact ⟨by rw [HW.out]; rfl, hb1⟩
end Go.Proofs.YtpadcjcoafidgaaGreatDoor
/-! token.Int. -/
namespace Go.Proofs.YtpadcjcoafidgaaGreatDoor
open Go.RowKit

/-- No byte is such, if no rune is, where all runes beyond ASCII are such. -/
theorem idx_from (p : Nat → Bool) (hp : ∀ r, 128 ≤ r → p r = true) (s : ByteArray) : ∀ (f pos : Nat), s.size ≤ pos + f → (Lib.idxFuncFrom p true s f pos < 0 ↔ ∀ i (h : i < s.size), pos ≤ i → p (s[i]'h).toNat = false)
  | 0, pos, hf => by
    simp only [Lib.idxFuncFrom]
    exact ⟨fun _ i h hi => by omega, fun _ => by omega⟩
  | f + 1, pos, hf => by
    simp only [Lib.idxFuncFrom]
    by_cases hlt : pos < s.size
    · rw [if_pos hlt]
      by_cases ha : (s[pos]'hlt).toNat < 128
      · rw [decode_ascii s pos hlt ha]
        have ih := idx_from p hp s f (pos + 1) (by omega)
        cases hq : p (s[pos]'hlt).toNat
        · simp only [Bool.false_eq_true, if_false]
          rw [ih]
          refine ⟨fun h i hi hpi => ?_, fun h i hi hpi => h i hi (by omega)⟩
          by_cases he : i = pos
          · subst he; exact hq
          · exact h i hi (by omega)
        · simp only [if_true]
          refine ⟨fun h => by omega, fun h => ?_⟩
          have := h pos hlt (Nat.le_refl _)
          rw [hq] at this
          cases this
      · have hh := decode_high s pos hlt (by omega)
        rw [hp _ hh.1, if_pos rfl]
        refine ⟨fun h => by omega, fun h => ?_⟩
        have := h pos hlt (Nat.le_refl _)
        rw [hp _ (by omega)] at this
        cases this
    · rw [if_neg hlt]
      exact ⟨fun _ i h hi => by omega, fun _ => by omega⟩
theorem idx_all (p : Nat → Bool) (hp : ∀ r, 128 ≤ r → p r = true) (s : ByteArray) : Lib.idxFunc p true s < 0 ↔ s.data.toList.any (fun b => p b.toNat) = false := by
  unfold Lib.idxFunc
  rw [idx_from p hp s s.size 0 (by omega), List.any_eq_false]
  constructor
  · intro h b hb
    obtain ⟨i, hi, rfl⟩ := List.getElem_of_mem hb
    have := h i (by rw [Array.length_toList] at hi; exact hi) (Nat.zero_le _)
    rw [Array.getElem_toList]
    exact fun e => by rw [show s.data[i] = s[i]'(by rw [Array.length_toList] at hi; exact hi) from rfl] at e; rw [this] at e; cases e
  · intro h i hi _
    have hi' : i < s.data.toList.length := by rw [Array.length_toList]; exact hi
    have := h (s.data.toList[i]'hi') (List.getElem_mem _)
    rw [Array.getElem_toList] at this
    cases hq : p (s[i]'hi).toNat with
    | false => rfl
    | true => exact absurd hq this
def notDig (r : Nat) : Bool := !(isIn 48 57 (r : Int))
theorem notDig_high (r : Nat) (h : 128 ≤ r) : notDig r = true := by
  unfold notDig isIn
  have h2 : ¬ ((r : Int) ≤ 57) := by omega
  simp [h2]
theorem notDig_any (x : Nat) (W : World) : Calls Tryz.prog 100 #[.int .i32 (x : Int)] W fun e w' => e = .returned (.bool (notDig x)) ∧ Below W.heap.size W w' := by
  go_enter Tryz.func100, Tryz.ntmps100
  go_wp2_with fail
  refine (Digit_any _ _).mono ?_
  rintro e w1 ⟨rfl, hb1⟩
  go_wp2_with fail
  go_ret
  exact ⟨rfl, hb1⟩
/-- A leading sign cut off. -/
def tp (s : ByteArray) (c : UInt8) : ByteArray := ⟨(Lib.trimPrefix s.data.toList [c]).toArray⟩
def decStep (n : Int) (b : UInt8) : Int := min (10 * n + ((b.toNat : Int) - 48)) 1000000
def decN (l : List UInt8) : Int := l.foldl decStep 0
def anyBad (s : ByteArray) : Bool := s.data.toList.any (fun b => notDig b.toNat)
/-- What stands for the digits. -/
def intDigs (t : ByteArray) : ByteArray := if (tp t 43).size < t.size then tp t 43 else tp (tp t 43) 45
def intVal (t : ByteArray) : Int := if eqB (intDigs t) (tp t 43) = true then decN (intDigs t).data.toList else - decN (intDigs t).data.toList
def intOk (t : Tok) : Bool := t.wh && decide (10 ≤ t.k) && decide (t.k ≤ 12) && !(eqB (intDigs t.t) noStr) && !(anyBad (intDigs t.t))
def intRes (x : Tok) : Value := .tuple #[.int .i64 (if intOk x = true then intVal x.t else 0), .bool (intOk x)]
theorem intRes_no {x : Tok} (h : intOk x = false) : intRes x = .tuple #[.int .i64 0, .bool false] := by unfold intRes; rw [h]; rfl
theorem intRes_yes {x : Tok} {m : Int} (h : intOk x = true) (hm : intVal x.t = m) : intRes x = .tuple #[.int .i64 m, .bool true] := by unfold intRes; rw [h, hm]; rfl
theorem dec_range (l : List UInt8) (h : l.any (fun b => notDig b.toNat) = false) : 0 ≤ decN l ∧ decN l ≤ 1000000 := by
  have key : ∀ (l : List UInt8) (n : Int), 0 ≤ n → n ≤ 1000000 → l.any (fun b => notDig b.toNat) = false → 0 ≤ l.foldl decStep n ∧ l.foldl decStep n ≤ 1000000 := by
    intro l
    induction l with
    | nil => intro n h0 h1 _; exact ⟨h0, h1⟩
    | cons b l ih =>
      intro n h0 h1 h
      rw [List.any_cons, Bool.or_eq_false_iff] at h
      have hb : 48 ≤ (b.toNat : Int) ∧ (b.toNat : Int) ≤ 57 := by have := h.1; simpa [notDig, isIn] using this
      refine ih _ ?_ ?_ h.2 <;> unfold decStep <;> omega
  exact key l 0 (by omega) (by omega) h
theorem decN_snoc (l : List UInt8) (k : Nat) (h : k < l.length) : decN (l.take (k + 1)) = decStep (decN (l.take k)) l[k] := by
  unfold decN
  rw [List.take_succ_eq_append_getElem h, List.foldl_append]
  rfl
theorem any_take (l : List UInt8) (p : UInt8 → Bool) (k : Nat) (h : l.any p = false) : (l.take k).any p = false := by
  rw [List.any_eq_false] at h ⊢
  exact fun x hx => h x (List.mem_of_mem_take hx)

set_option maxRecDepth 100000 in
set_option maxHeartbeats 4000000 in
theorem int_good (k : Int) (t u : ByteArray) (fl : Bool) (h2 : 10 ≤ k) (h3 : k ≤ 12) (w : World) :
    Calls Tryz.prog 64 #[.agg #[.int .i64 k, .string t, .string u, .bool true, .bool fl]] w fun e w' => e = .returned (intRes ⟨k, t, u, true, fl⟩) ∧ Below w.heap.size w w' := by
  have h2' : ¬ k < 10 := by omega
  have h3' : ¬ 12 < k := by omega
  have HBX : Below w.heap.size w (w.alloc (Obj.cells #[Value.int IntKind.i64 k, Value.string t, Value.string u, Value.bool true, Value.bool fl] 23)) := bAlloc1 w _
  go_enter Tryz.func64, Tryz.ntmps64
  go_wp2_with fail
  refine (Tryz.strings_TrimPrefix t ⟨#[43]⟩ _).mono ?_
  rintro e w1 ⟨rfl, rfl⟩
  obtain ⟨s1, hs1⟩ : ∃ s1, tp t 43 = s1 := ⟨_, rfl⟩
  rw [show (⟨(Lib.trimPrefix t.data.toList (⟨#[43]⟩ : ByteArray).data.toList).toArray⟩ : ByteArray) = s1 from hs1]
  have hs1 := Lib.hid hs1
  go_wp2_with fail
  refine (Tryz.strings_TrimPrefix s1 ⟨#[45]⟩ _).mono ?_
  rintro e w1 ⟨rfl, rfl⟩
  obtain ⟨d1, hd1⟩ : ∃ d1, tp s1 45 = d1 := ⟨_, rfl⟩
  rw [show (⟨(Lib.trimPrefix s1.data.toList (⟨#[45]⟩ : ByteArray).data.toList).toArray⟩ : ByteArray) = d1 from hd1]
  by_cases hlt : s1.size < t.size
  · have HD : Hid (intDigs t = s1) := Lib.hid (by unfold intDigs; rw [hs1.out, if_pos hlt])
    have hlt' : (s1.size : Int) < (t.size : Int) := by omega
    clear hd1 hlt
    have HOK : Hid (intOk ⟨k, t, u, true, fl⟩ = (!(eqB s1 noStr) && !(anyBad s1))) := Lib.hid (by unfold intOk; simp only [HD.out, Bool.true_and]; rw [decide_eq_true h2, decide_eq_true h3]; simp)
    by_cases hd : s1 = noStr
    · have HV : Hid (intOk ⟨k, t, u, true, fl⟩ = false) := Lib.hid (by rw [HOK.out, (eqB_iff s1 noStr).2 hd]; rfl)
      have he1 : s1.toList = [] := by rw [hd, noStr, ByteArray.toList_eq]
      clear hd
      go_wp2_with fail
      refine bodyPost_ret (v := .tuple #[.int .i64 0, .bool false]) (by simp [results, Tryz.results64, go_sem]) rfl ⟨by rw [intRes_no HV.out], HBX⟩
    · have hq : eqB s1 noStr = false := by
        cases hq : eqB s1 noStr with
        | false => rfl
        | true => exact absurd ((eqB_iff s1 noStr).1 hq) hd
      have HQ := Lib.hid hq
      have he1 : ¬ (s1.toList = []) := fun h => hd (bytes_ext (by rw [h, noStr, ByteArray.toList_eq]))
      have he2 : s1.toList.isEmpty = false := by cases hl : s1.toList with
        | nil => exact absurd hl he1
        | cons a l => rfl
      clear hd hq
      have hpg : PredGrows Tryz.prog 100 #[] notDig (w.alloc (Obj.cells #[Value.int IntKind.i64 k, Value.string t, Value.string u, Value.bool true, Value.bool fl] 23)) := fun W x _ _ => notDig_any x W
      go_wp2_with fail
      refine (Tryz.strings_IndexFunc_grows 100 #[] (fun _ _ => rfl) notDig s1 _ hpg).mono ?_
      rintro e w3 ⟨rfl, hb3⟩
      have hidx := idx_all notDig notDig_high s1
      obtain ⟨n, hn⟩ : ∃ n, Lib.idxFunc notDig true s1 = n := ⟨_, rfl⟩
      rw [hn] at hidx ⊢
      have HB3 := bNext HBX hb3
      clear hb3 HBX hpg hn
      cases hab : anyBad s1
      · have hn0 : n < 0 := hidx.2 hab
        have hn1 : ¬ 0 ≤ n := by omega
        have HV : Hid (intOk ⟨k, t, u, true, fl⟩ = true) := Lib.hid (by rw [HOK.out, HQ.out, hab]; rfl)
        have HA := Lib.hid hab
        clear hidx hab
        go_wp2_with fail
        have hk0 := World.iter_heap w3 s1 0
        have hbI : Below w.heap.size w (w3.iter s1 0) := HB3.trans ((bAlloc1 w3 _).mono HB3.size)
        have hw3 := HB3.size
        clear HB3
        go_loopw [6, 8] (fun nv _ wr => ∃ pos : Nat, pos ≤ s1.size ∧ nv = .int .i64 (decN (s1.data.toList.take pos)) ∧ wr.heap[w3.heap.size]? = some (.stringIter s1 pos) ∧ Below w.heap.size w wr)
          (fun _ _ wr => s1.size - wr.iterPos w3.heap.size)
        case atStart => exact ⟨0, Nat.zero_le _, rfl, hk0, hbI⟩
        case round =>
          obtain ⟨pos, hps, rfl, hk, hb⟩ := hrel
          clear hk0 hbI
          have hdl : s1.data.toList.length = s1.size := by rw [Array.length_toList]; rfl
          obtain ⟨r0, r1⟩ := dec_range (s1.data.toList.take pos) (any_take _ _ _ HA.out)
          by_cases hp : pos < s1.size
          · have hc0 : s1.data.toList[pos]'(by omega) = s1[pos]'hp := by rw [Array.getElem_toList]; rfl
            have hcb : notDig (s1[pos]'hp).toNat = false := by
              have := (List.any_eq_false.1 HA.out) _ (List.getElem_mem (show pos < s1.data.toList.length by omega))
              rw [hc0] at this
              simpa using this
            have hc1 : 48 ≤ ((s1[pos]'hp).toNat : Int) ∧ ((s1[pos]'hp).toNat : Int) ≤ 57 := by simpa [notDig, isIn] using hcb
            have hnext : ∀ ty, (Instr.next (.pointer (some ⟨w3.heap.size, 0, none⟩)) true ty).run Tryz.prog wr = _ := fun ty => Lib.run_next_ascii_at wr w3.heap.size s1 pos ty hk hp (by omega)
            have hk1 := Lib.iterAt_heap wr w3.heap.size s1 pos (pos + 1) hk
            have hb1 : Below w.heap.size w (wr.iterAt w3.heap.size s1 (pos + 1)) := Lib.below_iterAt hb hw3 s1 (pos + 1)
            have hmu : wr.iterPos w3.heap.size = pos := by simp [World.iterPos, hk]
            have hsn := decN_snoc s1.data.toList pos (by omega)
            rw [hc0] at hsn
            unfold decStep at hsn
            generalize wr.iterAt w3.heap.size s1 (pos + 1) = W1 at hnext hk1 hb1
            have HM := Lib.hid hmu
            clear hk hmu hb hcb hc0
            obtain ⟨c, hc⟩ : ∃ c : Int, ((s1[pos]'hp).toNat : Int) = c := ⟨_, rfl⟩
            obtain ⟨m, hm⟩ : ∃ m, decN (s1.data.toList.take pos) = m := ⟨_, rfl⟩
            rw [hc] at hnext hc1 hsn
            rw [hm] at hsn r0 r1 ⊢
            have HS := Lib.hid hsn
            clear hsn hc hm
            obtain ⟨hc1, hc2⟩ := hc1
            have ww1 : IntKind.i64.wrap (10 * m) = 10 * m := Go.IntWalk.i64_in _ (by omega)
            have ww2 : IntKind.i32.wrap (c - 48) = c - 48 := Go.IntWalk.i32_in _ (by omega)
            have ww3 : IntKind.i64.wrap (c - 48) = c - 48 := Go.IntWalk.i64_in _ (by omega)
            have ww4 : IntKind.i64.wrap (10 * m + (c - 48)) = 10 * m + (c - 48) := Go.IntWalk.i64_in _ (by omega)
            go_wp2_with fail
            go_roundw
            case rel => exact ⟨pos + 1, by omega, by rw [HS.out], hk1, hb1⟩
            case measure =>
              have hmu1 : W1.iterPos w3.heap.size = pos + 1 := by simp [World.iterPos, hk1]
              rw [HM.out, hmu1]; omega
          · obtain rfl : pos = s1.size := by omega
            have hnext : ∀ ty, (Instr.next (.pointer (some ⟨w3.heap.size, 0, none⟩)) true ty).run Tryz.prog wr = _ := fun ty => Lib.run_next_end_at wr w3.heap.size s1 s1.size ty hk (by omega)
            rw [List.take_of_length_le (by omega)] at r0 r1 ⊢
            obtain ⟨m, hm⟩ : ∃ m, decN s1.data.toList = m := ⟨_, rfl⟩
            have HVm : Hid (intVal t = if eqB s1 s1 = true then m else -m) := Lib.hid (by unfold intVal; rw [HD.out, hs1.out, hm])
            rw [hm] at r0 r1 ⊢
            clear hm
            by_cases hds : s1 = s1
            · have hx : (s1.toList == s1.toList) = true := by rw [hds]; simp
              have HW : Hid (intVal t = m) := Lib.hid (by rw [HVm.out, (eqB_iff s1 s1).2 hds]; rfl)
              clear hds
              go_wp2_with fail
              refine bodyPost_ret (v := .tuple #[.int .i64 m, .bool true]) (by simp [results, Tryz.results64, go_sem]) rfl ⟨by rw [intRes_yes HV.out HW.out], hb⟩
            · exact absurd rfl hds
      · have hn0 : ¬ n < 0 := fun h => by have := hidx.1 h; unfold anyBad at hab; rw [this] at hab; cases hab
        have hn1 : 0 ≤ n := by omega
        have HV : Hid (intOk ⟨k, t, u, true, fl⟩ = false) := Lib.hid (by rw [HOK.out, hab]; simp)
        clear hidx hab
        go_wp2_with fail
        refine bodyPost_ret (v := .tuple #[.int .i64 0, .bool false]) (by simp [results, Tryz.results64, go_sem]) rfl ⟨by rw [intRes_no HV.out], HB3⟩
  · have HD : Hid (intDigs t = d1) := Lib.hid (by unfold intDigs; rw [hs1.out, if_neg hlt, hd1])
    have hlt' : ¬ (s1.size : Int) < (t.size : Int) := by omega
    clear hd1 hlt
    have HOK : Hid (intOk ⟨k, t, u, true, fl⟩ = (!(eqB d1 noStr) && !(anyBad d1))) := Lib.hid (by unfold intOk; simp only [HD.out, Bool.true_and]; rw [decide_eq_true h2, decide_eq_true h3]; simp)
    by_cases hd : d1 = noStr
    · have HV : Hid (intOk ⟨k, t, u, true, fl⟩ = false) := Lib.hid (by rw [HOK.out, (eqB_iff d1 noStr).2 hd]; rfl)
      have he1 : d1.toList = [] := by rw [hd, noStr, ByteArray.toList_eq]
      clear hd
      go_wp2_with fail
      refine bodyPost_ret (v := .tuple #[.int .i64 0, .bool false]) (by simp [results, Tryz.results64, go_sem]) rfl ⟨by rw [intRes_no HV.out], HBX⟩
    · have hq : eqB d1 noStr = false := by
        cases hq : eqB d1 noStr with
        | false => rfl
        | true => exact absurd ((eqB_iff d1 noStr).1 hq) hd
      have HQ := Lib.hid hq
      have he1 : ¬ (d1.toList = []) := fun h => hd (bytes_ext (by rw [h, noStr, ByteArray.toList_eq]))
      have he2 : d1.toList.isEmpty = false := by cases hl : d1.toList with
        | nil => exact absurd hl he1
        | cons a l => rfl
      clear hd hq
      have hpg : PredGrows Tryz.prog 100 #[] notDig (w.alloc (Obj.cells #[Value.int IntKind.i64 k, Value.string t, Value.string u, Value.bool true, Value.bool fl] 23)) := fun W x _ _ => notDig_any x W
      go_wp2_with fail
      refine (Tryz.strings_IndexFunc_grows 100 #[] (fun _ _ => rfl) notDig d1 _ hpg).mono ?_
      rintro e w3 ⟨rfl, hb3⟩
      have hidx := idx_all notDig notDig_high d1
      obtain ⟨n, hn⟩ : ∃ n, Lib.idxFunc notDig true d1 = n := ⟨_, rfl⟩
      rw [hn] at hidx ⊢
      have HB3 := bNext HBX hb3
      clear hb3 HBX hpg hn
      cases hab : anyBad d1
      · have hn0 : n < 0 := hidx.2 hab
        have hn1 : ¬ 0 ≤ n := by omega
        have HV : Hid (intOk ⟨k, t, u, true, fl⟩ = true) := Lib.hid (by rw [HOK.out, HQ.out, hab]; rfl)
        have HA := Lib.hid hab
        clear hidx hab
        go_wp2_with fail
        have hk0 := World.iter_heap w3 d1 0
        have hbI : Below w.heap.size w (w3.iter d1 0) := HB3.trans ((bAlloc1 w3 _).mono HB3.size)
        have hw3 := HB3.size
        clear HB3
        go_loopw [6, 8] (fun nv _ wr => ∃ pos : Nat, pos ≤ d1.size ∧ nv = .int .i64 (decN (d1.data.toList.take pos)) ∧ wr.heap[w3.heap.size]? = some (.stringIter d1 pos) ∧ Below w.heap.size w wr)
          (fun _ _ wr => d1.size - wr.iterPos w3.heap.size)
        case atStart => exact ⟨0, Nat.zero_le _, rfl, hk0, hbI⟩
        case round =>
          obtain ⟨pos, hps, rfl, hk, hb⟩ := hrel
          clear hk0 hbI
          have hdl : d1.data.toList.length = d1.size := by rw [Array.length_toList]; rfl
          obtain ⟨r0, r1⟩ := dec_range (d1.data.toList.take pos) (any_take _ _ _ HA.out)
          by_cases hp : pos < d1.size
          · have hc0 : d1.data.toList[pos]'(by omega) = d1[pos]'hp := by rw [Array.getElem_toList]; rfl
            have hcb : notDig (d1[pos]'hp).toNat = false := by
              have := (List.any_eq_false.1 HA.out) _ (List.getElem_mem (show pos < d1.data.toList.length by omega))
              rw [hc0] at this
              simpa using this
            have hc1 : 48 ≤ ((d1[pos]'hp).toNat : Int) ∧ ((d1[pos]'hp).toNat : Int) ≤ 57 := by simpa [notDig, isIn] using hcb
            have hnext : ∀ ty, (Instr.next (.pointer (some ⟨w3.heap.size, 0, none⟩)) true ty).run Tryz.prog wr = _ := fun ty => Lib.run_next_ascii_at wr w3.heap.size d1 pos ty hk hp (by omega)
            have hk1 := Lib.iterAt_heap wr w3.heap.size d1 pos (pos + 1) hk
            have hb1 : Below w.heap.size w (wr.iterAt w3.heap.size d1 (pos + 1)) := Lib.below_iterAt hb hw3 d1 (pos + 1)
            have hmu : wr.iterPos w3.heap.size = pos := by simp [World.iterPos, hk]
            have hsn := decN_snoc d1.data.toList pos (by omega)
            rw [hc0] at hsn
            unfold decStep at hsn
            generalize wr.iterAt w3.heap.size d1 (pos + 1) = W1 at hnext hk1 hb1
            have HM := Lib.hid hmu
            clear hk hmu hb hcb hc0
            obtain ⟨c, hc⟩ : ∃ c : Int, ((d1[pos]'hp).toNat : Int) = c := ⟨_, rfl⟩
            obtain ⟨m, hm⟩ : ∃ m, decN (d1.data.toList.take pos) = m := ⟨_, rfl⟩
            rw [hc] at hnext hc1 hsn
            rw [hm] at hsn r0 r1 ⊢
            have HS := Lib.hid hsn
            clear hsn hc hm
            obtain ⟨hc1, hc2⟩ := hc1
            have ww1 : IntKind.i64.wrap (10 * m) = 10 * m := Go.IntWalk.i64_in _ (by omega)
            have ww2 : IntKind.i32.wrap (c - 48) = c - 48 := Go.IntWalk.i32_in _ (by omega)
            have ww3 : IntKind.i64.wrap (c - 48) = c - 48 := Go.IntWalk.i64_in _ (by omega)
            have ww4 : IntKind.i64.wrap (10 * m + (c - 48)) = 10 * m + (c - 48) := Go.IntWalk.i64_in _ (by omega)
            go_wp2_with fail
            go_roundw
            case rel => exact ⟨pos + 1, by omega, by rw [HS.out], hk1, hb1⟩
            case measure =>
              have hmu1 : W1.iterPos w3.heap.size = pos + 1 := by simp [World.iterPos, hk1]
              rw [HM.out, hmu1]; omega
          · obtain rfl : pos = d1.size := by omega
            have hnext : ∀ ty, (Instr.next (.pointer (some ⟨w3.heap.size, 0, none⟩)) true ty).run Tryz.prog wr = _ := fun ty => Lib.run_next_end_at wr w3.heap.size d1 d1.size ty hk (by omega)
            rw [List.take_of_length_le (by omega)] at r0 r1 ⊢
            obtain ⟨m, hm⟩ : ∃ m, decN d1.data.toList = m := ⟨_, rfl⟩
            have HVm : Hid (intVal t = if eqB d1 s1 = true then m else -m) := Lib.hid (by unfold intVal; rw [HD.out, hs1.out, hm])
            rw [hm] at r0 r1 ⊢
            clear hm
            by_cases hds : d1 = s1
            · have hx : (d1.toList == s1.toList) = true := by rw [hds]; simp
              have HW : Hid (intVal t = m) := Lib.hid (by rw [HVm.out, (eqB_iff d1 s1).2 hds]; rfl)
              clear hds
              go_wp2_with fail
              refine bodyPost_ret (v := .tuple #[.int .i64 m, .bool true]) (by simp [results, Tryz.results64, go_sem]) rfl ⟨by rw [intRes_yes HV.out HW.out], hb⟩
            · have hx : (d1.toList == s1.toList) = false := bytes_ne hds
              have HW : Hid (intVal t = -m) := Lib.hid (by
                rw [HVm.out, if_neg]
                exact fun e => hds ((eqB_iff d1 s1).1 e))
              clear hds
              have ww5 : IntKind.i64.wrap (-m) = -m := Go.IntWalk.i64_in _ (by omega)
              go_wp2_with fail
              refine bodyPost_ret (v := .tuple #[.int .i64 (-m), .bool true]) (by simp [results, Tryz.results64, go_sem]) rfl ⟨by rw [intRes_yes HV.out HW.out], hb⟩
      · have hn0 : ¬ n < 0 := fun h => by have := hidx.1 h; unfold anyBad at hab; rw [this] at hab; cases hab
        have hn1 : 0 ≤ n := by omega
        have HV : Hid (intOk ⟨k, t, u, true, fl⟩ = false) := Lib.hid (by rw [HOK.out, hab]; simp)
        clear hidx hab
        go_wp2_with fail
        refine bodyPost_ret (v := .tuple #[.int .i64 0, .bool false]) (by simp [results, Tryz.results64, go_sem]) rfl ⟨by rw [intRes_no HV.out], HB3⟩

set_option maxRecDepth 100000 in
theorem Int_any (x : Tok) (_hs : x.t.size ≤ 4294967295) (w : World) :
    Calls Tryz.prog 64 #[.agg #[.int .i64 x.k, .string x.t, .string x.u, .bool x.wh, .bool x.fl]] w fun e w' => e = .returned (intRes x) ∧ Below w.heap.size w w' := by
  obtain ⟨k, t, u, wh, fl⟩ := x
  cases wh with
  | false =>
    have HV : Hid (intRes ⟨k, t, u, false, fl⟩ = .tuple #[.int .i64 0, .bool false]) := Lib.hid (intRes_no rfl)
    go_enter Tryz.func64, Tryz.ntmps64
    go_wp2_with fail
    refine bodyPost_ret (v := .tuple #[.int .i64 0, .bool false]) (by simp [results, Tryz.results64, go_sem]) rfl ⟨by rw [HV.out], bAlloc1 _ _⟩
  | true =>
    by_cases h2 : 10 ≤ k
    · by_cases h3 : k ≤ 12
      · exact int_good k t u fl h2 h3 w
      · have HV : Hid (intRes ⟨k, t, u, true, fl⟩ = .tuple #[.int .i64 0, .bool false]) := Lib.hid (intRes_no (by unfold intOk; rw [decide_eq_false h3]; simp))
        have h2' : ¬ k < 10 := by omega
        have h3' : 12 < k := by omega
        go_enter Tryz.func64, Tryz.ntmps64
        go_wp2_with fail
        refine bodyPost_ret (v := .tuple #[.int .i64 0, .bool false]) (by simp [results, Tryz.results64, go_sem]) rfl ⟨by rw [HV.out], bAlloc1 _ _⟩
    · have HV : Hid (intRes ⟨k, t, u, true, fl⟩ = .tuple #[.int .i64 0, .bool false]) := Lib.hid (intRes_no (by unfold intOk; rw [decide_eq_false h2]; simp))
      have h2' : k < 10 := by omega
      go_enter Tryz.func64, Tryz.ntmps64
      go_wp2_with fail
      refine bodyPost_ret (v := .tuple #[.int .i64 0, .bool false]) (by simp [results, Tryz.results64, go_sem]) rfl ⟨by rw [HV.out], bAlloc1 _ _⟩
end Go.Proofs.YtpadcjcoafidgaaGreatDoor
/-! text.Hex below nought or not; what no hexadecimal digit is. -/
namespace Go.Proofs.YtpadcjcoafidgaaGreatDoor
open Go.RowKit

def isHex (r : Nat) : Bool := isIn 48 57 r || isIn 97 102 r || isIn 65 70 r
def notHex (r : Nat) : Bool := !isHex r
theorem notHex_high (r : Nat) (h : 128 ≤ r) : notHex r = true := by
  unfold notHex isHex isIn
  have h1 : ¬ ((r : Int) ≤ 57) := by omega
  have h2 : ¬ ((r : Int) ≤ 102) := by omega
  have h3 : ¬ ((r : Int) ≤ 70) := by omega
  simp [h1, h2, h3]
theorem or32 (r : Nat) (h : r ≤ 1114111) : bits .or .i32 (r : Int) 32 = ((r ||| 32 : Nat) : Int) := (bits_nat .i32 31 (by decide) wraps_i32 r 32 (by omega) (by decide)).2
theorem hex_tab : ∀ n : Fin 128, (isIn 97 102 ((n.val ||| 32 : Nat) : Int)) = (isIn 97 102 (n.val : Int) || isIn 65 70 (n.val : Int)) := by decide +kernel
theorem hex_small (r : Nat) : isIn 97 102 ((r ||| 32 : Nat) : Int) = (isIn 97 102 (r : Int) || isIn 65 70 (r : Int)) := by
  by_cases h : r < 128
  · exact hex_tab ⟨r, h⟩
  · have := @Nat.left_le_or r 32
    unfold isIn
    rw [decide_eq_false (show ¬ (((r ||| 32 : Nat) : Int) ≤ 102) by omega), decide_eq_false (show ¬ ((r : Int) ≤ 102) by omega), decide_eq_false (show ¬ ((r : Int) ≤ 70) by omega)]
    simp
set_option maxHeartbeats 1000000 in
theorem Hex_any (r : Nat) (h : r ≤ 1114111) (w : World) :
    Calls Tryz.prog 45 #[.int .i32 (r : Int)] w fun e w' => (∃ n : Int, e = .returned (.int .i64 n) ∧ decide (n < 0) = notHex r) ∧ Below w.heap.size w w' := by
  have ho := or32 r h
  obtain ⟨q, hq⟩ : ∃ q : Nat, r ||| 32 = q := ⟨_, rfl⟩
  have hs := hex_small r
  rw [hq] at ho hs
  have hq2 : q ≤ 2147483647 := by
    rw [← hq]
    have := Nat.or_lt_two_pow (x := r) (y := 32) (n := 31) (by omega) (by decide)
    omega
  clear hq
  go_enter Tryz.func45, Tryz.ntmps45
  go_wp2_with fail
  refine (Digit_any _ _).mono ?_
  rintro e w1 ⟨rfl, hb1⟩
  cases hd : isIn 48 57 (r : Int)
  · cases hx : isIn 97 102 (q : Int)
    · have HN : Hid (notHex r = true) := Lib.hid (by unfold notHex isHex; rw [hd, Bool.false_or, ← hs, hx]; rfl)
      have hx' : ¬ (97 ≤ (q : Int) ∧ (q : Int) ≤ 102) := by intro hh; unfold isIn at hx; rw [decide_eq_true hh.1, decide_eq_true hh.2] at hx; cases hx
      clear hs hd hx
      go_wp2
      all_goals go_ret
      all_goals exact ⟨⟨_, rfl, by rw [HN.out]; rfl⟩, hb1.trans (by repeat' first | exact Below.refl _ _ | (refine Below.alloc ?_ (by have := hb1.size; simp <;> omega) _))⟩
    · have HN : Hid (notHex r = false) := Lib.hid (by unfold notHex isHex; rw [hd, Bool.false_or, ← hs, hx]; rfl)
      have hx' : 97 ≤ (q : Int) ∧ (q : Int) ≤ 102 := by simpa [isIn] using hx
      obtain ⟨hx1, hx2⟩ := hx'
      have ww1 : IntKind.i64.wrap ((q : Int) - 97) = (q : Int) - 97 := Go.IntWalk.i64_in _ (by omega)
      have ww2 : IntKind.i64.wrap ((q : Int) - 97 + 10) = (q : Int) - 97 + 10 := Go.IntWalk.i64_in _ (by omega)
      clear hs hd hx
      go_wp2
      all_goals go_ret
      all_goals exact ⟨⟨_, rfl, by rw [HN.out]; exact decide_eq_false (by omega)⟩, hb1.trans (by repeat' first | exact Below.refl _ _ | (refine Below.alloc ?_ (by have := hb1.size; simp <;> omega) _))⟩
  · have HN : Hid (notHex r = false) := Lib.hid (by unfold notHex isHex; rw [hd]; rfl)
    have hx' : 48 ≤ (r : Int) ∧ (r : Int) ≤ 57 := by simpa [isIn] using hd
    have ww1 : IntKind.i64.wrap ((r : Int) - 48) = (r : Int) - 48 := Go.IntWalk.i64_in _ (by omega)
    clear hs hd
    go_wp2
    all_goals go_ret
    exact ⟨⟨_, rfl, by rw [HN.out]; exact decide_eq_false (by omega)⟩, hb1⟩
theorem strange_any (r : Nat) (h : r ≤ 1114111) (w : World) : Calls Tryz.prog 44 #[.int .i32 (r : Int)] w fun e w' => e = .returned (.bool (notHex r)) ∧ Below w.heap.size w w' := by
  go_enter Tryz.func44, Tryz.ntmps44
  go_wp2_with fail
  refine (Hex_any r h w).mono ?_
  rintro e w1 ⟨⟨n, rfl, hn⟩, hb1⟩
  cases hm : notHex r
  · have hn' : ¬ n < 0 := by rw [hm] at hn; simpa using hn
    clear hn
    go_wp2_with fail
    go_ret
    exact ⟨congrArg (fun b => Ending.returned (Value.bool b)) (by rw [hm]; simpa using hn'), hb1⟩
  · have hn' : n < 0 := by rw [hm] at hn; simpa using hn
    clear hn
    go_wp2_with fail
    go_ret
    exact ⟨congrArg (fun b => Ending.returned (Value.bool b)) hm.symm, hb1⟩
end Go.Proofs.YtpadcjcoafidgaaGreatDoor
/-! value.Color. -/
namespace Go.Proofs.YtpadcjcoafidgaaGreatDoor
open Go.RowKit

/-- The colours that have names. -/
def colourTbl : List (ByteArray × ByteArray) := [
  (⟨#[98, 108, 97, 99, 107]⟩, ⟨#[35, 48, 48, 48, 48, 48, 48]⟩), (⟨#[119, 104, 105, 116, 101]⟩, ⟨#[35, 102, 102, 102, 102, 102, 102]⟩),
  (⟨#[114, 101, 100]⟩, ⟨#[35, 102, 102, 48, 48, 48, 48]⟩), (⟨#[103, 114, 101, 101, 110]⟩, ⟨#[35, 48, 48, 56, 48, 48, 48]⟩),
  (⟨#[98, 108, 117, 101]⟩, ⟨#[35, 48, 48, 48, 48, 102, 102]⟩), (⟨#[103, 114, 97, 121]⟩, ⟨#[35, 56, 48, 56, 48, 56, 48]⟩),
  (⟨#[121, 101, 108, 108, 111, 119]⟩, ⟨#[35, 102, 102, 102, 102, 48, 48]⟩), (⟨#[112, 117, 114, 112, 108, 101]⟩, ⟨#[35, 56, 48, 48, 48, 56, 48]⟩)]
def colourAt (i : Nat) : ByteArray × ByteArray := colourTbl[i]?.getD (noStr, noStr)
/-- They lie as the program's text lays them. -/
def ColoursIn (w : World) : Prop := 0 < w.heap.size ∧ ∀ i, i < 8 → w.cell? ⟨0, i * 2, none⟩ = some (.string (colourAt i).1) ∧ w.cell? ⟨0, i * 2 + 1, none⟩ = some (.string (colourAt i).2)
theorem ColoursIn.next {w w' : World} (h : ColoursIn w) (hb : Below w.heap.size w w') : ColoursIn w' :=
  ⟨Nat.lt_of_lt_of_le h.1 hb.size, fun i hi => ⟨(hb.cell (p := ⟨0, _, none⟩) h.1).trans (h.2 i hi).1, (hb.cell (p := ⟨0, _, none⟩) h.1).trans (h.2 i hi).2⟩⟩
theorem isName_any (x y s : ByteArray) (b : Nat) (w : World) (h : w.cell? ⟨b, 0, none⟩ = some (.string s)) :
    Calls Tryz.prog 42 #[.agg #[.string x, .string y], .pointer (some ⟨b, 0, none⟩)] w fun e w' => e = .returned (.bool (eqB x s)) ∧ Below w.heap.size w w' := by
  have hlt : b < w.heap.size := World.block_lt_of_cell? w _ h
  have h2 : ∀ o, (w.alloc o).cell? ⟨b, 0, none⟩ = some (.string s) := fun o => (World.cell?_alloc_lt _ _ _ hlt).trans h
  by_cases he : x = s
  · have hq : (x.toList == s.toList) = true := by rw [he]; simp
    have HE := Lib.hid ((eqB_iff x s).2 he)
    clear he
    go_enter Tryz.func42, Tryz.ntmps42
    go_wp2_with fail
    go_ret
    exact ⟨by rw [HE.out]; rfl, bAlloc1 _ _⟩
  · have hq : (x.toList == s.toList) = false := bytes_ne he
    have HE : Hid (eqB x s = false) := Lib.hid (by
      cases hh : eqB x s with
      | false => rfl
      | true => exact absurd ((eqB_iff x s).1 hh) he)
    clear he
    go_enter Tryz.func42, Tryz.ntmps42
    go_wp2_with fail
    go_ret
    exact ⟨by rw [HE.out]; rfl, bAlloc1 _ _⟩
/-- The place of a name. -/
def colIx (s : ByteArray) : Option Nat := colourTbl.findIdx? (fun p => eqB p.1 s)
def ixV (r : Option Nat) : Value := match r with
  | some n => .int .i64 (n : Int)
  | none => .int .i64 (-1)
theorem colIx_some {s : ByteArray} {k : Nat} (hk : k < 8) (h : eqB (colourAt k).1 s = true) (hl : ∀ i, i < k → eqB (colourAt i).1 s = false) : colIx s = some k := by
  have hk' : k < colourTbl.length := hk
  have e : ∀ j, (h : j < colourTbl.length) → colourAt j = colourTbl[j]'h := fun j h => by unfold colourAt; rw [List.getElem?_eq_getElem h]; rfl
  unfold colIx
  rw [List.findIdx?_eq_some_iff_getElem]
  refine ⟨hk', ?_, fun j hj => ?_⟩
  · rw [← e k hk']; exact h
  · rw [← e j (Nat.lt_trans hj hk'), hl j hj]; decide
theorem colIx_lt {s : ByteArray} {n : Nat} (h : colIx s = some n) : n < 8 := by
  unfold colIx at h
  rw [List.findIdx?_eq_some_iff_getElem] at h
  exact h.1
theorem colIx_none {s : ByteArray} (hl : ∀ i, i < 8 → eqB (colourAt i).1 s = false) : colIx s = none := by
  unfold colIx
  rw [List.findIdx?_eq_none_iff]
  intro x hx
  obtain ⟨i, hi, rfl⟩ := List.getElem_of_mem hx
  have := hl i hi
  unfold colourAt at this
  rw [List.getElem?_eq_getElem hi] at this
  exact this
set_option maxHeartbeats 1000000 in
theorem colIx_any (w : World) (hC : ColoursIn w) (s : ByteArray) (b : Nat) (h : w.cell? ⟨b, 0, none⟩ = some (.string s)) :
    Calls Tryz.prog 41 #[.slice (some ⟨0, 0, none⟩) 8 8, .func (.func 42) #[] #[.pointer (some ⟨b, 0, none⟩)]] w fun e w' => e = .returned (ixV (colIx s)) ∧ Below w.heap.size w w' := by
  have HC := Lib.hid hC
  have hlt : b < w.heap.size := World.block_lt_of_cell? w _ h
  have H := Lib.hid h
  clear hC h
  go_enter Tryz.func41, Tryz.ntmps41
  go_wp2_with fail
  go_loopw [5, 8] (fun _ iv wr => ∃ k : Nat, k ≤ 8 ∧ iv = .int .i64 k ∧ Hid (∀ i, i < k → eqB (colourAt i).1 s = false) ∧ Below w.heap.size w wr)
    (fun _ iv _ => 8 - (intOf iv).toNat)
  case atStart => exact ⟨0, by omega, rfl, Lib.hid (fun i hi => by omega), Below.refl _ _⟩
  case round =>
    obtain ⟨k, hk, rfl, HP, hB⟩ := hrel
    by_cases hlt8 : k < 8
    · have HC2 := HC.out.next hB
      obtain ⟨c0, c1⟩ := HC2.2 k hlt8
      have q1 : (0 : Int) ≤ (k : Int) := by omega
      have q2 : (k : Int) < 8 := by omega
      have hb0 := (hB.cell (p := ⟨b, 0, none⟩) hlt).trans H.out
      go_wp2_with fail
      refine (isName_any _ _ s b _ hb0).mono ?_
      rintro e w2 ⟨rfl, hb2⟩
      have hB2 := hB.trans (hb2.mono hB.size)
      clear c0 c1 hb0 hb2 HC2
      cases hq : eqB (colourAt k).1 s
      · go_wp2_with fail
        go_roundw
        case rel =>
          refine ⟨k + 1, by omega, by go_num, Lib.hid (fun i hi => ?_), hB2⟩
          by_cases hj : i = k
          · subst hj; exact hq
          · exact HP.out i (by omega)
        case measure => simp [intOf]; omega
      · have HX := Lib.hid (colIx_some hlt8 hq HP.out)
        go_wp2_with fail
        go_ret
        exact ⟨by rw [HX.out]; rfl, hB2⟩
    · obtain rfl : k = 8 := by omega
      have HX := Lib.hid (colIx_none HP.out)
      go_wp2_with fail
      go_ret
      exact ⟨by rw [HX.out]; rfl, hB⟩
/-- The colour of a token. -/
def hash6 (s : ByteArray) : ByteArray := ⟨(35 :: (Lib.repeatL (s.data.toList.take 1) 2 ++ Lib.repeatL ((s.data.toList.drop 1).take 1) 2 ++ Lib.repeatL (s.data.toList.drop 2) 2)).toArray⟩
def hashS (s : ByteArray) : ByteArray := ⟨(35 :: s.data.toList).toArray⟩
theorem hash_app (z : ByteArray) : (⟨#[35]⟩ : ByteArray) ++ z = hashS z := by
  apply ByteArray.ext
  apply Array.toList_inj.1
  unfold hashS
  simp
def badHex (s : ByteArray) : Bool := s.data.toList.any (fun b => notHex b.toNat)
def colorS (t : Tok) : Option ByteArray :=
  if t.k = 1 then (match colIx (fold t.t) with | some n => some (colourAt n).2 | none => none)
  else if t.k ≠ 4 then none
  else if badHex (fold t.t) = true then none
  else if (fold t.t).size = 3 then some (hash6 (fold t.t))
  else if (fold t.t).size = 6 then some (hashS (fold t.t))
  else none
/-- A text, or none. -/
def resS (r : Option ByteArray) : Value := match r with
  | some s => .tuple #[.string s, .bool true]
  | none => .tuple #[.string noStr, .bool false]
set_option maxRecDepth 100000 in
set_option maxHeartbeats 1000000 in
theorem Color_ident (w : World) (hC : ColoursIn w) (x : Val) (hx : x.fits) (h1 : x.tok.k = 1) :
    Calls Tryz.prog 13 #[.agg #[.int .i64 x.tok.k, .string x.tok.t, .string x.tok.u, .bool x.tok.wh, .bool x.tok.fl, .slice x.ka x.kn x.kc]] w fun e w' => e = .returned (resS (colorS x.tok)) ∧ Below w.heap.size w w' := by
  have HV : Hid (colorS x.tok = match colIx (fold x.tok.t) with | some n => some (colourAt n).2 | none => none) := Lib.hid (if_pos h1)
  have hid : identS x = fold x.tok.t := if_pos h1
  have HC := Lib.hid hC
  clear hC
  have k1 : ∀ o, (w.alloc o).heap.size = w.heap.size + 1 := fun o => by simp
  go_enter Tryz.func13, Tryz.ntmps13
  go_wp2_with fail
  rw [← h1]
  refine (ident_any x hx _).mono ?_
  rintro e w1 ⟨rfl, hb1⟩
  rw [hid]
  obtain ⟨z, hz⟩ : ∃ z, fold x.tok.t = z := ⟨_, rfl⟩
  rw [hz] at HV ⊢
  have hB1 := bNext (bAlloc1 _ _) hb1
  have HC1 := HC.out.next hB1
  have HC2 := Lib.hid (HC1.next (bAlloc1 w1 (.cells #[.string z] 9)))
  clear hb1 HC HC1 hz hid k1
  go_wp2_with fail
  refine (colIx_any _ HC2.out z _ (by simp)).mono ?_
  rintro e w2 ⟨rfl, hb2⟩
  have hB2 := bNext (bNext hB1 (bAlloc1 w1 (.cells #[.string z] 9))) hb2
  have HC3 := HC2.out.next hb2
  cases hc : colIx z with
  | none =>
    rw [hc] at HV
    have HW : Hid (resS (colorS x.tok) = .tuple #[.string noStr, .bool false]) := Lib.hid (by rw [HV.out]; rfl)
    simp only [ixV]
    go_wp2_with fail
    exact bodyPost_ret (v := .tuple #[.string noStr, .bool false]) (by simp [results, Tryz.results13, go_sem, noStr]) rfl ⟨by rw [HW.out], hB2⟩
  | some n =>
    have hn := colIx_lt hc
    obtain ⟨-, c1⟩ := HC3.2 n hn
    rw [hc] at HV
    have HW : Hid (resS (colorS x.tok) = .tuple #[.string (colourAt n).2, .bool true]) := Lib.hid (by rw [HV.out]; rfl)
    have q1 : (0 : Int) ≤ (n : Int) := by omega
    have q2 : (n : Int) < 8 := by omega
    have q3 : ¬ (n : Int) < 0 := by omega
    simp only [ixV]
    clear HC3 HC2 hc
    go_wp2_with fail
    exact bodyPost_ret (v := .tuple #[.string (colourAt n).2, .bool true]) (by simp [results, Tryz.results13, go_sem]) rfl ⟨by rw [HW.out], hB2⟩
def rep2S (s : ByteArray) : ByteArray := ⟨(Lib.repeatL s.data.toList 2).toArray⟩
theorem rep2 (s : ByteArray) (w : World) (h : s.size * 2 ≤ 140737488355328) : Calls Tryz.prog 47 #[.string s, .int .i64 2] w fun e w' => e = .returned (.string (rep2S s)) ∧ Below w.heap.size w w' := Tryz.strings_Repeat s 2 w (by decide) h
theorem hash6_app (z : ByteArray) (h : z.size = 3) : (⟨#[35]⟩ : ByteArray) ++ rep2S (z.extract 0 1) ++ rep2S (z.extract 1 2) ++ rep2S (z.extract 2 z.size) = hash6 z := by
  have e : ∀ a b, (z.extract a b).data.toList = (z.data.toList.drop a).take (b - a) := fun a b => by rw [← ByteArray.toList_eq, Lib.extract_toList]
  have hl : z.data.toList.length = 3 := by rw [Array.length_toList]; exact h
  apply ByteArray.ext
  apply Array.toList_inj.1
  unfold hash6 rep2S
  rw [e, e, e]
  have h3 : (z.data.toList.drop 2).take (z.size - 2) = z.data.toList.drop 2 := List.take_of_length_le (by rw [List.length_drop, hl, h]; exact Nat.le_refl _)
  rw [h3]
  simp
theorem below_drew' (w : World) : Below w.heap.size w w.drew := (Below.refl _ _).drew
set_option maxRecDepth 100000 in
set_option maxHeartbeats 1000000 in
theorem Color_other (w : World) (x : Val) (hx : x.fits) (h1 : x.tok.k ≠ 1) :
    Calls Tryz.prog 13 #[.agg #[.int .i64 x.tok.k, .string x.tok.t, .string x.tok.u, .bool x.tok.wh, .bool x.tok.fl, .slice x.ka x.kn x.kc]] w fun e w' => e = .returned (resS (colorS x.tok)) ∧ Below w.heap.size w w' := by
  by_cases h4 : x.tok.k = 4
  · have HV : Hid (colorS x.tok = if badHex (fold x.tok.t) = true then none else if (fold x.tok.t).size = 3 then some (hash6 (fold x.tok.t)) else if (fold x.tok.t).size = 6 then some (hashS (fold x.tok.t)) else none) := Lib.hid (by unfold colorS; rw [if_neg h1, if_neg (by omega)])
    have hzs : (fold x.tok.t).size ≤ 4294967295 := by rw [fold_size]; exact hx.1
    go_enter Tryz.func13, Tryz.ntmps13
    go_wp2_with fail
    refine (Fold_any _ _ hx.1).mono ?_
    rintro e w1 ⟨rfl, hb1⟩
    have c0 : w1.cell? ⟨w.heap.size, 0, none⟩ = some (.int .i64 4) := (hb1.cell (p := ⟨w.heap.size, 0, none⟩) (by simp)).trans (by simp)
    obtain ⟨z, hz⟩ : ∃ z, fold x.tok.t = z := ⟨_, rfl⟩
    rw [hz] at HV hzs ⊢
    have hB1 := bNext (bAlloc1 _ _) hb1
    have hpg : PredGrows Tryz.prog 44 #[] notHex w1 := fun W r hr _ => strange_any r hr W
    clear hb1 hz
    go_wp2_with fail
    refine (Tryz.strings_IndexFunc_grows 44 #[] (fun _ _ => rfl) notHex z _ hpg).mono ?_
    rintro e w3 ⟨rfl, hb3⟩
    have hidx := idx_all notHex notHex_high z
    obtain ⟨n, hn⟩ : ∃ n, Lib.idxFunc notHex true z = n := ⟨_, rfl⟩
    rw [hn] at hidx ⊢
    have HB3 := bNext hB1 hb3
    clear hb3 hB1 hpg hn c0
    cases hab : badHex z
    · have hn1 : ¬ 0 ≤ n := by have := hidx.2 hab; omega
      rw [hab, if_neg (by decide)] at HV
      clear hidx hab
      by_cases h3 : z.size = 3
      · rw [if_pos h3] at HV
        have h3' : (z.size : Int) = 3 := by omega
        go_wp2_with fail
        have hsz : ∀ a b, (rep2S (z.extract a b)).size ≤ 1000 := fun a b => by
          show (Lib.repeatL (z.extract a b).data.toList 2).toArray.size ≤ 1000
          rw [List.size_toArray, Lib.repeatL_length, Array.length_toList]
          have : (z.extract a b).size ≤ 3 := by rw [ByteArray.size_extract]; omega
          exact Nat.le_trans (Nat.mul_le_mul_left 2 this) (by decide)
        have hrp : ∀ (a b : Nat) (W : World), Calls Tryz.prog 47 #[.string (z.extract a b), .int .i64 2] W fun e w' => e = .returned (.string (rep2S (z.extract a b))) ∧ Below W.heap.size W w' := fun a b W => rep2 _ _ (by rw [ByteArray.size_extract]; omega)
        have hap := hash6_app z h3
        obtain ⟨r1, hr1⟩ : ∃ r, rep2S (z.extract 0 1) = r := ⟨_, rfl⟩
        obtain ⟨r2, hr2⟩ : ∃ r, rep2S (z.extract 1 2) = r := ⟨_, rfl⟩
        obtain ⟨r3, hr3⟩ : ∃ r, rep2S (z.extract 2 z.size) = r := ⟨_, rfl⟩
        have R1 := hrp 0 1
        have R2 := hrp 1 2
        have R3 := hrp 2 z.size
        have s1 := hsz 0 1
        have s2 := hsz 1 2
        have s3 := hsz 2 z.size
        rw [hr1] at R1 s1 hap
        rw [hr2] at R2 s2 hap
        rw [hr3] at R3 s3 hap
        have HAP := Lib.hid hap
        have z1 : (r1.size : Int) ≤ 1000 := by omega
        have z2 : (r2.size : Int) ≤ 1000 := by omega
        have z3 : (r3.size : Int) ≤ 1000 := by omega
        have HW : Hid (resS (colorS x.tok) = .tuple #[.string (hash6 z), .bool true]) := Lib.hid (by rw [HV.out]; rfl)
        have n1 : ¬ (9223372036854775807 < 1 + r1.size) := by omega
        have n2 : ¬ (9223372036854775807 < 1 + r1.size + r2.size) := by omega
        have n3 : ¬ (9223372036854775807 < 1 + r1.size + r2.size + r3.size) := by omega
        clear hr1 hr2 hr3 hrp hsz hap s1 s2 s3 h3 z1 z2 z3
        go_region_held3 (fun _ => True) (trivial)
          (first
            | (go_at_call 47; ((with_reducible refine (R1 _).mono ?_); rintro e w4 ⟨rfl, hb4⟩))
            | (go_at_call 47; ((with_reducible refine (R2 _).mono ?_); rintro e w5 ⟨rfl, hb5⟩))
            | (go_at_call 47; ((with_reducible refine (R3 _).mono ?_); rintro e w6 ⟨rfl, hb6⟩)))
        all_goals
          rw [HAP.out]
          have hB6 : Below w.heap.size w w6 := bNext (bNext (bNext (bNext HB3 (below_drew' w3)) hb4) hb5) hb6
          go_wp2_with fail
          exact bodyPost_ret (v := .tuple #[.string (hash6 z), .bool true]) (by simp [results, Tryz.results13, go_sem]) rfl ⟨by rw [HW.out], hB6⟩
      · rw [if_neg h3] at HV
        have h3' : ¬ (z.size : Int) = 3 := by omega
        by_cases h6 : z.size = 6
        · rw [if_pos h6] at HV
          have h6' : (z.size : Int) = 6 := by omega
          have HW : Hid (resS (colorS x.tok) = .tuple #[.string (hashS z), .bool true]) := Lib.hid (by rw [HV.out]; rfl)
          clear h3 h6
          go_wp2_with fail
          exact bodyPost_ret (v := .tuple #[.string (hashS z), .bool true]) (by simp [results, Tryz.results13, go_sem, hash_app]) rfl ⟨by rw [HW.out], HB3⟩
        · rw [if_neg h6] at HV
          have h6' : ¬ (z.size : Int) = 6 := by omega
          have HW : Hid (resS (colorS x.tok) = .tuple #[.string noStr, .bool false]) := Lib.hid (by rw [HV.out]; rfl)
          clear h3 h6
          go_wp2_with fail
          exact bodyPost_ret (v := .tuple #[.string noStr, .bool false]) (by simp [results, Tryz.results13, go_sem, noStr]) rfl ⟨by rw [HW.out], HB3⟩
    · have hn1 : 0 ≤ n := by
        rcases Int.lt_or_le n 0 with h | h
        · have := hidx.1 h; unfold badHex at hab; rw [this] at hab; cases hab
        · exact h
      have HW : Hid (resS (colorS x.tok) = .tuple #[.string noStr, .bool false]) := Lib.hid (by rw [HV.out, hab]; rfl)
      clear hidx hab
      go_wp2_with fail
      exact bodyPost_ret (v := .tuple #[.string noStr, .bool false]) (by simp [results, Tryz.results13, go_sem, noStr]) rfl ⟨by rw [HW.out], HB3⟩
  · have HW : Hid (resS (colorS x.tok) = .tuple #[.string noStr, .bool false]) := Lib.hid (by unfold colorS; rw [if_neg h1, if_pos h4]; rfl)
    go_enter Tryz.func13, Tryz.ntmps13
    go_wp2_with fail
    refine (Fold_any _ _ hx.1).mono ?_
    rintro e w1 ⟨rfl, hb1⟩
    have c0 : w1.cell? ⟨w.heap.size, 0, none⟩ = some (.int .i64 x.tok.k) := (hb1.cell (p := ⟨w.heap.size, 0, none⟩) (by simp)).trans (by simp)
    have hB1 := bNext (bAlloc1 _ _) hb1
    clear hb1
    go_wp2_with fail
    exact bodyPost_ret (v := .tuple #[.string noStr, .bool false]) (by simp [results, Tryz.results13, go_sem, noStr]) rfl ⟨by rw [HW.out], hB1⟩
theorem Color_any (w : World) (hC : ColoursIn w) (x : Val) (hx : x.fits) :
    Calls Tryz.prog 13 #[.agg #[.int .i64 x.tok.k, .string x.tok.t, .string x.tok.u, .bool x.tok.wh, .bool x.tok.fl, .slice x.ka x.kn x.kc]] w fun e w' => e = .returned (resS (colorS x.tok)) ∧ Below w.heap.size w w' := by
  by_cases h1 : x.tok.k = 1
  · exact Color_ident w hC x hx h1
  · exact Color_other w x hx h1
end Go.Proofs.YtpadcjcoafidgaaGreatDoor
/-! value.Part's own told; value.length. -/
namespace Go.Proofs.YtpadcjcoafidgaaGreatDoor
open Go.RowKit

/-- The listed variables lie as the program's text lays them. -/
structure Base (w : World) : Prop where
  col : ColoursIn w
  pow : Lib.TabIs Tryz.prog w "internal/strconv.uint64pow10" .u64 Lib.pow10Tab
theorem Base.next {w w' : World} (h : Base w) (hb : Below w.heap.size w w') : Base w' := by
  refine ⟨h.col.next hb, ?_⟩
  have hg : Tryz.prog.globalNamed "internal/strconv.uint64pow10" = some 4 := by kernel_rfl
  have h2 := h.pow
  unfold Lib.TabIs World.var? at h2 ⊢
  rw [hg] at h2 ⊢
  simp only [Option.bind_some] at h2 ⊢
  have hlt : 4 < w.heap.size := by
    rcases Nat.lt_or_ge 4 w.heap.size with h' | h'
    · exact h'
    · rw [Array.getElem?_eq_none h'] at h2; cases h2
  rw [hb.block _ hlt]
  exact h2
/-- The decimal digits of a number of at most f of them. -/
def decC : Nat → Nat → List UInt8
  | 0, _ => []
  | f + 1, u => if u < 10 then [UInt8.ofNat (48 + u)] else decC f (u / 10) ++ [UInt8.ofNat (48 + u % 10)]
theorem decC_eq : ∀ (f u : Nat), u < 10 ^ f → decC f u = (if f = 0 then [] else Lib.decDigits u)
  | 0, u, h => rfl
  | f + 1, u, h => by
    rw [if_neg (by omega), decC, Lib.decDigits]
    by_cases hu : u < 10
    · rw [if_pos hu, dif_pos hu]
    · rw [if_neg hu, dif_neg hu]
      have h2 : u / 10 < 10 ^ f := by rw [Nat.pow_succ] at h; omega
      rw [decC_eq f _ h2]
      cases f with
      | zero => simp at h2; omega
      | succ f => rw [if_neg (by omega)]
def itoaC (n : Int) : List UInt8 := if n < 0 then 45 :: decC 8 n.natAbs else decC 8 n.toNat
theorem itoaC_eq (n : Int) (h0 : -1000000 ≤ n) (h1 : n ≤ 1000000) : Lib.itoa n = itoaC n := by
  unfold Lib.itoa itoaC
  rw [decC_eq 8 _ (by omega), decC_eq 8 _ (by omega)]
  rfl
def itoaS (n : Int) : ByteArray := ⟨(itoaC n).toArray⟩
theorem Itoa_any (n : Int) (h0 : -1000000 ≤ n) (h1 : n ≤ 1000000) (w : World) (hB : Base w) :
    Calls Tryz.prog 67 #[.int .i64 n] w fun e w' => e = .returned (.string (itoaS n)) ∧ Below w.heap.size w w' :=
  (Tryz.strconv_Itoa n (by omega) (by omega) w hB.pow).mono fun _ _ ⟨he, k, os, hw⟩ => ⟨by rw [he, itoaC_eq n h0 h1]; rfl, by rw [hw]; exact Lib.below_grow _ w (Nat.le_refl _) k os⟩
def plusG : ByteArray := ⟨#[43, 62]⟩
def toldS (n : Int) (whole : Bool) (form unit : ByteArray) (is : Bool) : Option ByteArray :=
  if (is && whole && !(decide (n < 0) && Lib.hasSuffix form.data.toList plusG.data.toList)) = true then some (itoaS n ++ unit) else none
set_option maxRecDepth 100000 in
set_option maxHeartbeats 1000000 in
theorem told_any (w : World) (hB : Base w) (unit form : ByteArray) (is whole : Bool) (n : Int) (h0 : -1000000 ≤ n) (h1 : n ≤ 1000000) (hu : unit.size ≤ 100) (hf : form.size ≤ 9223372036854775807) (a b c : Nat)
    (ca : w.cell? ⟨a, 0, none⟩ = some (.bool whole)) (cb : w.cell? ⟨b, 0, none⟩ = some (.int .i64 n)) (cc : w.cell? ⟨c, 0, none⟩ = some (.string form)) :
    Calls Tryz.prog 65 #[.string unit, .bool is, .pointer (some ⟨a, 0, none⟩), .pointer (some ⟨b, 0, none⟩), .pointer (some ⟨c, 0, none⟩)] w fun e w' => e = .returned (resS (toldS n whole form unit is)) ∧ Below w.heap.size w w' := by
  have HB := Lib.hid hB
  have hi := Itoa_any n (by omega) (by omega) w hB
  have HI := Lib.hid hi
  have hz : ((itoaS n).size : Int) ≤ 1000 := by
    have h := Lib.itoa_length_le n (by omega) (by omega)
    rw [itoaC_eq n h0 h1] at h
    have e : (itoaS n).size = (itoaC n).length := rfl
    omega
  have hu' : (unit.size : Int) ≤ 100 := by omega
  have HS : Hid (resS (toldS n whole form unit is) = if (is && whole && !(decide (n < 0) && Lib.hasSuffix form.data.toList plusG.data.toList)) = true then .tuple #[.string (itoaS n ++ unit), .bool true] else .tuple #[.string noStr, .bool false]) := Lib.hid (by unfold toldS; split <;> rfl)
  have HX := fun W => Tryz.strings_HasSuffix form plusG W hf
  obtain ⟨sf, hsf⟩ : ∃ s, Lib.hasSuffix form.data.toList plusG.data.toList = s := ⟨_, rfl⟩
  rw [hsf] at HS
  simp only [hsf] at HX
  clear hB hi hsf
  obtain ⟨z, hzz⟩ : ∃ z, itoaS n = z := ⟨_, rfl⟩
  rw [hzz] at HI HS hz
  clear hzz
  cases is with
  | false =>
    have HV : Hid (resS (toldS n whole form unit false) = .tuple #[.string noStr, .bool false]) := Lib.hid (by rw [HS.out]; rfl)
    go_enter Tryz.func65, Tryz.ntmps65
    go_wp2_with fail
    exact bodyPost_ret (v := .tuple #[.string noStr, .bool false]) (by simp [results, Tryz.results65, go_sem, noStr]) rfl ⟨by rw [HV.out], Below.refl _ _⟩
  | true =>
    cases whole with
    | false =>
      have HV : Hid (resS (toldS n false form unit true) = .tuple #[.string noStr, .bool false]) := Lib.hid (by rw [HS.out]; rfl)
      go_enter Tryz.func65, Tryz.ntmps65
      go_wp2_with fail
      exact bodyPost_ret (v := .tuple #[.string noStr, .bool false]) (by simp [results, Tryz.results65, go_sem, noStr]) rfl ⟨by rw [HV.out], Below.refl _ _⟩
    | true =>
      by_cases hn : n < 0
      · cases sf with
        | true =>
          have HV : Hid (resS (toldS n true form unit true) = .tuple #[.string noStr, .bool false]) := Lib.hid (by rw [HS.out, decide_eq_true hn]; rfl)
          go_enter Tryz.func65, Tryz.ntmps65
          go_wp2_with fail
          refine (HX w).mono ?_
          rintro e w1 ⟨rfl, rfl⟩
          go_wp2_with fail
          exact bodyPost_ret (v := .tuple #[.string noStr, .bool false]) (by simp [results, Tryz.results65, go_sem, noStr]) rfl ⟨by rw [HV.out], Below.refl _ _⟩
        | false =>
          have HV : Hid (resS (toldS n true form unit true) = .tuple #[.string (z ++ unit), .bool true]) := Lib.hid (by rw [HS.out, decide_eq_true hn]; rfl)
          go_enter Tryz.func65, Tryz.ntmps65
          go_wp2_with fail
          refine (HX w).mono ?_
          rintro e w1 ⟨rfl, rfl⟩
          go_wp2_with fail
          refine HI.out.mono ?_
          rintro e w2 ⟨rfl, hb2⟩
          go_wp2_with fail
          exact bodyPost_ret (v := .tuple #[.string (z ++ unit), .bool true]) (by simp [results, Tryz.results65, go_sem]) rfl ⟨by rw [HV.out], hb2⟩
      · have HV : Hid (resS (toldS n true form unit true) = .tuple #[.string (z ++ unit), .bool true]) := Lib.hid (by rw [HS.out, decide_eq_false hn]; rfl)
        go_enter Tryz.func65, Tryz.ntmps65
        go_wp2_with fail
        refine HI.out.mono ?_
        rintro e w2 ⟨rfl, hb2⟩
        go_wp2_with fail
        exact bodyPost_ret (v := .tuple #[.string (z ++ unit), .bool true]) (by simp [results, Tryz.results65, go_sem]) rfl ⟨by rw [HV.out], hb2⟩
theorem toList_lit (z c : ByteArray) (l : List UInt8) (h : c.data.toList = l) : (z.toList == l) = eqB z c := by
  subst h
  rw [ByteArray.toList_eq]
  unfold eqB
  exact Bool.eq_iff_iff.2 (by simp)
def pxS : ByteArray := ⟨#[112, 120]⟩
def lengthS (t : Tok) (n : Int) : Bool := if t.k = 12 then eqB (fold t.u) pxS else (decide (t.k = 10) && decide (n = 0))
set_option maxHeartbeats 1000000 in
theorem length_any (t : Tok) (n : Int) (hu : t.u.size ≤ 4294967295) (w : World) :
    Calls Tryz.prog 68 #[.agg #[.int .i64 t.k, .string t.t, .string t.u, .bool t.wh, .bool t.fl], .int .i64 n] w fun e w' => e = .returned (.bool (lengthS t n)) ∧ Below w.heap.size w w' := by
  by_cases h : t.k = 12
  · have HL : Hid (lengthS t n = eqB (fold t.u) pxS) := Lib.hid (if_pos h)
    go_enter Tryz.func68, Tryz.ntmps68
    go_wp2_with fail
    refine (Fold_any _ _ hu).mono ?_
    rintro e w1 ⟨rfl, hb1⟩
    obtain ⟨z, hz⟩ : ∃ z, fold t.u = z := ⟨_, rfl⟩
    rw [hz] at HL ⊢
    clear hz
    have hne : (z.toList == [112, 120]) = eqB z pxS := toList_lit z pxS _ rfl
    go_wp2_with fail
    go_ret
    exact ⟨congrArg (fun b => Ending.returned (Value.bool b)) (by rw [HL.out]), bNext (bAlloc1 _ _) hb1⟩
  · have HL : Hid (lengthS t n = (decide (t.k = 10) && decide (n = 0))) := Lib.hid (if_neg h)
    by_cases h10 : t.k = 10
    · have HL2 : Hid (lengthS t n = (n == 0)) := Lib.hid (by rw [HL.out, decide_eq_true h10, Bool.true_and]; exact Bool.eq_iff_iff.2 (by simp))
      go_enter Tryz.func68, Tryz.ntmps68
      go_wp2_with fail
      go_ret
      exact ⟨congrArg (fun b => Ending.returned (Value.bool b)) (by rw [HL2.out]), bAlloc1 _ _⟩
    · have HL2 : Hid (lengthS t n = false) := Lib.hid (by rw [HL.out, decide_eq_false h10, Bool.false_and])
      go_enter Tryz.func68, Tryz.ntmps68
      go_wp2_with fail
      go_ret
      exact ⟨congrArg (fun b => Ending.returned (Value.bool b)) (by rw [HL2.out]), bAlloc1 _ _⟩
end Go.Proofs.YtpadcjcoafidgaaGreatDoor
