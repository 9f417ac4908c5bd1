/- value.Part's own told; value.length. -/
import Derived.Test.YtpadcjcoafidgaaGreatDoorColor
import Derived.Lib.AppendIntMem
import Derived.Lib.LaidTab
import Derived.Lib.ItoaLen
namespace Go.Proofs.YtpadcjcoafidgaaGreatDoor
open Go.RowKit

/-- The listed variables lie as the program's text lays them. -/
structure Base (w : World) : Prop where
  col : ColoursIn w
  pow : Lib.TabIs Tryz.prog w "internal/strconv.uint64pow10" .u64 Lib.pow10Tab
theorem Base.next {w w' : World} (h : Base w) (hb : Below w.heap.size w w') : Base w' := by
  refine ⟨h.col.next hb, ?_⟩
  have hg : Tryz.prog.globalNamed "internal/strconv.uint64pow10" = some 4 := by kernel_rfl
  have h2 := h.pow
  unfold Lib.TabIs World.var? at h2 ⊢
  rw [hg] at h2 ⊢
  simp only [Option.bind_some] at h2 ⊢
  have hlt : 4 < w.heap.size := by
    rcases Nat.lt_or_ge 4 w.heap.size with h' | h'
    · exact h'
    · rw [Array.getElem?_eq_none h'] at h2; cases h2
  rw [hb.block _ hlt]
  exact h2
/-- The decimal digits of a number of at most f of them. -/
def decC : Nat → Nat → List UInt8
  | 0, _ => []
  | f + 1, u => if u < 10 then [UInt8.ofNat (48 + u)] else decC f (u / 10) ++ [UInt8.ofNat (48 + u % 10)]
theorem decC_eq : ∀ (f u : Nat), u < 10 ^ f → decC f u = (if f = 0 then [] else Lib.decDigits u)
  | 0, u, h => rfl
  | f + 1, u, h => by
    rw [if_neg (by omega), decC, Lib.decDigits]
    by_cases hu : u < 10
    · rw [if_pos hu, dif_pos hu]
    · rw [if_neg hu, dif_neg hu]
      have h2 : u / 10 < 10 ^ f := by rw [Nat.pow_succ] at h; omega
      rw [decC_eq f _ h2]
      cases f with
      | zero => simp at h2; omega
      | succ f => rw [if_neg (by omega)]
def itoaC (n : Int) : List UInt8 := if n < 0 then 45 :: decC 8 n.natAbs else decC 8 n.toNat
theorem itoaC_eq (n : Int) (h0 : -1000000 ≤ n) (h1 : n ≤ 1000000) : Lib.itoa n = itoaC n := by
  unfold Lib.itoa itoaC
  rw [decC_eq 8 _ (by omega), decC_eq 8 _ (by omega)]
  rfl
def itoaS (n : Int) : ByteArray := ⟨(itoaC n).toArray⟩
theorem Itoa_any (n : Int) (h0 : -1000000 ≤ n) (h1 : n ≤ 1000000) (w : World) (hB : Base w) :
    Calls Tryz.prog 67 #[.int .i64 n] w fun e w' => e = .returned (.string (itoaS n)) ∧ Below w.heap.size w w' :=
  (Tryz.strconv_Itoa n (by omega) (by omega) w hB.pow).mono fun _ _ ⟨he, k, os, hw⟩ => ⟨by rw [he, itoaC_eq n h0 h1]; rfl, by rw [hw]; exact Lib.below_grow _ w (Nat.le_refl _) k os⟩
def plusG : ByteArray := ⟨#[43, 62]⟩
def toldS (n : Int) (whole : Bool) (form unit : ByteArray) (is : Bool) : Option ByteArray :=
  if (is && whole && !(decide (n < 0) && Lib.hasSuffix form.data.toList plusG.data.toList)) = true then some (itoaS n ++ unit) else none
set_option maxRecDepth 100000 in
set_option maxHeartbeats 1000000 in
theorem told_any (w : World) (hB : Base w) (unit form : ByteArray) (is whole : Bool) (n : Int) (h0 : -1000000 ≤ n) (h1 : n ≤ 1000000) (hu : unit.size ≤ 100) (hf : form.size ≤ 9223372036854775807) (a b c : Nat)
    (ca : w.cell? ⟨a, 0, none⟩ = some (.bool whole)) (cb : w.cell? ⟨b, 0, none⟩ = some (.int .i64 n)) (cc : w.cell? ⟨c, 0, none⟩ = some (.string form)) :
    Calls Tryz.prog 65 #[.string unit, .bool is, .pointer (some ⟨a, 0, none⟩), .pointer (some ⟨b, 0, none⟩), .pointer (some ⟨c, 0, none⟩)] w fun e w' => e = .returned (resS (toldS n whole form unit is)) ∧ Below w.heap.size w w' := by
  have HB := Lib.hid hB
  have hi := Itoa_any n (by omega) (by omega) w hB
  have HI := Lib.hid hi
  have hz : ((itoaS n).size : Int) ≤ 1000 := by
    have h := Lib.itoa_length_le n (by omega) (by omega)
    rw [itoaC_eq n h0 h1] at h
    have e : (itoaS n).size = (itoaC n).length := rfl
    omega
  have hu' : (unit.size : Int) ≤ 100 := by omega
  have HS : Hid (resS (toldS n whole form unit is) = if (is && whole && !(decide (n < 0) && Lib.hasSuffix form.data.toList plusG.data.toList)) = true then .tuple #[.string (itoaS n ++ unit), .bool true] else .tuple #[.string noStr, .bool false]) := Lib.hid (by unfold toldS; split <;> rfl)
  have HX := fun W => Tryz.strings_HasSuffix form plusG W hf
  obtain ⟨sf, hsf⟩ : ∃ s, Lib.hasSuffix form.data.toList plusG.data.toList = s := ⟨_, rfl⟩
  rw [hsf] at HS
  simp only [hsf] at HX
  clear hB hi hsf
  obtain ⟨z, hzz⟩ : ∃ z, itoaS n = z := ⟨_, rfl⟩
  rw [hzz] at HI HS hz
  clear hzz
  cases is with
  | false =>
    have HV : Hid (resS (toldS n whole form unit false) = .tuple #[.string noStr, .bool false]) := Lib.hid (by rw [HS.out]; rfl)
    go_enter Tryz.func65, Tryz.ntmps65
    go_wp2_with fail
    exact bodyPost_ret (v := .tuple #[.string noStr, .bool false]) (by simp [results, Tryz.results65, go_sem, noStr]) rfl ⟨by rw [HV.out], Below.refl _ _⟩
  | true =>
    cases whole with
    | false =>
      have HV : Hid (resS (toldS n false form unit true) = .tuple #[.string noStr, .bool false]) := Lib.hid (by rw [HS.out]; rfl)
      go_enter Tryz.func65, Tryz.ntmps65
      go_wp2_with fail
      exact bodyPost_ret (v := .tuple #[.string noStr, .bool false]) (by simp [results, Tryz.results65, go_sem, noStr]) rfl ⟨by rw [HV.out], Below.refl _ _⟩
    | true =>
      by_cases hn : n < 0
      · cases sf with
        | true =>
          have HV : Hid (resS (toldS n true form unit true) = .tuple #[.string noStr, .bool false]) := Lib.hid (by rw [HS.out, decide_eq_true hn]; rfl)
          go_enter Tryz.func65, Tryz.ntmps65
          go_wp2_with fail
          refine (HX w).mono ?_
          rintro e w1 ⟨rfl, rfl⟩
          go_wp2_with fail
          exact bodyPost_ret (v := .tuple #[.string noStr, .bool false]) (by simp [results, Tryz.results65, go_sem, noStr]) rfl ⟨by rw [HV.out], Below.refl _ _⟩
        | false =>
          have HV : Hid (resS (toldS n true form unit true) = .tuple #[.string (z ++ unit), .bool true]) := Lib.hid (by rw [HS.out, decide_eq_true hn]; rfl)
          go_enter Tryz.func65, Tryz.ntmps65
          go_wp2_with fail
          refine (HX w).mono ?_
          rintro e w1 ⟨rfl, rfl⟩
          go_wp2_with fail
          refine HI.out.mono ?_
          rintro e w2 ⟨rfl, hb2⟩
          go_wp2_with fail
          exact bodyPost_ret (v := .tuple #[.string (z ++ unit), .bool true]) (by simp [results, Tryz.results65, go_sem]) rfl ⟨by rw [HV.out], hb2⟩
      · have HV : Hid (resS (toldS n true form unit true) = .tuple #[.string (z ++ unit), .bool true]) := Lib.hid (by rw [HS.out, decide_eq_false hn]; rfl)
        go_enter Tryz.func65, Tryz.ntmps65
        go_wp2_with fail
        refine HI.out.mono ?_
        rintro e w2 ⟨rfl, hb2⟩
        go_wp2_with fail
        exact bodyPost_ret (v := .tuple #[.string (z ++ unit), .bool true]) (by simp [results, Tryz.results65, go_sem]) rfl ⟨by rw [HV.out], hb2⟩
theorem toList_lit (z c : ByteArray) (l : List UInt8) (h : c.data.toList = l) : (z.toList == l) = eqB z c := by
  subst h
  rw [ByteArray.toList_eq]
  unfold eqB
  exact Bool.eq_iff_iff.2 (by simp)
def pxS : ByteArray := ⟨#[112, 120]⟩
def lengthS (t : Tok) (n : Int) : Bool := if t.k = 12 then eqB (fold t.u) pxS else (decide (t.k = 10) && decide (n = 0))
set_option maxHeartbeats 1000000 in
theorem length_any (t : Tok) (n : Int) (hu : t.u.size ≤ 4294967295) (w : World) :
    Calls Tryz.prog 68 #[.agg #[.int .i64 t.k, .string t.t, .string t.u, .bool t.wh, .bool t.fl], .int .i64 n] w fun e w' => e = .returned (.bool (lengthS t n)) ∧ Below w.heap.size w w' := by
  by_cases h : t.k = 12
  · have HL : Hid (lengthS t n = eqB (fold t.u) pxS) := Lib.hid (if_pos h)
    go_enter Tryz.func68, Tryz.ntmps68
    go_wp2_with fail
    refine (Fold_any _ _ hu).mono ?_
    rintro e w1 ⟨rfl, hb1⟩
    obtain ⟨z, hz⟩ : ∃ z, fold t.u = z := ⟨_, rfl⟩
    rw [hz] at HL ⊢
    clear hz
    have hne : (z.toList == [112, 120]) = eqB z pxS := toList_lit z pxS _ rfl
    go_wp2_with fail
    go_ret
    exact ⟨congrArg (fun b => Ending.returned (Value.bool b)) (by rw [HL.out]), bNext (bAlloc1 _ _) hb1⟩
  · have HL : Hid (lengthS t n = (decide (t.k = 10) && decide (n = 0))) := Lib.hid (if_neg h)
    by_cases h10 : t.k = 10
    · have HL2 : Hid (lengthS t n = (n == 0)) := Lib.hid (by rw [HL.out, decide_eq_true h10, Bool.true_and]; exact Bool.eq_iff_iff.2 (by simp))
      go_enter Tryz.func68, Tryz.ntmps68
      go_wp2_with fail
      go_ret
      exact ⟨congrArg (fun b => Ending.returned (Value.bool b)) (by rw [HL2.out]), bAlloc1 _ _⟩
    · have HL2 : Hid (lengthS t n = false) := Lib.hid (by rw [HL.out, decide_eq_false h10, Bool.false_and])
      go_enter Tryz.func68, Tryz.ntmps68
      go_wp2_with fail
      go_ret
      exact ⟨congrArg (fun b => Ending.returned (Value.bool b)) (by rw [HL2.out]), bAlloc1 _ _⟩
end Go.Proofs.YtpadcjcoafidgaaGreatDoor
