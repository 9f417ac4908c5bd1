/- prop.All. -/
import Derived.Test.YtpadcjcoafidgaaGreatDoorLongs
namespace Go.Proofs.YtpadcjcoafidgaaGreatDoor
open Go.RowKit

theorem infoRow : (Tryz.prog.info? 39).map (fun i => (i.zero, i.size, i.bytes)) = some (some (.agg #[.string ⟨#[]⟩, .string ⟨#[]⟩, .bool false, .string ⟨#[]⟩]), 4, 56) := by kernel_rfl
theorem row_oneCell (r : Row) : ∀ u ∈ r.cells, u.oneCell' = true := by
  intro u hu
  simp only [Row.cells, List.mem_cons, List.mem_nil_iff, or_false] at hu
  rcases hu with rfl | rfl | rfl | rfl <;> rfl
def rUpto (k : Nat) : List (List Value) := tblRows.take k
theorem rUpto_succ {k : Nat} (h : k < 48) : rUpto (k + 1) = rUpto k ++ [(rowAt k).cells] := by
  have hk : k < tblRows.length := by simp [tblRows, tbl_length]; exact h
  unfold rUpto
  rw [List.take_succ_eq_append_getElem hk]
  have := rowAt_cells h
  rw [List.getElem?_eq_getElem hk] at this
  simp only [Option.getD_some] at this
  rw [this]
theorem rUpto_len {k : Nat} (h : k ≤ 48) : (rUpto k).length = k := by
  simp [rUpto, tblRows, tbl_length, h]
theorem rUpto_flat {k : Nat} (h : k < 48) : (rUpto (k + 1)).flatten = (rUpto k).flatten ++ (rowAt k).cells := by
  rw [rUpto_succ h]
  simp

set_option maxRecDepth 100000 in
set_option maxHeartbeats 2000000 in
/-- prop.All. -/
theorem All_any (w : World) :
    Calls Tryz.prog 17 #[] w fun e w' => ∃ v, e = .returned v ∧ Rws w.heap.size w' 4 v tblRows ∧ Below w.heap.size w w' := by
  obtain ⟨i0, hi, hz0, hz1, hz2⟩ := info_parts infoRow
  have Hi := Lib.hid hi
  clear hi
  have Hz0 := Lib.hid hz0
  clear hz0
  have Hz1 := Lib.hid hz1
  clear hz1
  have Hz2 := Lib.hid hz2
  clear hz2
  go_enter Tryz.func17, Tryz.ntmps17
  go_wp2_with fail
  refine (table_below _).mono ?_
  rintro e w1 ⟨rfl, hb1⟩
  go_wp2_with (refine wpList_make_own _ rfl _ _ 36 rfl w.heap.size 39 i0 _ 4 Tryz.underlying36 Hi.out Hz0.out Hz1.out .i64 .i64 48 48 rfl rfl rfl (by rw [Hz2.out]; omega) (by unfold maxLen; omega) hb1.size ?_; intro w2 hown hg2)
  refine (table_below _).mono ?_
  rintro e w3 ⟨rfl, hb3⟩
  have hB2 : Below w.heap.size w w2 := hb1.grown hg2 hb1.size (fun k e => by cases e)
  have hown3 := ownsRow_below hown hb3 (Nat.le_refl _)
  have hB3 : Below w.heap.size w w3 := hB2.trans (hb3.mono hB2.size)
  go_wp2_with fail
  go_loopw [1, 3, 8] (fun v _ i wr => ∃ k : Nat, k ≤ 48 ∧ i = .int .i64 k ∧ wr.ownsRow w.heap.size 39 4 v k (rUpto k).flatten ∧ Below w.heap.size w wr)
    (fun _ _ i _ => 48 - (intOf i).toNat)
  case atStart => exact ⟨0, by omega, rfl, hown3, hB3⟩
  case round =>
    obtain ⟨k, hk, rfl, hownr, hB⟩ := hrel
    by_cases hlt : k < 48
    · have hix := fun wx => run_index_tbl hlt wx
      have hsz := hB.size
      have H1 := rUpto_flat hlt
      have Hflat := Lib.hid H1
      clear H1
      go_wp2_with (at_builtin; refine wpList_append_own _ rfl _ _ 36 rfl w.heap.size 39 i0 (.agg #[.string ⟨#[]⟩, .string ⟨#[]⟩, .bool false, .string ⟨#[]⟩]) 4 56 Tryz.underlying36 Hi.out Hz0.out Hz1.out Hz2.out rfl (by decide) _ k _ rfl ((hownr.alloc _).alloc _) ⟨wr.heap.size + 1, 0, none⟩ 1 1 (rowAt k).cells rfl rfl (cells_new2 wr _ (rowAt k).cells _) (row_oneCell _) (by unfold maxLen; omega) (by omega) (by simp; omega) ?_; intro v' w4 hown' hgrow hne)
      have hB4 : Below w.heap.size w w4 := ((hB.alloc hsz _).alloc (by simp; omega) _).grown hgrow (by simp; omega) (fun j e => (hownr.lt j e).1)
      go_roundw
      case rel => exact ⟨k + 1, by omega, by go_num, by rw [Hflat.out]; exact hown', hB4⟩
      case measure => simp [intOf]; omega
    · obtain rfl : k = 48 := by omega
      go_wp2_with fail
      go_ret
      have h48 : rUpto 48 = tblRows := List.take_of_length_le (by simp [tblRows, tbl_length])
      rw [h48] at hownr
      exact ⟨_, rfl, Rws.of_owns hownr rfl (by simp [tblRows, tbl_length]) tblRows_len, hB⟩
end Go.Proofs.YtpadcjcoafidgaaGreatDoor
