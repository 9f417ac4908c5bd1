/- gouacheref14: All, Place, Find, Shorts. -/
import Derived.Test.YtpadcjcoafidgaaDoorFind
import Derived.Test.YtpadcjcoafidgaaDoorShorts
namespace Go.Proofs.YtpadcjcoafidgaaDoor
open Go.RowKit

def refAct : Act := { tmps := (Value.slice none 0 0 :: (tbl.map fun r => Value.agg r.cells.toArray)).toArray.push undef, defers := [] }

set_option maxHeartbeats 400000 in
set_option maxRecDepth 100000 in
/-- gouacheref14.All. -/
theorem refAll_any (w : World) :
    Calls Tryd.prog 19 #[] w fun e w' => e = .returned (.slice (some ⟨w.heap.size, 0, none⟩) 48 48) ∧ w' = w.alloc (.cells tblCells 35) := by
  refine calls_of_wp Tryd.func19 rfl ?_
  apply wp_seq_k
  intro K1 hK1
  apply wp_region_lit
  refine wpList_exec1 (v := .slice none 0 0) (w' := w) rfl (by kernel_rfl) ?_
  refine wpList_nil (hK1 _ _ ?_)
  clear hK1 K1
  apply wp_seq_k
  intro K1 hK1
  apply wp_region_lit
  refine wpList_builds_at 48 (a' := refAct) (by kernel_rfl) ?_
  refine wpList_exec1 (v := .slice (some ⟨w.heap.size, 0, none⟩) 48 48) (w' := w.alloc (.cells tblCells 35)) rfl (by kernel_rfl) ?_
  refine wpList_exec1 (v := .slice (some ⟨w.heap.size, 0, none⟩) 48 48) (w' := w.alloc (.cells tblCells 35)) rfl (by kernel_rfl) ?_
  refine wpList_nil (hK1 _ _ ?_)
  clear hK1 K1
  apply wp_ret
  exact bodyPost_ret (v := .slice (some ⟨w.heap.size, 0, none⟩) 48 48) (by kernel_rfl) rfl ⟨rfl, rfl⟩

theorem refAll_rows (w : World) :
    Calls Tryd.prog 19 #[] w fun e w' => e = .returned (.slice (some ⟨w.heap.size, 0, none⟩) 48 48) ∧ Holds4 w' w.heap.size 35 tblCells ∧ Below w.heap.size w w' :=
  (refAll_any w).mono fun _ _ ⟨he, hw⟩ => by
    subst hw
    exact ⟨he, heap_alloc_new _ _, below_alloc_new _ _⟩

/-- The cells of the k-th row of a block that holds the table. -/
theorem tbl_cells {W : World} {B : Nat} {t : TypeId} (h : Holds4 W B t tblCells) {k : Nat} (hk : k < 48) :
    W.cell? ⟨B, k * 4, none⟩ = some (.string (rowAt k).1) ∧ W.cell? ⟨B, k * 4 + 1, none⟩ = some (.string (rowAt k).2.1) ∧ W.cell? ⟨B, k * 4 + 2, none⟩ = some (.bool (rowAt k).2.2.1) ∧ W.cell? ⟨B, k * 4 + 3, none⟩ = some (.string (rowAt k).2.2.2) := by
  have hc : ∀ (j : Nat) (x : Value), (rowAt k).cells[j]? = some x → W.cell? ⟨B, k * 4 + j, none⟩ = some x := by
    intro j x hx
    rw [h.cell]
    have := flatten_get (m := 4) tblRows k j x tblRows_len (by rw [rowAt_cells hk]; exact hx)
    simpa [tblCells] using this
  exact ⟨hc 0 _ rfl, hc 1 _ rfl, hc 2 _ rfl, hc 3 _ rfl⟩

theorem noneIs_succ {s : ByteArray} {k : Nat} (h : NoneIs s (upto irAt k)) (hk : ((rowAt k).1 == s) = false) : NoneIs s (upto irAt (k + 1)) := by
  rw [upto_succ]
  exact h.snoc hk
theorem lastIs_at {s : ByteArray} {k : Nat} (h : NoneIs s (upto irAt k)) (hk : ((rowAt k).1 == s) = true) : LastIs s (upto irAt (k + 1)) k :=
  ⟨upto irAt k, irAt k, upto_succ _ _, h, hk, rfl⟩

set_option maxRecDepth 100000 in
set_option maxHeartbeats 1000000 in
/-- gouacheref14.Place: as prop.Place. -/
theorem refPlace_any (s : ByteArray) (w : World) :
    Calls Tryd.prog 14 #[.string s] w fun e w' => e = .returned (.int .i64 (place s)) ∧ Below w.heap.size w w' := by
  go_enter Tryd.func14, Tryd.ntmps14
  go_wp2_with fail
  refine (refAll_rows _).mono ?_
  rintro e w1 ⟨rfl, ht, hb⟩
  have hlt1 : w.heap.size < w1.heap.size := (Array.getElem?_eq_some_iff.1 ht).1
  go_wp2_with fail
  go_loopw [3, 4, 7] (fun _ _ p wr => ∃ k : Nat, k ≤ 48 ∧ p = .int .i64 k ∧ NoneIs s (upto irAt k) ∧ Below w1.heap.size w1 wr)
    (fun _ _ p _ => 48 - (intOf p).toNat)
  case atStart => exact ⟨0, by omega, rfl, fun _ h => (by simp [upto] at h), Below.refl _ _⟩
  case round =>
    obtain ⟨k, hk, rfl, hno, hB⟩ := hrel
    have hbw : Below w.heap.size w wr := hb.trans (hB.mono hb.size)
    have hszw := hbw.size
    by_cases hlt : k < 48
    · obtain ⟨c0, c1, c2, c3⟩ := tbl_cells (W := wr) ((hB.block _ hlt1).trans ht) hlt
      by_cases he : ((rowAt k).1 == s) = true
      · have he' : ((rowAt k).1.toList == s.toList) = true := by rw [← beq_toListBytes]; exact he
        have hp := place_last (k := k + 1) (by omega) (lastIs_at hno he)
        have Hp := Lib.hid hp
        clear he hp
        go_wp2_with fail
        go_ret
        rw [Hp.out]
        exact ⟨rfl, hbw.alloc hszw _⟩
      · have he' : ((rowAt k).1.toList == s.toList) = false := by rw [← beq_toListBytes]; simpa using he
        have He : ((rowAt k).1 == s) = false := by simpa using he
        have HE := Lib.hid He
        clear he He
        go_wp2_with fail
        go_roundw
        case rel => exact ⟨k + 1, by omega, by go_num, noneIs_succ hno HE.out, hB.alloc hB.size _⟩
        case measure => simp [intOf]; omega
    · obtain rfl : k = 48 := by omega
      go_wp2_with fail
      go_ret
      rw [place_none hno]
      exact ⟨rfl, hbw⟩
end Go.Proofs.YtpadcjcoafidgaaDoor
