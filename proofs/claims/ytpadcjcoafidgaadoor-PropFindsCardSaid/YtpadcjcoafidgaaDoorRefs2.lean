/- gouacheref14: Find, Shorts, Forms, Longs. -/
import Derived.Test.YtpadcjcoafidgaaDoorRefs
import Derived.Test.YtpadcjcoafidgaaDoorLongs
import Derived.Test.YtpadcjcoafidgaaDoorBar
import Derived.BigQuiet
import Derived.Deep.QuietTactic
namespace Go.Proofs.YtpadcjcoafidgaaDoor
open Go.RowKit

set_option maxHeartbeats 400000 in
theorem refFind_no (s : ByteArray) (h : placeN s = none) (w : World) :
    Calls Tryd.prog 13 #[.string s] w fun e w' => e = .returned (.tuple #[noRow.val, .bool false]) ∧ Below w.heap.size w w' := by
  have hp : place s = -1 := by unfold place; rw [h]
  have Hp := Lib.hid hp
  clear h hp
  go_enter Tryd.func13, Tryd.ntmps13
  go_wp2_with fail
  refine (refPlace_any s _).mono ?_
  rintro e w1 ⟨rfl, hb⟩
  rw [Hp.out]
  obtain ⟨hc, hf⟩ := bcell hb
  have hz := hb.size
  simp only [World.size_alloc] at hz hc hf
  go_wp2_with fail
  have hB1 : Below w.heap.size w w1 := ((Below.refl _ w).alloc (Nat.le_refl _) _).trans (hb.mono (by simp))
  refine bodyPost_ret (v := .tuple #[noRow.val, .bool false]) ?_ rfl ⟨rfl, (((hB1.setCell (p := ⟨w.heap.size, 0, none⟩) (Nat.le_refl _) _).setCell (p := ⟨w.heap.size, 1, none⟩) (Nat.le_refl _) _).setCell (p := ⟨w.heap.size, 2, none⟩) (Nat.le_refl _) _).setCell (p := ⟨w.heap.size, 3, none⟩) (Nat.le_refl _) _⟩
  simp [results, Tryd.results13, go_sem, hc, noRow]

set_option maxHeartbeats 400000 in
theorem refFind_yes (s : ByteArray) (k : Nat) (h : placeN s = some k) (w : World) :
    Calls Tryd.prog 13 #[.string s] w fun e w' => e = .returned (.tuple #[(rowAt k).val, .bool true]) ∧ Below w.heap.size w w' := by
  have hp : place s = k := by unfold place; rw [h]
  have hk := placeN_lt h
  have Hp := Lib.hid hp
  clear h hp
  go_enter Tryd.func13, Tryd.ntmps13
  go_wp2_with fail
  refine (refPlace_any s _).mono ?_
  rintro e w1 ⟨rfl, hb⟩
  rw [Hp.out]
  have hk0 : ¬ (k : Int) < 0 := by omega
  go_wp2_with fail
  refine (refAll_rows _).mono ?_
  rintro e w2 ⟨rfl, ht, hb'⟩
  obtain ⟨c0, c1, c2, c3⟩ := tbl_cells ht hk
  have hb2 := hb.trans (hb'.mono hb.size)
  clear hb' hb ht
  obtain ⟨hc, hf⟩ := bcell hb2
  have hz := hb2.size
  simp only [World.size_alloc] at hz hc hf
  have hB1 : Below w.heap.size w w2 := ((Below.refl _ w).alloc (Nat.le_refl _) _).trans (hb2.mono (by simp))
  go_wp2_with fail
  refine bodyPost_ret (v := .tuple #[(rowAt k).val, .bool true]) ?_ rfl ⟨rfl, (((hB1.setCell (p := ⟨w.heap.size, 0, none⟩) (Nat.le_refl _) _).setCell (p := ⟨w.heap.size, 1, none⟩) (Nat.le_refl _) _).setCell (p := ⟨w.heap.size, 2, none⟩) (Nat.le_refl _) _).setCell (p := ⟨w.heap.size, 3, none⟩) (Nat.le_refl _) _⟩
  simp [results, Tryd.results13, go_sem, hc]

theorem refFind_any (s : ByteArray) (w : World) :
    Calls Tryd.prog 13 #[.string s] w fun e w' => e = .returned (.tuple #[(findRow s).val, .bool (placeN s).isSome]) ∧ Below w.heap.size w w' := by
  unfold findRow
  cases h : placeN s with
  | none => exact refFind_no s h w
  | some k => exact refFind_yes s k h w

set_option maxHeartbeats 400000 in
theorem refShorts_any (w : World) :
    Calls Tryd.prog 20 #[] w fun e w' => ∃ v, e = .returned v ∧ Strs w.heap.size w' v (shortsTbl.map (·.1)) ∧ Below w.heap.size w w' := by
  have h : Calls Tryd.prog 20 #[] w fun e w' => e = .returned (.slice (some ⟨w.heap.size, 0, none⟩) 6 6) ∧ w' = w.alloc (.cells ((shortsTbl.map (·.1)).map Value.string).toArray 9) := by
    go_enter Tryd.func20, Tryd.ntmps20
    go_wp2
    go_ret
    exact ⟨rfl, rfl⟩
  refine h.mono fun e w' ⟨he, hw⟩ => ?_
  subst hw
  exact ⟨_, he, Strs.new w (shortsTbl.map (·.1)) 9 (by unfold maxLen; decide), below_alloc_new _ _⟩
end Go.Proofs.YtpadcjcoafidgaaDoor
