/- prop.Find, prop.tableAll. -/
import Derived.Test.YtpadcjcoafidgaaGreatDoorPlace
import Derived.Lib.Hide
namespace Go.Proofs.YtpadcjcoafidgaaGreatDoor
open Go.RowKit

theorem placeN_lt {s : ByteArray} {k : Nat} (h : placeN s = some k) : k < 48 := by
  unfold placeN at h
  rw [List.findIdx?_eq_some_iff_getElem] at h
  obtain ⟨hlt, _⟩ := h
  rwa [tbl_length] at hlt
theorem placeN_name {s : ByteArray} {k : Nat} (h : placeN s = some k) : (rowAt k).1 = s := by
  unfold placeN at h
  rw [List.findIdx?_eq_some_iff_getElem] at h
  obtain ⟨hlt, he, _⟩ := h
  rw [rowAt_getElem hlt]
  have h2 : (tbl[k].1.toList == s.toList) = true := by rw [← beq_toListBytes]; exact he
  have h3 : tbl[k].1.toList = s.toList := eq_of_beq h2
  rw [ByteArray.toList_eq, ByteArray.toList_eq] at h3
  cases hs : tbl[k].1
  cases s
  rw [hs] at h3
  simp only at h3
  rw [Array.toList_inj.1 h3]
def noRow : Row := (⟨#[]⟩, ⟨#[]⟩, false, ⟨#[]⟩)
def findRow (s : ByteArray) : Row := match placeN s with | some k => rowAt k | none => noRow

theorem below_alloc_new (w : World) (o : Obj) : Below w.heap.size w (w.alloc o) := (Below.refl _ w).alloc (Nat.le_refl _) o
theorem table_below (w : World) : Calls Tryz.prog 54 #[] w fun e w' => e = .returned (.agg tblCells) ∧ Below w.heap.size w w' :=
  (table_any w).mono fun _ _ ⟨he, hw⟩ => ⟨he, hw ▸ below_alloc_new w _⟩
theorem bcell {W w1 : World} (hb : Below W.heap.size W w1) : (∀ b o, b < W.heap.size → w1.cell? ⟨b, o, none⟩ = W.cell? ⟨b, o, none⟩) ∧ (∀ b o, b < W.heap.size → w1.frozen? ⟨b, o, none⟩ = W.frozen? ⟨b, o, none⟩) :=
  ⟨fun b o h => hb.cell (p := ⟨b, o, none⟩) h, fun b o h => hb.frozen (p := ⟨b, o, none⟩) h⟩

set_option maxHeartbeats 400000 in
theorem Find_no (s : ByteArray) (h : placeN s = none) (w : World) :
    Calls Tryz.prog 52 #[.string s] w fun e w' => e = .returned (.tuple #[noRow.val, .bool false]) ∧ Below w.heap.size w w' := by
  have hp : place s = -1 := by unfold place; rw [h]
  have H := Lib.hid h
  clear h
  go_enter Tryz.func52, Tryz.ntmps52
  go_wp2_with fail
  refine (Place_any s _).mono ?_
  rintro e w1 ⟨rfl, hb⟩
  rw [hp]
  obtain ⟨hc, hf⟩ := bcell hb
  have hz := hb.size
  simp only [World.size_alloc] at hz hc hf
  go_wp2_with fail
  have hB1 : Below w.heap.size w w1 := ((Below.refl _ w).alloc (Nat.le_refl _) _).trans (hb.mono (by simp))
  refine bodyPost_ret (v := .tuple #[noRow.val, .bool false]) ?_ rfl ⟨rfl, (((hB1.setCell (p := ⟨w.heap.size, 0, none⟩) (Nat.le_refl _) _).setCell (p := ⟨w.heap.size, 1, none⟩) (Nat.le_refl _) _).setCell (p := ⟨w.heap.size, 2, none⟩) (Nat.le_refl _) _).setCell (p := ⟨w.heap.size, 3, none⟩) (Nat.le_refl _) _⟩
  simp [results, Tryz.results52, go_sem, hc, noRow]

set_option maxHeartbeats 400000 in
theorem Find_yes (s : ByteArray) (k : Nat) (h : placeN s = some k) (w : World) :
    Calls Tryz.prog 52 #[.string s] w fun e w' => e = .returned (.tuple #[(rowAt k).val, .bool true]) ∧ Below w.heap.size w w' := by
  have hp : place s = k := by unfold place; rw [h]
  have hk := placeN_lt h
  have hix := fun wx => run_index_tbl hk wx
  have H := Lib.hid h
  clear h
  have Hp := Lib.hid hp
  clear hp
  go_enter Tryz.func52, Tryz.ntmps52
  go_wp2_with fail
  refine (Place_any s _).mono ?_
  rintro e w1 ⟨rfl, hb⟩
  rw [Hp.out]
  obtain ⟨hc, hf⟩ := bcell hb
  have hz := hb.size
  simp only [World.size_alloc] at hz hc hf
  have hk0 : ¬ (k : Int) < 0 := by omega
  go_wp2_with fail
  clear hc hf hz
  refine (table_below _).mono ?_
  rintro e w2 ⟨rfl, hb'⟩
  have hb2 := hb.trans (hb'.mono hb.size)
  clear hb' hb
  obtain ⟨hc, hf⟩ := bcell hb2
  have hz := hb2.size
  simp only [World.size_alloc] at hz hc hf
  have hB1 : Below w.heap.size w w2 := ((Below.refl _ w).alloc (Nat.le_refl _) _).trans (hb2.mono (by simp))
  go_wp2_with fail
  refine bodyPost_ret (v := .tuple #[(rowAt k).val, .bool true]) ?_ rfl ⟨rfl, (((hB1.setCell (p := ⟨w.heap.size, 0, none⟩) (Nat.le_refl _) _).setCell (p := ⟨w.heap.size, 1, none⟩) (Nat.le_refl _) _).setCell (p := ⟨w.heap.size, 2, none⟩) (Nat.le_refl _) _).setCell (p := ⟨w.heap.size, 3, none⟩) (Nat.le_refl _) _⟩
  simp [results, Tryz.results52, go_sem, hc]

theorem Find_any (s : ByteArray) (w : World) :
    Calls Tryz.prog 52 #[.string s] w fun e w' => e = .returned (.tuple #[(findRow s).val, .bool (placeN s).isSome]) ∧ Below w.heap.size w w' := by
  unfold findRow
  cases h : placeN s with
  | none => exact Find_no s h w
  | some k => exact Find_yes s k h w
end Go.Proofs.YtpadcjcoafidgaaGreatDoor
