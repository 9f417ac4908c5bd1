/- The walk of gouachelaw15.ValueInitial: it returns true, whatever the number. -/
import Derived.Test.YtpadcjcoafidgaaGreatDoorLives15
import Derived.Test.YtpadcjcoafidgaaGreatDoorAll
import Derived.Deep.RegionHeld3
namespace Go.Proofs.YtpadcjcoafidgaaGreatDoor
open Go.RowKit

theorem strs_eq_self (a : ByteArray) : (a.toList == a.toList) = true := by simp
set_option maxRecDepth 100000 in
set_option maxHeartbeats 4000000 in
theorem valueInitial_walk (n : Int) (hn : 0 ≤ n) (w : World) (hB : Base w) :
    Calls Tryz.prog 4 #[.int .u64 n] w fun e w' => e = .returned (.bool true) ∧ Below w.heap.size w w' := by
  have HB := Lib.hid hB
  clear hB
  go_enter Tryz.func4, Tryz.ntmps4
  go_wp2_with fail
  refine (All_any _).mono ?_
  rintro e w1 ⟨v1, rfl, hv1, hb1⟩
  obtain ⟨b1, o1, c1, rfl, _, hlt1, hc1⟩ := hv1.shape (by decide)
  obtain ⟨j, hj⟩ : ∃ j : Nat, n % 48 = j := ⟨(n % 48).toNat, by omega⟩
  have hj48 : j < 48 := by omega
  have hcell := fun q z hx => hc1 j q z (by rw [rowAt_cells hj48]; exact hx)
  have x0 : w1.cell? ⟨b1, o1 + j * 4, none⟩ = some (.string (rowAt j).1) := hcell 0 _ rfl
  have x1 : w1.cell? ⟨b1, o1 + j * 4 + 1, none⟩ = some (.string (rowAt j).2.1) := hcell 1 _ rfl
  have x2 : w1.cell? ⟨b1, o1 + j * 4 + 2, none⟩ = some (.bool (rowAt j).2.2.1) := hcell 2 _ rfl
  have x3 : w1.cell? ⟨b1, o1 + j * 4 + 3, none⟩ = some (.string (rowAt j).2.2.2) := hcell 3 _ rfl
  have hini := init_all ⟨j, hj48⟩
  simp only [initOk, Bool.and_eq_true] at hini
  obtain ⟨hl, hs⟩ := hini
  have hs2 := someEq_iff hs
  obtain ⟨⟨nm, ini, inh, fm⟩, hr⟩ : ∃ r, rowAt j = r := ⟨_, rfl⟩
  rw [hr] at x0 x1 x2 x3 hl hs2
  simp only at x0 x1 x2 x3 hl hs2
  have HS := Lib.hid hs2
  have l1 : tblRows.length = 48 := by simp [tblRows, tbl_length]
  simp only [l1]
  clear hc1 hcell hv1 l1 hs hs2 hr
  have q1 : (0 : Int) ≤ (j : Int) := by omega
  have q2 : (j : Int) < 48 := by omega
  go_wp2_with fail
  have hB2 := bNext hb1 (bAlloc1 w1 (.cells #[.string nm, .string ini, .bool inh, .string fm] 39))
  have HO := Own.new w1 #[.string nm, .string ini, .bool inh, .string fm] 39
  obtain ⟨W2, hW2⟩ : ∃ W2, w1.alloc (.cells #[.string nm, .string ini, .bool inh, .string fm] 39) = W2 := ⟨_, rfl⟩
  obtain ⟨k2, hk2⟩ : ∃ k, w1.heap.size = k := ⟨_, rfl⟩
  rw [hW2] at hB2 HO ⊢
  rw [hk2] at HO ⊢
  have y0 : W2.cell? ⟨k2, 0, none⟩ = some (.string nm) := HO.m 0
  have y1 : W2.cell? ⟨k2, 0 + 1, none⟩ = some (.string ini) := HO.m 1
  have HB2 := Lib.hid (HB.out.next hB2)
  clear x0 x1 x2 x3 hW2 hk2 HO hlt1
  go_region_held3 (fun w' => w'.cell? ⟨k2, 0, none⟩ = some (.string nm) ∧ w'.cell? ⟨k2, 0 + 1, none⟩ = some (.string ini)) (go_keep)
    (first
      | (go_at_call 14; ((with_reducible refine (values15_any _ ini _ (Lexes.of hl)).mono ?_); rintro e w3 ⟨v3, rfl, hv3, hb3⟩; have y30 := cell_later ((below_drew' W2).trans hb3) y0; have y31 := cell_later ((below_drew' W2).trans hb3) y1; have HB3 := HB2.out.next (bNext (below_drew' W2) hb3)))
      | (go_at_call 16; ((with_reducible refine (Parse_any _ HB3 nm _ _ hv3 (fits_of hl)).mono ?_); rintro e w4 ⟨he4, hb4⟩; rw [show parseS nm ((toksOf ini).map Val.of) = some ini from HS.out] at he4; subst he4; simp only [resS]; have y40 := cell_later hb4 y30; have y41 := cell_later hb4 y31; have HB4 := HB3.next hb4)))
  have hB4 := bNext (bNext (bNext hB2 (below_drew' W2)) hb3) hb4
  have HB4' := Lib.hid HB4
  have e1 := strs_eq_self ini
  clear y0 y1 y30 y31 hb3 hb4 hv3 HB3 HB4 HB2 hB2 hb1
  go_wp2_with fail
  refine (values15_any w4 tINHERIT _ (Lexes.of live5.1)).mono ?_
  rintro e w5 ⟨v5, rfl, hv5, hb5⟩
  have hB5 := bNext hB4 hb5
  have HB5 := Lib.hid (HB4'.out.next hb5)
  go_wp2_with fail
  refine (Wide_any w5 v5 _ hv5 (fits_of live5.1)).mono ?_
  rintro e w6 ⟨rfl, hb6⟩
  have HB6 := Lib.hid (HB5.out.next hb6)
  have hB6 := bNext hB5 hb6
  rw [show wideS ((toksOf tINHERIT).map Val.of) = rinherit from (eqB_iff _ _).1 live5.2]
  have e2 : (rinherit.toList == [105, 110, 104, 101, 114, 105, 116]) = true := (toList_lit rinherit rinherit _ rfl).trans (eqB_self _)
  clear hv5 hb5 hb6 y40 y41
  go_wp2_with fail
  refine (lives15_any w6 HB6.out).mono ?_
  rintro e w7 ⟨rfl, hb7⟩
  go_wp2_with fail
  go_ret
  exact ⟨rfl, bNext hB6 hb7⟩
end Go.Proofs.YtpadcjcoafidgaaGreatDoor
