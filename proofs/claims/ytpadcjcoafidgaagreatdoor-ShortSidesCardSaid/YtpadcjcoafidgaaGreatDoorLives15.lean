/- gouachelaw15.lives. -/
import Derived.Test.YtpadcjcoafidgaaGreatDoorTextParse
namespace Go.Proofs.YtpadcjcoafidgaaGreatDoor
open Go.RowKit

theorem eqB_self (a : ByteArray) : eqB a a = true := (eqB_iff a a).2 rfl
set_option maxRecDepth 100000 in
set_option maxHeartbeats 4000000 in
theorem lives15_any (w : World) (hB : Base w) :
    Calls Tryz.prog 12 #[] w fun e w' => e = .returned (.bool true) ∧ Below w.heap.size w w' := by
  have HB := Lib.hid hB
  clear hB
  go_enter Tryz.func12, Tryz.ntmps12
  go_wp2_with fail
  refine (values15_any w t10PX _ (Lexes.of live1.1)).mono ?_
  rintro e w1 ⟨v1, rfl, hv1, hb1⟩
  go_wp2_with fail
  refine (Parse_any w1 (HB.out.next hb1) aWidth v1 _ hv1 (fits_of live1.1)).mono ?_
  rintro e w2 ⟨rfl, hb2⟩
  rw [show parseS aWidth ((toksOf t10PX).map Val.of) = some r10px from someEq_iff live1.2]
  simp only [resS]
  have hB2 := bNext hb1 hb2
  clear hv1 hb1 hb2
  go_wp2_with fail
  refine (values15_any w2 tm1px _ (Lexes.of live2.1)).mono ?_
  rintro e w3 ⟨v3, rfl, hv3, hb3⟩
  have hB3 := bNext hB2 hb3
  go_wp2_with fail
  refine (Parse_any w3 (HB.out.next hB3) aWidth v3 _ hv3 (fits_of live2.1)).mono ?_
  rintro e w4 ⟨rfl, hb4⟩
  rw [show parseS aWidth ((toksOf tm1px).map Val.of) = none from Option.isNone_iff_eq_none.1 live2.2]
  simp only [resS]
  have hB4 := bNext hB3 hb4
  clear hv3 hb3 hb4 hB3
  go_wp2_with fail
  refine (values15_any w4 tF00 _ (Lexes.of live3.1)).mono ?_
  rintro e w5 ⟨v5, rfl, hv5, hb5⟩
  have hB5 := bNext hB4 hb5
  go_wp2_with fail
  refine (Parse_any w5 (HB.out.next hB5) aColor v5 _ hv5 (fits_of live3.1)).mono ?_
  rintro e w6 ⟨rfl, hb6⟩
  rw [show parseS aColor ((toksOf tF00).map Val.of) = some rff0000 from someEq_iff live3.2]
  simp only [resS]
  have hB6 := bNext hB5 hb6
  clear hv5 hb5 hb6 hB5
  go_wp2_with fail
  refine (values15_any w6 t0 _ (Lexes.of live4.1)).mono ?_
  rintro e w7 ⟨v7, rfl, hv7, hb7⟩
  have hB7 := bNext hB6 hb7
  go_wp2_with fail
  refine (Parse_any w7 (HB.out.next hB7) aMarginTop v7 _ hv7 (fits_of live4.1)).mono ?_
  rintro e w8 ⟨rfl, hb8⟩
  rw [show parseS aMarginTop ((toksOf t0).map Val.of) = some r0px from someEq_iff live4.2]
  simp only [resS]
  have hB8 := bNext hB7 hb8
  clear hv7 hb7 hb8 hB7
  have e1 : (r10px.toList == [49, 48, 112, 120]) = true := (toList_lit r10px r10px _ rfl).trans (eqB_self _)
  have e2 : (rff0000.toList == [35, 102, 102, 48, 48, 48, 48]) = true := (toList_lit rff0000 rff0000 _ rfl).trans (eqB_self _)
  have e3 : (r0px.toList == [48, 112, 120]) = true := (toList_lit r0px r0px _ rfl).trans (eqB_self _)
  go_wp2_with fail
  go_ret
  exact ⟨rfl, hB8⟩
end Go.Proofs.YtpadcjcoafidgaaGreatDoor
