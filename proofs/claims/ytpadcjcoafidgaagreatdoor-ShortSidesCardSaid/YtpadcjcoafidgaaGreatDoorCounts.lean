/- reader.counts: does a number begin here? -/
import Derived.Test.YtpadcjcoafidgaaGreatDoorReader
namespace Go.Proofs.YtpadcjcoafidgaaGreatDoor
open Go.RowKit

set_option maxRecDepth 100000 in
set_option maxHeartbeats 2000000 in
theorem counts_any (w : World) (b : Nat) (rv : Value) (rs : List Int) (i : Nat) (h : Rd w b rv rs i) (ht : Tame rs) :
    Calls Tryz.prog 129 #[.pointer (some ⟨b, 0, none⟩)] w fun e w' => (e = .returned (.bool (counts (rs.drop i)))) ∧ Below w.heap.size w w' := by
  have H := Lib.hid h
  have T := Lib.hid ht
  clear h ht
  obtain ⟨c, hc⟩ : ∃ c, at_ rs (i + 0) = c := ⟨_, rfl⟩
  obtain ⟨d, hd⟩ : ∃ c, at_ rs (i + 1) = c := ⟨_, rfl⟩
  obtain ⟨d2, hd2⟩ : ∃ c, at_ rs (i + 2) = c := ⟨_, rfl⟩
  have h43 : c ≠ 43 := by have := T.out.or (i + 0); rw [hc] at this; unfold tm at this; omega
  have h46 : c ≠ 46 := by have := T.out.or (i + 0); rw [hc] at this; unfold tm at this; omega
  have h46' : d ≠ 46 := by have := T.out.or (i + 1); rw [hd] at this; unfold tm at this; omega
  have hbg : Hid (counts (rs.drop i) = if c = 45 then isIn 48 57 d else isIn 48 57 c) := Lib.hid (by unfold counts; rw [at_drop, at_drop, hc, hd])
  go_enter Tryz.func129, Tryz.ntmps129
  go_wp2_with fail
  refine (peek_any w b rv rs i 0 H.out (by decide)).mono ?_
  rintro e w1 ⟨rfl, hb1⟩
  rw [hc]
  have H1 := Lib.hid (H.out.next hb1)
  by_cases h45 : c = 45
  · have HB : Hid (counts (rs.drop i) = isIn 48 57 d) := Lib.hid (by rw [hbg.out, if_pos h45])
    go_wp2_with fail
    refine (peek_any w1 b rv rs i 1 H1.out (by decide)).mono ?_
    rintro e w2 ⟨rfl, hb2⟩
    rw [hd]
    have H2 := Lib.hid (H1.out.next hb2)
    go_wp2_with fail
    refine (digit_any _ _).mono ?_
    rintro e w3 ⟨rfl, hb3⟩
    have H3 := Lib.hid (H2.out.next hb3)
    have hbb := bNext (bNext hb1 hb2) hb3
    clear hb1 hb2 hb3
    cases hq : isIn 48 57 d
    · go_wp2_with fail
      refine (peek_any w3 b rv rs i 1 H3.out (by decide)).mono ?_
      rintro e w4 ⟨rfl, hb4⟩
      rw [hd]
      go_wp2_with fail
      go_ret
      exact ⟨congrArg (fun b => Ending.returned (Value.bool b)) (by rw [HB.out]; simp [*]), bNext hbb hb4⟩
    · go_wp2_with fail
      go_ret
      exact ⟨congrArg (fun b => Ending.returned (Value.bool b)) (by rw [HB.out]; simp [*]), hbb⟩
  · have HB : Hid (counts (rs.drop i) = isIn 48 57 c) := Lib.hid (by rw [hbg.out, if_neg h45])
    have b43 : (c == 43) = false := by simpa using h43
    have b45 : (c == 45) = false := by simpa using h45
    go_wp2_with fail
    refine (peek_any w1 b rv rs i 0 H1.out (by decide)).mono ?_
    rintro e w2 ⟨rfl, hb2⟩
    rw [hc]
    have H2 := Lib.hid (H1.out.next hb2)
    go_wp2_with fail
    refine (digit_any _ _).mono ?_
    rintro e w3 ⟨rfl, hb3⟩
    have H3 := Lib.hid (H2.out.next hb3)
    have hbb := bNext (bNext hb1 hb2) hb3
    clear hb1 hb2 hb3
    cases hq : isIn 48 57 c
    · go_wp2_with fail
      refine (peek_any w3 b rv rs i 0 H3.out (by decide)).mono ?_
      rintro e w4 ⟨rfl, hb4⟩
      rw [hc]
      go_wp2_with fail
      go_ret
      exact ⟨congrArg (fun b => Ending.returned (Value.bool b)) (by rw [HB.out]; simp [*]), bNext hbb hb4⟩
    · go_wp2_with fail
      go_ret
      exact ⟨congrArg (fun b => Ending.returned (Value.bool b)) (by rw [HB.out]; simp [*]), hbb⟩
end Go.Proofs.YtpadcjcoafidgaaGreatDoor
