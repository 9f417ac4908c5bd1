/- reader.while with the two kinds of runes that it is called with. -/
import Derived.Test.YtpadcjcoafidgaaGreatDoorName
namespace Go.Proofs.YtpadcjcoafidgaaGreatDoor
open Go.RowKit

set_option maxRecDepth 100000 in
set_option maxHeartbeats 2000000 in
theorem while_digit (w : World) (b : Nat) (rv : Value) (rs : List Int) (i : Nat) (h : Rd w b rv rs i) :
    Calls Tryz.prog 151 #[.pointer (some ⟨b, 0, none⟩), .func (.func 76) #[] #[]] w fun e w' => (∃ v, e = .returned v) ∧ But w.heap.size b w w' ∧ Rd w' b rv rs (i + ((rs.drop i).takeWhile (isIn 48 57)).length) := by
  have H := Lib.hid h
  have hbw : b < w.heap.size := World.block_lt_of_cell? w _ h.c0
  have hbig := h.big
  have hle := h.le
  have c1 := h.c1
  clear h
  go_enter Tryz.func151, Tryz.ntmps151
  go_wp2_with fail
  clear c1
  go_loopw [10] (fun _ wr => ∃ j : Nat, i ≤ j ∧ Hid (Rd wr b rv rs j) ∧ Hid (∀ m, m < j - i → ∃ hl : m < (rs.drop i).length, (isIn 48 57) (rs.drop i)[m] = true) ∧ But w.heap.size b w wr)
    (fun _ wr => rs.length - (intOf ((wr.cell? ⟨b, 0 + 1, none⟩).getD undef)).toNat)
  case atStart => exact ⟨i, Nat.le_refl _, H, Lib.hid (fun m hm => by omega), But.of (Below.refl _ _)⟩
  case round =>
    obtain ⟨j, hij, HR, HP, hbut⟩ := hrel
    have hjl := HR.out.le
    go_wp2_with fail
    refine (over_any wr b rv rs j HR.out).mono ?_
    rintro e w1 ⟨rfl, hb1⟩
    have HR1 := Lib.hid (HR.out.next hb1)
    have hbut1 := hbut.trans ((But.of hb1).mono hbut.size)
    clear hb1 hbut
    by_cases hj : j < rs.length
    · rw [show decide (rs.length ≤ j) = false from decide_eq_false (by omega)]
      go_wp2_with fail
      refine (peek_any w1 b rv rs j 0 HR1.out (by omega)).mono ?_
      rintro e w2 ⟨rfl, hb2⟩
      obtain ⟨c, hc⟩ : ∃ c, at_ rs (j + 0) = c := ⟨_, rfl⟩
      rw [hc]
      have HR2 := Lib.hid (HR1.out.next hb2)
      have hbut2 := hbut1.trans ((But.of hb2).mono hbut1.size)
      clear hb2 hbut1
      go_wp2_with fail
      refine (Digit_any c w2).mono ?_
      rintro e w3 ⟨rfl, hb3⟩
      have HR3 := Lib.hid (HR2.out.next hb3)
      have hbut3 := hbut2.trans ((But.of hb3).mono hbut2.size)
      clear hb3 hbut2
      cases hp : (isIn 48 57) c
      · have HT : Hid ((rs.drop i).takeWhile (isIn 48 57) = (rs.drop i).take (j - i)) := Lib.hid (takeWhile_take _ _ _ HP.out (fun hl => by
          rw [List.getElem_drop]
          have e : rs[i + (j - i)]'(by omega) = c := by rw [← hc, at_of (by omega)]; congr 1; omega
          rw [e]; exact hp))
        have HR4 := Lib.hid (Eq.symm (show i + ((rs.drop i).takeWhile (isIn 48 57)).length = j by rw [HT.out, List.length_take, List.length_drop]; omega))
        clear hc
        go_wp2_with fail
        obtain ⟨p, off, cap, hrv, hcap, hp', hcell⟩ := HR3.out.rn
        have g0 := HR3.out.c0
        rw [hrv] at g0
        have hrv' := Lib.hid hrv
        clear hrv
        have g1 := HR3.out.c1
        clear hcell
        have q1 : (i : Int) ≤ (j : Int) := by omega
        have q2 : (j : Int) ≤ (cap : Int) := by omega
        have q3 : (0 : Int) ≤ (i : Int) := by omega
        go_quiet (fail)
        all_goals go_wp2_with fail
        all_goals go_ret
        all_goals exact ⟨⟨_, rfl⟩, hbut3.trans (But.of (bDrew (Below.refl _ _) _)), by rw [← HR4.out]; exact HR3.out.next (bDrew (Below.refl _ _) _)⟩
      · have hcx := Lib.hid hc
        clear hc
        have c1 := HR3.out.c1
        have f1 := HR3.out.f1
        have hwj : IntKind.i64.wrap ((j : Int) + 1) = ((j + 1 : Nat) : Int) := by rw [Go.IntWalk.i64_in _ (by omega)]; omega
        go_wp2_with fail
        go_roundw
        case rel =>
          refine ⟨j + 1, by omega, Lib.hid (HR3.out.store (j + 1) _ (by omega) (by omega)), Lib.hid fun m hm => ?_, hbut3.set _ _⟩
          by_cases hm2 : m < j - i
          · exact HP.out m hm2
          · obtain rfl : m = j - i := by omega
            refine ⟨by simp; omega, ?_⟩
            rw [List.getElem_drop]
            have : rs[i + (j - i)]'(by omega) = c := by rw [← hcx.out, at_of (by omega)]; congr 1; omega
            rw [this]; exact hp
        case measure =>
          have e1 := HR.out.c1
          have e2 := (HR3.out.store (j + 1) ((j : Int) + 1) (by omega) (by omega)).c1
          rw [e1, e2]
          simp [intOf]; omega
    · rw [show decide (rs.length ≤ j) = true from decide_eq_true (by omega)]
      have HT : Hid ((rs.drop i).takeWhile (isIn 48 57) = (rs.drop i).take (j - i)) := Lib.hid (takeWhile_take _ _ _ HP.out (fun hl => by simp at hl; omega))
      have HR4 := Lib.hid (Eq.symm (show i + ((rs.drop i).takeWhile (isIn 48 57)).length = j by rw [HT.out, List.length_take, List.length_drop]; omega))
      have HR3 := HR1
      have hbut3 := hbut1
      clear HR1 hbut1
      go_wp2_with fail
      obtain ⟨p, off, cap, hrv, hcap, hp', hcell⟩ := HR3.out.rn
      have g0 := HR3.out.c0
      rw [hrv] at g0
      have hrv' := Lib.hid hrv
      clear hrv
      have g1 := HR3.out.c1
      clear hcell
      have q1 : (i : Int) ≤ (j : Int) := by omega
      have q2 : (j : Int) ≤ (cap : Int) := by omega
      have q3 : (0 : Int) ≤ (i : Int) := by omega
      go_quiet (fail)
      all_goals go_wp2_with fail
      all_goals go_ret
      all_goals exact ⟨⟨_, rfl⟩, hbut3.trans (But.of (bDrew (Below.refl _ _) _)), by rw [← HR4.out]; exact HR3.out.next (bDrew (Below.refl _ _) _)⟩

set_option maxRecDepth 100000 in
set_option maxHeartbeats 2000000 in
theorem while_blank (w : World) (b : Nat) (rv : Value) (rs : List Int) (i : Nat) (h : Rd w b rv rs i) :
    Calls Tryz.prog 151 #[.pointer (some ⟨b, 0, none⟩), .func (.func 123) #[] #[]] w fun e w' => (∃ v, e = .returned v) ∧ But w.heap.size b w w' ∧ Rd w' b rv rs (i + ((rs.drop i).takeWhile isBlank).length) := by
  have H := Lib.hid h
  have hbw : b < w.heap.size := World.block_lt_of_cell? w _ h.c0
  have hbig := h.big
  have hle := h.le
  have c1 := h.c1
  clear h
  go_enter Tryz.func151, Tryz.ntmps151
  go_wp2_with fail
  clear c1
  go_loopw [10] (fun _ wr => ∃ j : Nat, i ≤ j ∧ Hid (Rd wr b rv rs j) ∧ Hid (∀ m, m < j - i → ∃ hl : m < (rs.drop i).length, isBlank (rs.drop i)[m] = true) ∧ But w.heap.size b w wr)
    (fun _ wr => rs.length - (intOf ((wr.cell? ⟨b, 0 + 1, none⟩).getD undef)).toNat)
  case atStart => exact ⟨i, Nat.le_refl _, H, Lib.hid (fun m hm => by omega), But.of (Below.refl _ _)⟩
  case round =>
    obtain ⟨j, hij, HR, HP, hbut⟩ := hrel
    have hjl := HR.out.le
    go_wp2_with fail
    refine (over_any wr b rv rs j HR.out).mono ?_
    rintro e w1 ⟨rfl, hb1⟩
    have HR1 := Lib.hid (HR.out.next hb1)
    have hbut1 := hbut.trans ((But.of hb1).mono hbut.size)
    clear hb1 hbut
    by_cases hj : j < rs.length
    · rw [show decide (rs.length ≤ j) = false from decide_eq_false (by omega)]
      go_wp2_with fail
      refine (peek_any w1 b rv rs j 0 HR1.out (by omega)).mono ?_
      rintro e w2 ⟨rfl, hb2⟩
      obtain ⟨c, hc⟩ : ∃ c, at_ rs (j + 0) = c := ⟨_, rfl⟩
      rw [hc]
      have HR2 := Lib.hid (HR1.out.next hb2)
      have hbut2 := hbut1.trans ((But.of hb2).mono hbut1.size)
      clear hb2 hbut1
      go_wp2_with fail
      refine (Blank_any c w2).mono ?_
      rintro e w3 ⟨rfl, rfl⟩
      have hb3 := Below.refl w3.heap.size w3
      have HR3 := Lib.hid (HR2.out.next hb3)
      have hbut3 := hbut2.trans ((But.of hb3).mono hbut2.size)
      clear hb3 hbut2
      cases hp : isBlank c
      · have HT : Hid ((rs.drop i).takeWhile isBlank = (rs.drop i).take (j - i)) := Lib.hid (takeWhile_take _ _ _ HP.out (fun hl => by
          rw [List.getElem_drop]
          have e : rs[i + (j - i)]'(by omega) = c := by rw [← hc, at_of (by omega)]; congr 1; omega
          rw [e]; exact hp))
        have HR4 := Lib.hid (Eq.symm (show i + ((rs.drop i).takeWhile isBlank).length = j by rw [HT.out, List.length_take, List.length_drop]; omega))
        clear hc
        go_wp2_with fail
        obtain ⟨p, off, cap, hrv, hcap, hp', hcell⟩ := HR3.out.rn
        have g0 := HR3.out.c0
        rw [hrv] at g0
        have hrv' := Lib.hid hrv
        clear hrv
        have g1 := HR3.out.c1
        clear hcell
        have q1 : (i : Int) ≤ (j : Int) := by omega
        have q2 : (j : Int) ≤ (cap : Int) := by omega
        have q3 : (0 : Int) ≤ (i : Int) := by omega
        go_quiet (fail)
        all_goals go_wp2_with fail
        all_goals go_ret
        all_goals exact ⟨⟨_, rfl⟩, hbut3.trans (But.of (bDrew (Below.refl _ _) _)), by rw [← HR4.out]; exact HR3.out.next (bDrew (Below.refl _ _) _)⟩
      · have hcx := Lib.hid hc
        clear hc
        have c1 := HR3.out.c1
        have f1 := HR3.out.f1
        have hwj : IntKind.i64.wrap ((j : Int) + 1) = ((j + 1 : Nat) : Int) := by rw [Go.IntWalk.i64_in _ (by omega)]; omega
        go_wp2_with fail
        go_roundw
        case rel =>
          refine ⟨j + 1, by omega, Lib.hid (HR3.out.store (j + 1) _ (by omega) (by omega)), Lib.hid fun m hm => ?_, hbut3.set _ _⟩
          by_cases hm2 : m < j - i
          · exact HP.out m hm2
          · obtain rfl : m = j - i := by omega
            refine ⟨by simp; omega, ?_⟩
            rw [List.getElem_drop]
            have : rs[i + (j - i)]'(by omega) = c := by rw [← hcx.out, at_of (by omega)]; congr 1; omega
            rw [this]; exact hp
        case measure =>
          have e1 := HR.out.c1
          have e2 := (HR3.out.store (j + 1) ((j : Int) + 1) (by omega) (by omega)).c1
          rw [e1, e2]
          simp [intOf]; omega
    · rw [show decide (rs.length ≤ j) = true from decide_eq_true (by omega)]
      have HT : Hid ((rs.drop i).takeWhile isBlank = (rs.drop i).take (j - i)) := Lib.hid (takeWhile_take _ _ _ HP.out (fun hl => by simp at hl; omega))
      have HR4 := Lib.hid (Eq.symm (show i + ((rs.drop i).takeWhile isBlank).length = j by rw [HT.out, List.length_take, List.length_drop]; omega))
      have HR3 := HR1
      have hbut3 := hbut1
      clear HR1 hbut1
      go_wp2_with fail
      obtain ⟨p, off, cap, hrv, hcap, hp', hcell⟩ := HR3.out.rn
      have g0 := HR3.out.c0
      rw [hrv] at g0
      have hrv' := Lib.hid hrv
      clear hrv
      have g1 := HR3.out.c1
      clear hcell
      have q1 : (i : Int) ≤ (j : Int) := by omega
      have q2 : (j : Int) ≤ (cap : Int) := by omega
      have q3 : (0 : Int) ≤ (i : Int) := by omega
      go_quiet (fail)
      all_goals go_wp2_with fail
      all_goals go_ret
      all_goals exact ⟨⟨_, rfl⟩, hbut3.trans (But.of (bDrew (Below.refl _ _) _)), by rw [← HR4.out]; exact HR3.out.next (bDrew (Below.refl _ _) _)⟩
end Go.Proofs.YtpadcjcoafidgaaGreatDoor
