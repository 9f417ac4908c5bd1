/- The walk of gouachelaw14.PropFinds: it returns true, whatever the name. -/
import Derived.Test.YtpadcjcoafidgaaDoorPropFormsWalk
namespace Go.Proofs.YtpadcjcoafidgaaDoor
open Go.RowKit

theorem row_small : ∀ k, k < 48 → (rowAt k).2.2.2.size ≤ 1000 := by decide +kernel

set_option maxRecDepth 100000 in
set_option maxHeartbeats 4000000 in
theorem propFinds_yes (s : ByteArray) (k : Nat) (h : placeN s = some k) (hs : s.size ≤ 1000) (w : World) (hS : ShortsIn w) :
    Calls Tryd.prog 4 #[.string s] w fun e w' => e = .returned (.bool true) ∧ Below w.heap.size w w' := by
  have HS := Lib.hid hS
  clear hS
  have hf := row_small k (placeN_lt h)
  have H := Lib.hid h
  clear h
  go_enter Tryd.func4, Tryd.ntmps4
  go_wp2_with fail
  refine (Find_yes s k H.out _).mono ?_
  rintro e w1 ⟨rfl, hb1⟩
  go_wp2_with fail
  have hA1 := hb1.alloc hb1.size (.cells (rowAt k).cells.toArray 28)
  have hz1 : (w1.alloc (.cells (rowAt k).cells.toArray 28)).heap.size = w1.heap.size + 1 := by simp
  have p1 : Row4 (w1.alloc (.cells (rowAt k).cells.toArray 28)) w1.heap.size 0 (rowAt k).1 (rowAt k).2.1 (rowAt k).2.2.1 (rowAt k).2.2.2 := ⟨by simp [Row.cells], by simp [Row.cells], by simp [Row.cells], by simp [Row.cells]⟩
  simp only [Row.cells] at hA1 hz1 p1
  refine (refFind_yes s k H.out _).mono ?_
  rintro e w1' ⟨rfl, hb2⟩
  have hA1' := hA1.trans (hb2.mono hA1.size)
  have p1' := p1.below hb2
  go_wp2_with fail
  have hA2 := hA1'.alloc hA1'.size (.cells (rowAt k).cells.toArray 35)
  have p2 := p1'.below (below_alloc_new w1' (.cells (rowAt k).cells.toArray 35))
  have r2 : Row4 (w1'.alloc (.cells (rowAt k).cells.toArray 35)) w1'.heap.size 0 (rowAt k).1 (rowAt k).2.1 (rowAt k).2.2.1 (rowAt k).2.2.2 := ⟨by simp [Row.cells], by simp [Row.cells], by simp [Row.cells], by simp [Row.cells]⟩
  simp only [Row.cells] at hA2 p2 r2
  obtain ⟨w2, hw2⟩ : ∃ w2, w1'.alloc (.cells #[.string (rowAt k).1, .string (rowAt k).2.1, .bool (rowAt k).2.2.1, .string (rowAt k).2.2.2] 35) = w2 := ⟨_, rfl⟩
  rw [hw2] at hA2 p2 r2 ⊢
  clear hw2 hb1 hb2 hA1 hA1' p1 p1' hz1
  have HS2 := Lib.hid (HS.out.below hA2 (Nat.le_refl _))
  obtain ⟨x20, x21, x22, x23⟩ := id p2
  obtain ⟨y20, y21, y22, y23⟩ := id r2
  go_region_held3 (fun w' => w'.cell? ⟨w1.heap.size, 0, none⟩ = some (.string (rowAt k).1) ∧ w'.cell? ⟨w1.heap.size, 0 + 1, none⟩ = some (.string (rowAt k).2.1) ∧ w'.cell? ⟨w1.heap.size, 0 + 2, none⟩ = some (.bool (rowAt k).2.2.1) ∧ w'.cell? ⟨w1.heap.size, 0 + 3, none⟩ = some (.string (rowAt k).2.2.2) ∧ w'.cell? ⟨w1'.heap.size, 0, none⟩ = some (.string (rowAt k).1) ∧ w'.cell? ⟨w1'.heap.size, 0 + 1, none⟩ = some (.string (rowAt k).2.1) ∧ w'.cell? ⟨w1'.heap.size, 0 + 2, none⟩ = some (.bool (rowAt k).2.2.1) ∧ w'.cell? ⟨w1'.heap.size, 0 + 3, none⟩ = some (.string (rowAt k).2.2.2)) (go_keep)
    (first
      | (go_at_call 10; ((with_reducible refine (Place_any _ _).mono ?_); rintro e w3 ⟨rfl, hb3⟩; have p3 := p2.below ((below_drew' w2).trans hb3); have r3 := r2.below ((below_drew' w2).trans hb3); obtain ⟨x30, x31, x32, x33⟩ := id p3; obtain ⟨y30, y31, y32, y33⟩ := id r3; have HS3 := Lib.hid (HS2.out.below ((below_drew' w2).trans hb3) (Nat.le_refl _))))
      | (go_at_call 14; ((with_reducible refine (refPlace_any _ _).mono ?_); rintro e w4 ⟨rfl, hb4⟩; have p4 := p3.below hb4; have r4 := r3.below hb4; obtain ⟨x40, x41, x42, x43⟩ := id p4; obtain ⟨y40, y41, y42, y43⟩ := id r4; have HS4 := Lib.hid (HS3.out.below hb4 (Nat.le_refl _))))
      | (go_at_call 11; ((with_reducible refine (Longs_any _ _ HS4.out).mono ?_); rintro e w5 ⟨v5, rfl, hv5, _, hb5⟩; have p5 := p4.below hb5; have r5 := r4.below hb5; obtain ⟨x50, x51, x52, x53⟩ := id p5; obtain ⟨y50, y51, y52, y53⟩ := id r5; have HS5 := Lib.hid (HS4.out.below hb5 (Nat.le_refl _))))
      | (go_at_call 16; ((with_reducible refine (refLongs_any _ _).mono ?_); rintro e w6 ⟨v6, rfl, hv6, hb6⟩; have p6 := p5.below hb6; have r6 := r5.below hb6; obtain ⟨x60, x61, x62, x63⟩ := id p6; obtain ⟨y60, y61, y62, y63⟩ := id r6; have HS6 := Lib.hid (HS5.out.below hb6 (Nat.le_refl _)); have hv56 := hv5.below hb6 (Nat.le_refl _)))
      | (go_at_call 15; ((with_reducible refine (Texts_same _ _ (longsOf s) _ hv56 hv6).mono ?_); rintro e w7 ⟨rfl, hb7⟩; have p7 := p6.below hb7; have r7 := r6.below hb7; obtain ⟨x70, x71, x72, x73⟩ := id p7; obtain ⟨y70, y71, y72, y73⟩ := id r7; have HS7 := Lib.hid (HS6.out.below hb7 (Nat.le_refl _))))
      | (go_at_call 17; ((with_reducible refine (Forms_str _ _ _ _ hf _).mono ?_); rintro e w8 ⟨v8, rfl, hv8, hb8⟩; have p8 := p7.below hb8; have r8 := r7.below hb8; obtain ⟨x80, x81, x82, x83⟩ := id p8; obtain ⟨y80, y81, y82, y83⟩ := id r8; have HS8 := Lib.hid (HS7.out.below hb8 (Nat.le_refl _))))
      | (go_at_call 18; ((with_reducible refine (refForms_str _ _ _ _ hf _).mono ?_); rintro e w9 ⟨v9, rfl, hv9, hb9⟩; have p9 := p8.below hb9; have r9 := r8.below hb9; obtain ⟨x90, x91, x92, x93⟩ := id p9; obtain ⟨y90, y91, y92, y93⟩ := id r9; have HS9 := Lib.hid (HS8.out.below hb9 (Nat.le_refl _)); have hv89 := hv8.below hb9 (Nat.le_refl _)))
      | (go_at_call 15; ((with_reducible refine (Texts_same _ _ (parts (rowAt k).2.2.2) _ hv89 hv9).mono ?_); rintro e w10 ⟨rfl, hb10⟩; have p10 := p9.below hb10; have r10 := r9.below hb10; obtain ⟨x100, x101, x102, x103⟩ := id p10; obtain ⟨y100, y101, y102, y103⟩ := id r10; have HS10 := Lib.hid (HS9.out.below hb10 (Nat.le_refl _))))
      | (go_at_call 12; ((with_reducible refine (lives_any _ HS10.out).mono ?_); rintro e w11 ⟨rfl, hb11⟩; have p11 := p10.below hb11; have r11 := r10.below hb11; obtain ⟨x110, x111, x112, x113⟩ := id p11; obtain ⟨y110, y111, y112, y113⟩ := id r11; have HS11 := Lib.hid (HS10.out.below hb11 (Nat.le_refl _)))))
  have hA3 := hA2.drew.trans (hb3.mono hA2.drew.size)
  have hA4 := hA3.trans (hb4.mono hA3.size)
  have hA5 := hA4.trans (hb5.mono hA4.size)
  have hA6 := hA5.trans (hb6.mono hA5.size)
  have hA7 := hA6.trans (hb7.mono hA6.size)
  have hA8 := hA7.trans (hb8.mono hA7.size)
  have hA9 := hA8.trans (hb9.mono hA8.size)
  have hA10 := hA9.trans (hb10.mono hA9.size)
  have hA11 := hA10.trans (hb11.mono hA10.size)
  go_wp2_with fail
  go_ret
  exact ⟨rfl, hA11⟩

set_option maxRecDepth 100000 in
set_option maxHeartbeats 4000000 in
theorem propFinds_no (s : ByteArray) (h : placeN s = none) (hs : s.size ≤ 1000) (w : World) (hS : ShortsIn w) :
    Calls Tryd.prog 4 #[.string s] w fun e w' => e = .returned (.bool true) ∧ Below w.heap.size w w' := by
  have HS := Lib.hid hS
  clear hS

  have H := Lib.hid h
  clear h
  go_enter Tryd.func4, Tryd.ntmps4
  go_wp2_with fail
  refine (Find_no s H.out _).mono ?_
  rintro e w1 ⟨rfl, hb1⟩
  go_wp2_with fail
  have hA1 := hb1.alloc hb1.size (.cells noRow.cells.toArray 28)
  have hz1 : (w1.alloc (.cells noRow.cells.toArray 28)).heap.size = w1.heap.size + 1 := by simp
  have p1 : Row4 (w1.alloc (.cells noRow.cells.toArray 28)) w1.heap.size 0 noRow.1 noRow.2.1 noRow.2.2.1 noRow.2.2.2 := ⟨by simp [Row.cells], by simp [Row.cells], by simp [Row.cells], by simp [Row.cells]⟩
  simp only [Row.cells] at hA1 hz1 p1
  refine (refFind_no s H.out _).mono ?_
  rintro e w1' ⟨rfl, hb2⟩
  have hA1' := hA1.trans (hb2.mono hA1.size)
  have p1' := p1.below hb2
  go_wp2_with fail
  have hA2 := hA1'.alloc hA1'.size (.cells noRow.cells.toArray 35)
  have p2 := p1'.below (below_alloc_new w1' (.cells noRow.cells.toArray 35))
  have r2 : Row4 (w1'.alloc (.cells noRow.cells.toArray 35)) w1'.heap.size 0 noRow.1 noRow.2.1 noRow.2.2.1 noRow.2.2.2 := ⟨by simp [Row.cells], by simp [Row.cells], by simp [Row.cells], by simp [Row.cells]⟩
  simp only [Row.cells] at hA2 p2 r2
  obtain ⟨w2, hw2⟩ : ∃ w2, w1'.alloc (.cells #[.string noRow.1, .string noRow.2.1, .bool noRow.2.2.1, .string noRow.2.2.2] 35) = w2 := ⟨_, rfl⟩
  rw [hw2] at hA2 p2 r2 ⊢
  clear hw2 hb1 hb2 hA1 hA1' p1 p1' hz1
  have HS2 := Lib.hid (HS.out.below hA2 (Nat.le_refl _))
  obtain ⟨x20, x21, x22, x23⟩ := id p2
  obtain ⟨y20, y21, y22, y23⟩ := id r2
  first | go_region_held3 (fun w' => w'.cell? ⟨w1.heap.size, 0, none⟩ = some (.string noRow.1) ∧ w'.cell? ⟨w1.heap.size, 0 + 1, none⟩ = some (.string noRow.2.1) ∧ w'.cell? ⟨w1.heap.size, 0 + 2, none⟩ = some (.bool noRow.2.2.1) ∧ w'.cell? ⟨w1.heap.size, 0 + 3, none⟩ = some (.string noRow.2.2.2) ∧ w'.cell? ⟨w1'.heap.size, 0, none⟩ = some (.string noRow.1) ∧ w'.cell? ⟨w1'.heap.size, 0 + 1, none⟩ = some (.string noRow.2.1) ∧ w'.cell? ⟨w1'.heap.size, 0 + 2, none⟩ = some (.bool noRow.2.2.1) ∧ w'.cell? ⟨w1'.heap.size, 0 + 3, none⟩ = some (.string noRow.2.2.2)) (go_keep)
    (first
      | (go_at_call 10; ((with_reducible refine (Place_any _ _).mono ?_); rintro e w3 ⟨rfl, hb3⟩; have p3 := p2.below ((below_drew' w2).trans hb3); have r3 := r2.below ((below_drew' w2).trans hb3); obtain ⟨x30, x31, x32, x33⟩ := id p3; obtain ⟨y30, y31, y32, y33⟩ := id r3; have HS3 := Lib.hid (HS2.out.below ((below_drew' w2).trans hb3) (Nat.le_refl _))))
      | (go_at_call 14; ((with_reducible refine (refPlace_any _ _).mono ?_); rintro e w4 ⟨rfl, hb4⟩; have p4 := p3.below hb4; have r4 := r3.below hb4; obtain ⟨x40, x41, x42, x43⟩ := id p4; obtain ⟨y40, y41, y42, y43⟩ := id r4; have HS4 := Lib.hid (HS3.out.below hb4 (Nat.le_refl _))))
      | (go_at_call 11; ((with_reducible refine (Longs_any _ _ HS4.out).mono ?_); rintro e w5 ⟨v5, rfl, hv5, _, hb5⟩; have p5 := p4.below hb5; have r5 := r4.below hb5; obtain ⟨x50, x51, x52, x53⟩ := id p5; obtain ⟨y50, y51, y52, y53⟩ := id r5; have HS5 := Lib.hid (HS4.out.below hb5 (Nat.le_refl _))))
      | (go_at_call 16; ((with_reducible refine (refLongs_any _ _).mono ?_); rintro e w6 ⟨v6, rfl, hv6, hb6⟩; have p6 := p5.below hb6; have r6 := r5.below hb6; obtain ⟨x60, x61, x62, x63⟩ := id p6; obtain ⟨y60, y61, y62, y63⟩ := id r6; have HS6 := Lib.hid (HS5.out.below hb6 (Nat.le_refl _)); have hv56 := hv5.below hb6 (Nat.le_refl _)))
      | (go_at_call 15; ((with_reducible refine (Texts_same _ _ (longsOf s) _ hv56 hv6).mono ?_); rintro e w7 ⟨rfl, hb7⟩; have p7 := p6.below hb7; have r7 := r6.below hb7; obtain ⟨x70, x71, x72, x73⟩ := id p7; obtain ⟨y70, y71, y72, y73⟩ := id r7; have HS7 := Lib.hid (HS6.out.below hb7 (Nat.le_refl _))))
      | (go_at_call 12; ((with_reducible refine (lives_any _ HS7.out).mono ?_); rintro e w8 ⟨rfl, hb8⟩; have p8 := p7.below hb8; have r8 := r7.below hb8; obtain ⟨x80, x81, x82, x83⟩ := id p8; obtain ⟨y80, y81, y82, y83⟩ := id r8; have HS8 := Lib.hid (HS7.out.below hb8 (Nat.le_refl _))))) | fail
  all_goals
    have hA3 := hA2.drew.trans (hb3.mono hA2.drew.size)
    have hA4 := hA3.trans (hb4.mono hA3.size)
    have hA5 := hA4.trans (hb5.mono hA4.size)
    have hA6 := hA5.trans (hb6.mono hA5.size)
    have hA7 := hA6.trans (hb7.mono hA6.size)
    have hA8 := hA7.trans (hb8.mono hA7.size)
    go_wp2_with fail
    go_ret
    exact ⟨rfl, hA8⟩

set_option maxHeartbeats 400000 in
theorem propFinds_great (s : ByteArray) (hs : ¬ s.size ≤ 1000) (hm : s.size ≤ maxLen) (w : World) (hS : ShortsIn w) :
    Calls Tryd.prog 4 #[.string s] w fun e w' => e = .returned (.bool true) ∧ Below w.heap.size w w' := by
  unfold maxLen at hm
  have HS := Lib.hid hS
  clear hS
  have hg : (1000 : Int) < (s.size : Int) := by omega
  go_enter Tryd.func4, Tryd.ntmps4
  go_wp2_with fail
  refine (lives_any _ HS.out).mono ?_
  rintro e w2 ⟨rfl, hb2⟩
  go_wp2_with fail
  go_ret
  exact ⟨rfl, hb2⟩
theorem propFinds_walk (s : ByteArray) (hm : s.size ≤ maxLen) (w : World) (hS : ShortsIn w) :
    Calls Tryd.prog 4 #[.string s] w fun e w' => e = .returned (.bool true) ∧ Below w.heap.size w w' := by
  by_cases hs : s.size ≤ 1000
  · cases h : placeN s with
    | none => exact propFinds_no s h hs w hS
    | some k => exact propFinds_yes s k h hs w hS
  · exact propFinds_great s hs hm w hS
end Go.Proofs.YtpadcjcoafidgaaDoor
