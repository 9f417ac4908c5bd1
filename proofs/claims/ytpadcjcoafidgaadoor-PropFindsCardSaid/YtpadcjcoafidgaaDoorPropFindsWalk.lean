/- The walk of gouachelaw14.PropFinds: it returns true, whatever the name. -/
import Derived.Test.YtpadcjcoafidgaaDoorPropFormsWalk
namespace Go.Proofs.YtpadcjcoafidgaaDoor
open Go.RowKit

theorem row_small : ∀ k, k < 48 → (rowAt k).2.2.2.size ≤ 1000 := by decide +kernel

set_option maxRecDepth 100000 in
set_option maxHeartbeats 4000000 in
theorem propFinds_yes (s : ByteArray) (k : Nat) (h : placeN s = some k) (hs : s.size ≤ 1000) (w : World) (hS : ShortsIn w) :
    Calls Tryd.prog 4 #[.string s] w fun e w' => e = .returned (.bool true) ∧ Below w.heap.size w w' := by
  have HS := Lib.hid hS
  clear hS
  have hf := row_small k (placeN_lt h)
  have H := Lib.hid h
  clear h
  go_enter Tryd.func4, Tryd.ntmps4
  go_wp2_with fail
  refine (Find_yes s k H.out _).mono ?_
  rintro e w1 ⟨rfl, hb1⟩
  go_wp2_with fail
  have hA1 := hb1.alloc hb1.size (.cells (rowAt k).cells.toArray 28)
  have hz1 : (w1.alloc (.cells (rowAt k).cells.toArray 28)).heap.size = w1.heap.size + 1 := by simp
  have p1 : Row4 (w1.alloc (.cells (rowAt k).cells.toArray 28)) w1.heap.size 0 (rowAt k).1 (rowAt k).2.1 (rowAt k).2.2.1 (rowAt k).2.2.2 := ⟨by simp [Row.cells], by simp [Row.cells], by simp [Row.cells], by simp [Row.cells]⟩
  simp only [Row.cells] at hA1 hz1 p1
  refine (refFind_yes s k H.out _).mono ?_
  rintro e w1' ⟨rfl, hb2⟩
  have hA1' := hA1.trans (hb2.mono hA1.size)
  have p1' := p1.below hb2
  go_wp2_with fail
  have hA2 := hA1'.alloc hA1'.size (.cells (rowAt k).cells.toArray 35)
  have p2 := p1'.below (below_alloc_new w1' (.cells (rowAt k).cells.toArray 35))
  have r2 : Row4 (w1'.alloc (.cells (rowAt k).cells.toArray 35)) w1'.heap.size 0 (rowAt k).1 (rowAt k).2.1 (rowAt k).2.2.1 (rowAt k).2.2.2 := ⟨by simp [Row.cells], by simp [Row.cells], by simp [Row.cells], by simp [Row.cells]⟩
  simp only [Row.cells] at hA2 p2 r2
  obtain ⟨w2, hw2⟩ : ∃ w2, w1'.alloc (.cells #[.string (rowAt k).1, .string (rowAt k).2.1, .bool (rowAt k).2.2.1, .string (rowAt k).2.2.2] 35) = w2 := ⟨_, rfl⟩
  rw [hw2] at hA2 p2 r2 ⊢
  clear hw2 hb1 hb2 hA1 hA1' p1 p1' hz1
  have HS2 := Lib.hid (HS.out.below hA2 (Nat.le_refl _))
  obtain ⟨x20, x21, x22, x23⟩ := id p2
  obtain ⟨y20, y21, y22, y23⟩ := id r2
  go_region_held3 (fun w' => w'.cell? ⟨w1.heap.size, 0, none⟩ = some (.string (rowAt k).1) ∧ w'.cell? ⟨w1.heap.size, 0 + 1, none⟩ = some (.string (rowAt k).2.1) ∧ w'.cell? ⟨w1.heap.size, 0 + 2, none⟩ = some (.bool (rowAt k).2.2.1) ∧ w'.cell? ⟨w1.heap.size, 0 + 3, none⟩ = some (.string (rowAt k).2.2.2) ∧ w'.cell? ⟨w1'.heap.size, 0, none⟩ = some (.string (rowAt k).1) ∧ w'.cell? ⟨w1'.heap.size, 0 + 1, none⟩ = some (.string (rowAt k).2.1) ∧ w'.cell? ⟨w1'.heap.size, 0 + 2, none⟩ = some (.bool (rowAt k).2.2.1) ∧ w'.cell? ⟨w1'.heap.size, 0 + 3, none⟩ = some (.string (rowAt k).2.2.2)) (go_keep)
    (first
      | (go_at_call 10; ((with_reducible refine (Place_any _ _).mono ?_); rintro e w3 ⟨rfl, hb3⟩; have p3 := p2.below ((below_drew' w2).trans hb3); have r3 := r2.below ((below_drew' w2).trans hb3); obtain ⟨x30, x31, x32, x33⟩ := id p3; obtain ⟨y30, y31, y32, y33⟩ := id r3; have HS3 := Lib.hid (HS2.out.below ((below_drew' w2).trans hb3) (Nat.le_refl _))))
      | (go_at_call 14; ((with_reducible refine (refPlace_any _ _).mono ?_); rintro e w4 ⟨rfl, hb4⟩; have p4 := p3.below hb4; have r4 := r3.below hb4; obtain ⟨x40, x41, x42, x43⟩ := id p4; obtain ⟨y40, y41, y42, y43⟩ := id r4; have HS4 := Lib.hid (HS3.out.below hb4 (Nat.le_refl _))))
      | (go_at_call 11; ((with_reducible refine (Longs_any _ _ HS4.out).mono ?_); rintro e w5 ⟨v5, rfl, hv5, _, hb5⟩; have p5 := p4.below hb5; have r5 := r4.below hb5; obtain ⟨x50, x51, x52, x53⟩ := id p5; obtain ⟨y50, y51, y52, y53⟩ := id r5; have HS5 := Lib.hid (HS4.out.below hb5 (Nat.le_refl _))))
      | (go_at_call 16; ((with_reducible refine (refLongs_any _ _).mono ?_); rintro e w6 ⟨v6, rfl, hv6, hb6⟩; have p6 := p5.below hb6; have r6 := r5.below hb6; obtain ⟨x60, x61, x62, x63⟩ := id p6; obtain ⟨y60, y61, y62, y63⟩ := id r6; have HS6 := Lib.hid (HS5.out.below hb6 (Nat.le_refl _)); have hv56 := hv5.below hb6 (Nat.le_refl _)))
      | (go_at_call 15; ((with_reducible refine (Texts_same _ _ (longsOf s) _ hv56 hv6).mono ?_); rintro e w7 ⟨rfl, hb7⟩; have p7 := p6.below hb7; have r7 := r6.below hb7; obtain ⟨x70, x71, x72, x73⟩ := id p7; obtain ⟨y70, y71, y72, y73⟩ := id r7; have HS7 := Lib.hid (HS6.out.below hb7 (Nat.le_refl _))))
      | (go_at_call 17; ((with_reducible refine (Forms_str _ _ _ _ hf _).mono ?_); rintro e w8 ⟨v8, rfl, hv8, hb8⟩; have p8 := p7.below hb8; have r8 := r7.below hb8; obtain ⟨x80, x81, x82, x83⟩ := id p8; obtain ⟨y80, y81, y82, y83⟩ := id r8; have HS8 := Lib.hid (HS7.out.below hb8 (Nat.le_refl _))))
      | (go_at_call 18; ((with_reducible refine (refForms_str _ _ _ _ hf _).mono ?_); rintro e w9 ⟨v9, rfl, hv9, hb9⟩; have p9 := p8.below hb9; have r9 := r8.below hb9; obtain ⟨x90, x91, x92, x93⟩ := id p9; obtain ⟨y90, y91, y92, y93⟩ := id r9; have HS9 := Lib.hid (HS8.out.below hb9 (Nat.le_refl _)); have hv89 := hv8.below hb9 (Nat.le_refl _)))
      | (go_at_call 15; ((with_reducible refine (Texts_same _ _ (parts (rowAt k).2.2.2) _ hv89 hv9).mono ?_); rintro e w10 ⟨rfl, hb10⟩; have p10 := p9.below hb10; have r10 := r9.below hb10; obtain ⟨x100, x101, x102, x103⟩ := id p10; obtain ⟨y100, y101, y102, y103⟩ := id r10; have HS10 := Lib.hid (HS9.out.below hb10 (Nat.le_refl _))))
      | (go_at_call 12; ((with_reducible refine (lives_any _ HS10.out).mono ?_); rintro e w11 ⟨rfl, hb11⟩; have p11 := p10.below hb11; have r11 := r10.below hb11; obtain ⟨x110, x111, x112, x113⟩ := id p11; obtain ⟨y110, y111, y112, y113⟩ := id r11; have HS11 := Lib.hid (HS10.out.below hb11 (Nat.le_refl _)))))
  have hA3 := hA2.drew.trans (hb3.mono hA2.drew.size)
  have hA4 := hA3.trans (hb4.mono hA3.size)
  have hA5 := hA4.trans (hb5.mono hA4.size)
  have hA6 := hA5.trans (hb6.mono hA5.size)
  have hA7 := hA6.trans (hb7.mono hA6.size)
  have hA8 := hA7.trans (hb8.mono hA7.size)
  have hA9 := hA8.trans (hb9.mono hA8.size)
  have hA10 := hA9.trans (hb10.mono hA9.size)
  have hA11 := hA10.trans (hb11.mono hA10.size)
  go_wp2_with fail
  go_ret
  exact ⟨rfl, hA11⟩

set_option maxRecDepth 100000 in
set_option maxHeartbeats 4000000 in
theorem propFinds_no (s : ByteArray) (h : placeN s = none) (hs : s.size ≤ 1000) (w : World) (hS : ShortsIn w) :
    Calls Tryd.prog 4 #[.string s] w fun e w' => e = .returned (.bool true) ∧ Below w.heap.size w w' := by
  have HS := Lib.hid hS
  clear hS

  have H := Lib.hid h
  clear h
  go_enter Tryd.func4, Tryd.ntmps4
  go_wp2_with fail
  refine (Find_no s H.out _).mono ?_
  rintro e w1 ⟨rfl, hb1⟩
  go_wp2_with fail
  have hA1 := hb1.alloc hb1.size (.cells noRow.cells.toArray 28)
  have hz1 : (w1.alloc (.cells noRow.cells.toArray 28)).heap.size = w1.heap.size + 1 := by simp
  have p1 : Row4 (w1.alloc (.cells noRow.cells.toArray 28)) w1.heap.size 0 noRow.1 noRow.2.1 noRow.2.2.1 noRow.2.2.2 := ⟨by simp [Row.cells], by simp [Row.cells], by simp [Row.cells], by simp [Row.cells]⟩
  simp only [Row.cells] at hA1 hz1 p1
  refine (refFind_no s H.out _).mono ?_
  rintro e w1' ⟨rfl, hb2⟩
  have hA1' := hA1.trans (hb2.mono hA1.size)
  have p1' := p1.below hb2
  go_wp2_with fail
  have hA2 := hA1'.alloc hA1'.size (.cells noRow.cells.toArray 35)
  have p2 := p1'.below (below_alloc_new w1' (.cells noRow.cells.toArray 35))
  have r2 : Row4 (w1'.alloc (.cells noRow.cells.toArray 35)) w1'.heap.size 0 noRow.1 noRow.2.1 noRow.2.2.1 noRow.2.2.2 := ⟨by simp [Row.cells], by simp [Row.cells], by simp [Row.cells], by simp [Row.cells]⟩
  simp only [Row.cells] at hA2 p2 r2
  obtain ⟨w2, hw2⟩ : ∃ w2, w1'.alloc (.cells #[.string noRow.1, .string noRow.2.1, .bool noRow.2.2.1, .string noRow.2.2.2] 35) = w2 := ⟨_, rfl⟩
  rw [hw2] at hA2 p2 r2 ⊢
  clear hw2 hb1 hb2 hA1 hA1' p1 p1' hz1
  have HS2 := Lib.hid (HS.out.below hA2 (Nat.le_refl _))
  obtain ⟨x20, x21, x22, x23⟩ := id p2
  obtain ⟨y20, y21, y22, y23⟩ := id r2
  refine wp_region_held_drew (S := (fun w' => w'.cell? ⟨w1.heap.size, 0, none⟩ = some (.string noRow.1) ∧ w'.cell? ⟨w1.heap.size, 0 + 1, none⟩ = some (.string noRow.2.1) ∧ w'.cell? ⟨w1.heap.size, 0 + 2, none⟩ = some (.bool noRow.2.2.1) ∧ w'.cell? ⟨w1.heap.size, 0 + 3, none⟩ = some (.string noRow.2.2.2) ∧ w'.cell? ⟨w1'.heap.size, 0, none⟩ = some (.string noRow.1) ∧ w'.cell? ⟨w1'.heap.size, 0 + 1, none⟩ = some (.string noRow.2.1) ∧ w'.cell? ⟨w1'.heap.size, 0 + 2, none⟩ = some (.bool noRow.2.2.1) ∧ w'.cell? ⟨w1'.heap.size, 0 + 3, none⟩ = some (.string noRow.2.2.2))) (by kernel_rfl) ?_ (fun hHeld => ?_)
  · (try dsimp only)
    go_keep
  refine wpAnyH_take (i := 0) (oi := ({ dst := some 21, op := Op.load 28 (Operand.tmp 3), type := 28, pos := "law.go:22", after := #[], guard := none } : Oper)) (v := ?_) rfl (by kernel_rfl) (by kernel_rfl) (by kernel_rfl) (fun _ _ _ h => h) (Or.inl ⟨by rfl, ?_⟩) (by assumption) ?_
  rotate_left
  · intro w hSw
    (try dsimp only at hSw)
    go_simp
    try with_reducible rfl
  try simp only [Act.put, List.setIfInBounds_toArray, List.set_cons_zero, List.set_cons_succ]
  refine wpAnyH_take (i := 1) (oi := ({ dst := some 22, op := Op.load 35 (Operand.tmp 5), type := 35, pos := "law.go:22", after := #[], guard := none } : Oper)) (v := ?_) rfl (by kernel_rfl) (by kernel_rfl) (by kernel_rfl) (fun _ _ _ h => h) (Or.inl ⟨by rfl, ?_⟩) (by assumption) ?_
  rotate_left
  · intro w hSw
    (try dsimp only at hSw)
    go_simp
    try with_reducible rfl
  try simp only [Act.put, List.setIfInBounds_toArray, List.set_cons_zero, List.set_cons_succ]
  refine wpAnyH_take (i := 2) (oi := ({ dst := some 23, op := Op.binOp BinOp.eql 28 (Operand.tmp 21) (Operand.tmp 22) 28, type := 4, pos := "law.go:22", after := #[{ on := 0, ground := Ground.data }, { on := 1, ground := Ground.data }], guard := none } : Oper)) (v := ?_) rfl (by kernel_rfl) (by kernel_rfl) (by kernel_rfl) (fun _ _ _ h => h) (Or.inl ⟨by rfl, ?_⟩) (by assumption) ?_
  rotate_left
  · intro w hSw
    (try dsimp only at hSw)
    go_simp
    try with_reducible rfl
  try simp only [Act.put, List.setIfInBounds_toArray, List.set_cons_zero, List.set_cons_succ]
  refine wpAnyH_take (i := 3) (oi := ({ dst := some 24, op := Op.move (Operand.tmp 23), type := 4, pos := "law.go:22", after := #[{ on := 2, ground := Ground.data }], guard := none } : Oper)) (v := ?_) rfl (by kernel_rfl) (by kernel_rfl) (by kernel_rfl) (fun _ _ _ h => h) (Or.inl ⟨by rfl, ?_⟩) (by assumption) ?_
  rotate_left
  · intro w hSw
    (try dsimp only at hSw)
    go_simp
    try with_reducible rfl
  try simp only [Act.put, List.setIfInBounds_toArray, List.set_cons_zero, List.set_cons_succ]
  refine wpAnyH_take (i := 4) (oi := ({ dst := some 25, op := Op.move (Operand.tmp 4), type := 4, pos := "law.go:22", after := #[{ on := 3, ground := Ground.guard }], guard := some (3, true) } : Oper)) (v := ?_) rfl (by kernel_rfl) (by kernel_rfl) (by kernel_rfl) (fun _ _ _ h => h) (Or.inl ⟨by rfl, ?_⟩) (by assumption) ?_
  rotate_left
  · intro w hSw
    (try dsimp only at hSw)
    go_simp
    try with_reducible rfl
  try simp only [Act.put, List.setIfInBounds_toArray, List.set_cons_zero, List.set_cons_succ]
  refine wpAnyH_take (i := 5) (oi := ({ dst := some 26, op := Op.move (Operand.tmp 6), type := 4, pos := "law.go:22", after := #[{ on := 3, ground := Ground.guard }], guard := some (3, true) } : Oper)) (v := ?_) rfl (by kernel_rfl) (by kernel_rfl) (by kernel_rfl) (fun _ _ _ h => h) (Or.inl ⟨by rfl, ?_⟩) (by assumption) ?_
  rotate_left
  · intro w hSw
    (try dsimp only at hSw)
    go_simp
    try with_reducible rfl
  try simp only [Act.put, List.setIfInBounds_toArray, List.set_cons_zero, List.set_cons_succ]
  refine wpAnyH_take (i := 6) (oi := ({ dst := some 27, op := Op.binOp BinOp.eql 4 (Operand.tmp 25) (Operand.tmp 26) 4, type := 4, pos := "law.go:22", after := #[{ on := 4, ground := Ground.data }, { on := 5, ground := Ground.data }, { on := 3, ground := Ground.guard }], guard := some (3, true) } : Oper)) (v := ?_) rfl (by kernel_rfl) (by kernel_rfl) (by kernel_rfl) (fun _ _ _ h => h) (Or.inl ⟨by rfl, ?_⟩) (by assumption) ?_
  rotate_left
  · intro w hSw
    (try dsimp only at hSw)
    go_simp
    try with_reducible rfl
  try simp only [Act.put, List.setIfInBounds_toArray, List.set_cons_zero, List.set_cons_succ]
  refine wpAnyH_take (i := 7) (oi := ({ dst := some 28, op := Op.pick (Operand.tmp 24) (Operand.tmp 27) (Operand.const (Value.bool false)), type := 4, pos := "law.go:22", after := #[{ on := 3, ground := Ground.data }, { on := 6, ground := Ground.data }], guard := none } : Oper)) (v := ?_) rfl (by kernel_rfl) (by kernel_rfl) (by kernel_rfl) (fun _ _ _ h => h) (Or.inl ⟨by rfl, ?_⟩) (by assumption) ?_
  rotate_left
  · intro w hSw
    (try dsimp only at hSw)
    go_simp
    try with_reducible rfl
  try simp only [Act.put, List.setIfInBounds_toArray, List.set_cons_zero, List.set_cons_succ]
  refine wpAnyH_take (i := 8) (oi := ({ dst := some 29, op := Op.move (Operand.tmp 28), type := 4, pos := "law.go:22", after := #[{ on := 7, ground := Ground.data }, { on := 3, ground := Ground.chain }], guard := none } : Oper)) (v := ?_) rfl (by kernel_rfl) (by kernel_rfl) (by kernel_rfl) (fun _ _ _ h => h) (Or.inl ⟨by rfl, ?_⟩) (by assumption) ?_
  rotate_left
  · intro w hSw
    (try dsimp only at hSw)
    go_simp
    try with_reducible rfl
  try simp only [Act.put, List.setIfInBounds_toArray, List.set_cons_zero, List.set_cons_succ]
  refine wpAnyH_take (i := 9) (oi := ({ dst := some 30, op := Op.move (Operand.tmp 0), type := 9, pos := "law.go:22", after := #[{ on := 8, ground := Ground.guard }], guard := some (8, true) } : Oper)) (v := ?_) rfl (by kernel_rfl) (by kernel_rfl) (by kernel_rfl) (fun _ _ _ h => h) (Or.inl ⟨by rfl, ?_⟩) (by assumption) ?_
  rotate_left
  · intro w hSw
    (try dsimp only at hSw)
    go_simp
    try with_reducible rfl
  try simp only [Act.put, List.setIfInBounds_toArray, List.set_cons_zero, List.set_cons_succ]
  refine wpAnyH_take (i := 11) (oi := ({ dst := some 32, op := Op.move (Operand.tmp 0), type := 9, pos := "law.go:22", after := #[{ on := 8, ground := Ground.guard }], guard := some (8, true) } : Oper)) (v := ?_) rfl (by kernel_rfl) (by kernel_rfl) (by kernel_rfl) (fun _ _ _ h => h) (Or.inl ⟨by rfl, ?_⟩) (by assumption) ?_
  rotate_left
  · intro w hSw
    (try dsimp only at hSw)
    go_simp
    try with_reducible rfl
  try simp only [Act.put, List.setIfInBounds_toArray, List.set_cons_zero, List.set_cons_succ]
  refine wpAnyH_ready (rs := [10]) (by kernel_rfl) (by simp) ?_
  refine AllReadyH.cons (o := ({ dst := some 31, op := Op.call { callee := Callee.value (Operand.func 10), args := #[Operand.tmp 30], argTypes := #[9] }, type := 3, pos := "law.go:22", after := #[{ on := 9, ground := Ground.data }, { on := 8, ground := Ground.chain }, { on := 8, ground := Ground.guard }], guard := some (8, true) } : Oper)) rfl (fun K hK => ?_) AllReadyH.nil
  go_simp
  (go_at_call 10; ((with_reducible refine (Place_any _ _).mono ?_); rintro e w3 ⟨rfl, hb3⟩; have p3 := p2.below ((below_drew' w2).trans hb3); have r3 := r2.below ((below_drew' w2).trans hb3); obtain ⟨x30, x31, x32, x33⟩ := id p3; obtain ⟨y30, y31, y32, y33⟩ := id r3; have HS3 := Lib.hid (HS2.out.below ((below_drew' w2).trans hb3) (Nat.le_refl _))))
  go_wp2_with fail
  refine hK.out _ _ ?_ (fun hHeld => ?_)
  · (try dsimp only)
    go_keep
  clear hK K
  try simp only [Act.put, List.setIfInBounds_toArray, List.set_cons_zero, List.set_cons_succ]
  refine wpAnyH_ready (rs := [12]) (by kernel_rfl) (by simp) ?_
  refine AllReadyH.cons (o := ({ dst := some 33, op := Op.call { callee := Callee.value (Operand.func 14), args := #[Operand.tmp 32], argTypes := #[9] }, type := 3, pos := "law.go:22", after := #[{ on := 11, ground := Ground.data }, { on := 10, ground := Ground.chain }, { on := 8, ground := Ground.guard }], guard := some (8, true) } : Oper)) rfl (fun K hK => ?_) AllReadyH.nil
  go_simp
  (go_at_call 14; ((with_reducible refine (refPlace_any _ _).mono ?_); rintro e w4 ⟨rfl, hb4⟩; have p4 := p3.below hb4; have r4 := r3.below hb4; obtain ⟨x40, x41, x42, x43⟩ := id p4; obtain ⟨y40, y41, y42, y43⟩ := id r4; have HS4 := Lib.hid (HS3.out.below hb4 (Nat.le_refl _))))
  go_wp2_with fail
  refine hK.out _ _ ?_ (fun hHeld => ?_)
  · (try dsimp only)
    go_keep
  clear hK K
  try simp only [Act.put, List.setIfInBounds_toArray, List.set_cons_zero, List.set_cons_succ]
  refine wpAnyH_take (i := 13) (oi := ({ dst := some 34, op := Op.binOp BinOp.eql 3 (Operand.tmp 31) (Operand.tmp 33) 3, type := 4, pos := "law.go:22", after := #[{ on := 10, ground := Ground.data }, { on := 12, ground := Ground.data }, { on := 8, ground := Ground.guard }], guard := some (8, true) } : Oper)) (v := ?_) rfl (by kernel_rfl) (by kernel_rfl) (by kernel_rfl) (fun _ _ _ h => h) (Or.inl ⟨by rfl, ?_⟩) (by assumption) ?_
  rotate_left
  · intro w hSw
    (try dsimp only at hSw)
    go_simp
    try with_reducible rfl
  try simp only [Act.put, List.setIfInBounds_toArray, List.set_cons_zero, List.set_cons_succ]
  refine wpAnyH_take (i := 14) (oi := ({ dst := some 35, op := Op.pick (Operand.tmp 29) (Operand.tmp 34) (Operand.const (Value.bool false)), type := 4, pos := "law.go:22", after := #[{ on := 8, ground := Ground.data }, { on := 13, ground := Ground.data }], guard := none } : Oper)) (v := ?_) rfl (by kernel_rfl) (by kernel_rfl) (by kernel_rfl) (fun _ _ _ h => h) (Or.inl ⟨by rfl, ?_⟩) (by assumption) ?_
  rotate_left
  · intro w hSw
    (try dsimp only at hSw)
    go_simp
    try with_reducible rfl
  try simp only [Act.put, List.setIfInBounds_toArray, List.set_cons_zero, List.set_cons_succ]
  refine wpAnyH_take (i := 15) (oi := ({ dst := some 36, op := Op.move (Operand.tmp 35), type := 4, pos := "law.go:22", after := #[{ on := 14, ground := Ground.data }, { on := 12, ground := Ground.chain }], guard := none } : Oper)) (v := ?_) rfl (by kernel_rfl) (by kernel_rfl) (by kernel_rfl) (fun _ _ _ h => h) (Or.inl ⟨by rfl, ?_⟩) (by assumption) ?_
  rotate_left
  · intro w hSw
    (try dsimp only at hSw)
    go_simp
    try with_reducible rfl
  try simp only [Act.put, List.setIfInBounds_toArray, List.set_cons_zero, List.set_cons_succ]
  refine wpAnyH_take (i := 16) (oi := ({ dst := some 37, op := Op.move (Operand.tmp 0), type := 9, pos := "law.go:22", after := #[{ on := 15, ground := Ground.guard }], guard := some (15, true) } : Oper)) (v := ?_) rfl (by kernel_rfl) (by kernel_rfl) (by kernel_rfl) (fun _ _ _ h => h) (Or.inl ⟨by rfl, ?_⟩) (by assumption) ?_
  rotate_left
  · intro w hSw
    (try dsimp only at hSw)
    go_simp
    try with_reducible rfl
  try simp only [Act.put, List.setIfInBounds_toArray, List.set_cons_zero, List.set_cons_succ]
  refine wpAnyH_take (i := 18) (oi := ({ dst := some 39, op := Op.move (Operand.tmp 0), type := 9, pos := "law.go:22", after := #[{ on := 15, ground := Ground.guard }], guard := some (15, true) } : Oper)) (v := ?_) rfl (by kernel_rfl) (by kernel_rfl) (by kernel_rfl) (fun _ _ _ h => h) (Or.inl ⟨by rfl, ?_⟩) (by assumption) ?_
  rotate_left
  · intro w hSw
    (try dsimp only at hSw)
    go_simp
    try with_reducible rfl
  try simp only [Act.put, List.setIfInBounds_toArray, List.set_cons_zero, List.set_cons_succ]
  refine wpAnyH_ready (rs := [17]) (by kernel_rfl) (by simp) ?_
  refine AllReadyH.cons (o := ({ dst := some 38, op := Op.call { callee := Callee.value (Operand.func 11), args := #[Operand.tmp 37], argTypes := #[9] }, type := 25, pos := "law.go:22", after := #[{ on := 16, ground := Ground.data }, { on := 15, ground := Ground.chain }, { on := 15, ground := Ground.guard }], guard := some (15, true) } : Oper)) rfl (fun K hK => ?_) AllReadyH.nil
  go_simp
  (go_at_call 11; ((with_reducible refine (Longs_any _ _ HS4.out).mono ?_); rintro e w5 ⟨v5, rfl, hv5, _, hb5⟩; have p5 := p4.below hb5; have r5 := r4.below hb5; obtain ⟨x50, x51, x52, x53⟩ := id p5; obtain ⟨y50, y51, y52, y53⟩ := id r5; have HS5 := Lib.hid (HS4.out.below hb5 (Nat.le_refl _))))
  go_wp2_with fail
  refine hK.out _ _ ?_ (fun hHeld => ?_)
  · (try dsimp only)
    go_keep
  clear hK K
  try simp only [Act.put, List.setIfInBounds_toArray, List.set_cons_zero, List.set_cons_succ]
  refine wpAnyH_ready (rs := [19]) (by kernel_rfl) (by simp) ?_
  refine AllReadyH.cons (o := ({ dst := some 40, op := Op.call { callee := Callee.value (Operand.func 16), args := #[Operand.tmp 39], argTypes := #[9] }, type := 25, pos := "law.go:22", after := #[{ on := 18, ground := Ground.data }, { on := 17, ground := Ground.chain }, { on := 15, ground := Ground.guard }], guard := some (15, true) } : Oper)) rfl (fun K hK => ?_) AllReadyH.nil
  go_simp
  (go_at_call 16; ((with_reducible refine (refLongs_any _ _).mono ?_); rintro e w6 ⟨v6, rfl, hv6, hb6⟩; have p6 := p5.below hb6; have r6 := r5.below hb6; obtain ⟨x60, x61, x62, x63⟩ := id p6; obtain ⟨y60, y61, y62, y63⟩ := id r6; have HS6 := Lib.hid (HS5.out.below hb6 (Nat.le_refl _)); have hv56 := hv5.below hb6 (Nat.le_refl _)))
  go_wp2_with fail
  refine hK.out _ _ ?_ (fun hHeld => ?_)
  · (try dsimp only)
    go_keep
  clear hK K
  try simp only [Act.put, List.setIfInBounds_toArray, List.set_cons_zero, List.set_cons_succ]
  refine wpAnyH_ready (rs := [20]) (by kernel_rfl) (by simp) ?_
  refine AllReadyH.cons (o := ({ dst := some 41, op := Op.call { callee := Callee.value (Operand.func 15), args := #[Operand.tmp 38, Operand.tmp 40], argTypes := #[25, 25] }, type := 4, pos := "law.go:22", after := #[{ on := 17, ground := Ground.data }, { on := 19, ground := Ground.data }, { on := 19, ground := Ground.chain }, { on := 15, ground := Ground.guard }], guard := some (15, true) } : Oper)) rfl (fun K hK => ?_) AllReadyH.nil
  go_simp
  (go_at_call 15; ((with_reducible refine (Texts_same _ _ (longsOf s) _ hv56 hv6).mono ?_); rintro e w7 ⟨rfl, hb7⟩; have p7 := p6.below hb7; have r7 := r6.below hb7; obtain ⟨x70, x71, x72, x73⟩ := id p7; obtain ⟨y70, y71, y72, y73⟩ := id r7; have HS7 := Lib.hid (HS6.out.below hb7 (Nat.le_refl _))))
  go_wp2_with fail
  refine hK.out _ _ ?_ (fun hHeld => ?_)
  · (try dsimp only)
    go_keep
  clear hK K
  try simp only [Act.put, List.setIfInBounds_toArray, List.set_cons_zero, List.set_cons_succ]
  refine wpAnyH_take (i := 21) (oi := ({ dst := some 42, op := Op.pick (Operand.tmp 36) (Operand.tmp 41) (Operand.const (Value.bool false)), type := 4, pos := "law.go:22", after := #[{ on := 15, ground := Ground.data }, { on := 20, ground := Ground.data }], guard := none } : Oper)) (v := ?_) rfl (by kernel_rfl) (by kernel_rfl) (by kernel_rfl) (fun _ _ _ h => h) (Or.inl ⟨by rfl, ?_⟩) (by assumption) ?_
  rotate_left
  · intro w hSw
    (try dsimp only at hSw)
    go_simp
    try with_reducible rfl
  try simp only [Act.put, List.setIfInBounds_toArray, List.set_cons_zero, List.set_cons_succ]
  refine wpAnyH_take (i := 22) (oi := ({ dst := some 43, op := Op.move (Operand.tmp 42), type := 4, pos := "law.go:22", after := #[{ on := 21, ground := Ground.data }, { on := 20, ground := Ground.chain }], guard := none } : Oper)) (v := ?_) rfl (by kernel_rfl) (by kernel_rfl) (by kernel_rfl) (fun _ _ _ h => h) (Or.inl ⟨by rfl, ?_⟩) (by assumption) ?_
  rotate_left
  · intro w hSw
    (try dsimp only at hSw)
    go_simp
    try with_reducible rfl
  try simp only [Act.put, List.setIfInBounds_toArray, List.set_cons_zero, List.set_cons_succ]
  refine wpAnyH_take (i := 23) (oi := ({ dst := some 44, op := Op.move (Operand.tmp 4), type := 4, pos := "law.go:22", after := #[{ on := 22, ground := Ground.guard }], guard := some (22, true) } : Oper)) (v := ?_) rfl (by kernel_rfl) (by kernel_rfl) (by kernel_rfl) (fun _ _ _ h => h) (Or.inl ⟨by rfl, ?_⟩) (by assumption) ?_
  rotate_left
  · intro w hSw
    (try dsimp only at hSw)
    go_simp
    try with_reducible rfl
  try simp only [Act.put, List.setIfInBounds_toArray, List.set_cons_zero, List.set_cons_succ]
  refine wpAnyH_take (i := 24) (oi := ({ dst := some 45, op := Op.unOp UnOp.not 4 (Operand.tmp 44), type := 4, pos := "law.go:22", after := #[{ on := 23, ground := Ground.data }, { on := 22, ground := Ground.guard }], guard := some (22, true) } : Oper)) (v := ?_) rfl (by kernel_rfl) (by kernel_rfl) (by kernel_rfl) (fun _ _ _ h => h) (Or.inl ⟨by rfl, ?_⟩) (by assumption) ?_
  rotate_left
  · intro w hSw
    (try dsimp only at hSw)
    go_simp
    try with_reducible rfl
  try simp only [Act.put, List.setIfInBounds_toArray, List.set_cons_zero, List.set_cons_succ]
  refine wpAnyH_take (i := 25) (oi := ({ dst := some 46, op := Op.move (Operand.tmp 45), type := 4, pos := "law.go:22", after := #[{ on := 24, ground := Ground.data }, { on := 22, ground := Ground.chain }, { on := 22, ground := Ground.guard }], guard := some (22, true) } : Oper)) (v := ?_) rfl (by kernel_rfl) (by kernel_rfl) (by kernel_rfl) (fun _ _ _ h => h) (Or.inl ⟨by rfl, ?_⟩) (by assumption) ?_
  rotate_left
  · intro w hSw
    (try dsimp only at hSw)
    go_simp
    try with_reducible rfl
  try simp only [Act.put, List.setIfInBounds_toArray, List.set_cons_zero, List.set_cons_succ]
  refine wpAnyH_take (i := 26) (oi := ({ dst := some 47, op := Op.load 28 (Operand.tmp 3), type := 28, pos := "law.go:22", after := #[{ on := 25, ground := Ground.guard }], guard := some (25, false) } : Oper)) (v := undef) rfl (by kernel_rfl) (by kernel_rfl) (by kernel_rfl) (fun _ _ _ h => h) (Or.inr ⟨by rfl, rfl⟩) (by assumption) ?_
  try simp only [Act.put, List.setIfInBounds_toArray, List.set_cons_zero, List.set_cons_succ]
  refine wpAnyH_take (i := 28) (oi := ({ dst := some 49, op := Op.load 35 (Operand.tmp 5), type := 35, pos := "law.go:22", after := #[{ on := 25, ground := Ground.guard }], guard := some (25, false) } : Oper)) (v := undef) rfl (by kernel_rfl) (by kernel_rfl) (by kernel_rfl) (fun _ _ _ h => h) (Or.inr ⟨by rfl, rfl⟩) (by assumption) ?_
  try simp only [Act.put, List.setIfInBounds_toArray, List.set_cons_zero, List.set_cons_succ]
  refine wpAnyH_ready (rs := [27]) (by kernel_rfl) (by simp) ?_
  refine AllReadyH.cons (o := ({ dst := some 48, op := Op.call { callee := Callee.value (Operand.func 17), args := #[Operand.tmp 47], argTypes := #[28] }, type := 25, pos := "law.go:22", after := #[{ on := 26, ground := Ground.data }, { on := 25, ground := Ground.chain }, { on := 25, ground := Ground.guard }], guard := some (25, false) } : Oper)) rfl (fun K hK => ?_) AllReadyH.nil
  go_simp
  refine hK.out _ _ ?_ (fun hHeld => ?_)
  · (try dsimp only)
    go_keep
  clear hK K
  try simp only [Act.put, List.setIfInBounds_toArray, List.set_cons_zero, List.set_cons_succ]
  refine wpAnyH_ready (rs := [29]) (by kernel_rfl) (by simp) ?_
  refine AllReadyH.cons (o := ({ dst := some 50, op := Op.call { callee := Callee.value (Operand.func 18), args := #[Operand.tmp 49], argTypes := #[35] }, type := 25, pos := "law.go:22", after := #[{ on := 28, ground := Ground.data }, { on := 27, ground := Ground.chain }, { on := 25, ground := Ground.guard }], guard := some (25, false) } : Oper)) rfl (fun K hK => ?_) AllReadyH.nil
  go_simp
  refine hK.out _ _ ?_ (fun hHeld => ?_)
  · (try dsimp only)
    go_keep
  clear hK K
  try simp only [Act.put, List.setIfInBounds_toArray, List.set_cons_zero, List.set_cons_succ]
  refine wpAnyH_ready (rs := [30]) (by kernel_rfl) (by simp) ?_
  refine AllReadyH.cons (o := ({ dst := some 51, op := Op.call { callee := Callee.value (Operand.func 15), args := #[Operand.tmp 48, Operand.tmp 50], argTypes := #[25, 25] }, type := 4, pos := "law.go:22", after := #[{ on := 27, ground := Ground.data }, { on := 29, ground := Ground.data }, { on := 29, ground := Ground.chain }, { on := 25, ground := Ground.guard }], guard := some (25, false) } : Oper)) rfl (fun K hK => ?_) AllReadyH.nil
  go_simp
  refine hK.out _ _ ?_ (fun hHeld => ?_)
  · (try dsimp only)
    go_keep
  clear hK K
  try simp only [Act.put, List.setIfInBounds_toArray, List.set_cons_zero, List.set_cons_succ]
  refine wpAnyH_take (i := 31) (oi := ({ dst := some 52, op := Op.pick (Operand.tmp 46) (Operand.const (Value.bool true)) (Operand.tmp 51), type := 4, pos := "law.go:22", after := #[{ on := 25, ground := Ground.data }, { on := 30, ground := Ground.data }, { on := 22, ground := Ground.guard }], guard := some (22, true) } : Oper)) (v := ?_) rfl (by kernel_rfl) (by kernel_rfl) (by kernel_rfl) (fun _ _ _ h => h) (Or.inl ⟨by rfl, ?_⟩) (by assumption) ?_
  rotate_left
  · intro w hSw
    (try dsimp only at hSw)
    go_simp
    try with_reducible rfl
  try simp only [Act.put, List.setIfInBounds_toArray, List.set_cons_zero, List.set_cons_succ]
  refine wpAnyH_take (i := 32) (oi := ({ dst := some 53, op := Op.pick (Operand.tmp 43) (Operand.tmp 52) (Operand.const (Value.bool false)), type := 4, pos := "law.go:22", after := #[{ on := 22, ground := Ground.data }, { on := 31, ground := Ground.data }], guard := none } : Oper)) (v := ?_) rfl (by kernel_rfl) (by kernel_rfl) (by kernel_rfl) (fun _ _ _ h => h) (Or.inl ⟨by rfl, ?_⟩) (by assumption) ?_
  rotate_left
  · intro w hSw
    (try dsimp only at hSw)
    go_simp
    try with_reducible rfl
  try simp only [Act.put, List.setIfInBounds_toArray, List.set_cons_zero, List.set_cons_succ]
  refine wpAnyH_take (i := 33) (oi := ({ dst := some 54, op := Op.move (Operand.tmp 53), type := 4, pos := "law.go:22", after := #[{ on := 32, ground := Ground.data }, { on := 30, ground := Ground.chain }], guard := none } : Oper)) (v := ?_) rfl (by kernel_rfl) (by kernel_rfl) (by kernel_rfl) (fun _ _ _ h => h) (Or.inl ⟨by rfl, ?_⟩) (by assumption) ?_
  rotate_left
  · intro w hSw
    (try dsimp only at hSw)
    go_simp
    try with_reducible rfl
  try simp only [Act.put, List.setIfInBounds_toArray, List.set_cons_zero, List.set_cons_succ]
  refine wpAnyH_ready (rs := [34]) (by kernel_rfl) (by simp) ?_
  refine AllReadyH.cons (o := ({ dst := some 55, op := Op.call { callee := Callee.value (Operand.func 12), args := #[], argTypes := #[] }, type := 4, pos := "law.go:22", after := #[{ on := 33, ground := Ground.chain }, { on := 33, ground := Ground.guard }], guard := some (33, true) } : Oper)) rfl (fun K hK => ?_) AllReadyH.nil
  go_simp
  (go_at_call 12; ((with_reducible refine (lives_any _ HS7.out).mono ?_); rintro e w8 ⟨rfl, hb8⟩; have p8 := p7.below hb8; have r8 := r7.below hb8; obtain ⟨x80, x81, x82, x83⟩ := id p8; obtain ⟨y80, y81, y82, y83⟩ := id r8; have HS8 := Lib.hid (HS7.out.below hb8 (Nat.le_refl _))))
  go_wp2_with fail
  refine hK.out _ _ ?_ (fun hHeld => ?_)
  · (try dsimp only)
    go_keep
  clear hK K
  try simp only [Act.put, List.setIfInBounds_toArray, List.set_cons_zero, List.set_cons_succ]
  refine wpAnyH_take (i := 35) (oi := ({ dst := some 56, op := Op.pick (Operand.tmp 54) (Operand.tmp 55) (Operand.const (Value.bool false)), type := 4, pos := "law.go:22", after := #[{ on := 33, ground := Ground.data }, { on := 34, ground := Ground.data }], guard := none } : Oper)) (v := ?_) rfl (by kernel_rfl) (by kernel_rfl) (by kernel_rfl) (fun _ _ _ h => h) (Or.inl ⟨by rfl, ?_⟩) (by assumption) ?_
  rotate_left
  · intro w hSw
    (try dsimp only at hSw)
    go_simp
    try with_reducible rfl
  try simp only [Act.put, List.setIfInBounds_toArray, List.set_cons_zero, List.set_cons_succ]
  refine wpAnyH_take (i := 36) (oi := ({ dst := some 2, op := Op.assign (Operand.tmp 56), type := 4, pos := "law.go:22", after := #[{ on := 35, ground := Ground.data }, { on := 34, ground := Ground.chain }, { on := 0, ground := Ground.phase }, { on := 1, ground := Ground.phase }, { on := 2, ground := Ground.phase }, { on := 3, ground := Ground.phase }, { on := 4, ground := Ground.phase }, { on := 5, ground := Ground.phase }, { on := 6, ground := Ground.phase }, { on := 7, ground := Ground.phase }, { on := 8, ground := Ground.phase }, { on := 9, ground := Ground.phase }, { on := 10, ground := Ground.phase }, { on := 11, ground := Ground.phase }, { on := 12, ground := Ground.phase }, { on := 13, ground := Ground.phase }, { on := 14, ground := Ground.phase }, { on := 15, ground := Ground.phase }, { on := 16, ground := Ground.phase }, { on := 17, ground := Ground.phase }, { on := 18, ground := Ground.phase }, { on := 19, ground := Ground.phase }, { on := 20, ground := Ground.phase }, { on := 21, ground := Ground.phase }, { on := 22, ground := Ground.phase }, { on := 23, ground := Ground.phase }, { on := 24, ground := Ground.phase }, { on := 25, ground := Ground.phase }, { on := 26, ground := Ground.phase }, { on := 27, ground := Ground.phase }, { on := 28, ground := Ground.phase }, { on := 29, ground := Ground.phase }, { on := 30, ground := Ground.phase }, { on := 31, ground := Ground.phase }, { on := 32, ground := Ground.phase }, { on := 33, ground := Ground.phase }, { on := 34, ground := Ground.phase }, { on := 35, ground := Ground.phase }], guard := none } : Oper)) (v := ?_) rfl (by kernel_rfl) (by kernel_rfl) (by kernel_rfl) (fun _ _ _ h => h) (Or.inl ⟨by rfl, ?_⟩) (by assumption) ?_
  rotate_left
  · intro w hSw
    (try dsimp only at hSw)
    go_simp
    try with_reducible rfl
  try simp only [Act.put, List.setIfInBounds_toArray, List.set_cons_zero, List.set_cons_succ]
  refine wpAnyH_done (by kernel_rfl) ?_ _
  have hA3 := hA2.drew.trans (hb3.mono hA2.drew.size)
  have hA4 := hA3.trans (hb4.mono hA3.size)
  have hA5 := hA4.trans (hb5.mono hA4.size)
  have hA6 := hA5.trans (hb6.mono hA5.size)
  have hA7 := hA6.trans (hb7.mono hA6.size)
  have hA8 := hA7.trans (hb8.mono hA7.size)
  go_wp2_with fail
  go_ret
  exact ⟨rfl, hA8⟩

set_option maxHeartbeats 400000 in
theorem propFinds_great (s : ByteArray) (hs : ¬ s.size ≤ 1000) (hm : s.size ≤ maxLen) (w : World) (hS : ShortsIn w) :
    Calls Tryd.prog 4 #[.string s] w fun e w' => e = .returned (.bool true) ∧ Below w.heap.size w w' := by
  unfold maxLen at hm
  have HS := Lib.hid hS
  clear hS
  have hg : (1000 : Int) < (s.size : Int) := by omega
  go_enter Tryd.func4, Tryd.ntmps4
  go_wp2_with fail
  refine (lives_any _ HS.out).mono ?_
  rintro e w2 ⟨rfl, hb2⟩
  go_wp2_with fail
  go_ret
  exact ⟨rfl, hb2⟩
theorem propFinds_walk (s : ByteArray) (hm : s.size ≤ maxLen) (w : World) (hS : ShortsIn w) :
    Calls Tryd.prog 4 #[.string s] w fun e w' => e = .returned (.bool true) ∧ Below w.heap.size w w' := by
  by_cases hs : s.size ≤ 1000
  · cases h : placeN s with
    | none => exact propFinds_no s h hs w hS
    | some k => exact propFinds_yes s k h hs w hS
  · exact propFinds_great s hs hm w hS
end Go.Proofs.YtpadcjcoafidgaaDoor
