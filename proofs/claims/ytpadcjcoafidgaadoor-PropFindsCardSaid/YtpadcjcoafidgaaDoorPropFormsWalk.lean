/- The walk of gouachelaw14.PropForms: it returns true, whatever the property and the number. -/
import Derived.Test.YtpadcjcoafidgaaDoorRefForms
import Derived.Test.YtpadcjcoafidgaaDoorRefLongs
import Derived.Test.YtpadcjcoafidgaaDoorForms
import Derived.Test.YtpadcjcoafidgaaDoorLives
import Derived.Test.YtpadcjcoafidgaaDoorAll
import Derived.Deep.RegionHeld3
namespace Go.Proofs.YtpadcjcoafidgaaDoor
open Go.RowKit

/-- Four cells of a row of texts and a bool. -/
def Row4 (W : World) (b o : Nat) (x y : ByteArray) (i : Bool) (f : ByteArray) : Prop :=
  W.cell? ⟨b, o, none⟩ = some (.string x) ∧ W.cell? ⟨b, o + 1, none⟩ = some (.string y) ∧ W.cell? ⟨b, o + 2, none⟩ = some (.bool i) ∧ W.cell? ⟨b, o + 3, none⟩ = some (.string f)
theorem Row4.below {A B : World} {b o : Nat} {x y f : ByteArray} {i : Bool} (h : Row4 A b o x y i f) (hb : Below A.heap.size A B) : Row4 B b o x y i f :=
  ⟨cell_later hb h.1, cell_later hb h.2.1, cell_later hb h.2.2.1, cell_later hb h.2.2.2⟩
theorem below_drew' (w : World) : Below w.heap.size w w.drew := (Below.refl _ _).drew

theorem Forms_str (x y f : ByteArray) (i : Bool) (hf : f.size ≤ 1000) (w : World) :
    Calls Tryd.prog 17 #[.agg #[.string x, .string y, .bool i, .string f]] w fun e w' => ∃ v, e = .returned v ∧ Strs w.heap.size w' v (parts f) ∧ Below w.heap.size w w' := Forms_any x y f i (by omega) w
theorem refForms_str (x y f : ByteArray) (i : Bool) (hf : f.size ≤ 1000) (w : World) :
    Calls Tryd.prog 18 #[.agg #[.string x, .string y, .bool i, .string f]] w fun e w' => ∃ v, e = .returned v ∧ Strs w.heap.size w' v (parts f) ∧ Below w.heap.size w w' := refForms_any x y f i (by omega) w

set_option maxRecDepth 100000 in
set_option maxHeartbeats 4000000 in
theorem propForms_small (x y f : ByteArray) (i : Bool) (n : Int) (hf : f.size ≤ 1000) (hn : 0 ≤ n) (w : World) (hS : ShortsIn w) :
    Calls Tryd.prog 6 #[.agg #[.string x, .string y, .bool i, .string f], .int .u64 n] w fun e w' => e = .returned (.bool true) ∧ Below w.heap.size w w' := by
  have HS := Lib.hid hS
  clear hS
  go_enter Tryd.func6, Tryd.ntmps6
  go_wp2_with fail
  have hA0 := below_alloc_new w (.cells #[.string x, .string y, .bool i, .string f] 28)
  have p0 : Row4 (w.alloc (.cells #[.string x, .string y, .bool i, .string f] 28)) w.heap.size 0 x y i f := ⟨by simp, by simp, by simp, by simp⟩
  refine (All_any _).mono ?_
  rintro e w1 ⟨v1, rfl, hv1, hb1⟩
  have hA1 := hA0.trans (hb1.mono hA0.size)
  have p1 := p0.below hb1
  obtain ⟨b1, o1, c1, rfl, _, hlt1, hc1⟩ := hv1.shape (by decide)
  clear hv1 hb1 p0
  go_wp2_with fail
  refine (refAll_rows _).mono ?_
  rintro e w2 ⟨rfl, ht2, hb2⟩
  have hA2 := hA1.trans (hb2.mono hA1.size)
  have p2 := p1.below hb2
  obtain ⟨j, hj⟩ : ∃ j : Nat, n % 48 = j := ⟨(n % 48).toNat, by omega⟩
  have hj48 : j < 48 := by omega
  have hcell := fun q z hx => (hb2.cell (p := ⟨b1, _, none⟩) hlt1).trans (hc1 j q z (by rw [rowAt_cells hj48]; exact hx))
  have r2 : Row4 w2 b1 (o1 + j * 4) (rowAt j).1 (rowAt j).2.1 (rowAt j).2.2.1 (rowAt j).2.2.2 := ⟨hcell 0 _ rfl, hcell 1 _ rfl, hcell 2 _ rfl, hcell 3 _ rfl⟩
  have s2 : Row4 w2 w1.heap.size (j * 4) (rowAt j).1 (rowAt j).2.1 (rowAt j).2.2.1 (rowAt j).2.2.2 := tbl_cells ht2 hj48
  have HS2 := Lib.hid (HS.out.below hA2 (Nat.le_refl _))
  clear hc1 hcell ht2 hb2 p1 hA1 hA0
  have l1 : tblRows.length = 48 := by simp [tblRows, tbl_length]
  simp only [l1]
  clear l1
  go_wp2_with fail
  obtain ⟨x20, x21, x22, x23⟩ := id p2
  obtain ⟨y20, y21, y22, y23⟩ := id r2
  obtain ⟨z20, z21, z22, z23⟩ := id s2
  have q1 : (0 : Int) ≤ (j : Int) := by omega
  have q2 : (j : Int) < 48 := by omega
  go_region_held3 (fun w' => w'.cell? ⟨w.heap.size, 0, none⟩ = some (.string x) ∧ w'.cell? ⟨w.heap.size, 0 + 1, none⟩ = some (.string y) ∧ w'.cell? ⟨w.heap.size, 0 + 2, none⟩ = some (.bool i) ∧ w'.cell? ⟨w.heap.size, 0 + 3, none⟩ = some (.string f) ∧
      w'.cell? ⟨b1, o1 + j * 4, none⟩ = some (.string (rowAt j).1) ∧ w'.cell? ⟨b1, o1 + j * 4 + 1, none⟩ = some (.string (rowAt j).2.1) ∧ w'.cell? ⟨b1, o1 + j * 4 + 2, none⟩ = some (.bool (rowAt j).2.2.1) ∧ w'.cell? ⟨b1, o1 + j * 4 + 3, none⟩ = some (.string (rowAt j).2.2.2) ∧
      w'.cell? ⟨w1.heap.size, j * 4, none⟩ = some (.string (rowAt j).1) ∧ w'.cell? ⟨w1.heap.size, j * 4 + 1, none⟩ = some (.string (rowAt j).2.1) ∧ w'.cell? ⟨w1.heap.size, j * 4 + 2, none⟩ = some (.bool (rowAt j).2.2.1) ∧ w'.cell? ⟨w1.heap.size, j * 4 + 3, none⟩ = some (.string (rowAt j).2.2.2)) (go_keep)
    (first
      | (go_at_call 17; ((with_reducible refine (Forms_str _ _ _ _ hf _).mono ?_); rintro e w3 ⟨v3, rfl, hv3, hb3⟩; have p3 := p2.below ((below_drew' w2).trans hb3); have r3 := r2.below ((below_drew' w2).trans hb3); have s3 := s2.below ((below_drew' w2).trans hb3); obtain ⟨x30, x31, x32, x33⟩ := id p3; obtain ⟨y30, y31, y32, y33⟩ := id r3; obtain ⟨z30, z31, z32, z33⟩ := id s3; have HS3 := Lib.hid (HS2.out.below ((below_drew' w2).trans hb3) (Nat.le_refl _))))
      | (go_at_call 18; ((with_reducible refine (refForms_str _ _ _ _ hf _).mono ?_); rintro e w4 ⟨v4, rfl, hv4, hb4⟩; have p4 := p3.below hb4; have r4 := r3.below hb4; have s4 := s3.below hb4; obtain ⟨x40, x41, x42, x43⟩ := id p4; obtain ⟨y40, y41, y42, y43⟩ := id r4; obtain ⟨z40, z41, z42, z43⟩ := id s4; have HS4 := Lib.hid (HS3.out.below hb4 (Nat.le_refl _)); have hv34 := hv3.below hb4 (Nat.le_refl _)))
      | (go_at_call 15; ((with_reducible refine (Texts_same _ _ (parts f) _ hv34 hv4).mono ?_); rintro e w5 ⟨rfl, hb5⟩; have p5 := p4.below hb5; have r5 := r4.below hb5; have s5 := s4.below hb5; obtain ⟨x50, x51, x52, x53⟩ := id p5; obtain ⟨y50, y51, y52, y53⟩ := id r5; obtain ⟨z50, z51, z52, z53⟩ := id s5; have HS5 := Lib.hid (HS4.out.below hb5 (Nat.le_refl _))))
      | (go_at_call 8; ((with_reducible refine (Shorts_any _ HS5.out).mono ?_); rintro e w6 ⟨v6, rfl, hv6, hb6⟩; have p6 := p5.below hb6; have r6 := r5.below hb6; have s6 := s5.below hb6; obtain ⟨x60, x61, x62, x63⟩ := id p6; obtain ⟨y60, y61, y62, y63⟩ := id r6; obtain ⟨z60, z61, z62, z63⟩ := id s6; have HS6 := Lib.hid (HS5.out.below hb6 (Nat.le_refl _))))
      | (go_at_call 20; ((with_reducible refine (refShorts_any _).mono ?_); rintro e w7 ⟨v7, rfl, hv7, hb7⟩; have p7 := p6.below hb7; have r7 := r6.below hb7; have s7 := s6.below hb7; obtain ⟨x70, x71, x72, x73⟩ := id p7; obtain ⟨y70, y71, y72, y73⟩ := id r7; obtain ⟨z70, z71, z72, z73⟩ := id s7; have HS7 := Lib.hid (HS6.out.below hb7 (Nat.le_refl _)); have hv67 := hv6.below hb7 (Nat.le_refl _)))
      | (go_at_call 15; ((with_reducible refine (Texts_same _ _ (shortsTbl.map (·.1)) _ hv67 hv7).mono ?_); rintro e w8 ⟨rfl, hb8⟩; have p8 := p7.below hb8; have r8 := r7.below hb8; have s8 := s7.below hb8; obtain ⟨x80, x81, x82, x83⟩ := id p8; obtain ⟨y80, y81, y82, y83⟩ := id r8; obtain ⟨z80, z81, z82, z83⟩ := id s8; have HS8 := Lib.hid (HS7.out.below hb8 (Nat.le_refl _))))
      | (go_at_call 12; ((with_reducible refine (lives_any _ HS8.out).mono ?_); rintro e w9 ⟨rfl, hb9⟩; have p9 := p8.below hb9; have r9 := r8.below hb9; have s9 := s8.below hb9; obtain ⟨x90, x91, x92, x93⟩ := id p9; obtain ⟨y90, y91, y92, y93⟩ := id r9; obtain ⟨z90, z91, z92, z93⟩ := id s9; have HS9 := Lib.hid (HS8.out.below hb9 (Nat.le_refl _)))))
  have hA3 := hA2.drew.trans (hb3.mono hA2.drew.size)
  have hA4 := hA3.trans (hb4.mono hA3.size)
  have hA5 := hA4.trans (hb5.mono hA4.size)
  have hA6 := hA5.trans (hb6.mono hA5.size)
  have hA7 := hA6.trans (hb7.mono hA6.size)
  have hA8 := hA7.trans (hb8.mono hA7.size)
  have hA9 := hA8.trans (hb9.mono hA8.size)
  go_wp2_with fail
  go_ret
  exact ⟨rfl, hA9⟩

set_option maxRecDepth 100000 in
set_option maxHeartbeats 1000000 in
theorem propForms_great (x y f : ByteArray) (i : Bool) (n : Int) (hf : ¬ f.size ≤ 1000) (hm : f.size ≤ maxLen) (w : World) (hS : ShortsIn w) :
    Calls Tryd.prog 6 #[.agg #[.string x, .string y, .bool i, .string f], .int .u64 n] w fun e w' => e = .returned (.bool true) ∧ Below w.heap.size w w' := by
  unfold maxLen at hm
  have hA1 := below_alloc_new w (.cells #[.string x, .string y, .bool i, .string f] 28)
  have HS1 := Lib.hid (hS.below hA1 (Nat.le_refl _))
  clear hS
  have hg : (1000 : Int) < (f.size : Int) := by omega
  go_enter Tryd.func6, Tryd.ntmps6
  go_wp2_with fail
  refine (lives_any _ HS1.out).mono ?_
  rintro e w2 ⟨rfl, hb2⟩
  go_wp2_with fail
  go_ret
  exact ⟨rfl, hA1.trans (hb2.mono hA1.size)⟩
theorem propForms_walk (x y f : ByteArray) (i : Bool) (n : Int) (hm : f.size ≤ maxLen) (hn : 0 ≤ n) (w : World) (hS : ShortsIn w) :
    Calls Tryd.prog 6 #[.agg #[.string x, .string y, .bool i, .string f], .int .u64 n] w fun e w' => e = .returned (.bool true) ∧ Below w.heap.size w w' := by
  by_cases hf : f.size ≤ 1000
  · exact propForms_small x y f i n hf hn w hS
  · exact propForms_great x y f i n hf hm w hS
end Go.Proofs.YtpadcjcoafidgaaDoor
