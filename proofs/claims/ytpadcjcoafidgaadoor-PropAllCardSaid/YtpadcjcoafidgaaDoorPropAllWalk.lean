/- The walk of gouachelaw14.PropAll: it returns true, whatever the two numbers. -/
import Derived.Test.YtpadcjcoafidgaaDoorLives
import Derived.Test.YtpadcjcoafidgaaDoorAll
namespace Go.Proofs.YtpadcjcoafidgaaDoor
open Go.RowKit

theorem tbl_placed : ∀ j, j < 48 → placeN (rowAt j).1 = some j ∧ longsOf (rowAt j).1 = [] := by decide +kernel
theorem shorts_facts : ∀ a, a < 6 → longsOf (shortAt a).1 = longsAt a ∧ 2 ≤ (longsAt a).length ∧ placeN (shortAt a).1 = none ∧ ∀ n ∈ longsAt a, (placeN n).isSome = true := by decide +kernel
theorem shorts_apart : ∀ a, a < 6 → ∀ b, b < 6 → ∀ n ∈ longsAt a, ∀ m ∈ longsAt b, n = m → a = b := by decide +kernel

theorem Place_no {s : ByteArray} (h : placeN s = none) (w : World) :
    Calls Tryd.prog 10 #[.string s] w fun e w' => e = .returned (.int .i64 (-1)) ∧ Below w.heap.size w w' := by
  have := Place_any s w
  unfold place at this
  rw [h] at this
  exact this
theorem shortNames_get {a : Nat} (h : a < 6) (h' : a < (shortsTbl.map (·.1)).length) : (shortsTbl.map (·.1))[a]'h' = (shortAt a).1 := by
  rw [List.getElem_map, shortAt_getElem (by rw [shortsTbl_length]; exact h)]

set_option maxRecDepth 100000 in
set_option maxHeartbeats 2000000 in
theorem propAll_walk (i k : Int) (hi0 : 0 ≤ i) (hk0 : 0 ≤ k) (w : World) (hS : ShortsIn w) :
    Calls Tryd.prog 3 #[.int .u64 i, .int .u64 k] w fun e w' => e = .returned (.bool true) ∧ Below w.heap.size w w' := by
  have HS := Lib.hid hS
  clear hS
  go_enter Tryd.func3, Tryd.ntmps3
  go_wp2_with fail
  refine (All_any _).mono ?_
  rintro e w1 ⟨v1, rfl, hv1, hb1⟩
  go_wp2_with fail
  refine (Shorts_any _ (HS.out.below hb1 (Nat.le_refl _))).mono ?_
  rintro e w2 ⟨v2, rfl, hv2, hb2⟩
  have hA2 := hb1.trans (hb2.mono hb1.size)
  have hv1' := hv1.below hb2 (Nat.le_refl _)
  obtain ⟨b1, o1, c1, rfl, _, hlt1, hc1⟩ := hv1'.shape (by decide)
  obtain ⟨b2, o2, c2, rfl, hge2, hlt2, hc2⟩ := Strs.at hv2 (by decide)
  clear hv1 hv1' hv2 hb1 hb2
  obtain ⟨j, hj⟩ : ∃ j : Nat, i % 48 = j := ⟨(i % 48).toNat, by omega⟩
  have hj48 : j < 48 := by omega
  have hcell := fun q x hx => hc1 j q x (by rw [rowAt_cells hj48]; exact hx)
  have d0 : w2.cell? ⟨b1, o1 + j * 4, none⟩ = some (.string (rowAt j).1) := hcell 0 _ rfl
  have d1 : w2.cell? ⟨b1, o1 + j * 4 + 1, none⟩ = some (.string (rowAt j).2.1) := hcell 1 _ rfl
  have d2 : w2.cell? ⟨b1, o1 + j * 4 + 2, none⟩ = some (.bool (rowAt j).2.2.1) := hcell 2 _ rfl
  have d3 : w2.cell? ⟨b1, o1 + j * 4 + 3, none⟩ = some (.string (rowAt j).2.2.2) := hcell 3 _ rfl
  clear hc1 hcell
  have l1 : tblRows.length = 48 := by simp [tblRows, tbl_length]
  have l2 : (shortsTbl.map (·.1)).length = 6 := rfl
  simp only [l1, l2]
  clear l1 l2
  go_wp2_with fail
  obtain ⟨tp, tl⟩ := tbl_placed j hj48
  have Htp := Lib.hid tp
  have Htl := Lib.hid tl
  clear tp tl d0 d1 d2 d3
  refine (Find_yes _ j Htp.out _).mono ?_
  rintro e w3 ⟨rfl, hb3⟩
  have hz3 := hb3.size
  simp only [World.size_alloc] at hz3
  have hA3 : Below w.heap.size w w3 := (hA2.alloc hA2.size _).trans (hb3.mono (Nat.le_trans hA2.size (by simp)))
  have a0 : w3.cell? ⟨w2.heap.size, 0, none⟩ = some (.string (rowAt j).1) := (hb3.cell (p := ⟨w2.heap.size, 0, none⟩) (by simp)).trans (by simp)
  have a1 : w3.cell? ⟨w2.heap.size, 1, none⟩ = some (.string (rowAt j).2.1) := (hb3.cell (p := ⟨w2.heap.size, 1, none⟩) (by simp)).trans (by simp)
  have a2 : w3.cell? ⟨w2.heap.size, 2, none⟩ = some (.bool (rowAt j).2.2.1) := (hb3.cell (p := ⟨w2.heap.size, 2, none⟩) (by simp)).trans (by simp)
  have a3 : w3.cell? ⟨w2.heap.size, 3, none⟩ = some (.string (rowAt j).2.2.2) := (hb3.cell (p := ⟨w2.heap.size, 3, none⟩) (by simp)).trans (by simp)
  have e0 := fun o => cell_later (below_alloc_new w3 o) a0
  have e1 := fun o => cell_later (below_alloc_new w3 o) a1
  have e2 := fun o => cell_later (below_alloc_new w3 o) a2
  have e3 := fun o => cell_later (below_alloc_new w3 o) a3
  have hS3 := HS.out.below hA3 (Nat.le_refl _)
  have HS3 := Lib.hid hS3
  clear hS3 hA2
  have f6 : ∀ (i : Nat) (hi : i < (shortsTbl.map (·.1)).length), w3.cell? ⟨b2, o2 + i, none⟩ = some (.string (shortsTbl.map (·.1))[i]) := fun q hq => by
    rw [hb3.cell (p := ⟨b2, _, none⟩) (by simp; omega), World.cell?_alloc_lt _ _ _ hlt2]
    exact hc2 q hq
  clear hc2 hb3 a0 a1 a2 a3
  go_wp2_with fail
  refine (Place_yes Htp.out _).mono ?_
  rintro e w4 ⟨rfl, hb4⟩
  have hb34 := (below_alloc_new w3 _).trans (hb4.mono (by simp))
  have HS4 := Lib.hid (HS3.out.below hb34 (Nat.le_refl _))
  have hA4 := hA3.trans (hb34.mono hA3.size)
  have e4 : w4.cell? ⟨w2.heap.size, 0, none⟩ = some (.string (rowAt j).1) := cell_later hb4 (e0 _)
  have f64 : ∀ (i : Nat) (hi : i < (shortsTbl.map (·.1)).length), w4.cell? ⟨b2, o2 + i, none⟩ = some (.string (shortsTbl.map (·.1))[i]) := fun q hq => by
    rw [hb34.cell (p := ⟨b2, _, none⟩) (show b2 < w3.heap.size by omega)]
    exact f6 q hq
  clear e0 e1 e2 e3 f6 hb34 hb4 HS3 hA3
  go_wp2_with fail
  refine (Longs_any _ _ HS4.out).mono ?_
  rintro e w5 ⟨v, rfl, hv, hnil, hb5⟩
  rw [Htl.out] at hnil
  obtain rfl := hnil rfl
  have HS5 := Lib.hid (HS4.out.below hb5 (Nat.le_refl _))
  have hA5 := hA4.trans (hb5.mono hA4.size)
  have hlt4 : b2 < w4.heap.size := by have := World.block_lt_of_cell? _ _ (f64 0 (by decide)); exact this
  have f65 : ∀ (i : Nat) (hi : i < (shortsTbl.map (·.1)).length), w5.cell? ⟨b2, o2 + i, none⟩ = some (.string (shortsTbl.map (·.1))[i]) := fun q hq => by
    rw [hb5.cell (p := ⟨b2, _, none⟩) hlt4]
    exact f64 q hq
  clear f64 hb5 HS4 hA4 e4 hv hnil
  obtain ⟨a, ha⟩ : ∃ a : Nat, i % 6 = a := ⟨(i % 6).toNat, by omega⟩
  obtain ⟨b, hb⟩ : ∃ b : Nat, k % 6 = b := ⟨(k % 6).toNat, by omega⟩
  have ha6 : a < 6 := by omega
  have hb6 : b < 6 := by omega
  have g1 : w5.cell? ⟨b2, o2 + a, none⟩ = some (.string (shortAt a).1) := by
    have hl : a < (shortsTbl.map (·.1)).length := ha6
    rw [f65 a hl, shortNames_get ha6 hl]
  have g2 : w5.cell? ⟨b2, o2 + b, none⟩ = some (.string (shortAt b).1) := by
    have hl : b < (shortsTbl.map (·.1)).length := hb6
    rw [f65 b hl, shortNames_get hb6 hl]
  clear f65
  have q1 : (0 : Int) ≤ (a : Int) := by omega
  have q2 : (a : Int) < 6 := by omega
  have q3 : (0 : Int) ≤ (b : Int) := by omega
  have q4 : (b : Int) < 6 := by omega
  go_wp2_with fail
  go_quiet (fail)
  go_wp2_with fail
  obtain ⟨x1, x2, x3, x4⟩ := shorts_facts a ha6
  obtain ⟨y1, _, _, _⟩ := shorts_facts b hb6
  have X1 := Lib.hid x1
  have X3 := Lib.hid x3
  have X4 := Lib.hid x4
  have Y1 := Lib.hid y1
  clear x1 x3 x4 y1
  have HS6 := HS5.out.below (below_drewN (Below.refl _ w5) nq) (Nat.le_refl _)
  refine (Longs_any _ _ HS6).mono ?_
  rintro e w6 ⟨v, rfl, hv, _, hb6⟩
  rw [X1.out] at hv
  have HS7 := Lib.hid (HS6.below hb6 (Nat.le_refl _))
  have hA6 := (below_drewN hA5 nq).trans (hb6.mono (below_drewN hA5 nq).size)
  clear HS6 HS5 hb6 hA5 q1 q2 q3 q4 g1 g2
  obtain ⟨b6, o6, c6, rfl, _, hlt6, hc6⟩ := Strs.at hv (by intro e; rw [e] at x2; simp at x2)
  have hm6 := hv.len
  simp only [sRows, List.length_map] at hm6
  unfold maxLen at hm6
  clear hv
  go_wp2_with fail
  go_loopw [73] (fun p wr => ∃ q : Nat, q ≤ (longsAt a).length ∧ p = .int .i64 q ∧ Below w6.heap.size w6 wr)
    (fun p _ => (longsAt a).length - (intOf p).toNat)
  case atStart => exact ⟨0, by omega, rfl, Below.refl _ _⟩
  case round =>
    obtain ⟨q, hq, rfl, hB⟩ := hrel
    have hS8 := HS7.out.below hB (Nat.le_refl _)
    by_cases hlt : q < (longsAt a).length
    · have c := (hB.cell (p := ⟨b6, _, none⟩) hlt6).trans (hc6 q hlt)
      have hs1 := X4.out _ (List.getElem_mem hlt)
      obtain ⟨pl, hpl⟩ := Option.isSome_iff_exists.1 hs1
      have Hpl := Lib.hid hpl
      clear hs1 hpl
      go_wp2_with fail
      refine (Place_yes Hpl.out _).mono ?_
      rintro e w8 ⟨rfl, hb8⟩
      have hB8 := hB.trans (hb8.mono hB.size)
      have hS9 := HS7.out.below hB8 (Nat.le_refl _)
      go_wp2_with fail
      refine (Longs_any _ _ hS9).mono ?_
      rintro e w9 ⟨v9, rfl, hv9, _, hb9⟩
      rw [Y1.out] at hv9
      have hB9 := hB8.trans (hb9.mono hB8.size)
      obtain ⟨a9, c9, rfl, hl9⟩ := hv9.val
      unfold maxLen at hl9
      have HV9 := Lib.hid hv9
      clear hv9 hS8 hS9 hb8 hb9
      go_wp2_with fail
      obtain ⟨wo, rfl⟩ : ∃ wo : World, wo = wr := ⟨_, rfl⟩
      go_loopw [83] (fun p wr => ∃ r : Nat, r ≤ (longsAt b).length ∧ p = .int .i64 r ∧ Below w9.heap.size w9 wr)
        (fun p _ => (longsAt b).length - (intOf p).toNat)
      case atStart => exact ⟨0, by omega, rfl, Below.refl _ _⟩
      case round =>
        obtain ⟨r, hr, rfl, hBr⟩ := hrel
        by_cases hlr : r < (longsAt b).length
        · obtain ⟨b9, o9, c9', e9, _, hlt9, hc9⟩ := HV9.out.at (by intro e; rw [e] at hlr; simp at hlr)
          simp only [Value.slice.injEq] at e9
          obtain ⟨rfl, _, _⟩ := e9
          have d := (hBr.cell (p := ⟨b9, _, none⟩) hlt9).trans (hc9 r hlr)
          by_cases hnm : (longsAt a)[q] = (longsAt b)[r]
          · obtain rfl := shorts_apart a ha6 b hb6 _ (List.getElem_mem hlt) _ (List.getElem_mem hlr) hnm
            go_wp2_with fail
            go_roundw
            case rel => exact ⟨r + 1, by omega, by go_num, hBr⟩
            case measure => simp [intOf]; omega
          · have hnm' : ((longsAt a)[q].toList == (longsAt b)[r].toList) = false := bytes_ne hnm
            go_wp2_with fail
            go_roundw
            case rel => exact ⟨r + 1, by omega, by go_num, hBr⟩
            case measure => simp [intOf]; omega
        · obtain rfl : r = (longsAt b).length := by omega
          go_wp2_with fail
          go_roundw
          case rel => exact ⟨q + 1, by omega, by go_num, hB9.trans (hBr.mono hB9.size)⟩
          case measure => simp [intOf]; omega
    · obtain rfl : q = (longsAt a).length := by omega
      go_wp2_with fail
      have hA7 := hA6.trans (hB.mono hA6.size)
      refine (Longs_any _ _ hS8).mono ?_
      rintro e w8 ⟨v8, rfl, hv8, _, hb8⟩
      rw [X1.out] at hv8
      have hS9 := hS8.below hb8 (Nat.le_refl _)
      have hA8 := hA7.trans (hb8.mono hA7.size)
      obtain ⟨a8, c8, rfl, _⟩ := hv8.val
      clear hv8 hb8
      go_wp2_with fail
      refine (Place_no X3.out _).mono ?_
      rintro e w9 ⟨rfl, hb9⟩
      have hS10 := hS9.below hb9 (Nat.le_refl _)
      have hA9 := hA8.trans (hb9.mono hA8.size)
      go_wp2_with fail
      refine (lives_any _ hS10).mono ?_
      rintro e w10 ⟨rfl, hb10⟩
      go_wp2_with fail
      go_ret
      exact ⟨rfl, hA9.trans (hb10.mono hA9.size)⟩
end Go.Proofs.YtpadcjcoafidgaaDoor
