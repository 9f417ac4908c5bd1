/- gouacheref14.Longs. -/
import Derived.Test.YtpadcjcoafidgaaDoorRefs2
namespace Go.Proofs.YtpadcjcoafidgaaDoor
open Go.RowKit

def sides4 : List ByteArray := [⟨#[116, 111, 112]⟩, ⟨#[114, 105, 103, 104, 116]⟩, ⟨#[98, 111, 116, 116, 111, 109]⟩, ⟨#[108, 101, 102, 116]⟩]
def sideAt (k : Nat) : ByteArray := sides4[k]?.getD ⟨#[]⟩

theorem sides_cells {W : World} {B : Nat} {t : TypeId} (h : Holds4 W B t #[.string ⟨#[116, 111, 112]⟩, .string ⟨#[114, 105, 103, 104, 116]⟩, .string ⟨#[98, 111, 116, 116, 111, 109]⟩, .string ⟨#[108, 101, 102, 116]⟩]) {k : Nat} (hk : k < 4) :
    W.cell? ⟨B, k, none⟩ = some (.string (sideAt k)) := by
  rw [h.cell]
  have : k = 0 ∨ k = 1 ∨ k = 2 ∨ k = 3 := by omega
  rcases this with rfl | rfl | rfl | rfl <;> rfl
theorem sides_size : ∀ k, k < 4 → (sideAt k).size ≤ 10 := by decide +kernel
def longNm (j k : Nat) : ByteArray := (longsAt j)[k]?.getD ⟨#[]⟩
theorem longNm_all : ∀ j, j < 6 → j ≠ 4 → upto (longNm j) 4 = longsAt j := by decide +kernel

theorem longNm_margin : ∀ k, k < 4 → (⟨#[109, 97, 114, 103, 105, 110]⟩ : ByteArray) ++ ⟨#[45]⟩ ++ sideAt k ++ ⟨#[]⟩ = longNm 3 k := by decide +kernel
set_option maxRecDepth 100000 in
set_option maxHeartbeats 1000000 in
theorem refLongs_margin (w : World) :
    Calls Tryd.prog 16 #[.string ⟨#[109, 97, 114, 103, 105, 110]⟩] w fun e w' => ∃ v, e = .returned v ∧ Strs w.heap.size w' v (longsAt 3) ∧ Below w.heap.size w w' := by
  go_enter Tryd.func16, Tryd.ntmps16
  go_wp2_with fail
  have ht : Holds4 ((w).alloc (.cells #[.string ⟨#[116, 111, 112]⟩, .string ⟨#[114, 105, 103, 104, 116]⟩, .string ⟨#[98, 111, 116, 116, 111, 109]⟩, .string ⟨#[108, 101, 102, 116]⟩] 9)) w.heap.size 9 _ := heap_alloc_new (w) _
  have hb : Below w.heap.size w ((w).alloc (.cells #[.string ⟨#[116, 111, 112]⟩, .string ⟨#[114, 105, 103, 104, 116]⟩, .string ⟨#[98, 111, 116, 116, 111, 109]⟩, .string ⟨#[108, 101, 102, 116]⟩] 9)) := (Below.refl _ w).alloc (Nat.le_refl _) _
  have hsz : ((w).alloc (.cells #[.string ⟨#[116, 111, 112]⟩, .string ⟨#[114, 105, 103, 104, 116]⟩, .string ⟨#[98, 111, 116, 116, 111, 109]⟩, .string ⟨#[108, 101, 102, 116]⟩] 9)).heap.size = w.heap.size + 1 := by simp
  generalize (w).alloc (.cells #[.string ⟨#[116, 111, 112]⟩, .string ⟨#[114, 105, 103, 104, 116]⟩, .string ⟨#[98, 111, 116, 116, 111, 109]⟩, .string ⟨#[108, 101, 102, 116]⟩] 9) = w1 at ht hb hsz ⊢
  have hlt1 : w.heap.size < w1.heap.size := by omega
  clear hsz
  go_loopw [3, 7, 24] (fun v _ p wr => ∃ k : Nat, k ≤ 4 ∧ p = .int .i64 k ∧ wr.ownsRow w1.heap.size 9 1 v (upto (longNm 3) k).length ((upto (longNm 3) k).map Value.string) ∧ Below w1.heap.size w1 wr)
    (fun _ _ p _ => 4 - (intOf p).toNat)
  case atStart => exact ⟨0, by omega, rfl, World.ownsRow_nil _ _ _ _, Below.refl _ _⟩
  case round =>
    obtain ⟨k, hk, rfl, hown, hB⟩ := hrel
    have hszr := hB.size
    have Hl : Hid ((upto (longNm 3) k).length = k) := Lib.hid (upto_length _ _)
    by_cases hlt : k < 4
    · have c := sides_cells (W := wr) ((hB.block _ hlt1).trans ht) hlt
      have hss := sides_size k hlt
      go_wp2_with (at_builtin; refine wpList_append_str rfl _ _ 25 9 rfl w1.heap.size Tryd.underlying25 infoStr _ _ _ rfl (hown.alloc _) wr.heap.size rfl (World.cell?_alloc_new _ _ _ _) (by rw [Hl.out]; omega) (by simp; omega) ?_; intro v' w4 hown' hgrow hne)
      rw [longNm_margin k hlt] at hown'
      go_roundw
      case rel => exact ⟨k + 1, by omega, by go_num, by rw [upto_succ]; exact hown', (hB.alloc hszr _).grown hgrow (by simp; omega) (fun i e => (hown.lt i e).1)⟩
      case measure => simp [intOf]; omega
    · obtain rfl : k = 4 := by omega
      rw [longNm_all 3 (by decide) (by decide)] at hown
      go_wp2_with fail
      go_ret
      exact ⟨_, rfl, (Strs.of_owns hown rfl).base hb.size, hb.trans (hB.mono hb.size)⟩

theorem longNm_padding : ∀ k, k < 4 → (⟨#[112, 97, 100, 100, 105, 110, 103]⟩ : ByteArray) ++ ⟨#[45]⟩ ++ sideAt k ++ ⟨#[]⟩ = longNm 5 k := by decide +kernel
set_option maxRecDepth 100000 in
set_option maxHeartbeats 1000000 in
theorem refLongs_padding (w : World) :
    Calls Tryd.prog 16 #[.string ⟨#[112, 97, 100, 100, 105, 110, 103]⟩] w fun e w' => ∃ v, e = .returned v ∧ Strs w.heap.size w' v (longsAt 5) ∧ Below w.heap.size w w' := by
  go_enter Tryd.func16, Tryd.ntmps16
  go_wp2_with fail
  have ht : Holds4 ((w).alloc (.cells #[.string ⟨#[116, 111, 112]⟩, .string ⟨#[114, 105, 103, 104, 116]⟩, .string ⟨#[98, 111, 116, 116, 111, 109]⟩, .string ⟨#[108, 101, 102, 116]⟩] 9)) w.heap.size 9 _ := heap_alloc_new (w) _
  have hb : Below w.heap.size w ((w).alloc (.cells #[.string ⟨#[116, 111, 112]⟩, .string ⟨#[114, 105, 103, 104, 116]⟩, .string ⟨#[98, 111, 116, 116, 111, 109]⟩, .string ⟨#[108, 101, 102, 116]⟩] 9)) := (Below.refl _ w).alloc (Nat.le_refl _) _
  have hsz : ((w).alloc (.cells #[.string ⟨#[116, 111, 112]⟩, .string ⟨#[114, 105, 103, 104, 116]⟩, .string ⟨#[98, 111, 116, 116, 111, 109]⟩, .string ⟨#[108, 101, 102, 116]⟩] 9)).heap.size = w.heap.size + 1 := by simp
  generalize (w).alloc (.cells #[.string ⟨#[116, 111, 112]⟩, .string ⟨#[114, 105, 103, 104, 116]⟩, .string ⟨#[98, 111, 116, 116, 111, 109]⟩, .string ⟨#[108, 101, 102, 116]⟩] 9) = w1 at ht hb hsz ⊢
  have hlt1 : w.heap.size < w1.heap.size := by omega
  clear hsz
  go_loopw [3, 7, 24] (fun v _ p wr => ∃ k : Nat, k ≤ 4 ∧ p = .int .i64 k ∧ wr.ownsRow w1.heap.size 9 1 v (upto (longNm 5) k).length ((upto (longNm 5) k).map Value.string) ∧ Below w1.heap.size w1 wr)
    (fun _ _ p _ => 4 - (intOf p).toNat)
  case atStart => exact ⟨0, by omega, rfl, World.ownsRow_nil _ _ _ _, Below.refl _ _⟩
  case round =>
    obtain ⟨k, hk, rfl, hown, hB⟩ := hrel
    have hszr := hB.size
    have Hl : Hid ((upto (longNm 5) k).length = k) := Lib.hid (upto_length _ _)
    by_cases hlt : k < 4
    · have c := sides_cells (W := wr) ((hB.block _ hlt1).trans ht) hlt
      have hss := sides_size k hlt
      go_wp2_with (at_builtin; refine wpList_append_str rfl _ _ 25 9 rfl w1.heap.size Tryd.underlying25 infoStr _ _ _ rfl (hown.alloc _) wr.heap.size rfl (World.cell?_alloc_new _ _ _ _) (by rw [Hl.out]; omega) (by simp; omega) ?_; intro v' w4 hown' hgrow hne)
      rw [longNm_padding k hlt] at hown'
      go_roundw
      case rel => exact ⟨k + 1, by omega, by go_num, by rw [upto_succ]; exact hown', (hB.alloc hszr _).grown hgrow (by simp; omega) (fun i e => (hown.lt i e).1)⟩
      case measure => simp [intOf]; omega
    · obtain rfl : k = 4 := by omega
      rw [longNm_all 5 (by decide) (by decide)] at hown
      go_wp2_with fail
      go_ret
      exact ⟨_, rfl, (Strs.of_owns hown rfl).base hb.size, hb.trans (hB.mono hb.size)⟩

theorem longNm_width : ∀ k, k < 4 → (⟨#[98, 111, 114, 100, 101, 114]⟩ : ByteArray) ++ ⟨#[45]⟩ ++ sideAt k ++ (⟨#[98, 111, 114, 100, 101, 114, 45, 119, 105, 100, 116, 104]⟩ : ByteArray).extract 6 12 = longNm 2 k := by decide +kernel
set_option maxRecDepth 100000 in
set_option maxHeartbeats 1000000 in
theorem refLongs_width (w : World) :
    Calls Tryd.prog 16 #[.string ⟨#[98, 111, 114, 100, 101, 114, 45, 119, 105, 100, 116, 104]⟩] w fun e w' => ∃ v, e = .returned v ∧ Strs w.heap.size w' v (longsAt 2) ∧ Below w.heap.size w w' := by
  go_enter Tryd.func16, Tryd.ntmps16
  go_wp2_with fail
  go_quiet (fail)
  go_wp2_with fail
  have ht : Holds4 ((w.drewN nq).alloc (.cells #[.string ⟨#[116, 111, 112]⟩, .string ⟨#[114, 105, 103, 104, 116]⟩, .string ⟨#[98, 111, 116, 116, 111, 109]⟩, .string ⟨#[108, 101, 102, 116]⟩] 9)) w.heap.size 9 _ := heap_alloc_new (w.drewN nq) _
  have hb : Below w.heap.size w ((w.drewN nq).alloc (.cells #[.string ⟨#[116, 111, 112]⟩, .string ⟨#[114, 105, 103, 104, 116]⟩, .string ⟨#[98, 111, 116, 116, 111, 109]⟩, .string ⟨#[108, 101, 102, 116]⟩] 9)) := (below_drewN (Below.refl _ w) nq).alloc (Nat.le_refl _) _
  have hsz : ((w.drewN nq).alloc (.cells #[.string ⟨#[116, 111, 112]⟩, .string ⟨#[114, 105, 103, 104, 116]⟩, .string ⟨#[98, 111, 116, 116, 111, 109]⟩, .string ⟨#[108, 101, 102, 116]⟩] 9)).heap.size = w.heap.size + 1 := by simp
  generalize (w.drewN nq).alloc (.cells #[.string ⟨#[116, 111, 112]⟩, .string ⟨#[114, 105, 103, 104, 116]⟩, .string ⟨#[98, 111, 116, 116, 111, 109]⟩, .string ⟨#[108, 101, 102, 116]⟩] 9) = w1 at ht hb hsz ⊢
  have hlt1 : w.heap.size < w1.heap.size := by omega
  clear hsz
  go_loopw [3, 7, 24] (fun v _ p wr => ∃ k : Nat, k ≤ 4 ∧ p = .int .i64 k ∧ wr.ownsRow w1.heap.size 9 1 v (upto (longNm 2) k).length ((upto (longNm 2) k).map Value.string) ∧ Below w1.heap.size w1 wr)
    (fun _ _ p _ => 4 - (intOf p).toNat)
  case atStart => exact ⟨0, by omega, rfl, World.ownsRow_nil _ _ _ _, Below.refl _ _⟩
  case round =>
    obtain ⟨k, hk, rfl, hown, hB⟩ := hrel
    have hszr := hB.size
    have Hl : Hid ((upto (longNm 2) k).length = k) := Lib.hid (upto_length _ _)
    by_cases hlt : k < 4
    · have c := sides_cells (W := wr) ((hB.block _ hlt1).trans ht) hlt
      have hss := sides_size k hlt
      go_wp2_with (at_builtin; refine wpList_append_str rfl _ _ 25 9 rfl w1.heap.size Tryd.underlying25 infoStr _ _ _ rfl (hown.alloc _) wr.heap.size rfl (World.cell?_alloc_new _ _ _ _) (by rw [Hl.out]; omega) (by simp; omega) ?_; intro v' w4 hown' hgrow hne)
      rw [longNm_width k hlt] at hown'
      go_roundw
      case rel => exact ⟨k + 1, by omega, by go_num, by rw [upto_succ]; exact hown', (hB.alloc hszr _).grown hgrow (by simp; omega) (fun i e => (hown.lt i e).1)⟩
      case measure => simp [intOf]; omega
    · obtain rfl : k = 4 := by omega
      rw [longNm_all 2 (by decide) (by decide)] at hown
      go_wp2_with fail
      go_ret
      exact ⟨_, rfl, (Strs.of_owns hown rfl).base hb.size, hb.trans (hB.mono hb.size)⟩

theorem longNm_style : ∀ k, k < 4 → (⟨#[98, 111, 114, 100, 101, 114]⟩ : ByteArray) ++ ⟨#[45]⟩ ++ sideAt k ++ (⟨#[98, 111, 114, 100, 101, 114, 45, 115, 116, 121, 108, 101]⟩ : ByteArray).extract 6 12 = longNm 1 k := by decide +kernel
set_option maxRecDepth 100000 in
set_option maxHeartbeats 1000000 in
theorem refLongs_style (w : World) :
    Calls Tryd.prog 16 #[.string ⟨#[98, 111, 114, 100, 101, 114, 45, 115, 116, 121, 108, 101]⟩] w fun e w' => ∃ v, e = .returned v ∧ Strs w.heap.size w' v (longsAt 1) ∧ Below w.heap.size w w' := by
  go_enter Tryd.func16, Tryd.ntmps16
  go_wp2_with fail
  go_quiet (fail)
  go_wp2_with fail
  have ht : Holds4 ((w.drewN nq).alloc (.cells #[.string ⟨#[116, 111, 112]⟩, .string ⟨#[114, 105, 103, 104, 116]⟩, .string ⟨#[98, 111, 116, 116, 111, 109]⟩, .string ⟨#[108, 101, 102, 116]⟩] 9)) w.heap.size 9 _ := heap_alloc_new (w.drewN nq) _
  have hb : Below w.heap.size w ((w.drewN nq).alloc (.cells #[.string ⟨#[116, 111, 112]⟩, .string ⟨#[114, 105, 103, 104, 116]⟩, .string ⟨#[98, 111, 116, 116, 111, 109]⟩, .string ⟨#[108, 101, 102, 116]⟩] 9)) := (below_drewN (Below.refl _ w) nq).alloc (Nat.le_refl _) _
  have hsz : ((w.drewN nq).alloc (.cells #[.string ⟨#[116, 111, 112]⟩, .string ⟨#[114, 105, 103, 104, 116]⟩, .string ⟨#[98, 111, 116, 116, 111, 109]⟩, .string ⟨#[108, 101, 102, 116]⟩] 9)).heap.size = w.heap.size + 1 := by simp
  generalize (w.drewN nq).alloc (.cells #[.string ⟨#[116, 111, 112]⟩, .string ⟨#[114, 105, 103, 104, 116]⟩, .string ⟨#[98, 111, 116, 116, 111, 109]⟩, .string ⟨#[108, 101, 102, 116]⟩] 9) = w1 at ht hb hsz ⊢
  have hlt1 : w.heap.size < w1.heap.size := by omega
  clear hsz
  go_loopw [3, 7, 24] (fun v _ p wr => ∃ k : Nat, k ≤ 4 ∧ p = .int .i64 k ∧ wr.ownsRow w1.heap.size 9 1 v (upto (longNm 1) k).length ((upto (longNm 1) k).map Value.string) ∧ Below w1.heap.size w1 wr)
    (fun _ _ p _ => 4 - (intOf p).toNat)
  case atStart => exact ⟨0, by omega, rfl, World.ownsRow_nil _ _ _ _, Below.refl _ _⟩
  case round =>
    obtain ⟨k, hk, rfl, hown, hB⟩ := hrel
    have hszr := hB.size
    have Hl : Hid ((upto (longNm 1) k).length = k) := Lib.hid (upto_length _ _)
    by_cases hlt : k < 4
    · have c := sides_cells (W := wr) ((hB.block _ hlt1).trans ht) hlt
      have hss := sides_size k hlt
      go_wp2_with (at_builtin; refine wpList_append_str rfl _ _ 25 9 rfl w1.heap.size Tryd.underlying25 infoStr _ _ _ rfl (hown.alloc _) wr.heap.size rfl (World.cell?_alloc_new _ _ _ _) (by rw [Hl.out]; omega) (by simp; omega) ?_; intro v' w4 hown' hgrow hne)
      rw [longNm_style k hlt] at hown'
      go_roundw
      case rel => exact ⟨k + 1, by omega, by go_num, by rw [upto_succ]; exact hown', (hB.alloc hszr _).grown hgrow (by simp; omega) (fun i e => (hown.lt i e).1)⟩
      case measure => simp [intOf]; omega
    · obtain rfl : k = 4 := by omega
      rw [longNm_all 1 (by decide) (by decide)] at hown
      go_wp2_with fail
      go_ret
      exact ⟨_, rfl, (Strs.of_owns hown rfl).base hb.size, hb.trans (hB.mono hb.size)⟩

theorem longNm_color : ∀ k, k < 4 → (⟨#[98, 111, 114, 100, 101, 114]⟩ : ByteArray) ++ ⟨#[45]⟩ ++ sideAt k ++ (⟨#[98, 111, 114, 100, 101, 114, 45, 99, 111, 108, 111, 114]⟩ : ByteArray).extract 6 12 = longNm 0 k := by decide +kernel
set_option maxRecDepth 100000 in
set_option maxHeartbeats 1000000 in
theorem refLongs_color (w : World) :
    Calls Tryd.prog 16 #[.string ⟨#[98, 111, 114, 100, 101, 114, 45, 99, 111, 108, 111, 114]⟩] w fun e w' => ∃ v, e = .returned v ∧ Strs w.heap.size w' v (longsAt 0) ∧ Below w.heap.size w w' := by
  go_enter Tryd.func16, Tryd.ntmps16
  go_wp2_with fail
  go_quiet (fail)
  go_wp2_with fail
  have ht : Holds4 ((w.drewN nq).alloc (.cells #[.string ⟨#[116, 111, 112]⟩, .string ⟨#[114, 105, 103, 104, 116]⟩, .string ⟨#[98, 111, 116, 116, 111, 109]⟩, .string ⟨#[108, 101, 102, 116]⟩] 9)) w.heap.size 9 _ := heap_alloc_new (w.drewN nq) _
  have hb : Below w.heap.size w ((w.drewN nq).alloc (.cells #[.string ⟨#[116, 111, 112]⟩, .string ⟨#[114, 105, 103, 104, 116]⟩, .string ⟨#[98, 111, 116, 116, 111, 109]⟩, .string ⟨#[108, 101, 102, 116]⟩] 9)) := (below_drewN (Below.refl _ w) nq).alloc (Nat.le_refl _) _
  have hsz : ((w.drewN nq).alloc (.cells #[.string ⟨#[116, 111, 112]⟩, .string ⟨#[114, 105, 103, 104, 116]⟩, .string ⟨#[98, 111, 116, 116, 111, 109]⟩, .string ⟨#[108, 101, 102, 116]⟩] 9)).heap.size = w.heap.size + 1 := by simp
  generalize (w.drewN nq).alloc (.cells #[.string ⟨#[116, 111, 112]⟩, .string ⟨#[114, 105, 103, 104, 116]⟩, .string ⟨#[98, 111, 116, 116, 111, 109]⟩, .string ⟨#[108, 101, 102, 116]⟩] 9) = w1 at ht hb hsz ⊢
  have hlt1 : w.heap.size < w1.heap.size := by omega
  clear hsz
  go_loopw [3, 7, 24] (fun v _ p wr => ∃ k : Nat, k ≤ 4 ∧ p = .int .i64 k ∧ wr.ownsRow w1.heap.size 9 1 v (upto (longNm 0) k).length ((upto (longNm 0) k).map Value.string) ∧ Below w1.heap.size w1 wr)
    (fun _ _ p _ => 4 - (intOf p).toNat)
  case atStart => exact ⟨0, by omega, rfl, World.ownsRow_nil _ _ _ _, Below.refl _ _⟩
  case round =>
    obtain ⟨k, hk, rfl, hown, hB⟩ := hrel
    have hszr := hB.size
    have Hl : Hid ((upto (longNm 0) k).length = k) := Lib.hid (upto_length _ _)
    by_cases hlt : k < 4
    · have c := sides_cells (W := wr) ((hB.block _ hlt1).trans ht) hlt
      have hss := sides_size k hlt
      go_wp2_with (at_builtin; refine wpList_append_str rfl _ _ 25 9 rfl w1.heap.size Tryd.underlying25 infoStr _ _ _ rfl (hown.alloc _) wr.heap.size rfl (World.cell?_alloc_new _ _ _ _) (by rw [Hl.out]; omega) (by simp; omega) ?_; intro v' w4 hown' hgrow hne)
      rw [longNm_color k hlt] at hown'
      go_roundw
      case rel => exact ⟨k + 1, by omega, by go_num, by rw [upto_succ]; exact hown', (hB.alloc hszr _).grown hgrow (by simp; omega) (fun i e => (hown.lt i e).1)⟩
      case measure => simp [intOf]; omega
    · obtain rfl : k = 4 := by omega
      rw [longNm_all 0 (by decide) (by decide)] at hown
      go_wp2_with fail
      go_ret
      exact ⟨_, rfl, (Strs.of_owns hown rfl).base hb.size, hb.trans (hB.mono hb.size)⟩

theorem longs_four : longsAt 4 = [⟨#[111, 118, 101, 114, 102, 108, 111, 119, 45, 120]⟩, ⟨#[111, 118, 101, 114, 102, 108, 111, 119, 45, 121]⟩] := by decide +kernel
set_option maxHeartbeats 400000 in
theorem refLongs_overflow (w : World) :
    Calls Tryd.prog 16 #[.string ⟨#[111, 118, 101, 114, 102, 108, 111, 119]⟩] w fun e w' => ∃ v, e = .returned v ∧ Strs w.heap.size w' v (longsAt 4) ∧ Below w.heap.size w w' := by
  have h : Calls Tryd.prog 16 #[.string ⟨#[111, 118, 101, 114, 102, 108, 111, 119]⟩] w fun e w' => e = .returned (.slice (some ⟨w.heap.size, 0, none⟩) 2 2) ∧ w' = w.alloc (.cells (([⟨#[111, 118, 101, 114, 102, 108, 111, 119, 45, 120]⟩, ⟨#[111, 118, 101, 114, 102, 108, 111, 119, 45, 121]⟩] : List ByteArray).map Value.string).toArray 9) := by
    go_enter Tryd.func16, Tryd.ntmps16
    go_wp2_with fail
    go_ret
    exact ⟨rfl, rfl⟩
  refine h.mono fun e w' ⟨he, hw⟩ => ?_
  subst hw
  rw [longs_four]
  exact ⟨_, he, Strs.new w _ 9 (by unfold maxLen; decide), below_alloc_new _ _⟩
set_option maxHeartbeats 400000 in
theorem refLongs_none (s : ByteArray) (w : World) (h0 : (s.toList == [98, 111, 114, 100, 101, 114, 45, 99, 111, 108, 111, 114]) = false) (h1 : (s.toList == [98, 111, 114, 100, 101, 114, 45, 115, 116, 121, 108, 101]) = false) (h2 : (s.toList == [98, 111, 114, 100, 101, 114, 45, 119, 105, 100, 116, 104]) = false) (h3 : (s.toList == [109, 97, 114, 103, 105, 110]) = false) (h4 : (s.toList == [111, 118, 101, 114, 102, 108, 111, 119]) = false) (h5 : (s.toList == [112, 97, 100, 100, 105, 110, 103]) = false) :
    Calls Tryd.prog 16 #[.string s] w fun e w' => e = .returned (.slice none 0 0) ∧ w = w' := by
  go_enter Tryd.func16, Tryd.ntmps16
  go_wp2_with fail
  go_ret
  exact ⟨rfl, rfl⟩
theorem shortN_some {s : ByteArray} {k : Nat} (h : shortN s = some k) : k < 6 ∧ (shortAt k).1 = s := by
  unfold shortN at h
  rw [List.findIdx?_eq_some_iff_getElem] at h
  obtain ⟨hlt, he, _⟩ := h
  refine ⟨by rw [shortsTbl_length] at hlt; exact hlt, ?_⟩
  rw [shortAt_getElem hlt]
  exact bytes_ext (eq_of_beq (by rw [← beq_toListBytes]; exact he))
theorem shortN_none {s : ByteArray} (h : shortN s = none) {k : Nat} (hk : k < 6) : ((shortAt k).1.toList == s.toList) = false := by
  have hlt : k < shortsTbl.length := by rw [shortsTbl_length]; exact hk
  unfold shortN at h
  rw [List.findIdx?_eq_none_iff] at h
  rw [← beq_toListBytes, shortAt_getElem hlt]
  exact h _ (List.getElem_mem hlt)
theorem shortN_none' {s : ByteArray} (h : shortN s = none) {k : Nat} (hk : k < 6) : (s.toList == (shortAt k).1.toList) = false := by
  have := shortN_none h hk
  rw [beq_eq_false_iff_ne] at this ⊢
  exact fun e => this e.symm
/-- gouacheref14.Longs: as prop.Longs. -/
theorem refLongs_any (s : ByteArray) (w : World) :
    Calls Tryd.prog 16 #[.string s] w fun e w' => ∃ v, e = .returned v ∧ Strs w.heap.size w' v (longsOf s) ∧ Below w.heap.size w w' := by
  unfold longsOf
  cases h : shortN s with
  | none =>
    refine (refLongs_none s w ?_ ?_ ?_ ?_ ?_ ?_).mono fun e w' ⟨he, hw⟩ => ⟨_, he, Rws.nil _ _ _, hw ▸ Below.refl _ _⟩
    · simpa [shortAt, shortsTbl] using shortN_none' h (k := 0) (by decide)
    · simpa [shortAt, shortsTbl] using shortN_none' h (k := 1) (by decide)
    · simpa [shortAt, shortsTbl] using shortN_none' h (k := 2) (by decide)
    · simpa [shortAt, shortsTbl] using shortN_none' h (k := 3) (by decide)
    · simpa [shortAt, shortsTbl] using shortN_none' h (k := 4) (by decide)
    · simpa [shortAt, shortsTbl] using shortN_none' h (k := 5) (by decide)
  | some k =>
    obtain ⟨hk, rfl⟩ := shortN_some h
    have : k = 0 ∨ k = 1 ∨ k = 2 ∨ k = 3 ∨ k = 4 ∨ k = 5 := by omega
    rcases this with rfl | rfl | rfl | rfl | rfl | rfl
    · exact refLongs_color w
    · exact refLongs_style w
    · exact refLongs_width w
    · exact refLongs_margin w
    · exact refLongs_overflow w
    · exact refLongs_padding w
end Go.Proofs.YtpadcjcoafidgaaDoor
