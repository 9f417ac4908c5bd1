/- gouachelaw14.lives answers true. -/
import Derived.Test.YtpadcjcoafidgaaDoorTexts
import Derived.Test.YtpadcjcoafidgaaDoorLongs
namespace Go.Proofs.YtpadcjcoafidgaaDoor
open Go.RowKit

def sColor : ByteArray := ⟨#[99, 111, 108, 111, 114]⟩
theorem place_color : placeN sColor = some 38 := by decide +kernel
theorem row_color : rowAt 38 = (sColor, ⟨#[35, 48, 48, 48, 48, 48, 48]⟩, true, ⟨#[60, 99, 111, 108, 111, 114, 62]⟩) := by rfl
def sOverflow : ByteArray := ⟨#[111, 118, 101, 114, 102, 108, 111, 119]⟩
def lOverflow : List ByteArray := [⟨#[111, 118, 101, 114, 102, 108, 111, 119, 45, 120]⟩, ⟨#[111, 118, 101, 114, 102, 108, 111, 119, 45, 121]⟩]
theorem longs_overflow : longsOf sOverflow = lOverflow := by decide +kernel
def sPosition : ByteArray := ⟨#[112, 111, 115, 105, 116, 105, 111, 110]⟩
theorem place_position : placeN sPosition = some 1 := by decide +kernel

theorem Find_color (w : World) :
    Calls Tryd.prog 9 #[.string ⟨#[99, 111, 108, 111, 114]⟩] w fun e w' => e = .returned (.tuple #[.agg #[.string ⟨#[99, 111, 108, 111, 114]⟩, .string ⟨#[35, 48, 48, 48, 48, 48, 48]⟩, .bool true, .string ⟨#[60, 99, 111, 108, 111, 114, 62]⟩], .bool true]) ∧ Below w.heap.size w w' :=
  Find_yes sColor 38 place_color w
theorem Longs_overflow (w : World) (hS : ShortsIn w) :
    Calls Tryd.prog 11 #[.string ⟨#[111, 118, 101, 114, 102, 108, 111, 119]⟩] w fun e w' => ∃ v, e = .returned v ∧ Strs w.heap.size w' v lOverflow ∧ Below w.heap.size w w' := by
  refine (Longs_any sOverflow w hS).mono fun e w' ⟨v, he, hs, _, hb⟩ => ⟨v, he, ?_, hb⟩
  rw [longs_overflow] at hs
  exact hs
theorem Place_position (w : World) :
    Calls Tryd.prog 10 #[.string ⟨#[112, 111, 115, 105, 116, 105, 111, 110]⟩] w fun e w' => e = .returned (.int .i64 1) ∧ Below w.heap.size w w' :=
  Place_yes place_position w

set_option maxRecDepth 100000 in
set_option maxHeartbeats 2000000 in
theorem lives_any (w : World) (hS : ShortsIn w) :
    Calls Tryd.prog 12 #[] w fun e w' => e = .returned (.bool true) ∧ Below w.heap.size w w' := by
  go_enter Tryd.func12, Tryd.ntmps12
  go_wp2_with fail
  refine (Find_color _).mono ?_
  rintro e w1 ⟨rfl, hb1⟩
  go_wp2_with fail
  have hA1 : Below w.heap.size w (w1.alloc (.cells #[.string ⟨#[99, 111, 108, 111, 114]⟩, .string ⟨#[35, 48, 48, 48, 48, 48, 48]⟩, .bool true, .string ⟨#[60, 99, 111, 108, 111, 114, 62]⟩] 28)) := hb1.alloc hb1.size _
  refine (Longs_overflow _ (hS.below hA1 (Nat.le_refl _))).mono ?_
  rintro e w2 ⟨v, rfl, hv, hb2⟩
  have hA2 := hA1.trans (hb2.mono hA1.size)
  clear hA1 hb2 hb1
  go_wp2_with fail
  refine (Texts_same v (.slice (some ⟨w2.heap.size, 0, none⟩) 2 2) lOverflow _ (hv.below (below_alloc_new w2 _) (Nat.le_refl _)) (Strs.new w2 lOverflow 9 (by unfold maxLen; decide))).mono ?_
  rintro e w3 ⟨rfl, hb3⟩
  have hA3 := (hA2.alloc hA2.size _).trans (hb3.mono (Nat.le_trans hA2.size (by simp)))
  clear hb3 hv hA2
  go_wp2_with fail
  refine (Place_position _).mono ?_
  rintro e w4 ⟨rfl, hb4⟩
  go_wp2_with fail
  go_ret
  exact ⟨rfl, hA3.trans (hb4.mono hA3.size)⟩
end Go.Proofs.YtpadcjcoafidgaaDoor
