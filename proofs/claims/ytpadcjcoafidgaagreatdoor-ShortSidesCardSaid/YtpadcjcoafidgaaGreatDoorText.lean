/- Package text: the characters' kinds. -/
import Derived.Test.YtpadcjcoafidgaaGreatDoorSl
import Derived.Test.YtpadcjcoafidgaaGreatDoorRows
import Derived.Lib.Hide
namespace Go.Proofs.YtpadcjcoafidgaaGreatDoor
open Go.RowKit

theorem bAlloc1 (w : World) (a : Obj) : Below w.heap.size w (w.alloc a) := (Below.refl _ _).alloc (Nat.le_refl _) a
theorem bAlloc2 (w : World) (a b : Obj) : Below w.heap.size w ((w.alloc a).alloc b) := (bAlloc1 w a).trans ((bAlloc1 (w.alloc a) b).mono (by simp))
theorem bNext {w a b : World} (h : Below w.heap.size w a) (k : Below a.heap.size a b) : Below w.heap.size w b := h.trans (k.mono h.size)

def isIn (lo hi c : Int) : Bool := decide (lo ≤ c) && decide (c ≤ hi)
theorem isIn_of {lo hi c : Int} (h : lo ≤ c) : isIn lo hi c = decide (c ≤ hi) := by simp [isIn, h]
theorem isIn_lt {lo hi c : Int} (h : c < lo) : isIn lo hi c = false := by unfold isIn; rw [decide_eq_false (by omega)]; rfl
theorem Digit_any (c : Int) (w : World) :
    Calls Tryz.prog 76 #[.int .i32 c] w fun e w' => (e = .returned (.bool (isIn 48 57 c))) ∧ Below w.heap.size w w' := by
  go_enter Tryz.func76, Tryz.ntmps76
  go_wp2
  all_goals go_ret
  · exact ⟨by rw [isIn_of ‹_›]; rfl, bAlloc2 _ _ _⟩
  · exact ⟨by rw [isIn_lt ‹_›]; rfl, bAlloc2 _ _ _⟩
def isBlank (c : Int) : Bool := decide (c = 32) || decide (c = 9) || decide (c = 10)
theorem Blank_any (c : Int) (w : World) :
    Calls Tryz.prog 123 #[.int .i32 c] w fun e w' => (e = .returned (.bool (isBlank c))) ∧ w' = w := by
  go_enter Tryz.func123, Tryz.ntmps123
  go_wp2
  all_goals go_ret
  all_goals exact ⟨congrArg (fun b => Ending.returned (Value.bool b)) (Bool.eq_iff_iff.2 (by simp [isBlank, *])), rfl⟩
def isStart (c : Int) : Bool := decide (128 ≤ c) || decide (c = 95) || isIn 97 122 c || isIn 65 90 c
theorem Start_any (c : Int) (w : World) :
    Calls Tryz.prog 154 #[.int .i32 c] w fun e w' => (e = .returned (.bool (isStart c))) ∧ Below w.heap.size w w' := by
  go_enter Tryz.func154, Tryz.ntmps154
  go_wp2
  all_goals go_ret
  all_goals exact ⟨congrArg (fun b => Ending.returned (Value.bool b)) (Bool.eq_iff_iff.2 (by simp [isStart, isIn, *] <;> omega)), by repeat' first | exact Below.refl _ _ | (refine Below.alloc ?_ (by simp <;> omega) _)⟩
def isPart (c : Int) : Bool := decide (c = 45) || isIn 48 57 c || isStart c
theorem Part_any (c : Int) (w : World) :
    Calls Tryz.prog 127 #[.int .i32 c] w fun e w' => (e = .returned (.bool (isPart c))) ∧ Below w.heap.size w w' := by
  go_enter Tryz.func127, Tryz.ntmps127
  go_wp2_with (first
    | (go_at_call 76; refine (Digit_any _ _).mono ?_; rintro e w1 ⟨rfl, hb1⟩)
    | (go_at_call 154; refine (Start_any _ _).mono ?_; rintro e w2 ⟨rfl, hb2⟩))
  all_goals go_ret
  · exact ⟨congrArg (fun b => Ending.returned (Value.bool b)) (show true = _ by simp [isPart, *]), Below.refl _ _⟩
  · exact ⟨congrArg (fun b => Ending.returned (Value.bool b)) (show true = _ by simp [isPart, *]), hb1⟩
  · exact ⟨congrArg (fun b => Ending.returned (Value.bool b)) (show (c == 45 || isStart c) = _ by simp [isPart, *]), bNext hb1 hb2⟩
theorem digit_any (c : Int) (w : World) :
    Calls Tryz.prog 156 #[.int .i32 c] w fun e w' => (e = .returned (.bool (isIn 48 57 c))) ∧ Below w.heap.size w w' := by
  go_enter Tryz.func156, Tryz.ntmps156
  go_wp2_with (first
    | (go_at_call 76; refine (Digit_any _ _).mono ?_; rintro e w1 ⟨rfl, hb1⟩))
  all_goals go_ret
  · exact ⟨congrArg (fun b => Ending.returned (Value.bool b)) (show false = _ by simp [isIn, *]), Below.refl _ _⟩
  · exact ⟨congrArg (fun b => Ending.returned (Value.bool b)) (show (c != -1 && isIn 48 57 c) = _ by simp [*]), hb1⟩
def hexOf (c : Int) : Int := if isIn 48 57 c then c - 48 else if isIn 97 102 c then c - 87 else if isIn 65 70 c then c - 55 else -1
end Go.Proofs.YtpadcjcoafidgaaGreatDoor
