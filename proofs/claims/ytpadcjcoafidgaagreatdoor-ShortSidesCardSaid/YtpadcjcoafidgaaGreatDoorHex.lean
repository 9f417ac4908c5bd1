/- text.Hex below nought or not; what no hexadecimal digit is. -/
import Derived.Test.YtpadcjcoafidgaaGreatDoorInt
import Derived.Laws.BitsLemmas
namespace Go.Proofs.YtpadcjcoafidgaaGreatDoor
open Go.RowKit

def isHex (r : Nat) : Bool := isIn 48 57 r || isIn 97 102 r || isIn 65 70 r
def notHex (r : Nat) : Bool := !isHex r
theorem notHex_high (r : Nat) (h : 128 ≤ r) : notHex r = true := by
  unfold notHex isHex isIn
  have h1 : ¬ ((r : Int) ≤ 57) := by omega
  have h2 : ¬ ((r : Int) ≤ 102) := by omega
  have h3 : ¬ ((r : Int) ≤ 70) := by omega
  simp [h1, h2, h3]
theorem or32 (r : Nat) (h : r ≤ 1114111) : bits .or .i32 (r : Int) 32 = ((r ||| 32 : Nat) : Int) := (bits_nat .i32 31 (by decide) wraps_i32 r 32 (by omega) (by decide)).2
theorem hex_tab : ∀ n : Fin 128, (isIn 97 102 ((n.val ||| 32 : Nat) : Int)) = (isIn 97 102 (n.val : Int) || isIn 65 70 (n.val : Int)) := by decide +kernel
theorem hex_small (r : Nat) : isIn 97 102 ((r ||| 32 : Nat) : Int) = (isIn 97 102 (r : Int) || isIn 65 70 (r : Int)) := by
  by_cases h : r < 128
  · exact hex_tab ⟨r, h⟩
  · have := @Nat.left_le_or r 32
    unfold isIn
    rw [decide_eq_false (show ¬ (((r ||| 32 : Nat) : Int) ≤ 102) by omega), decide_eq_false (show ¬ ((r : Int) ≤ 102) by omega), decide_eq_false (show ¬ ((r : Int) ≤ 70) by omega)]
    simp
set_option maxHeartbeats 1000000 in
theorem Hex_any (r : Nat) (h : r ≤ 1114111) (w : World) :
    Calls Tryz.prog 45 #[.int .i32 (r : Int)] w fun e w' => (∃ n : Int, e = .returned (.int .i64 n) ∧ decide (n < 0) = notHex r) ∧ Below w.heap.size w w' := by
  have ho := or32 r h
  obtain ⟨q, hq⟩ : ∃ q : Nat, r ||| 32 = q := ⟨_, rfl⟩
  have hs := hex_small r
  rw [hq] at ho hs
  have hq2 : q ≤ 2147483647 := by
    rw [← hq]
    have := Nat.or_lt_two_pow (x := r) (y := 32) (n := 31) (by omega) (by decide)
    omega
  clear hq
  go_enter Tryz.func45, Tryz.ntmps45
  go_wp2_with fail
  refine (Digit_any _ _).mono ?_
  rintro e w1 ⟨rfl, hb1⟩
  cases hd : isIn 48 57 (r : Int)
  · cases hx : isIn 97 102 (q : Int)
    · have HN : Hid (notHex r = true) := Lib.hid (by unfold notHex isHex; rw [hd, Bool.false_or, ← hs, hx]; rfl)
      have hx' : ¬ (97 ≤ (q : Int) ∧ (q : Int) ≤ 102) := by intro hh; unfold isIn at hx; rw [decide_eq_true hh.1, decide_eq_true hh.2] at hx; cases hx
      clear hs hd hx
      go_wp2
      all_goals go_ret
      all_goals exact ⟨⟨_, rfl, by rw [HN.out]; rfl⟩, hb1.trans (by repeat' first | exact Below.refl _ _ | (refine Below.alloc ?_ (by have := hb1.size; simp <;> omega) _))⟩
    · have HN : Hid (notHex r = false) := Lib.hid (by unfold notHex isHex; rw [hd, Bool.false_or, ← hs, hx]; rfl)
      have hx' : 97 ≤ (q : Int) ∧ (q : Int) ≤ 102 := by simpa [isIn] using hx
      obtain ⟨hx1, hx2⟩ := hx'
      have ww1 : IntKind.i64.wrap ((q : Int) - 97) = (q : Int) - 97 := Go.IntWalk.i64_in _ (by omega)
      have ww2 : IntKind.i64.wrap ((q : Int) - 97 + 10) = (q : Int) - 97 + 10 := Go.IntWalk.i64_in _ (by omega)
      clear hs hd hx
      go_wp2
      all_goals go_ret
      all_goals exact ⟨⟨_, rfl, by rw [HN.out]; exact decide_eq_false (by omega)⟩, hb1.trans (by repeat' first | exact Below.refl _ _ | (refine Below.alloc ?_ (by have := hb1.size; simp <;> omega) _))⟩
  · have HN : Hid (notHex r = false) := Lib.hid (by unfold notHex isHex; rw [hd]; rfl)
    have hx' : 48 ≤ (r : Int) ∧ (r : Int) ≤ 57 := by simpa [isIn] using hd
    have ww1 : IntKind.i64.wrap ((r : Int) - 48) = (r : Int) - 48 := Go.IntWalk.i64_in _ (by omega)
    clear hs hd
    go_wp2
    all_goals go_ret
    exact ⟨⟨_, rfl, by rw [HN.out]; exact decide_eq_false (by omega)⟩, hb1⟩
theorem strange_any (r : Nat) (h : r ≤ 1114111) (w : World) : Calls Tryz.prog 44 #[.int .i32 (r : Int)] w fun e w' => e = .returned (.bool (notHex r)) ∧ Below w.heap.size w w' := by
  go_enter Tryz.func44, Tryz.ntmps44
  go_wp2_with fail
  refine (Hex_any r h w).mono ?_
  rintro e w1 ⟨⟨n, rfl, hn⟩, hb1⟩
  cases hm : notHex r
  · have hn' : ¬ n < 0 := by rw [hm] at hn; simpa using hn
    clear hn
    go_wp2_with fail
    go_ret
    exact ⟨congrArg (fun b => Ending.returned (Value.bool b)) (by rw [hm]; simpa using hn'), hb1⟩
  · have hn' : n < 0 := by rw [hm] at hn; simpa using hn
    clear hn
    go_wp2_with fail
    go_ret
    exact ⟨congrArg (fun b => Ending.returned (Value.bool b)) hm.symm, hb1⟩
end Go.Proofs.YtpadcjcoafidgaaGreatDoor
