/- The tokens of numbers with their units, of words and of hashes. -/
import Derived.Test.YtpadcjcoafidgaaGreatDoorLex
namespace Go.Proofs.YtpadcjcoafidgaaGreatDoor
open Go.RowKit

theorem takeWhile_stop {p : Int → Bool} (a r : List Int) (ha : ∀ c ∈ a, p c = true) (hr : r = [] ∨ p (at_ r 0) = false) : (a ++ r).takeWhile p = a := by
  rw [List.takeWhile_append_of_pos ha]
  cases r with
  | nil => simp
  | cons c r' =>
    rcases hr with h | h
    · cases h
    · have : p c = false := h
      simp [this]
theorem num_lens (sg ds r : List Int) (hs : sg = [] ∨ sg = [45]) (hne : ds ≠ []) (hd : ∀ c ∈ ds, isIn 48 57 c = true) (hr : r = [] ∨ isIn 48 57 (at_ r 0) = false) :
    digLen (sg ++ (ds ++ r)) = (sg ++ ds).length ∧ counts (sg ++ (ds ++ r)) = true ∧ isBlank (at_ (sg ++ (ds ++ r)) 0) = false ∧ at_ (sg ++ (ds ++ r)) 0 ≠ 35 ∧ sg ++ (ds ++ r) ≠ [] := by
  cases ds with
  | nil => exact absurd rfl hne
  | cons d ds' =>
    have hd0 := hd d (by simp)
    have hb : 48 ≤ d ∧ d ≤ 57 := by simpa [isIn] using hd0
    have htw := takeWhile_stop (d :: ds') r hd hr
    rcases hs with rfl | rfl
    · have e0 : at_ ([] ++ (d :: ds' ++ r)) 0 = d := rfl
      refine ⟨?_, ?_, ?_, ?_, by simp⟩
      · unfold digLen signLen
        rw [e0, hd0, if_pos rfl, List.drop_zero, List.nil_append, htw]
        simp
      · unfold counts; rw [e0, if_neg (by omega)]; exact hd0
      · rw [e0]; simp [isBlank]; omega
      · rw [e0]; omega
    · have e0 : at_ ([45] ++ (d :: ds' ++ r)) 0 = 45 := rfl
      have e1 : at_ ([45] ++ (d :: ds' ++ r)) 1 = d := rfl
      refine ⟨?_, ?_, ?_, ?_, by simp⟩
      · unfold digLen signLen
        rw [e0, show isIn 48 57 45 = false by decide, if_neg (by decide)]
        show 1 + (((d :: ds' ++ r)).takeWhile (isIn 48 57)).length = _
        rw [htw]
        simp; omega
      · unfold counts; rw [e0, if_pos rfl, e1]; exact hd0
      · rw [e0]; decide
      · rw [e0]; decide
theorem num_take (sg ds r : List Int) : (sg ++ (ds ++ r)).take (sg ++ ds).length = sg ++ ds := by rw [← List.append_assoc, List.take_left]
theorem num_drop (sg ds r : List Int) : (sg ++ (ds ++ r)).drop (sg ++ ds).length = r := by rw [← List.append_assoc, List.drop_left]
theorem at_num (sg ds r : List Int) : at_ (sg ++ (ds ++ r)) (sg ++ ds).length = at_ r 0 := by rw [← Nat.add_zero (sg ++ ds).length, ← at_drop, num_drop]
/-- The unit px, and what no name goes on with. -/
theorem step_px (sg ds r : List Int) (hs : sg = [] ∨ sg = [45]) (hne : ds ≠ []) (hd : ∀ c ∈ ds, isIn 48 57 c = true) (hr : r = [] ∨ isPart (at_ r 0) = false) :
    step (sg ++ (ds ++ 112 :: 120 :: r)) = some (⟨12, strOf (sg ++ ds), strOf [112, 120], true, false⟩, (sg ++ ds).length + 2) := by
  obtain ⟨h1, h2, h3, h4, -⟩ := num_lens sg ds (112 :: 120 :: r) hs hne hd (.inr (show isIn 48 57 112 = false by decide))
  have hb : begins (112 :: 120 :: r) = true := by unfold begins; rw [show at_ (112 :: 120 :: r) 0 = 112 from rfl, if_neg (by decide)]; decide
  have hw : (112 :: 120 :: r).takeWhile isPart = [112, 120] := takeWhile_stop [112, 120] r (by decide) hr
  unfold step
  rw [h3, if_neg (by decide), if_neg h4, if_pos h2, if_pos (by unfold NoExp; rw [h1, at_num]; exact ⟨(by decide : (112 : Int) ≠ 101), (by decide : (112 : Int) ≠ 69)⟩)]
  unfold numT numLen nameLen
  rw [h1, num_drop, num_take, if_pos hb, if_pos hb, hw]
  rfl
theorem step_pct (sg ds r : List Int) (hs : sg = [] ∨ sg = [45]) (hne : ds ≠ []) (hd : ∀ c ∈ ds, isIn 48 57 c = true) :
    step (sg ++ (ds ++ 37 :: r)) = some (⟨11, strOf (sg ++ ds), noStr, true, false⟩, (sg ++ ds).length + 1) := by
  obtain ⟨h1, h2, h3, h4, -⟩ := num_lens sg ds (37 :: r) hs hne hd (.inr (show isIn 48 57 37 = false by decide))
  have hb : begins (37 :: r) = false := by unfold begins; rw [show at_ (37 :: r) 0 = 37 from rfl, if_neg (by decide)]; decide
  unfold step
  rw [h3, if_neg (by decide), if_neg h4, if_pos h2, if_pos (by unfold NoExp; rw [h1, at_num]; exact ⟨(by decide : (37 : Int) ≠ 101), (by decide : (37 : Int) ≠ 69)⟩)]
  unfold numT numLen
  rw [h1, num_drop, num_take, hb, show at_ (37 :: r) 0 = 37 from rfl]
  simp only [Bool.false_eq_true, if_false, if_true]
/-- A number alone, or with a space behind it. -/
theorem step_int (sg ds r : List Int) (hs : sg = [] ∨ sg = [45]) (hne : ds ≠ []) (hd : ∀ c ∈ ds, isIn 48 57 c = true) (hr : r = [] ∨ at_ r 0 = 32) :
    step (sg ++ (ds ++ r)) = some (⟨10, strOf (sg ++ ds), noStr, true, false⟩, (sg ++ ds).length) := by
  have hx : at_ r 0 = -1 ∨ at_ r 0 = 32 := hr.imp (fun e => by rw [e]; rfl) id
  obtain ⟨h1, h2, h3, h4, -⟩ := num_lens sg ds r hs hne hd (.inr (by rcases hx with e | e <;> rw [e] <;> decide))
  have hb : begins r = false := by unfold begins; rcases hx with e | e <;> rw [e, if_neg (by decide)] <;> decide
  have h37 : at_ r 0 ≠ 37 := by rcases hx with e | e <;> rw [e] <;> decide
  unfold step
  rw [h3, if_neg (by decide), if_neg h4, if_pos h2, if_pos (by unfold NoExp; rw [h1, at_num]; rcases hx with e | e <;> rw [e] <;> exact ⟨by decide, by decide⟩)]
  unfold numT numLen
  rw [h1, num_drop, num_take, hb]
  simp only [Bool.false_eq_true, if_false, if_neg h37, Nat.add_zero]
theorem step_blank (r : List Int) (hr : r = [] ∨ isBlank (at_ r 0) = false) : step (32 :: r) = some (spaceT, 1) := by
  have hw : (32 :: r).takeWhile isBlank = [32] := takeWhile_stop [32] r (by decide) hr
  unfold step
  rw [show at_ (32 :: r) 0 = 32 from rfl, if_pos (by decide), hw]
  rfl
end Go.Proofs.YtpadcjcoafidgaaGreatDoor
