/- The walk of gouachelaw14.PropParts: it returns true, whatever the property. -/
import Derived.Test.YtpadcjcoafidgaaDoorBar
import Derived.Test.YtpadcjcoafidgaaDoorForms
import Derived.Test.YtpadcjcoafidgaaDoorLives
namespace Go.Proofs.YtpadcjcoafidgaaDoor
open Go.RowKit

theorem byte_ne {c : UInt8} (h : c ≠ 124) : ((c.toNat : Int) == 124) = false := by
  rw [beq_eq_false_iff_ne]
  intro e
  apply h
  apply UInt8.toNat_inj.1
  have : c.toNat = 124 := by omega
  rw [this]
  rfl

set_option maxRecDepth 100000 in
set_option maxHeartbeats 2000000 in
theorem propParts_small (x y f : ByteArray) (i : Bool) (hf : f.size ≤ 1000) (w : World) (hS : ShortsIn w) :
    Calls Tryd.prog 5 #[.agg #[.string x, .string y, .bool i, .string f]] w fun e w' => e = .returned (.bool true) ∧ Below w.heap.size w w' := by
  have HS := Lib.hid hS
  clear hS
  go_enter Tryd.func5, Tryd.ntmps5
  go_wp2_with fail
  refine (Forms_any x y f i (by omega) _).mono ?_
  rintro e w1 ⟨v1, rfl, hv1, hb1⟩
  have hA1 : Below w.heap.size w w1 := (below_alloc_new w _).trans (hb1.mono (by simp))
  have k3 : w1.cell? ⟨w.heap.size, 3, none⟩ = some (.string f) := (hb1.cell (p := ⟨w.heap.size, 3, none⟩) (by simp)).trans (by simp)
  have hpos := parts_pos f
  obtain ⟨b1, o1, c1, rfl, _, hlt1, hc1⟩ := Strs.at hv1 (by intro e; rw [e] at hpos; simp at hpos)
  have hm1 := hv1.len
  simp only [sRows, List.length_map] at hm1
  unfold maxLen at hm1
  have HS1 := Lib.hid (HS.out.below hA1 (Nat.le_refl _))
  clear hv1 hb1
  go_wp2_with fail
  go_loopw [4, 5, 6, 7, 17] (fun s _ _ _ p wr => ∃ q : Nat, q ≤ (parts f).length ∧ p = .int .i64 q ∧ s = .string (acc f q) ∧ wr = w1)
    (fun _ _ _ _ p _ => (parts f).length - (intOf p).toNat)
  case atStart => exact ⟨0, by omega, rfl, by rw [acc_zero], rfl⟩
  case round =>
    obtain ⟨q, hq, rfl, rfl, rfl⟩ := hrel
    by_cases hlt : q < (parts f).length
    · have c := hc1 q hlt
      have hs1 := acc_size f q
      have hs2 := parts_size f q hlt
      have Hnb := Lib.hid (parts_noBar f q hlt)
      have z1 : ((acc f q).size : Int) ≤ 8388608 := by omega
      have z2 : ((parts f)[q].size : Int) ≤ 8388608 := by omega
      by_cases h0 : q = 0
      · have e1 : acc f q ++ (parts f)[q] = acc f (q + 1) := by subst h0; exact acc_one f hlt
        have H1 := Lib.hid e1
        clear e1
        have hq0 : ¬ (0 : Int) < (q : Int) := by omega
        have H0 := Lib.hid h0
        clear h0
        go_wp2_with fail
        rw [H1.out]
        go_loop [7] (fun j => ∃ m : Nat, m ≤ (parts f)[q].size ∧ j = .int .i64 m) (fun j => (parts f)[q].size - (intOf j).toNat)
        case atStart => exact ⟨0, by omega, rfl⟩
        case round =>
          obtain ⟨m, hm, rfl⟩ := hrel
          by_cases hlm : m < (parts f)[q].size
          · have hb := byte_ne (Hnb.out m hlm)
            go_wp2_with fail
            go_round
            case rel => exact ⟨m + 1, by omega, by go_num⟩
            case measure => simp [intOf]; omega
          · obtain rfl : m = (parts f)[q].size := by omega
            go_wp2_with fail
            go_round
            case rel => exact ⟨q + 1, by omega, by go_num, rfl, trivial⟩
            case measure => simp [intOf]; omega
      · have e1 := acc_succ f q (by omega) hlt
        have H1 := Lib.hid e1
        clear e1
        have hq0 : (0 : Int) < (q : Int) := by omega
        clear h0
        go_wp2_with fail
        rw [H1.out]
        go_loop [7] (fun j => ∃ m : Nat, m ≤ (parts f)[q].size ∧ j = .int .i64 m) (fun j => (parts f)[q].size - (intOf j).toNat)
        case atStart => exact ⟨0, by omega, rfl⟩
        case round =>
          obtain ⟨m, hm, rfl⟩ := hrel
          by_cases hlm : m < (parts f)[q].size
          · have hb := byte_ne (Hnb.out m hlm)
            go_wp2_with fail
            go_round
            case rel => exact ⟨m + 1, by omega, by go_num⟩
            case measure => simp [intOf]; omega
          · obtain rfl : m = (parts f)[q].size := by omega
            go_wp2_with fail
            go_round
            case rel => exact ⟨q + 1, by omega, by go_num, rfl, trivial⟩
            case measure => simp [intOf]; omega
    · obtain rfl : q = (parts f).length := by omega
      rw [acc_all]
      have hp1 : (1 : Int) ≤ ((parts f).length : Int) := by omega
      go_wp2_with fail
      refine (lives_any _ HS1.out).mono ?_
      rintro e w2 ⟨rfl, hb2⟩
      go_wp2_with fail
      go_ret
      exact ⟨rfl, hA1.trans (hb2.mono hA1.size)⟩
set_option maxRecDepth 100000 in
set_option maxHeartbeats 1000000 in
theorem propParts_great (x y f : ByteArray) (i : Bool) (hf : ¬ f.size ≤ 1000) (hm : f.size ≤ maxLen) (w : World) (hS : ShortsIn w) :
    Calls Tryd.prog 5 #[.agg #[.string x, .string y, .bool i, .string f]] w fun e w' => e = .returned (.bool true) ∧ Below w.heap.size w w' := by
  unfold maxLen at hm
  have hA1 := below_alloc_new w (.cells #[.string x, .string y, .bool i, .string f] 28)
  have HS1 := Lib.hid (hS.below hA1 (Nat.le_refl _))
  clear hS
  have hg : (1000 : Int) < (f.size : Int) := by omega
  go_enter Tryd.func5, Tryd.ntmps5
  go_wp2_with fail
  refine (lives_any _ HS1.out).mono ?_
  rintro e w2 ⟨rfl, hb2⟩
  go_wp2_with fail
  go_ret
  exact ⟨rfl, hA1.trans (hb2.mono hA1.size)⟩
theorem propParts_walk (x y f : ByteArray) (i : Bool) (hm : f.size ≤ maxLen) (w : World) (hS : ShortsIn w) :
    Calls Tryd.prog 5 #[.agg #[.string x, .string y, .bool i, .string f]] w fun e w' => e = .returned (.bool true) ∧ Below w.heap.size w w' := by
  by_cases hf : f.size ≤ 1000
  · exact propParts_small x y f i hf w hS
  · exact propParts_great x y f i hf hm w hS
end Go.Proofs.YtpadcjcoafidgaaDoor
