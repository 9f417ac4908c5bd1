/- gouacheref14.Texts at two slices that hold the same texts. -/
import Derived.Test.YtpadcjcoafidgaaDoorSl
import Derived.Test.YtpadcjcoafidgaaDoorRows
import Derived.BigQuiet
import Derived.Deep.QuietTactic
import Derived.Lib.Hide
namespace Go.Proofs.YtpadcjcoafidgaaDoor
open Go.RowKit

set_option maxRecDepth 100000 in
set_option maxHeartbeats 1000000 in
theorem Texts_same {B1 B2 : Nat} (v1 v2 : Value) (l : List ByteArray) (w : World) (h1 : Strs B1 w v1 l) (h2 : Strs B2 w v2 l) :
    Calls Tryd.prog 15 #[v1, v2] w fun e w' => e = .returned (.bool true) ∧ Below w.heap.size w w' := by
  obtain ⟨a1, c1, rfl, hl⟩ := h1.val
  obtain ⟨a2, c2, rfl, _⟩ := h2.val
  unfold maxLen at hl
  have H1 := Lib.hid h1
  have H2 := Lib.hid h2
  clear h1 h2
  go_enter Tryd.func15, Tryd.ntmps15
  go_wp2_with fail
  go_loopw [5, 13] (fun _ i wr => ∃ k : Nat, k ≤ l.length ∧ i = .int .i64 k ∧ Below w.heap.size w wr)
    (fun _ i _ => l.length - (intOf i).toNat)
  case atStart => exact ⟨0, by omega, rfl, Below.refl _ _⟩
  case round =>
    obtain ⟨k, hk, rfl, hB⟩ := hrel
    by_cases hlt : k < l.length
    · have hne : l ≠ [] := by intro e; subst e; simp at hlt
      obtain ⟨b1, o1, c1', e1, _, hb1, hc1⟩ := H1.out.at hne
      obtain ⟨b2, o2, c2', e2, _, hb2, hc2⟩ := H2.out.at hne
      simp only [Value.slice.injEq] at e1 e2
      obtain ⟨rfl, _, _⟩ := e1
      obtain ⟨rfl, _, _⟩ := e2
      have f1 : wr.cell? ⟨b1, o1 + k, none⟩ = some (.string l[k]) := (hB.cell (p := ⟨b1, _, none⟩) hb1).trans (hc1 k hlt)
      have f2 : wr.cell? ⟨b2, o2 + k, none⟩ = some (.string l[k]) := (hB.cell (p := ⟨b2, _, none⟩) hb2).trans (hc2 k hlt)
      clear hc1 hc2
      have q1 : (0 : Int) ≤ (k : Int) := by omega
      have q2 : (k : Int) < (l.length : Int) := by omega
      go_wp2_with fail
      go_quiet (fail)
      go_wp2_with fail
      go_roundw
      case rel => exact ⟨k + 1, by omega, by go_num, below_drewN hB _⟩
      case measure => simp [intOf]; omega
    · obtain rfl : k = l.length := by omega
      go_wp2_with fail
      go_ret
      exact ⟨rfl, hB⟩
end Go.Proofs.YtpadcjcoafidgaaDoor
