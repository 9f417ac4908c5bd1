/- What the rows of this seat share: a struct of texts and a bool among the arguments; a world in which the listed variables lie as the program's text lays them. -/
import Derived.Test.YtpadcjcoafidgaaDoorShorts
import Derived.Test.YtpadcjcoafidgaaDoorCards
import Derived.Test.YtpadcjcoafidgaaDoorTie
import Derived.ProofKit
import Derived.OpenShut
import Derived.Deep.DeepHandedRow
import Derived.SevenTiedAt
import Derived.Lib.SmallJoins
namespace Go.Proofs.YtpadcjcoafidgaaDoor
open Go.ChangeShapes Go.WideShapes Go.ChangeAt Go.RowKit

theorem ownKnob_none : ownKnob Tryd.prog.godebug = none := by kernel_rfl

section
variable {H : Type} {enc : TypeId × Value → H} {P : Program} {w : World} {base : Nat} {sp : Nat → Bool} {held : Bool}
theorem field_string {n : Nat} {t : TypeId} {v : Value} {y : DataW H × List MemPlace} (hu : P.underlying t = some .string) (h : DataW.trod enc P w base sp held n t [v] = some y) : ∃ s : ByteArray, v = .string s ∧ y = (.lit (.string s.data.toList), []) ∧ s.size ≤ maxLen := by
  cases n with
  | zero => simp [DataW.trod] at h
  | succ n =>
    unfold DataW.trod at h
    rw [hu] at h
    split at h <;> simp_all
theorem field_bool {n : Nat} {t : TypeId} {v : Value} {y : DataW H × List MemPlace} (hu : P.underlying t = some .bool) (h : DataW.trod enc P w base sp held n t [v] = some y) : ∃ b : Bool, v = .bool b ∧ y = (.lit (.bool b), []) := by
  cases n with
  | zero => simp [DataW.trod] at h
  | succ n =>
    unfold DataW.trod at h
    rw [hu] at h
    split at h <;> simp_all
theorem field_string_mk {t : TypeId} {s : ByteArray} (hu : P.underlying t = some .string) (hs : s.size ≤ maxLen) : ∃ n, DataW.trod enc P w base sp held n t [.string s] = some (.lit (.string s.data.toList), []) :=
  ⟨1, by unfold DataW.trod; rw [hu]; simp [hs]⟩
theorem field_bool_mk {t : TypeId} {b : Bool} (hu : P.underlying t = some .bool) : ∃ n, DataW.trod enc P w base sp held n t [.bool b] = some (.lit (.bool b), []) :=
  ⟨1, by unfold DataW.trod; rw [hu]⟩
end

theorem cellsProp : Tryd.prog.cellsOf 28 = 4 := by kernel_rfl

/-- A property among the arguments. -/
theorem open_prop {H : Type} {enc : TypeId × Value → H} {W : World} {r : Reach} {b0 : Nat} {base : Nat} {sp : Nat → Bool} {held : Bool} {v : Value} {d : DataW H} {p : List MemPlace}
    (hv : Value.okWide Tryd.prog W r b0 28 v) (h : DataW.Trod enc Tryd.prog W base sp held 28 v d p) :
    ∃ (x y f : ByteArray) (i : Bool), v = .agg #[.string x, .string y, .bool i, .string f] ∧ d = .agg [.lit (.string x.data.toList), .lit (.string y.data.toList), .lit (.bool i), .lit (.string f.data.toList)] ∧ p = [] ∧ x.size ≤ maxLen ∧ y.size ≤ maxLen ∧ f.size ≤ maxLen := by
  obtain ⟨v0, v1, v2, v3, y0, y1, y2, y3, n, rfl, rfl, rfl, h0, h1, h2, h3⟩ := Joins.open_agg4 Tryd.underlying28 (by kernel_rfl) cellsProp hv h
  obtain ⟨x, rfl, rfl, hx⟩ := field_string Tryd.underlying9 h0
  obtain ⟨y, rfl, rfl, hy⟩ := field_string Tryd.underlying9 h1
  obtain ⟨i, rfl, rfl⟩ := field_bool Tryd.underlying4 h2
  obtain ⟨f, rfl, rfl, hf⟩ := field_string Tryd.underlying9 h3
  exact ⟨x, y, f, i, rfl, rfl, rfl, hx, hy, hf⟩
theorem shut_prop {H : Type} {enc : TypeId × Value → H} {W : World} {base : Nat} {sp : Nat → Bool} {held : Bool} {x y f : ByteArray} {i : Bool} (hx : x.size ≤ maxLen) (hy : y.size ≤ maxLen) (hf : f.size ≤ maxLen) :
    DataW.Trod enc Tryd.prog W base sp held 28 (.agg #[.string x, .string y, .bool i, .string f]) (.agg [.lit (.string x.data.toList), .lit (.string y.data.toList), .lit (.bool i), .lit (.string f.data.toList)]) [] :=
  Joins.shut_agg4 (y0 := (.lit (.string x.data.toList), [])) (y1 := (.lit (.string y.data.toList), [])) (y2 := (.lit (.bool i), [])) (y3 := (.lit (.string f.data.toList), [])) Tryd.underlying28 (by kernel_rfl) cellsProp
    (field_string_mk Tryd.underlying9 hx) (field_string_mk Tryd.underlying9 hy) (field_bool_mk Tryd.underlying4) (field_string_mk Tryd.underlying9 hf)

/-- The cells of a variable, of its name, by the datum beside it. -/
noncomputable def cellsAs (g : Nat) (d : DataW Unit) : Array Value := ((plainAt Tryd.prog 8 (((Tryd.prog.globals[g]?).map (·.type)).getD 0) d).getD []).toArray
noncomputable def setVar (g : Nat) (d : DataW Unit) (h : Array Obj) : Array Obj := h.modify g fun
  | .cells _ t frozen => .cells (cellsAs g d) t frozen
  | o => o
/-- A world in which the three listed variables lie as the program's text lays them. -/
noncomputable def laidWorld3 (os : Os) : World :=
  { World.holding Tryd.prog os ⟨#[], #[], []⟩ with heap := setVar 2 Rows.laid_unicode_utf8_acceptRanges (setVar 1 Rows.laid_unicode_utf8_first (setVar 0 Rows.laid_gouache_prop_shorts (World.holding Tryd.prog os ⟨#[], #[], []⟩).heap)) }
set_option maxRecDepth 100000 in
theorem laid_met3 (os : Os) (args : Array Value) : laidMet Tryd.prog [("unicode/utf8.acceptRanges", Rows.laid_unicode_utf8_acceptRanges), ("gouache/prop.shorts", Rows.laid_gouache_prop_shorts), ("unicode/utf8.first", Rows.laid_unicode_utf8_first)] ((laidWorld3 os).forCall (fun _ _ => 0) ⟨#[], args, []⟩).memory :=
  laidMet_of_run' 8 (by kernel_rfl) (by kernel_rfl)
end Go.Proofs.YtpadcjcoafidgaaDoor
