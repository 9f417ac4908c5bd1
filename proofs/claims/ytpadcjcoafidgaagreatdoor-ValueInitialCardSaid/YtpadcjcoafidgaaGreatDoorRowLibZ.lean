/- What the rows of this seat share: a world in which the listed variables lie as the program's text lays them. -/
import Derived.Test.YtpadcjcoafidgaaGreatDoorTold
import Derived.Test.YtpadcjcoafidgaaGreatDoorShorts
import Derived.Test.YtpadcjcoafidgaaGreatDoorCards
import Derived.Test.YtpadcjcoafidgaaGreatDoorTie
import Derived.ProofKit
import Derived.OpenShut
import Derived.Deep.DeepHandedRow
import Derived.SevenTiedAt
import Derived.Lib.SmallJoins
namespace Go.Proofs.YtpadcjcoafidgaaGreatDoor
open Go.ChangeShapes Go.WideShapes Go.ChangeAt Go.RowKit

theorem ownKnob_none : ownKnob Tryz.prog.godebug = none := by kernel_rfl
def colourCells : List Value := (colourTbl.map fun p => [Value.string p.1, Value.string p.2]).flatten
theorem colourCells_at : ∀ i : Fin 8, colourCells[i.val * 2]? = some (.string (colourAt i.val).1) ∧ colourCells[i.val * 2 + 1]? = some (.string (colourAt i.val).2)
  | ⟨0, _⟩ => ⟨rfl, rfl⟩
  | ⟨1, _⟩ => ⟨rfl, rfl⟩
  | ⟨2, _⟩ => ⟨rfl, rfl⟩
  | ⟨3, _⟩ => ⟨rfl, rfl⟩
  | ⟨4, _⟩ => ⟨rfl, rfl⟩
  | ⟨5, _⟩ => ⟨rfl, rfl⟩
  | ⟨6, _⟩ => ⟨rfl, rfl⟩
  | ⟨7, _⟩ => ⟨rfl, rfl⟩
theorem coloursIn_of_laid {w : World} {l : List (String × DataW Unit)} (h : laidMet Tryz.prog l w) (hm : ("gouache/value.colours", Rows.laid_gouache_value_colours) ∈ l) : ColoursIn w := by
  obtain ⟨ty, fr, hh⟩ := var_of_laid h hm (g := 0) (t := 78) (by kernel_rfl) (by kernel_rfl) 5 (cs := colourCells) (by kernel_rfl)
  refine ⟨(Array.getElem?_eq_some_iff.1 hh).1, fun i hi => ?_⟩
  have := colourCells_at ⟨i, hi⟩
  simp only [World.cell?, hh]
  exact ⟨by simpa using this.1, by simpa using this.2⟩
theorem powIs_of_laid {w : World} {l : List (String × DataW Unit)} (h : laidMet Tryz.prog l w) (hm : ("internal/strconv.uint64pow10", Rows.laid_internal_strconv_uint64pow10) ∈ l) : Lib.TabIs Tryz.prog w "internal/strconv.uint64pow10" .u64 Lib.pow10Tab := by
  obtain ⟨ty, fr, hh⟩ := var_of_laid h hm (g := 4) (t := 200) (by kernel_rfl) (by kernel_rfl) 5 (cs := Lib.pow10Tab.map fun z => Value.int .u64 z) (by kernel_rfl)
  have hg : Tryz.prog.globalNamed "internal/strconv.uint64pow10" = some 4 := by kernel_rfl
  unfold Lib.TabIs World.var?
  rw [hg]
  simp [hh]
theorem base_of_laid {w : World} {l : List (String × DataW Unit)} (h : laidMet Tryz.prog l w) (hm : ("gouache/value.colours", Rows.laid_gouache_value_colours) ∈ l) (hp : ("internal/strconv.uint64pow10", Rows.laid_internal_strconv_uint64pow10) ∈ l) : Base w :=
  ⟨coloursIn_of_laid h hm, powIs_of_laid h hp⟩

/-- The cells of a variable, of its name, by the datum beside it. -/
noncomputable def cellsAs (g : Nat) (d : DataW Unit) : Array Value := ((plainAt Tryz.prog 8 (((Tryz.prog.globals[g]?).map (·.type)).getD 0) d).getD []).toArray
noncomputable def setVar (g : Nat) (d : DataW Unit) (h : Array Obj) : Array Obj := h.modify g fun
  | .cells _ t frozen => .cells (cellsAs g d) t frozen
  | o => o
/-- A world in which the listed variables lie as the program's text lays them. -/
noncomputable def laidWorld (os : Os) : World :=
  { World.holding Tryz.prog os ⟨#[], #[], []⟩ with heap := setVar 6 Rows.laid_unicode_utf8_acceptRanges (setVar 5 Rows.laid_unicode_utf8_first (setVar 2 Rows.laid_gouache_prop_shorts (setVar 0 Rows.laid_gouache_value_colours (setVar 4 Rows.laid_internal_strconv_uint64pow10 (setVar 7 Rows.laid_math_bits_deBruijn32tab (setVar 8 Rows.laid_math_bits_deBruijn64tab (setVar 1 Rows.laid_gouache_short_sides (World.holding Tryz.prog os ⟨#[], #[], []⟩).heap))))))) }
end Go.Proofs.YtpadcjcoafidgaaGreatDoor
