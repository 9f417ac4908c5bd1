/- prop.Shorts: the shorthands' names, out of the package's table. -/
import Derived.Test.YtpadcjcoafidgaaGreatDoorFind
import Derived.Test.YtpadcjcoafidgaaGreatDoorLaid
import Derived.Deep.DeepMust
namespace Go.Proofs.YtpadcjcoafidgaaGreatDoor
open Go.RowKit

abbrev Short := ByteArray × ByteArray × ByteArray
def Short.cells (r : Short) : List Value := [.string r.1, .string r.2.1, .string r.2.2]
abbrev Short.val (r : Short) : Value := .agg #[.string r.1, .string r.2.1, .string r.2.2]
def shortsTbl : List Short := [
  (⟨#[98, 111, 114, 100, 101, 114, 45, 99, 111, 108, 111, 114]⟩, ⟨#[98, 111, 114, 100, 101, 114, 45, 116, 111, 112, 45, 99, 111, 108, 111, 114]⟩, ⟨#[98, 111, 114, 100, 101, 114, 45, 108, 101, 102, 116, 45, 99, 111, 108, 111, 114]⟩),
  (⟨#[98, 111, 114, 100, 101, 114, 45, 115, 116, 121, 108, 101]⟩, ⟨#[98, 111, 114, 100, 101, 114, 45, 116, 111, 112, 45, 115, 116, 121, 108, 101]⟩, ⟨#[98, 111, 114, 100, 101, 114, 45, 108, 101, 102, 116, 45, 115, 116, 121, 108, 101]⟩),
  (⟨#[98, 111, 114, 100, 101, 114, 45, 119, 105, 100, 116, 104]⟩, ⟨#[98, 111, 114, 100, 101, 114, 45, 116, 111, 112, 45, 119, 105, 100, 116, 104]⟩, ⟨#[98, 111, 114, 100, 101, 114, 45, 108, 101, 102, 116, 45, 119, 105, 100, 116, 104]⟩),
  (⟨#[109, 97, 114, 103, 105, 110]⟩, ⟨#[109, 97, 114, 103, 105, 110, 45, 116, 111, 112]⟩, ⟨#[109, 97, 114, 103, 105, 110, 45, 108, 101, 102, 116]⟩),
  (⟨#[111, 118, 101, 114, 102, 108, 111, 119]⟩, ⟨#[111, 118, 101, 114, 102, 108, 111, 119, 45, 120]⟩, ⟨#[111, 118, 101, 114, 102, 108, 111, 119, 45, 121]⟩),
  (⟨#[112, 97, 100, 100, 105, 110, 103]⟩, ⟨#[112, 97, 100, 100, 105, 110, 103, 45, 116, 111, 112]⟩, ⟨#[112, 97, 100, 100, 105, 110, 103, 45, 108, 101, 102, 116]⟩)]
def shortsRows : List (List Value) := shortsTbl.map Short.cells
def shortsCells : Array Value := shortsRows.flatten.toArray
/-- The variable prop.shorts holds its table. -/
def ShortsIn (w : World) : Prop := ∃ ty fr, w.heap[(2 : Nat)]? = some (.cells shortsCells ty fr)
theorem ShortsIn.lt {w : World} (h : ShortsIn w) : 2 < w.heap.size := by
  obtain ⟨_, _, h⟩ := h
  exact (Array.getElem?_eq_some_iff.1 h).1
theorem ShortsIn.below {w w' : World} {C : Nat} (h : ShortsIn w) (hb : Below C w w') (hC : w.heap.size ≤ C) : ShortsIn w' := by
  have hlt := h.lt
  obtain ⟨ty, fr, h⟩ := h
  exact ⟨ty, fr, by rw [hb.block _ (by omega)]; exact h⟩
theorem shortsIn_of_laid {w : World} {l : List (String × DataW Unit)} (h : laidMet Tryz.prog l w) (hm : ("gouache/prop.shorts", Rows.laid_gouache_prop_shorts) ∈ l) : ShortsIn w :=
  var_of_laid h hm (g := 2) (t := 107) (by kernel_rfl) (by kernel_rfl) 5 (cs := shortsRows.flatten) (by kernel_rfl)

theorem shortsRows_len : ∀ r ∈ shortsRows, r.length = 3 := by
  intro r hr
  obtain ⟨x, _, rfl⟩ := List.mem_map.1 hr
  rfl
def shortAt (k : Nat) : Short := shortsTbl[k]?.getD (⟨#[]⟩, ⟨#[]⟩, ⟨#[]⟩)
theorem shortsTbl_length : shortsTbl.length = 6 := rfl
theorem shortAt_cells {k : Nat} (h : k < 6) : shortsRows[k]?.getD [] = (shortAt k).cells := by
  have hk : k < shortsTbl.length := by rw [shortsTbl_length]; exact h
  simp [shortsRows, shortAt, hk]
theorem info49 : ∃ i, Tryz.prog.info? 106 = some i ∧ i.size = 3 := by
  have h : (Tryz.prog.info? 106).map (·.size) = some 3 := by kernel_rfl
  exact Option.map_eq_some_iff.1 h
theorem run_index_short {k : Nat} (h : k < 6) (w : World) :
    (Instr.index 107 (.agg shortsCells) (.int .i64 k)).run Tryz.prog w = .ok (shortAt k).val w := by
  obtain ⟨ie, hie, hsz⟩ := info49
  have := run_index_rows (P := Tryz.prog) (w := w) 107 106 6 3 shortsRows .i64 k ie _ Tryz.underlying107 Tryz.underlying106 hie hsz shortsRows_len (by simp [shortsRows, shortsTbl_length]) h
  rw [shortAt_cells h] at this
  exact this

theorem infoStr : (Tryz.prog.info? 9).map (fun i => (i.zero, i.size, i.bytes)) = some (some (.string ⟨#[]⟩), 1, 16) := by kernel_rfl

theorem sUpto_succ (k : Nat) : upto (fun i => (shortAt i).1) (k + 1) = upto (fun i => (shortAt i).1) k ++ [(shortAt k).1] := upto_succ _ _

set_option maxRecDepth 100000 in
set_option maxHeartbeats 1000000 in
/-- prop.Shorts. -/
theorem Shorts_any (w : World) (hS : ShortsIn w) :
    Calls Tryz.prog 37 #[] w fun e w' => ∃ v, e = .returned v ∧ Strs w.heap.size w' v (shortsTbl.map (·.1)) ∧ Below w.heap.size w w' := by
  obtain ⟨ty, fr, hg⟩ := hS
  have Hg := Lib.hid hg
  clear hg
  go_enter Tryz.func37, Tryz.ntmps37
  go_wp2_with (with_reducible refine wpList_load_row rfl 107 _ rfl 2 rfl _ shortsCells _ _ Hg.out Tryz.underlying107 rfl (by kernel_rfl) ?_)
  go_loopw [1, 3, 5] (fun v _ i wr => ∃ k : Nat, k ≤ 6 ∧ i = .int .i64 k ∧ wr.ownsRow w.heap.size 9 1 v (upto (fun i => (shortAt i).1) k).length ((upto (fun i => (shortAt i).1) k).map Value.string) ∧ Below w.heap.size w wr)
    (fun _ _ i _ => 6 - (intOf i).toNat)
  case atStart => exact ⟨0, by omega, rfl, World.ownsRow_nil _ _ _ _, Below.refl _ _⟩
  case round =>
    obtain ⟨k, hk, rfl, hown, hB⟩ := hrel
    by_cases hlt : k < 6
    · have hix := fun wx => run_index_short hlt wx
      have hsz := hB.size
      have Hl : Hid ((upto (fun i => (shortAt i).1) k).length = k) := Lib.hid (upto_length _ _)
      go_wp2_with (at_builtin; refine wpList_append_str rfl _ _ 42 9 rfl w.heap.size Tryz.underlying42 infoStr _ _ (shortAt k).1 rfl (((hown.alloc _).alloc _)) (wr.heap.size + 1) rfl (by simp) (by rw [Hl.out]; omega) (by simp; omega) ?_; intro v' w1 hown' hgrow hne)
      have hB1 : Below w.heap.size w w1 := ((hB.alloc hsz _).alloc (by simp; omega) _).grown hgrow (by simp; omega) (fun j e => (hown.lt j e).1)
      go_roundw
      case rel => exact ⟨k + 1, by omega, by go_num, by rw [upto_succ]; exact hown', hB1⟩
      case measure => simp [intOf]; omega
    · obtain rfl : k = 6 := by omega
      go_wp2_with fail
      go_ret
      have h6 : upto (fun i => (shortAt i).1) 6 = shortsTbl.map (·.1) := by rfl
      rw [h6] at hown
      exact ⟨_, rfl, Strs.of_owns hown rfl, hB⟩
end Go.Proofs.YtpadcjcoafidgaaGreatDoor
