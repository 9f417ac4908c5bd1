/- reader.number where no point and no exponent stands. -/
import Derived.Test.YtpadcjcoafidgaaGreatDoorWord
import Derived.Test.YtpadcjcoafidgaaGreatDoorHash
import Derived.Laws.BitsAllLaws
import Derived.Laws.Cover4
namespace Go.Proofs.YtpadcjcoafidgaaGreatDoor
open Go.RowKit

theorem noE_tab : ∀ n : Fin 128, n.val = 101 ∨ n.val = 69 ∨ (bits .or .i32 (n.val : Int) 32 == 101) = false := by decide +kernel
theorem noE (c : Int) (h : c = -1 ∨ tm c) (h1 : c ≠ 101) (h2 : c ≠ 69) : (bits .or .i32 c 32 == 101) = false := by
  rcases h with rfl | h
  · decide +kernel
  · unfold tm at h
    have := noE_tab ⟨c.toNat, by omega⟩
    simp only at this
    rw [Int.toNat_of_nonneg (by omega)] at this
    rcases this with e | e | e
    · omega
    · omega
    · exact e
/-- Two blocks that the call has made at its beginning, and what they hold. -/
structure Two (w : World) (b : Nat) (W : World) (c0 c1 : Array Value) : Prop where
  s : w.heap.size + 2 ≤ W.heap.size
  m0 : ∀ o, W.cell? ⟨w.heap.size, o, none⟩ = c0[o]?
  f0 : ∀ o, W.frozen? ⟨w.heap.size, o, none⟩ = false
  m1 : ∀ o, W.cell? ⟨w.heap.size + 1, o, none⟩ = c1[o]?
  f1 : ∀ o, W.frozen? ⟨w.heap.size + 1, o, none⟩ = false
  but : But w.heap.size b w W
theorem Two.next {w W W' : World} {b : Nat} {c0 c1 : Array Value} (h : Two w b W c0 c1) (hb : b < w.heap.size) (k : But W.heap.size b W W') : Two w b W' c0 c1 := by
  have hs := h.s
  obtain ⟨g0, e0⟩ := k.cells (k := w.heap.size) (by omega) (by omega)
  obtain ⟨g1, e1⟩ := k.cells (k := w.heap.size + 1) (by omega) (by omega)
  exact ⟨Nat.le_trans hs k.size, fun o => (g0 o).trans (h.m0 o), fun o => (e0 o).trans (h.f0 o), fun o => (g1 o).trans (h.m1 o), fun o => (e1 o).trans (h.f1 o), h.but.trans (k.mono (by omega))⟩
theorem Two.new (w : World) (b : Nat) (c0 c1 : Array Value) (t0 t1 : TypeId) : Two w b ((w.alloc (.cells c0 t0)).alloc (.cells c1 t1)) c0 c1 := by
  have h1 : ((w.alloc (.cells c0 t0)).alloc (.cells c1 t1)).heap[w.heap.size]? = some (.cells c0 t0) := by
    rw [Below.heap_alloc _ _ _ (by simp)]; exact heap_alloc_new w _
  have h2 : ((w.alloc (.cells c0 t0)).alloc (.cells c1 t1)).heap[w.heap.size + 1]? = some (.cells c1 t1) := by
    have := heap_alloc_new (w.alloc (.cells c0 t0)) (.cells c1 t1)
    simpa using this
  exact ⟨by simp, fun o => Lib.cell_of_heap h1 o, fun o => Lib.frozen_of_heap h1 o, fun o => Lib.cell_of_heap h2 o, fun o => Lib.frozen_of_heap h2 o, But.of (bAlloc2 w _ _)⟩
theorem Two.drew {w W : World} {b : Nat} {c0 c1 : Array Value} (h : Two w b W c0 c1) : Two w b W.drew c0 c1 := ⟨h.s, h.m0, h.f0, h.m1, h.f1, ⟨h.but.os, h.but.tape, h.but.output, h.but.size, h.but.block⟩⟩
/-- A store into the second block. -/
theorem Two.set1 {w W : World} {b : Nat} {c0 c1 : Array Value} (h : Two w b W c0 c1) (k : Nat) (x : Value) (hk : k < c1.size) : Two w b (W.setCell ⟨w.heap.size + 1, k, none⟩ x) c0 (c1.setIfInBounds k x) := by
  refine ⟨by have := h.s; simpa [World.setCell] using this, fun o => ?_, fun o => by simp [h.f0], fun o => ?_, fun o => by simp [h.f1], h.but.own (by omega) _ _⟩
  · rw [World.cell?_setCell_other _ _ _ _ (by simp)]; exact h.m0 o
  · by_cases ho : k = o
    · subst ho
      rw [World.cell?_setCell_same _ _ _ ((h.m1 k).trans (Array.getElem?_eq_getElem hk))]
      simp [hk]
    · rw [World.cell?_setCell_other _ _ _ _ (by simp), h.m1 o, Array.getElem?_setIfInBounds_ne ho]
/-- A store into the reader's own block. -/
theorem Two.setb {w W : World} {b : Nat} {c0 c1 : Array Value} (h : Two w b W c0 c1) (hb : b < w.heap.size) (k : Nat) (x : Value) : Two w b (W.setCell ⟨b, k, none⟩ x) c0 c1 :=
  ⟨by have := h.s; simpa [World.setCell] using this, fun o => by rw [World.cell?_setCell_other _ _ _ _ (by simp <;> omega)]; exact h.m0 o, fun o => by simp [h.f0],
    fun o => by rw [World.cell?_setCell_other _ _ _ _ (by simp <;> omega)]; exact h.m1 o, fun o => by simp [h.f1], h.but.set _ _⟩
theorem encode_asc (c : Int) (h : asc c) : Utf8.encode c = ⟨#[byteOf c]⟩ := by
  obtain ⟨h0, h1⟩ := h
  have hv : Utf8.valid c = true := by simp [Utf8.valid]; omega
  unfold Utf8.encode
  simp only [hv, if_true]
  rw [if_pos (by omega)]
  rfl
theorem runesBytes_asc (l : List Int) (h : ∀ c ∈ l, asc c) : runesBytes l = strOf l := by
  have key : ∀ (l : List Int) (s : ByteArray), (∀ c ∈ l, asc c) → l.foldl (fun r n => r ++ Utf8.encode n) s = s ++ strOf l := by
    intro l
    induction l with
    | nil => intro s _; exact (ByteArray.ext (by simp [strOf]))
    | cons a l ih =>
      intro s hl
      rw [List.foldl_cons, ih _ (fun c hc => hl c (by simp [hc])), encode_asc a (hl a (by simp))]
      unfold strOf
      apply ByteArray.ext
      simp
  unfold runesBytes
  rw [key l _ h]
  apply ByteArray.ext
  simp
/-- The sign's rune, and the digits'. -/
def signLen (s : List Int) : Nat := if isIn 48 57 (at_ s 0) then 0 else 1
def digLen (s : List Int) : Nat := signLen s + ((s.drop (signLen s)).takeWhile (isIn 48 57)).length
/-- The token of a number, and how many runes it has. -/
def numTok (s : List Int) : Value :=
  if begins (s.drop (digLen s)) = true then tokV 12 (strOf (s.take (digLen s))) (strOf ((s.drop (digLen s)).takeWhile isPart)) true false
  else if at_ (s.drop (digLen s)) 0 = 37 then tokV 11 (strOf (s.take (digLen s))) noStr true false
  else tokV 10 (strOf (s.take (digLen s))) noStr true false
def numLen (s : List Int) : Nat :=
  digLen s + if begins (s.drop (digLen s)) = true then nameLen (s.drop (digLen s)) else if at_ (s.drop (digLen s)) 0 = 37 then 1 else 0
/-- No exponent stands behind the digits. -/
def NoExp (s : List Int) : Prop := at_ s (digLen s) ≠ 101 ∧ at_ s (digLen s) ≠ 69
end Go.Proofs.YtpadcjcoafidgaaGreatDoor
