/- prop.places$1 as an iterator, and prop.Place: the place of a name in the table. -/
import Derived.Test.YtpadcjcoafidgaaGreatDoorTbl
import Derived.RangeFuncNested
import Derived.RangeFuncBound
import Derived.RangeFuncCalls
import Derived.RangeFuncLeaves
import Derived.Shelf.Abstract
import Derived.Shelf.RegionOpen
import Derived.OwnWalkIn
import Derived.TacticsInMore
import Derived.LoopNIn
import Derived.LoopIn
namespace Go.Proofs.YtpadcjcoafidgaaGreatDoor
open Go.RowKit Go.Shelf

attribute [local go_sem] Oper.semAt_some

/-- What has come when k rounds are over. -/
def upto {α : Type} (f : Nat → α) (k : Nat) : List α := (List.range k).map f
theorem upto_succ {α : Type} (f : Nat → α) (k : Nat) : upto f (k + 1) = upto f k ++ [f k] := by simp [upto, List.range_succ]
theorem upto_length {α : Type} (f : Nat → α) (k : Nat) : (upto f k).length = k := by simp [upto]
abbrev IR := Nat × Row
def irAt (k : Nat) : IR := (k, rowAt k)
abbrev irEnc (x : IR) : Array Value := #[.int .i64 x.1, x.2.val]

set_option maxRecDepth 100000 in
set_option maxHeartbeats 1000000 in
/-- prop.places$1: all longhands with their places, or a beginning of them. -/
theorem places1_stops (n : Nat) (w : World) :
    SeqStopsK Fence.wide n Tryz.prog 138 #[] irEnc (fun _ _ => True) (fun xs => xs = upto irAt 48) (fun pre => ∃ k, k ≤ 48 ∧ pre = upto irAt k) 48 w := fun l J Jx W hW hJ hJx hY h0 => by
  refine callsIn_of_wp Tryz.func138 rfl trivial ?_ rfl
  simp only [Tryz.ntmps138, List.size_toArray, List.length_cons, List.length_nil, Nat.reduceAdd, Nat.reduceSub, Array.replicate_succ, Array.replicate_zero, List.push_toArray, List.append_toArray, List.nil_append, List.cons_append]
  gi_wp2_with fail
  refine ⟨trivial, fun h => (by cases h), callsIn_wide.2 ((table_any _).mono ?_)⟩
  rintro e w' ⟨rfl, rfl⟩
  gi_wp2_with fail
  have hJ0 : J [] (W.alloc (.cells tblCells 95)) := hJ _ _ _ none h0 (World.grownBy_alloc W _ none) (fun r e => by cases e)
  gi_loopw [2, 3, 5] (fun _ _ i wr => ∃ k : Nat, k ≤ 48 ∧ i = .int .i64 k ∧ J (upto irAt k) wr)
    (fun _ _ i _ => 48 - (intOf i).toNat)
  case atStart => exact ⟨0, by omega, rfl, hJ0⟩
  case round =>
    obtain ⟨k, hk, rfl, hJs⟩ := hrel
    by_cases hlt : k < 48
    · have hix := fun wx => run_index_tbl hlt wx
      have hJa : J (upto irAt k) (wr.alloc (.cells (rowAt k).cells.toArray 39)) := hJ _ _ _ none hJs (World.grownBy_alloc wr _ none) (fun r e => by cases e)
      obtain ⟨fn, tmps, assign, body, hy, hR⟩ := hY _ (irAt k) _ hJa (by rw [upto_length]; exact hlt)
      dsimp only [irEnc, irAt, Row.val, Row.cells] at hy hR hJa
      gi_wp2_with fail
      refine ⟨fun h => (by cases h), hR.mono ?_⟩
      rintro e W3 (⟨rfl, hJ3, _⟩ | ⟨rfl, hJx3⟩)
      · gi_wp2_with fail
        go_roundw
        case rel => exact ⟨k + 1, by omega, by simp, by rw [upto_succ]; exact hJ3⟩
        case measure => simp [intOf]; omega
      · gi_wp2_with fail
        refine bodyPost_ret (results_none rfl _ _ _) rfl ?_
        exact ⟨⟨_, rfl⟩, .inr ⟨_, ⟨k + 1, by omega, (upto_succ _ _).symm⟩, hJx3⟩⟩
    · obtain rfl : k = 48 := by omega
      gi_wp2_with fail
      go_end0
      exact ⟨⟨_, rfl⟩, .inl ⟨_, rfl, hJs⟩⟩

/-- The place of a name: from 0 on; -1 if there is none. -/
def placeN (s : ByteArray) : Option Nat := tbl.findIdx? fun r => r.1 == s
def place (s : ByteArray) : Int := match placeN s with | some k => k | none => -1

/-- Block B holds just these cells. -/
def Holds4 (W : World) (B : Nat) (t : TypeId) (cs : Array Value) : Prop := W.heap[B]? = some (.cells cs t (0, 0))
theorem Holds4.own {β : Type} (B : Nat) (t : TypeId) (f : β → Array Value) : Own (fun s W => Holds4 W B t (f s)) := fun s X Y row hs hg hrow => by
  have hlt : B < X.heap.size := (Array.getElem?_eq_some_iff.1 hs).1
  refine (hg.block B hlt (fun e' => ?_)).trans hs
  obtain ⟨o, ho, hc⟩ := hrow B e'.symm
  rw [show X.heap[B]? = _ from hs] at ho; cases ho; cases hc
theorem Holds4.cell {W : World} {B : Nat} {t : TypeId} {cs : Array Value} (h : Holds4 W B t cs) (j : Nat) : W.cell? ⟨B, j, none⟩ = cs[j]? := by
  simp [World.cell?, show W.heap[B]? = _ from h]

/-- WHAT HAS COME, NONE OF THE NAME s. -/
def NoneIs (s : ByteArray) (pre : List IR) : Prop := ∀ x ∈ pre, (x.2.1 == s) = false
/-- The last that has come is the first of the name s; its place. -/
def LastIs (s : ByteArray) (pre : List IR) (k : Int) : Prop := ∃ pre' x, pre = pre' ++ [x] ∧ NoneIs s pre' ∧ (x.2.1 == s) = true ∧ k = x.1
theorem NoneIs.snoc {s : ByteArray} {pre : List IR} {x : IR} (h : NoneIs s pre) (hx : (x.2.1 == s) = false) : NoneIs s (pre ++ [x]) := by
  intro y hy
  rcases List.mem_append.1 hy with hy | hy
  · exact h y hy
  · rw [List.mem_singleton.1 hy]; exact hx

theorem rowAt_getElem {k : Nat} (h : k < tbl.length) : rowAt k = tbl[k] := by simp [rowAt, h]
theorem place_none {s : ByteArray} (h : NoneIs s (upto irAt 48)) : place s = -1 := by
  have : placeN s = none := by
    unfold placeN
    rw [List.findIdx?_eq_none_iff]
    intro r hr
    obtain ⟨k, hk, rfl⟩ := List.getElem_of_mem hr
    have := h (irAt k) (by unfold upto; exact List.mem_map.2 ⟨k, List.mem_range.2 (by rw [tbl_length] at hk; exact hk), rfl⟩)
    rw [← rowAt_getElem hk]
    exact this
  unfold place
  rw [this]
theorem place_last {s : ByteArray} {k : Nat} {i : Int} (hk : k ≤ 48) (h : LastIs s (upto irAt k) i) : place s = i := by
  obtain ⟨pre', x, he, hno, hx, rfl⟩ := h
  cases k with
  | zero => simp [upto] at he
  | succ k =>
    rw [upto_succ] at he
    obtain ⟨h1, h2⟩ := List.append_inj' he rfl
    subst h1
    obtain rfl : irAt k = x := by simpa using h2
    have hlt : k < tbl.length := by rw [tbl_length]; omega
    have : placeN s = some k := by
      unfold placeN
      rw [List.findIdx?_eq_some_iff_getElem]
      refine ⟨hlt, by rw [← rowAt_getElem hlt]; exact hx, fun j hj => ?_⟩
      have hjl : j < tbl.length := by omega
      have := hno (irAt j) (by unfold upto; exact List.mem_map.2 ⟨j, List.mem_range.2 hj, rfl⟩)
      rw [← rowAt_getElem hjl]
      simp only [irAt] at this
      simp [this]
    unfold place
    rw [this]
    rfl

set_option maxRecDepth 100000 in
set_option maxHeartbeats 2000000 in
/-- prop.Place, at every name. -/
theorem Place_any (s : ByteArray) (w : World) :
    Calls Tryz.prog 63 #[.string s] w fun e w' => e = .returned (.int .i64 (place s)) ∧ Below w.heap.size w w' := by
  refine (callsIn_wide (n := 9)).1 ?_
  refine callsIn_of_wp_marks Tryz.func63 rfl trivial ?_ rfl
  simp only [Tryz.ntmps63, List.size_toArray, List.length_cons, List.length_nil, Nat.reduceAdd, Nat.reduceSub, Array.replicate_succ, Array.replicate_zero, List.push_toArray, List.append_toArray, List.nil_append, List.cons_append]
  gi_wp2_with fail
  refine ⟨trivial, callsIn_wide.2 ((places_any _).mono ?_)⟩
  rintro e w' ⟨rfl, rfl⟩
  gi_wp2_with fail
  have bS := (Boxed.new w 9 (.string s)).alloc (.cells #[.int .i64 0] 3)
  have bR := Boxed.new (w.alloc (.cells #[.string s] 9)) 3 (.int .i64 0)
  simp only [World.size_alloc] at bR
  have hB0 : Below w.heap.size w ((w.alloc (.cells #[.string s] 9)).alloc (.cells #[.int .i64 0] 3)) := ((Below.refl _ w).alloc (Nat.le_refl _) _).alloc (by simp) _
  have hsz : ((w.alloc (.cells #[.string s] 9)).alloc (.cells #[.int .i64 0] 3)).heap.size = w.heap.size + 2 := by simp
  obtain ⟨W0, hW0⟩ : ∃ W0, (w.alloc (.cells #[.string s] 9)).alloc (.cells #[.int .i64 0] 3) = W0 := ⟨_, rfl⟩
  rw [hW0] at bS bR hB0 hsz ⊢
  clear hW0
  refine wpIn_rangeFunc_ownH rfl (by omega) (gf := 138) (lb := #[]) rfl trivial (enters_of Tryz.func138 (by kernel_rfl) rfl)
    (places1_stops 8 W0) (fun _ _ => trivial) (fun _ _ _ _ _ _ _ _ => trivial) (Below.refl _ _) (fun _ => rfl)
    (fun pre W => (NoneIs s pre ∧ Boxed W w.heap.size 9 (.string s)) ∧ Boxed W (w.heap.size + 1) 3 (.int .i64 0) ∧ Below w.heap.size w W)
    (fun c pre W => (∃ k, (c = .ret ∧ LastIs s pre k) ∧ Boxed W (w.heap.size + 1) 3 (.int .i64 k)) ∧ Below w.heap.size w W)
    (OwnFrom.and (OwnFrom.and (ownFrom_pure _ _) (Own.from (boxed_own _ _ _) _)) (OwnFrom.and (Own.from (boxed_own _ _ _) _) (ownFrom_below (Nat.le_refl _) (by omega))))
    (fun c => OwnFrom.and (fun s' X Y row hs hg hr => by obtain ⟨k, h1, h2⟩ := hs; exact ⟨k, h1, Own.from (boxed_own (w.heap.size + 1) 3 (fun (_ : Unit) => Value.int .i64 k)) _ () X Y row h2 hg hr⟩) (ownFrom_below (Nat.le_refl _) (by omega)))
    ⟨⟨fun _ h => (by cases h), bS⟩, bR, hB0⟩
    (fun x a' W => ∃ Bx, (w.heap.size + 1 < Bx ∧ Holds4 W Bx 39 x.2.cells.toArray) ∧ a' = { tmps := #[.string s, .pointer (some ⟨w.heap.size, 0, none⟩), .pointer (some ⟨w.heap.size + 1, 0, none⟩), .int .i64 x.1, .pointer (some ⟨Bx, 0, none⟩), .func (.func 138) #[] #[], .int .i64 x.1, x.2.val, undef, undef, undef, undef, undef], defers := [] })
    (fun x a' _ X Y row hs hg hr => by obtain ⟨Bx, ⟨h1, h2⟩, h3⟩ := hs; exact ⟨Bx, ⟨h1, Own.from (Holds4.own Bx 39 (fun (_ : Unit) => x.2.cells.toArray)) _ () X Y row h2 hg hr⟩, h3⟩)
    ?assign ?body ?done ?stop
  case assign =>
    rintro l pre x W K ⟨⟨hno, bS1⟩, bR1, hB1⟩ hK
    gi_wp2_with fail
    exact hK _ _ ((KeepsOthers.alloc _ _).from _) trivial ⟨⟨hno, bS1.alloc _⟩, bR1.alloc _, hB1.alloc hB1.size _⟩ ⟨W.heap.size, ⟨bR1.lt, World.alloc_heap_new _ _⟩, rfl⟩
  case body =>
    rintro l pre x a' W hl _ ⟨⟨hno, bS1⟩, bR1, hB1⟩ ⟨Bx, ⟨hBx, hX⟩, rfl⟩ _
    have cS := bS1.cell
    have cR := bR1.cell
    have fR := bR1.frozen
    have cX := hX.cell 0
    simp only [Row.cells, List.getElem?_toArray, List.getElem?_cons_zero] at cX
    gi_wp2_with fail
    · have hx : (x.2.1 == s) = true := by rw [beq_toListBytes]; assumption
      refine ⟨(KeepsOthers.setCell _ _ _).from _, ⟨x.1, ⟨rfl, pre, x, rfl, hno, hx, rfl⟩, bR1.set _⟩, hB1.setCell (p := ⟨w.heap.size + 1, 0, none⟩) (by simp) _⟩
    · have hx : (x.2.1 == s) = false := by rw [beq_toListBytes]; assumption
      exact ⟨(KeepsOthers.refl _).from _, trivial, ⟨hno.snoc hx, bS1⟩, bR1, hB1⟩
  case done =>
    rintro D xs W hD rfl ⟨⟨hno, bS1⟩, bR1, hB1⟩ hK
    have cR := bR1.cell
    have fR := bR1.frozen
    gi_wp2_with fail
    have hK' := (KeepsOthers.setCell W ⟨w.heap.size + 1, 0, none⟩ (.int .i64 (-1))).same D _ hK rfl
    refine ⟨by simp, .inl ⟨_, _, rfl, run_takeDeferred hK', ?_⟩⟩
    have hc5 := cell_kept (bR1.set (.int .i64 (-1))).cell (grownBy_putObj' _ D (.deferred none)) (fun r e => by cases e; exact ⟨_, hK', rfl⟩)
    refine ⟨.int .i64 (-1), ?_, by rw [place_none hno], ?_⟩
    · simp [results, Tryz.f63, go_sem, hc5]
    · exact (hB1.setCell (p := ⟨w.heap.size + 1, 0, none⟩) (by simp) _).trans (belowK_b (w := w) (Nat.le_refl _) _ D _ _ (by omega) hK' rfl rfl)
  case stop =>
    rintro D c pre W hD ⟨k, hk, rfl⟩ ⟨⟨k2, ⟨rfl, hlast⟩, bR1⟩, hB1⟩ hK
    gi_wp2_with fail
    refine ⟨by simp, .inl ⟨_, _, rfl, run_takeDeferred hK, ?_⟩⟩
    have hc5 := cell_kept bR1.cell (grownBy_putObj' _ D (.deferred none)) (fun r e => by cases e; exact ⟨_, hK, rfl⟩)
    refine ⟨.int .i64 k2, ?_, by rw [place_last hk hlast], ?_⟩
    · simp [results, Tryz.f63, go_sem, hc5]
    · exact hB1.trans (belowK_b (w := w) (Nat.le_refl _) _ D _ _ (by omega) hK rfl rfl)
end Go.Proofs.YtpadcjcoafidgaaGreatDoor
