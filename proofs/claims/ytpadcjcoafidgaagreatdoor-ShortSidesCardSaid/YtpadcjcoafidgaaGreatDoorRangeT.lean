/- A range over a function whose iterator keeps a state of its own in cells: what an iterator owes, and the law for its caller. Over any program, at the wide fence. -/
import Derived.Test.YtpadcjcoafidgaaGreatDoorLib
import Derived.RangeFuncNested
import Derived.RangeFuncBound
import Derived.RangeFuncCalls
import Derived.RangeFuncLeaves
import Derived.Shelf.Abstract
import Derived.Shelf.RegionOpen
import Derived.OwnWalkIn
import Derived.TacticsInMore
import Derived.LoopNIn
import Derived.LoopIn
namespace Go.Proofs.YtpadcjcoafidgaaGreatDoor
open Go.RowKit

/-- WHAT AN ITERATOR OWES: it may turn the world by Tur between two rounds, and asks of a round that goes on that Kp holds from its begin to its end. -/
def SeqT {α : Type} (n : Nat) (P : Program) (g : Nat) (lb : Array Value) (encs : α → Array Value) (Tur Kp : World → World → Prop) (S Sp : List α → Prop) (N : Nat) (w : World) : Prop :=
  ∀ (l : Nat) (J Jx : List α → World → Prop) (W : World), Below w.heap.size w W → (∀ s A B, J s A → Tur A B → J s B) → (∀ s A B, Jx s A → Tur A B → Jx s B) →
    (∀ pre x W1, J pre W1 → pre.length < N → YieldAt Fence.wide (n - 1) P l (encs x) W1 fun e W' =>
      (e = .returned (.bool true) ∧ J (pre ++ [x]) W' ∧ Kp W1 W') ∨ (e = .returned (.bool false) ∧ Jx (pre ++ [x]) W')) →
    J [] W →
    CallsIn Fence.wide n P g (#[.func (.yield l) #[] #[]] ++ lb) W fun e W' => (∃ v, e = .returned v) ∧ ((∃ xs, S xs ∧ J xs W') ∨ (∃ pre, Sp pre ∧ Jx pre W'))

section
variable {n : Nat} {P : Program}

/-- How a body may be left. -/
def leftT {α : Type} (B : Nat) (Kp : World → World → Prop) (I : List α → World → Prop) (Ix : Code → List α → World → Prop) (xs : List α) (W : World) : Exit → Act → World → Prop
  | .normal, _, W' => KeepsFrom B W W' ∧ Kp W W' ∧ I xs W'
  | .ret, _, W' => KeepsFrom B W W' ∧ Ix .ret xs W'
  | .exit id, _, W' => KeepsFrom B W W' ∧ Ix (.exit id) xs W'
  | .goto t, _, W' => KeepsFrom B W W' ∧ Ix (.goto t) xs W'
  | .panic _, _, _ => False
  | .outgrown, _, _ => False

/-- THE LAW FOR THE CALLER. -/
theorem wpIn_rangeT {α : Type} {g : Operand} {ps : Array Tmp} {assign body : Code} {Q : Exit → Act → World → Prop} {a : Act} {w w0 : World}
    (h1 : 1 ≤ n) {gf : Nat} {lb : Array Value} (hg : a.eval g = .func (.func gf) #[] lb) (eg : ∀ args w, (callFunc gf args).run P w = .ok (.enter gf args) w)
    {encs : α → Array Value} (hps : ∀ x, (encs x).size = ps.size) {Tur Kp : World → World → Prop} {S Sp : List α → Prop} {N : Nat} (hseq : SeqT (n - 1) P gf lb encs Tur Kp S Sp N w0) (hb0 : Below w0.heap.size w0 w)
    (hTk : ∀ (A B : World) (k : Nat) (o : Obj), Tur A B → A.heap[k]? = some o → o.isCells = false → o.isWalk = false → B.heap[k]? = some o)
    (hKt : ∀ {A B C : World}, Kp A B → Kp B C → Kp A C) (hKb : ∀ (W : World) (l : Nat) (o o' : Obj), w.heap.size ≤ l → W.heap[l]? = some o → o.isCells = false → o.isWalk = false → Kp W (W.putObj l o'))
    (I : List α → World → Prop) (Ix : Code → List α → World → Prop) (hI : OwnFrom w.heap.size I) (hIx : ∀ c, OwnFrom w.heap.size (Ix c)) (hIT : ∀ s A B, I s A → Tur A B → I s B) (hIxT : ∀ c s A B, Ix c s A → Tur A B → Ix c s B)
    (h0 : I [] w) (Ax : α → Act → World → Prop) (hAx : ∀ x a', OwnFrom w.heap.size (fun (_ : Unit) W => Ax x a' W))
    (hassign : ∀ (l : Nat) (pre : List α) (x : α) (W : World) (K : Act → World → Prop), I pre W → (∀ a' W', KeepsFrom w.heap.size W W' → Kp W W' → I pre W' → Ax x a' W' → K a' W') →
      assign.wpIn (Fence.wide.inRound l) (n - 1 - 1) P (Exit.then K (fun _ _ _ => False)) { tmps := (ps.zip (encs x)).foldl (fun t (p, v) => t.setIfInBounds p v) a.tmps, defers := [] } W)
    (hbody : ∀ (l : Nat) (pre : List α) (x : α) (a' : Act) (W : World), I pre W → Ax x a' W → pre.length < N → body.wpIn (Fence.wide.inRound l) (n - 1 - 1) P (leftT w.heap.size Kp I Ix (pre ++ [x]) W) a' W)
    (hdone : ∀ (D : Nat) (xs : List α) (W : World), w.heap.size ≤ D → S xs → I xs W → W.heap[D]? = some (.deferred (some [])) → Q .normal { a with defers := { target := .collected D, args := #[] } :: a.defers } W)
    (hstop : ∀ (D : Nat) (c : Code) (pre : List α) (W : World), w.heap.size ≤ D → Sp pre → Ix c pre W → W.heap[D]? = some (.deferred (some [])) → c.wpIn Fence.wide n P Q { a with defers := { target := .collected D, args := #[] } :: a.defers } W) :
    (Code.rangeFunc g ps assign body).wpIn Fence.wide n P Q a w := by
  refine wpIn_rangeFunc fun fn hfn => ?_
  -- the loop's record, in whatever state
  obtain ⟨rec, hrec⟩ : ∃ rec : LoopState → Option Code → Loop, rec = fun st pe => { state := st, pending := pe, fn, tmps := a.tmps, params := ps, assign, body, defers := w.heap.size } := ⟨_, rfl⟩
  have hr0 : ∀ st pe, (rec st pe).params = ps ∧ (rec st pe).state = st ∧ (rec st pe).pending = pe := by intro st pe; rw [hrec]; exact ⟨rfl, rfl, rfl⟩
  let R := w.heap.size + 1
  -- a world in which both blocks of the loop lie as they should
  let Lies : LoopState → Option Code → World → Prop := fun st pe W => W.heap[R]? = some (.loop (rec st pe)) ∧ W.heap[w.heap.size]? = some (.deferred (some []))
  have lieT : ∀ st pe A B, Lies st pe A → Tur A B → Lies st pe B := fun st pe A B h t => ⟨hTk _ _ _ _ t h.1 rfl rfl, hTk _ _ _ _ t h.2 rfl rfl⟩
  have lieK : ∀ st pe A B, Lies st pe A → KeepsFrom w.heap.size A B → Lies st pe B := fun st pe A B h k => ⟨k.same R _ (by omega) h.1 rfl, k.same _ _ (Nat.le_refl _) h.2 rfl⟩
  have lieP : ∀ st pe st' pe' A, Lies st pe A → Lies st' pe' (A.putObj R (.loop (rec st' pe'))) := fun st pe st' pe' A h =>
    ⟨World.putObj_heap_same (Array.getElem?_eq_some_iff.1 h.1).1, (World.putObj_heap_other (by omega)).trans h.2⟩
  have put : ∀ {β : Type} {J : β → World → Prop} {s : β} {st : LoopState} {pe : Option Code} {A : World} (o : Obj), OwnFrom w.heap.size J → Lies st pe A → J s A → J s (A.putObj R o) := fun o hJ h hs => hJ.putObj o hs (by omega) h.1 rfl
  have hb1 : Below w0.heap.size w0 ((w.alloc (.deferred (some []))).alloc (.loop (rec .ready none))) := ((hb0.alloc hb0.size _).alloc (by have := hb0.size; simp; omega) _)
  have hL1 : Lies .ready none ((w.alloc (.deferred (some []))).alloc (.loop (rec .ready none))) := by
    refine ⟨?_, (Below.heap_alloc _ _ _ (by simp)).trans (World.alloc_heap_new w _)⟩
    have := World.alloc_heap_new (w.alloc (.deferred (some []))) (.loop (rec .ready none))
    rwa [World.size_alloc] at this
  have hI1 : I [] ((w.alloc (.deferred (some []))).alloc (.loop (rec .ready none))) := hI.alloc _ (hI.alloc _ h0)
  obtain ⟨W1, hW1⟩ : ∃ W1, (w.alloc (.deferred (some []))).alloc (.loop (rec .ready none)) = W1 := ⟨_, rfl⟩
  rw [hW1] at hb1 hL1 hI1
  refine ⟨R, [{ target := .collected w.heap.size, args := #[] }], W1, { target := .fn (.func gf) lb, args := #[.func (.yield R) #[] #[]] }, W1, gf, #[.func (.yield R) #[] #[]] ++ lb, W1, ?_, ?_, fun _ _ => trivial, ?_, fun _ => h1, ?_⟩
  · rw [← hW1, hrec]; exact run_enterLoop_outer _ _ _ _ _
  · simp only [resolve, hg]
    simp [go_sem]
  · simp [invoke, go_sem, eg]
  refine (hseq R (fun pre W => I pre W ∧ Lies .ready none W) (fun pre W => ∃ c, Ix c pre W ∧ Lies .done (some c) W) W1 hb1
    (fun s A B h t => ⟨hIT s A B h.1 t, lieT _ _ A B h.2 t⟩) (fun s A B h t => h.elim fun c h => ⟨c, hIxT c s A B h.1 t, lieT _ _ A B h.2 t⟩) ?_ ⟨hI1, hL1⟩).mono ?_
  · -- one round
    rintro pre x W ⟨hi, hl⟩ hlen
    have hy := run_yield (P := P) (args := encs x) hl.1 (by rw [(hr0 _ _).1]; exact hps x)
    rw [hrec] at hy
    refine ⟨fn, _, assign, body, hy, roundIn_of_wpIn hfn (hassign _ pre x W _ hi fun a' Wa hka hpa hia hax => ?_)⟩
    have hla := lieK _ _ _ _ hl hka
    refine ⟨_, run_beginRound hla.1 (hr0 _ _).2.1, ?_⟩
    have e1 : ({ rec .ready none with state := .busy } : Loop) = rec .busy none := by rw [hrec]
    rw [e1]
    have hlb := lieP _ _ .busy none _ hla
    have hkb : Kp Wa (Wa.putObj R (.loop (rec .busy none))) := hKb _ _ _ _ (by omega) hla.1 rfl rfl
    refine wpIn_mono (hbody _ pre x a' _ (put _ hI hla hia) (put (s := ()) _ (hAx x a') hla hax) hlen) fun e a3 W3 hp => ?_
    have fin : ∀ (jump : Option Code), KeepsFrom w.heap.size (Wa.putObj R (.loop (rec .busy none))) W3 →
        (Instr.endRound R jump).run P W3 = .ok (.bool jump.isNone) (W3.putObj R (.loop (rec (if jump.isNone then .ready else .done) jump))) ∧ Lies .busy none W3 ∧ Lies (if jump.isNone then .ready else .done) jump (W3.putObj R (.loop (rec (if jump.isNone then .ready else .done) jump))) := fun jump hk3 => by
      have hl3 := lieK _ _ _ _ hlb hk3
      have := run_endRound (P := P) jump hl3.1
      have e2 : ({ rec .busy none with state := if jump.isNone then .ready else .done, pending := jump } : Loop) = rec (if jump.isNone then .ready else .done) jump := by rw [hrec]
      rw [e2] at this
      exact ⟨this, hl3, lieP _ _ _ _ _ hl3⟩
    cases e with
    | normal =>
      obtain ⟨hk3, hp3, hi3⟩ := hp
      obtain ⟨hr, hl3, hl4⟩ := fin none hk3
      exact ⟨_, _, hr, .inl ⟨rfl, ⟨put _ hI hl3 hi3, hl4⟩, hKt hpa (hKt hkb (hKt hp3 (hKb _ _ _ _ (by omega) hl3.1 rfl rfl)))⟩⟩
    | ret =>
      obtain ⟨hr, hl3, hl4⟩ := fin (some .ret) hp.1
      exact ⟨_, _, hr, .inr ⟨rfl, .ret, put _ (hIx _) hl3 hp.2, hl4⟩⟩
    | exit id =>
      obtain ⟨hr, hl3, hl4⟩ := fin (some (.exit id)) hp.1
      exact ⟨_, _, hr, .inr ⟨rfl, .exit id, put _ (hIx _) hl3 hp.2, hl4⟩⟩
    | goto t =>
      obtain ⟨hr, hl3, hl4⟩ := fin (some (.goto t)) hp.1
      exact ⟨_, _, hr, .inr ⟨rfl, .goto t, put _ (hIx _) hl3 hp.2, hl4⟩⟩
    | panic ch => exact hp.elim
    | outgrown => exact hp.elim
  · -- behind the iterator
    rintro e W2 ⟨⟨v, rfl⟩, ⟨xs, hS, hi, hl⟩ | ⟨pre, hSp, c, hi, hl⟩⟩
    · exact ⟨none, _, by have := run_endLoop (P := P) hl.1 (by rw [(hr0 _ _).2.1]; simp); rw [(hr0 _ _).2.2] at this; exact this, hdone _ xs _ (Nat.le_refl _) hS (put _ hI hl hi) ((World.putObj_heap_other (by omega)).trans hl.2)⟩
    · exact ⟨some c, _, by have := run_endLoop (P := P) hl.1 (by rw [(hr0 _ _).2.1]; simp); rw [(hr0 _ _).2.2] at this; exact this, hstop _ c pre _ (Nat.le_refl _) hSp (put _ (hIx c) hl hi) ((World.putObj_heap_other (by omega)).trans hl.2)⟩
end
end Go.Proofs.YtpadcjcoafidgaaGreatDoor
