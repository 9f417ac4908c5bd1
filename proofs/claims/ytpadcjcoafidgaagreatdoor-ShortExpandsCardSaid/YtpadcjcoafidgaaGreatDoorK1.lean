/- Texts of this seat, laid together: Lib, Sl, Laid, Tbl, Place, Find, Text, Shorts, RangeT. -/
import Derived.Test.YtpadcjcoafidgaaGreatDoorRows
import Derived.WalkKit
import Derived.WalkSpells
import Derived.WalkLawsBesides
import Derived.Lib.LaidTab
import Derived.Stop.LaidErr
import Derived.KernelRfl
import Derived.RangeFuncNested
import Derived.RangeFuncBound
import Derived.RangeFuncCalls
import Derived.RangeFuncLeaves
import Derived.Shelf.Abstract
import Derived.Shelf.RegionOpen
import Derived.OwnWalkIn
import Derived.TacticsInMore
import Derived.LoopNIn
import Derived.LoopIn
import Derived.Lib.Hide
import Derived.Deep.DeepMust
/-! Laws over any program that the other texts of this seat share: a run of builds of constants in one step, an array's element, a new block whose cells were set. -/
namespace Go.Proofs.YtpadcjcoafidgaaGreatDoor
open Go.RowKit

/-- Draws turn no block. -/
theorem bDrew {B : Nat} {a w : World} (h : Below B a w) (n : Nat) : Below B a (w.drewN n) := h.trans ⟨rfl, rfl, rfl, Nat.le_refl _, fun _ _ => rfl⟩
/-- One build of a composite literal, as a computed step of the frame. -/
def pureStep (P : Program) (a : Act) (o : Oper) : Option Act :=
  match o.guard, o.op with
  | none, .build t parts => (P.built t (parts.map fun (i, x) => (i, a.eval x)).toList).map fun c => a.put o.dst (.agg c)
  | _, _ => none

theorem wpList_builds {P : Program} {ops : Array Oper} {Q : Exit → Act → World → Prop} {w : World} {rest : List Oper} : ∀ (l : List Oper) (a a' : Act),
    l.foldlM (pureStep P) a = some a' → wpList P ops Q rest a' w → wpList P ops Q (l ++ rest) a w
  | [], a, a', h, k => by simp at h; subst h; exact k
  | o :: l, a, a', h, k => by
    simp only [List.foldlM_cons, Option.bind_eq_bind, Option.bind_eq_some_iff] at h
    obtain ⟨a1, h1, h2⟩ := h
    unfold pureStep at h1
    split at h1
    · rename_i hg hop
      obtain ⟨c, hc, rfl⟩ := Option.map_eq_some_iff.1 h1
      refine wpList_build hg _ _ hop (by rw [hc]; rfl) ?_
      rw [hc]
      exact wpList_builds l _ _ h2 k
    · cases h1

/-- The first n operations are builds: the walk goes on behind them. -/
theorem wpList_builds_at {P : Program} {ops : Array Oper} {Q : Exit → Act → World → Prop} {w : World} (n : Nat) {l : List Oper} {a a' : Act}
    (h : (l.take n).foldlM (pureStep P) a = some a') (k : wpList P ops Q (l.drop n) a' w) : wpList P ops Q l a w := by
  have := wpList_builds (l.take n) a a' h k
  rwa [List.take_append_drop] at this

/-- One operation whose run is known. -/
theorem wpList_exec1 {P : Program} {ops : Array Oper} {Q : Exit → Act → World → Prop} {w w' : World} {rest : List Oper} {o : Oper} {a : Act} {v : Value} (hg : o.guard = none)
    (h : (execOp a.eval o).run P w = .ok (.value v) w') (k : wpList P ops Q rest (a.put o.dst v) w') : wpList P ops Q (o :: rest) a w :=
  wpList_plain hg fun K hK => by
    unfold Oper.wp
    rw [h]
    exact hK _ _ k

/-- A new block that is set whole is the block of what it was set to. -/
theorem setRow_alloc_new (w : World) (a b : Array Value) (t : TypeId) : (w.alloc (.cells a t)).setRow w.heap.size b = w.alloc (.cells b t) := by
  unfold World.setRow World.alloc
  congr 1
  apply Array.ext
  · simp
  · intro i h1 h2
    simp only [Array.getElem_modify, Array.getElem_push]
    by_cases hi : i < w.heap.size
    · simp [hi, show ¬ w.heap.size = i by omega]
    · have : i = w.heap.size := by simp at h1; omega
      subst this
      simp

theorem bytes_ext {a b : ByteArray} (h : a.toList = b.toList) : a = b := by
  rw [ByteArray.toList_eq, ByteArray.toList_eq] at h
  cases a
  cases b
  simp only at h
  rw [Array.toList_inj.1 h]
theorem bytes_ne {a b : ByteArray} (h : a ≠ b) : (a.toList == b.toList) = false := by
  rw [beq_eq_false_iff_ne]
  exact fun e => h (bytes_ext e)

/-- A cell of a new block. -/
theorem cells_new1 (w : World) (cs : List Value) (t : TypeId) (B : Nat) (hB : B = w.heap.size) : ∀ (j : Nat) (u : Value), cs[j]? = some u → (w.alloc (.cells cs.toArray t)).cell? ((⟨B, 0, none⟩ : Addr).add j) = some u := by
  subst hB
  intro j u h
  have hadd : (⟨w.heap.size, 0, none⟩ : Addr).add j = ⟨w.heap.size, j, none⟩ := by unfold Addr.add; split <;> simp_all
  rw [hadd]
  have hn := heap_alloc_new w (.cells cs.toArray t)
  simp only [World.cell?, hn]
  simpa using h
theorem cells_new2 (w : World) (A : Obj) (cs : List Value) (t : TypeId) : ∀ (j : Nat) (u : Value), cs[j]? = some u → ((w.alloc A).alloc (.cells cs.toArray t)).cell? ((⟨w.heap.size + 1, 0, none⟩ : Addr).add j) = some u :=
  cells_new1 (w.alloc A) cs t (w.heap.size + 1) (by simp)

/-- 'xs[i]' of an array by value whose elements are structs of m cells each: the i-th row. -/
theorem run_index_rows {P : Program} {w : World} (t e n m : Nat) (rows : List (List Value)) (k : IntKind) (i : Nat) (ie : TypeInfo) (fs : Array Field) (ht : P.underlying t = some (.array n e))
    (he : P.underlying e = some (.struct fs)) (hie : P.info? e = some ie) (hm : ie.size = m) (hrows : ∀ r ∈ rows, r.length = m) (hn : rows.length = n) (hi : i < n) :
    (Instr.index t (.agg rows.flatten.toArray) (.int k i)).run P w = .ok (.agg (rows[i]?.getD []).toArray) w := by
  subst hm hn
  have hex : ∀ (rows : List (List Value)) (i : Nat), (∀ r ∈ rows, r.length = ie.size) → i < rows.length → (rows.flatten.drop (i * ie.size)).take ie.size = rows[i]?.getD [] := by
    intro rows
    induction rows with
    | nil => intro i _ h; simp at h
    | cons r rows ih =>
      intro i hr h
      cases i with
      | zero =>
        simp only [Nat.zero_mul, List.drop_zero, List.flatten_cons, List.getElem?_cons_zero, Option.getD_some]
        rw [List.take_append_of_le_length (by rw [hr r (by simp)]; exact Nat.le_refl _), List.take_of_length_le (by rw [hr r (by simp)]; exact Nat.le_refl _)]
      | succ i =>
        have hl := hr r (by simp)
        rw [List.flatten_cons, List.drop_append, List.drop_eq_nil_of_le (by rw [hl, Nat.succ_mul]; omega), List.nil_append]
        rw [show (i + 1) * ie.size - r.length = i * ie.size from by rw [hl, Nat.succ_mul]; omega]
        simp only [List.getElem?_cons_succ]
        exact ih i (fun x hx => hr x (by simp [hx])) (by simp at h; omega)
  have h1 := hex rows i hrows hi
  have hlt : (i : Int) < (rows.length : Int) := by omega
  simp only [Instr.index, asIntOf, Sem.run_bind, Sem.run_pure, Result.andThen_ok, run_underlying ht]
  simp only [part, isAgg, sizeOf, typeInfo, Sem.run_bind, run_underlying he, hlt, Int.natCast_nonneg, and_self, if_true, Result.andThen_ok, Sem.run_pure, Int.toNat_natCast]
  rw [← h1]
  simp [hie]

end Go.Proofs.YtpadcjcoafidgaaGreatDoor
/-! Slices as lists of rows of cells: what a call hands back and a caller reads; how one grows by append. Over any program. -/
namespace Go.Proofs.YtpadcjcoafidgaaGreatDoor
open Go.RowKit

/-- THE SLICE VALUE v HOLDS THE ROWS, each of m cells, in a block from B on. -/
def Rws (B : Nat) (w : World) (m : Nat) (v : Value) (rows : List (List Value)) : Prop :=
  ∃ a cap, v = .slice a rows.length cap ∧ rows.length ≤ maxLen ∧
    (rows ≠ [] → ∃ b off, a = some ⟨b, off, none⟩ ∧ B ≤ b ∧ b < w.heap.size ∧ ∀ (i j : Nat) (x : Value), (rows[i]?.getD [])[j]? = some x → w.cell? ⟨b, off + i * m + j, none⟩ = some x)

theorem Rws.nil (B : Nat) (w : World) (m : Nat) : Rws B w m (.slice none 0 0) [] := ⟨none, 0, rfl, Nat.zero_le _, fun h => absurd rfl h⟩
theorem Rws.below {B C m : Nat} {w w' : World} {v : Value} {rows : List (List Value)} (h : Rws B w m v rows) (hb : Below C w w') (hC : w.heap.size ≤ C) : Rws B w' m v rows := by
  obtain ⟨a, cap, hv, hl, hr⟩ := h
  refine ⟨a, cap, hv, hl, fun hne => ?_⟩
  obtain ⟨b, off, ha, hB, hlt, hc⟩ := hr hne
  exact ⟨b, off, ha, hB, Nat.lt_of_lt_of_le hlt hb.size, fun i j x hx => (hb.cell (p := ⟨b, _, none⟩) (Nat.lt_of_lt_of_le hlt hC)).trans (hc i j x hx)⟩
theorem Rws.base {B B' m : Nat} {w : World} {v : Value} {rows : List (List Value)} (h : Rws B w m v rows) (hB : B' ≤ B) : Rws B' w m v rows := by
  obtain ⟨a, cap, hv, hl, hr⟩ := h
  refine ⟨a, cap, hv, hl, fun hne => ?_⟩
  obtain ⟨b, off, ha, hb, hlt, hc⟩ := hr hne
  exact ⟨b, off, ha, Nat.le_trans hB hb, hlt, hc⟩
/-- What is kept but for one block of the caller's own that lies elsewhere. -/
theorem Rws.kept {B m : Nat} {w w' : World} {v : Value} {rows : List (List Value)} {row : Option Nat} (h : Rws B w m v rows) (hg : w.grownBy w' row) (hr : ∀ k, row = some k → k < B) : Rws B w' m v rows := by
  obtain ⟨a, cap, hv, hl, hc⟩ := h
  refine ⟨a, cap, hv, hl, fun hne => ?_⟩
  obtain ⟨b, off, ha, hB, hlt, hc⟩ := hc hne
  refine ⟨b, off, ha, hB, Nat.lt_of_lt_of_le hlt hg.size, fun i j x hx => ?_⟩
  have hblk : w'.heap[b]? = w.heap[b]? := hg.block b hlt (fun e => by have := hr b e.symm; omega)
  exact (World.cell?_of_block (w := w) (a := ⟨b, _, none⟩) hblk).trans (hc i j x hx)
theorem flatten_get {m : Nat} : ∀ (rows : List (List Value)) (i j : Nat) (x : Value), (∀ r ∈ rows, r.length = m) → (rows[i]?.getD [])[j]? = some x → rows.flatten[i * m + j]? = some x
  | [], i, j, x, _, h => by simp at h
  | r :: rows, 0, j, x, hr, h => by
    have hj : j < r.length := by
      simp only [List.getElem?_cons_zero, Option.getD_some] at h
      exact (List.getElem?_eq_some_iff.1 h).1
    simp only [Nat.zero_mul, Nat.zero_add, List.flatten_cons]
    rw [List.getElem?_append_left hj]
    simpa using h
  | r :: rows, i + 1, j, x, hr, h => by
    have hl := hr r (by simp)
    rw [List.flatten_cons, List.getElem?_append_right (by rw [hl, Nat.succ_mul]; omega), show (i + 1) * m + j - r.length = i * m + j from by rw [hl, Nat.succ_mul]; omega]
    exact flatten_get rows i j x (fun y hy => hr y (by simp [hy])) (by simpa using h)
/-- What the call owns is such a slice. -/
theorem Rws.of_owns {B e m : Nat} {w : World} {v : Value} {n : Nat} {xs : List Value} {rows : List (List Value)} (h : w.ownsRow B e m v n xs) (hx : xs = rows.flatten) (hn : rows.length = n) (hm : ∀ r ∈ rows, r.length = m) : Rws B w m v rows := by
  subst hx hn
  obtain ⟨_, h | ⟨g, cap, cur, hv, hg, hh, hcap, hmax, hsz, htake⟩⟩ := h
  · obtain ⟨hv, h0⟩ := h
    exact ⟨none, 0, by rw [hv, h0], by omega, fun hne => absurd (List.eq_nil_of_length_eq_zero h0) hne⟩
  · refine ⟨some ⟨g, 0, none⟩, cap, hv, by omega, fun _ => ⟨g, 0, rfl, hg, (Array.getElem?_eq_some_iff.1 hh).1, fun i j x hx => ?_⟩⟩
    have h2 := flatten_get rows i j x hm hx
    rw [← htake] at h2
    have h3 : cur.toList[i * m + j]? = some x := by
      rw [List.getElem?_take] at h2
      split at h2
      · exact h2
      · cases h2
    simp only [World.cell?, hh, Nat.zero_add]
    simpa using h3
theorem Rws.len {B m : Nat} {w : World} {v : Value} {rows : List (List Value)} (h : Rws B w m v rows) : rows.length ≤ maxLen := by
  obtain ⟨_, _, _, h, _⟩ := h
  exact h
/-- A beginning and an end cut off: 'xs[i:j]' in the spelling of the model. -/
theorem Rws.shape {B m : Nat} {w : World} {v : Value} {rows : List (List Value)} (h : Rws B w m v rows) (hne : rows ≠ []) : ∃ b off cap, v = .slice (some ⟨b, off, none⟩) rows.length cap ∧ B ≤ b ∧ b < w.heap.size ∧
    ∀ (i j : Nat) (x : Value), (rows[i]?.getD [])[j]? = some x → w.cell? ⟨b, off + i * m + j, none⟩ = some x := by
  obtain ⟨a, cap, hv, _, hc⟩ := h
  obtain ⟨b, off, rfl, hB, hlt, hc⟩ := hc hne
  exact ⟨b, off, cap, hv, hB, hlt, hc⟩

/-! ### Slices of strings -/
def sRows (l : List ByteArray) : List (List Value) := l.map fun s => [Value.string s]
theorem sRows_len (l : List ByteArray) : ∀ r ∈ sRows l, r.length = 1 := by
  intro r hr
  obtain ⟨x, _, rfl⟩ := List.mem_map.1 hr
  rfl
theorem sRows_flatten (l : List ByteArray) : (sRows l).flatten = l.map Value.string := by
  induction l with
  | nil => rfl
  | cons a l ih => simpa [sRows] using ih
abbrev Strs (B : Nat) (w : World) (v : Value) (l : List ByteArray) : Prop := Rws B w 1 v (sRows l)
theorem Strs.of_owns {B e : Nat} {w : World} {v : Value} {n : Nat} {l : List ByteArray} (h : w.ownsRow B e 1 v n (l.map Value.string)) (hn : l.length = n) : Strs B w v l :=
  Rws.of_owns h (sRows_flatten l).symm (by simp [sRows, hn]) (sRows_len l)
/-- What a slice of strings looks like where it has an element. -/
theorem Strs.at {B : Nat} {w : World} {v : Value} {l : List ByteArray} (h : Strs B w v l) (hne : l ≠ []) : ∃ b off cap, v = .slice (some ⟨b, off, none⟩) l.length cap ∧ B ≤ b ∧ b < w.heap.size ∧
    ∀ (i : Nat) (hi : i < l.length), w.cell? ⟨b, off + i, none⟩ = some (.string l[i]) := by
  obtain ⟨b, off, cap, hv, hB, hlt, hc⟩ := h.shape (by intro e; exact hne (List.map_eq_nil_iff.1 e))
  refine ⟨b, off, cap, by simpa [sRows] using hv, hB, hlt, fun i hi => ?_⟩
  have := hc i 0 (.string l[i]) (by simp [sRows, hi])
  simpa using this
theorem Strs.val {B : Nat} {w : World} {v : Value} {l : List ByteArray} (h : Strs B w v l) : ∃ a cap, v = .slice a l.length cap ∧ l.length ≤ maxLen := by
  obtain ⟨a, cap, hv, hl, _⟩ := h
  simp only [sRows, List.length_map] at hv hl
  exact ⟨a, cap, hv, hl⟩

/-- A new block of strings is a slice of them. -/
theorem Strs.new (w : World) (l : List ByteArray) (t : TypeId) (hl : l.length ≤ maxLen) : Strs w.heap.size (w.alloc (.cells (l.map Value.string).toArray t)) (.slice (some ⟨w.heap.size, 0, none⟩) l.length l.length) l := by
  refine ⟨some ⟨w.heap.size, 0, none⟩, l.length, by simp [sRows], by simpa [sRows] using hl, fun _ => ⟨w.heap.size, 0, rfl, Nat.le_refl _, by simp, fun i j x hx => ?_⟩⟩
  have h2 := flatten_get (m := 1) (sRows l) i j x (sRows_len l) hx
  rw [sRows_flatten] at h2
  have hn := heap_alloc_new w (.cells (l.map Value.string).toArray t)
  simp only [World.cell?, hn, Nat.zero_add]
  simpa using h2
/-- What the call owns stays owned where only what lies from C on turns. -/
theorem ownsRow_below {w w' : World} {B C : Nat} {e : TypeId} {m : Nat} {v : Value} {n : Nat} {xs : List Value} (h : w.ownsRow B e m v n xs) (hb : Below C w w') (hC : w.heap.size ≤ C) : w'.ownsRow B e m v n xs := by
  obtain ⟨h1, h2⟩ := h
  refine ⟨h1, ?_⟩
  rcases h2 with h2 | ⟨g, cap, cur, hv, hg, hh, r⟩
  · exact Or.inl h2
  · have hlt : g < w.heap.size := (Array.getElem?_eq_some_iff.1 hh).1
    exact Or.inr ⟨g, cap, cur, hv, hg, by rw [hb.block g (by omega)]; exact hh, r⟩

theorem ownsRow_shape {w : World} {B : Nat} {e : TypeId} {m : Nat} {v : Value} {n : Nat} {xs : List Value} (h : w.ownsRow B e m v n xs) (hne : v ≠ .slice none 0 0) : ∃ g cap, v = .slice (some ⟨g, 0, none⟩) n cap := by
  obtain ⟨_, ⟨hv, _⟩ | ⟨g, cap, _, hv, _⟩⟩ := h
  · exact absurd hv hne
  · exact ⟨g, cap, hv⟩
theorem ownsRow_other {w : World} {B : Nat} {e : TypeId} {m : Nat} {v : Value} {n : Nat} {xs : List Value} (h : w.ownsRow B e m v n xs) {k : Nat} (hk : k < B) : some k ≠ v.ownBlock := by
  intro e'
  have := (h.lt k e'.symm).1
  omega

/-- 'l = append(l, s)', one string, l nil or the call's own. -/
theorem wpList_append_str {P : Program} {w : World} {ops : Array Oper} {rest : List Oper} {o : Oper} {a : Act} {Q : Exit → Act → World → Prop} (hgd : o.guard = none) (s x : Operand) (t e : TypeId)
    (ho : o.op = .call { callee := .builtin .append, args := #[s, x], argTypes := #[t, t] })
    (base : Nat) (ht : P.underlying t = some (.slice e)) (hinfo : (P.info? e).map (fun i => (i.zero, i.size, i.bytes)) = some (some (.string ⟨#[]⟩), 1, 16))
    (v : Value) (l : List ByteArray) (z : ByteArray) (hs : a.eval s = v) (hown : w.ownsRow base e 1 v l.length (l.map Value.string))
    (g : Nat) (hx : a.eval x = .slice (some ⟨g, 0, none⟩) 1 1) (hcell : w.cell? ⟨g, 0, none⟩ = some (.string z))
    (hlen : l.length ≤ 4294967295) (hbase : base ≤ w.heap.size)
    (h : ∀ v' w', w'.ownsRow base e 1 v' (l ++ [z]).length ((l ++ [z]).map Value.string) → w.grownBy w' v.ownBlock → v' ≠ .slice none 0 0 → wpList P ops Q rest (a.put o.dst v') w') : wpList P ops Q (o :: rest) a w := by
  obtain ⟨i0, hi, hz0, hz1, hz2⟩ := info_parts hinfo
  refine wpList_append_own w hgd s x t ho base e i0 (.string ⟨#[]⟩) 1 16 ht hi hz0 hz1 hz2 rfl (by decide) v l.length _ hs hown ⟨g, 0, none⟩ 1 1 [.string z] hx rfl ?_ ?_ ?_ ?_ hbase ?_
  · intro j u hj
    cases j with
    | zero => simp only [List.getElem?_cons_zero, Option.some.injEq] at hj; subst hj; exact hcell
    | succ j => simp at hj
  · intro u hu; simp only [List.mem_singleton] at hu; subst hu; rfl
  · unfold maxLen; omega
  · omega
  · intro v' w' h1 h2 h3
    refine h v' w' (by simpa using h1) h2 (fun e => ?_)
    have := h3.1 e
    omega
end Go.Proofs.YtpadcjcoafidgaaGreatDoor
/-! From what a listed package-level variable reads as, to its cells: data of bools, whole numbers and strings in structs and arrays. Over any program. -/
namespace Go.Proofs.YtpadcjcoafidgaaGreatDoor
open Go.RowKit Go.Lib

/-- Where a struct's fields lie, one behind the other. -/
def inRow (P : Program) : Nat → List Field → Bool
  | _, [] => true
  | off, f :: fs => f.offset == off && inRow P (off + P.cellsOf f.type) fs
def sumCells (P : Program) (fs : List Field) : Nat := (fs.map fun f => P.cellsOf f.type).sum

/-- THE CELLS OF A PLAIN DATUM AT A TYPE. -/
def plainAt (P : Program) : Nat → TypeId → DataW Unit → Option (List Value)
  | 0, _, _ => none
  | fuel + 1, t, d =>
    match P.underlying t, d with
    | some .bool, .lit (.bool b) => some [.bool b]
    | some (.int k), .lit (.int k' n) => if k' = k then some [.int k n] else none
    | some .string, .lit (.string l) => some [.string ⟨l.toArray⟩]
    | some (.struct fs), .agg ds => if inRow P 0 fs.toList = true ∧ sumCells P fs.toList = P.cellsOf t then ((fs.toList.zip ds).mapM fun x => plainAt P fuel x.1.type x.2).map List.flatten else none
    | some (.array n e), .agg ds => if n * P.cellsOf e = P.cellsOf t then (ds.mapM (plainAt P fuel e)).map List.flatten else none
    | _, _ => none

theorem pieces_struct {P : Program} {g : TypeId → List Value → Option (DataW Unit × List MemPlace)} {h : TypeId → DataW Unit → Option (List Value)} (hg : ∀ t cs d p cs', g t cs = some (d, p) → h t d = some cs' → cs = cs') (cs : List Value) :
    ∀ (fs : List Field) (off : Nat) (xs : List (DataW Unit × List MemPlace)) (ys : List (List Value)), inRow P off fs = true → off + sumCells P fs = cs.length →
      (fs.mapM fun f => g f.type ((cs.drop f.offset).take (P.cellsOf f.type))) = some xs → ((fs.zip (xs.map (·.1))).mapM fun x => h x.1.type x.2) = some ys → cs.drop off = ys.flatten
  | [], off, xs, ys, _, hl, hx, hy => by
    simp [sumCells] at hl hx
    subst hx
    simp at hy
    subst hy
    simp; omega
  | f :: fs, off, xs, ys, hr, hl, hx, hy => by
    simp only [inRow, Bool.and_eq_true, beq_iff_eq] at hr
    obtain ⟨ho, hr⟩ := hr
    simp only [List.mapM_cons, Option.bind_eq_bind, Option.bind_eq_some_iff, Option.pure_def, Option.some.injEq] at hx
    obtain ⟨x, hx1, xs', hx2, rfl⟩ := hx
    simp only [List.map_cons, List.zip_cons_cons, List.mapM_cons, Option.bind_eq_bind, Option.bind_eq_some_iff, Option.pure_def, Option.some.injEq] at hy
    obtain ⟨y, hy1, ys', hy2, rfl⟩ := hy
    have h1 := hg _ _ _ _ _ hx1 hy1
    have h2 := pieces_struct hg cs fs (off + P.cellsOf f.type) xs' ys' hr (by simp only [sumCells, List.map_cons, List.sum_cons] at hl; unfold sumCells; omega) hx2 hy2
    rw [ho] at h1
    rw [List.flatten_cons, ← h1, ← h2, ← List.drop_drop, List.take_append_drop]
theorem pieces_array {m : Nat} {g : List Value → Option (DataW Unit × List MemPlace)} {h : DataW Unit → Option (List Value)} (hg : ∀ cs d p cs', g cs = some (d, p) → h d = some cs' → cs = cs') (cs : List Value) :
    ∀ (n a : Nat) (xs : List (DataW Unit × List MemPlace)) (ys : List (List Value)), (a + n) * m = cs.length →
      ((List.range' a n).mapM fun i => g ((cs.drop (i * m)).take m)) = some xs → ((xs.map (·.1)).mapM h) = some ys → cs.drop (a * m) = ys.flatten
  | 0, a, xs, ys, hl, hx, hy => by
    simp at hl hx
    subst hx
    simp at hy
    subst hy
    simp; omega
  | n + 1, a, xs, ys, hl, hx, hy => by
    simp only [List.range'_succ, List.mapM_cons, Option.bind_eq_bind, Option.bind_eq_some_iff, Option.pure_def, Option.some.injEq] at hx
    obtain ⟨x, hx1, xs', hx2, rfl⟩ := hx
    simp only [List.map_cons, List.mapM_cons, Option.bind_eq_bind, Option.bind_eq_some_iff, Option.pure_def, Option.some.injEq] at hy
    obtain ⟨y, hy1, ys', hy2, rfl⟩ := hy
    have h1 := hg _ _ _ _ hx1 hy1
    have h2 := pieces_array hg cs n (a + 1) xs' ys' (by rw [← hl]; congr 1; omega) hx2 hy2
    rw [List.flatten_cons, ← h1, ← h2, Nat.succ_mul, ← List.drop_drop, List.take_append_drop]

/-- WHAT READS AS A PLAIN DATUM HOLDS ITS CELLS. -/
theorem trod_plain {P : Program} {w : World} {base : Nat} {sp : Nat → Bool} : ∀ (fuel : Nat) (t : TypeId) (cs : List Value) (d : DataW Unit) (p : List MemPlace) (fuel' : Nat) (cs' : List Value),
    DataW.trod (fun _ => ()) P w base sp false fuel t cs = some (d, p) → plainAt P fuel' t d = some cs' → cs = cs'
  | 0, t, cs, d, p, fuel', cs', h, _ => by simp [DataW.trod] at h
  | fuel + 1, t, cs, d, p, 0, cs', _, h' => by simp [plainAt] at h'
  | fuel + 1, t, cs, d, p, fuel' + 1, cs', h, h' => by
    have ih := fun t cs d p cs' => trod_plain (P := P) (w := w) (base := base) (sp := sp) fuel t cs d p fuel' cs'
    unfold plainAt at h'
    split at h'
    · rename_i b hu
      unfold DataW.trod at h
      rw [hu] at h
      split at h <;> simp_all
    · rename_i k k' n hu
      split at h'
      · unfold DataW.trod at h
        rw [hu] at h
        split at h <;> simp_all
      · cases h'
    · rename_i l hu
      unfold DataW.trod at h
      rw [hu] at h
      split at h <;> simp_all
      obtain ⟨_, rfl, _⟩ := h
      rw [← h']
    · rename_i fs ds hu
      split at h'
      · rename_i hc
        unfold DataW.trod at h
        rw [hu] at h
        simp only at h
        split at h
        · rename_i hl
          obtain ⟨xs, hx, he⟩ := Option.map_eq_some_iff.1 h
          obtain ⟨ys, hy, rfl⟩ := Option.map_eq_some_iff.1 h'
          simp only [Prod.mk.injEq, DataW.agg.injEq] at he
          obtain ⟨rfl, _⟩ := he
          have := pieces_struct (g := DataW.trod (fun _ => ()) P w base sp false fuel) (h := plainAt P fuel') ih cs fs.toList 0 xs ys hc.1 (by omega) hx hy
          simpa using this
        · cases h
      · cases h'
    · rename_i n e ds hu
      split at h'
      · rename_i hc
        unfold DataW.trod at h
        rw [hu] at h
        simp only at h
        split at h
        · rename_i hl
          obtain ⟨xs, hx, he⟩ := Option.map_eq_some_iff.1 h
          obtain ⟨ys, hy, rfl⟩ := Option.map_eq_some_iff.1 h'
          simp only [Prod.mk.injEq, DataW.agg.injEq] at he
          obtain ⟨rfl, _⟩ := he
          rw [List.range_eq_range'] at hx
          have := pieces_array (m := P.cellsOf e) (g := DataW.trod (fun _ => ()) P w base sp false fuel e) (h := plainAt P fuel' e) (ih e) cs n 0 xs ys (by rw [hl, ← hc]; congr 1; omega) hx hy
          simpa using this
        · cases h
      · cases h'
    · cases h'

/-- One listed variable's reading. -/
theorem laidVars_reads {P : Program} {w : World} : ∀ {l : List (String × DataW Unit)} {ps : List MemPlace}, DataW.LaidVars P w l ps → ∀ n d, (n, d) ∈ l →
    ∃ g t cs fuel p, P.globalNamed n = some g ∧ (P.globals[g]?).map (·.type) = some t ∧ w.var? P n = some cs ∧ DataW.trod (fun _ => ()) P w 0 (fun _ => true) false fuel t cs.toList = some (d, p)
  | [], _, _, _, _, hm => by cases hm
  | (n', d') :: r, ps, h, n, d, hm => by
    obtain ⟨g, t, cs, fuel, p, q, h1, h2, h3, h4, h5, _⟩ := h
    rcases List.mem_cons.1 hm with e | e
    · cases e
      exact ⟨g, t, cs, fuel, p, h1, h2, h3, h4⟩
    · exact laidVars_reads h5 n d e
/-- THE CELLS OF A LISTED VARIABLE. -/
theorem var_of_laid {P : Program} {w : World} {l : List (String × DataW Unit)} (h : laidMet P l w) {n : String} {d : DataW Unit} (hm : (n, d) ∈ l) {g : Nat} {t : TypeId} (hg : P.globalNamed n = some g) (ht : (P.globals[g]?).map (·.type) = some t)
    (fuel : Nat) {cs : List Value} (hp : plainAt P fuel t d = some cs) : ∃ ty fr, w.heap[g]? = some (.cells cs.toArray ty fr) := by
  obtain ⟨_, hv, _⟩ := h
  obtain ⟨g', t', cs', fuel', p, h1, h2, h3, h4⟩ := laidVars_reads hv n d hm
  obtain rfl : g = g' := Option.some.inj (hg.symm.trans h1)
  obtain rfl : t = t' := Option.some.inj (ht.symm.trans h2)
  have := trod_plain fuel' t cs'.toList d p fuel cs h4 hp
  subst this
  unfold World.var? at h3
  rw [hg] at h3
  simp only [Option.bind_some] at h3
  split at h3
  · rename_i c ty fr hh
    simp only [Option.some.injEq] at h3
    subst h3
    exact ⟨ty, fr, by simpa using hh⟩
  · cases h3
end Go.Proofs.YtpadcjcoafidgaaGreatDoor
/-! The table of the longhands as a list, and what prop.table and prop.places answer. -/
namespace Go.Proofs.YtpadcjcoafidgaaGreatDoor
open Go.RowKit

/-- A longhand: name, initial, inherits, form. -/
abbrev Row := ByteArray × ByteArray × Bool × ByteArray
def Row.cells (r : Row) : List Value := [.string r.1, .string r.2.1, .bool r.2.2.1, .string r.2.2.2]
abbrev Row.val (r : Row) : Value := .agg #[.string r.1, .string r.2.1, .bool r.2.2.1, .string r.2.2.2]

def tbl : List Row := [
  (⟨#[100, 105, 115, 112, 108, 97, 121]⟩, ⟨#[105, 110, 108, 105, 110, 101]⟩, false, ⟨#[98, 108, 111, 99, 107, 124, 105, 110, 108, 105, 110, 101, 124, 105, 110, 108, 105, 110, 101, 45, 98, 108, 111, 99, 107, 124, 102, 108, 101, 120, 124, 103, 114, 105, 100, 124, 110, 111, 110, 101, 124, 99, 111, 110, 116, 101, 110, 116, 115, 124, 116, 97, 98, 108, 101]⟩),
  (⟨#[112, 111, 115, 105, 116, 105, 111, 110]⟩, ⟨#[115, 116, 97, 116, 105, 99]⟩, false, ⟨#[115, 116, 97, 116, 105, 99, 124, 114, 101, 108, 97, 116, 105, 118, 101, 124, 97, 98, 115, 111, 108, 117, 116, 101, 124, 102, 105, 120, 101, 100, 124, 115, 116, 105, 99, 107, 121]⟩),
  (⟨#[102, 108, 111, 97, 116]⟩, ⟨#[110, 111, 110, 101]⟩, false, ⟨#[108, 101, 102, 116, 124, 114, 105, 103, 104, 116, 124, 110, 111, 110, 101]⟩),
  (⟨#[99, 108, 101, 97, 114]⟩, ⟨#[110, 111, 110, 101]⟩, false, ⟨#[108, 101, 102, 116, 124, 114, 105, 103, 104, 116, 124, 98, 111, 116, 104, 124, 110, 111, 110, 101]⟩),
  (⟨#[118, 105, 115, 105, 98, 105, 108, 105, 116, 121]⟩, ⟨#[118, 105, 115, 105, 98, 108, 101]⟩, true, ⟨#[118, 105, 115, 105, 98, 108, 101, 124, 104, 105, 100, 100, 101, 110, 124, 99, 111, 108, 108, 97, 112, 115, 101]⟩),
  (⟨#[111, 118, 101, 114, 102, 108, 111, 119, 45, 120]⟩, ⟨#[118, 105, 115, 105, 98, 108, 101]⟩, false, ⟨#[118, 105, 115, 105, 98, 108, 101, 124, 104, 105, 100, 100, 101, 110, 124, 99, 108, 105, 112, 124, 115, 99, 114, 111, 108, 108, 124, 97, 117, 116, 111]⟩),
  (⟨#[111, 118, 101, 114, 102, 108, 111, 119, 45, 121]⟩, ⟨#[118, 105, 115, 105, 98, 108, 101]⟩, false, ⟨#[118, 105, 115, 105, 98, 108, 101, 124, 104, 105, 100, 100, 101, 110, 124, 99, 108, 105, 112, 124, 115, 99, 114, 111, 108, 108, 124, 97, 117, 116, 111]⟩),
  (⟨#[98, 111, 120, 45, 115, 105, 122, 105, 110, 103]⟩, ⟨#[99, 111, 110, 116, 101, 110, 116, 45, 98, 111, 120]⟩, false, ⟨#[99, 111, 110, 116, 101, 110, 116, 45, 98, 111, 120, 124, 98, 111, 114, 100, 101, 114, 45, 98, 111, 120]⟩),
  (⟨#[119, 105, 100, 116, 104]⟩, ⟨#[97, 117, 116, 111]⟩, false, ⟨#[97, 117, 116, 111, 124, 60, 108, 101, 110, 43, 62, 124, 60, 112, 99, 116, 43, 62]⟩),
  (⟨#[104, 101, 105, 103, 104, 116]⟩, ⟨#[97, 117, 116, 111]⟩, false, ⟨#[97, 117, 116, 111, 124, 60, 108, 101, 110, 43, 62, 124, 60, 112, 99, 116, 43, 62]⟩),
  (⟨#[109, 105, 110, 45, 119, 105, 100, 116, 104]⟩, ⟨#[97, 117, 116, 111]⟩, false, ⟨#[97, 117, 116, 111, 124, 60, 108, 101, 110, 43, 62, 124, 60, 112, 99, 116, 43, 62]⟩),
  (⟨#[109, 105, 110, 45, 104, 101, 105, 103, 104, 116]⟩, ⟨#[97, 117, 116, 111]⟩, false, ⟨#[97, 117, 116, 111, 124, 60, 108, 101, 110, 43, 62, 124, 60, 112, 99, 116, 43, 62]⟩),
  (⟨#[109, 97, 120, 45, 119, 105, 100, 116, 104]⟩, ⟨#[110, 111, 110, 101]⟩, false, ⟨#[110, 111, 110, 101, 124, 60, 108, 101, 110, 43, 62, 124, 60, 112, 99, 116, 43, 62]⟩),
  (⟨#[109, 97, 120, 45, 104, 101, 105, 103, 104, 116]⟩, ⟨#[110, 111, 110, 101]⟩, false, ⟨#[110, 111, 110, 101, 124, 60, 108, 101, 110, 43, 62, 124, 60, 112, 99, 116, 43, 62]⟩),
  (⟨#[109, 97, 114, 103, 105, 110, 45, 116, 111, 112]⟩, ⟨#[48, 112, 120]⟩, false, ⟨#[97, 117, 116, 111, 124, 60, 108, 101, 110, 62, 124, 60, 112, 99, 116, 62]⟩),
  (⟨#[109, 97, 114, 103, 105, 110, 45, 114, 105, 103, 104, 116]⟩, ⟨#[48, 112, 120]⟩, false, ⟨#[97, 117, 116, 111, 124, 60, 108, 101, 110, 62, 124, 60, 112, 99, 116, 62]⟩),
  (⟨#[109, 97, 114, 103, 105, 110, 45, 98, 111, 116, 116, 111, 109]⟩, ⟨#[48, 112, 120]⟩, false, ⟨#[97, 117, 116, 111, 124, 60, 108, 101, 110, 62, 124, 60, 112, 99, 116, 62]⟩),
  (⟨#[109, 97, 114, 103, 105, 110, 45, 108, 101, 102, 116]⟩, ⟨#[48, 112, 120]⟩, false, ⟨#[97, 117, 116, 111, 124, 60, 108, 101, 110, 62, 124, 60, 112, 99, 116, 62]⟩),
  (⟨#[112, 97, 100, 100, 105, 110, 103, 45, 116, 111, 112]⟩, ⟨#[48, 112, 120]⟩, false, ⟨#[60, 108, 101, 110, 43, 62, 124, 60, 112, 99, 116, 43, 62]⟩),
  (⟨#[112, 97, 100, 100, 105, 110, 103, 45, 114, 105, 103, 104, 116]⟩, ⟨#[48, 112, 120]⟩, false, ⟨#[60, 108, 101, 110, 43, 62, 124, 60, 112, 99, 116, 43, 62]⟩),
  (⟨#[112, 97, 100, 100, 105, 110, 103, 45, 98, 111, 116, 116, 111, 109]⟩, ⟨#[48, 112, 120]⟩, false, ⟨#[60, 108, 101, 110, 43, 62, 124, 60, 112, 99, 116, 43, 62]⟩),
  (⟨#[112, 97, 100, 100, 105, 110, 103, 45, 108, 101, 102, 116]⟩, ⟨#[48, 112, 120]⟩, false, ⟨#[60, 108, 101, 110, 43, 62, 124, 60, 112, 99, 116, 43, 62]⟩),
  (⟨#[98, 111, 114, 100, 101, 114, 45, 116, 111, 112, 45, 119, 105, 100, 116, 104]⟩, ⟨#[109, 101, 100, 105, 117, 109]⟩, false, ⟨#[116, 104, 105, 110, 124, 109, 101, 100, 105, 117, 109, 124, 116, 104, 105, 99, 107, 124, 60, 108, 101, 110, 43, 62]⟩),
  (⟨#[98, 111, 114, 100, 101, 114, 45, 114, 105, 103, 104, 116, 45, 119, 105, 100, 116, 104]⟩, ⟨#[109, 101, 100, 105, 117, 109]⟩, false, ⟨#[116, 104, 105, 110, 124, 109, 101, 100, 105, 117, 109, 124, 116, 104, 105, 99, 107, 124, 60, 108, 101, 110, 43, 62]⟩),
  (⟨#[98, 111, 114, 100, 101, 114, 45, 98, 111, 116, 116, 111, 109, 45, 119, 105, 100, 116, 104]⟩, ⟨#[109, 101, 100, 105, 117, 109]⟩, false, ⟨#[116, 104, 105, 110, 124, 109, 101, 100, 105, 117, 109, 124, 116, 104, 105, 99, 107, 124, 60, 108, 101, 110, 43, 62]⟩),
  (⟨#[98, 111, 114, 100, 101, 114, 45, 108, 101, 102, 116, 45, 119, 105, 100, 116, 104]⟩, ⟨#[109, 101, 100, 105, 117, 109]⟩, false, ⟨#[116, 104, 105, 110, 124, 109, 101, 100, 105, 117, 109, 124, 116, 104, 105, 99, 107, 124, 60, 108, 101, 110, 43, 62]⟩),
  (⟨#[98, 111, 114, 100, 101, 114, 45, 116, 111, 112, 45, 115, 116, 121, 108, 101]⟩, ⟨#[110, 111, 110, 101]⟩, false, ⟨#[110, 111, 110, 101, 124, 104, 105, 100, 100, 101, 110, 124, 100, 111, 116, 116, 101, 100, 124, 100, 97, 115, 104, 101, 100, 124, 115, 111, 108, 105, 100, 124, 100, 111, 117, 98, 108, 101]⟩),
  (⟨#[98, 111, 114, 100, 101, 114, 45, 114, 105, 103, 104, 116, 45, 115, 116, 121, 108, 101]⟩, ⟨#[110, 111, 110, 101]⟩, false, ⟨#[110, 111, 110, 101, 124, 104, 105, 100, 100, 101, 110, 124, 100, 111, 116, 116, 101, 100, 124, 100, 97, 115, 104, 101, 100, 124, 115, 111, 108, 105, 100, 124, 100, 111, 117, 98, 108, 101]⟩),
  (⟨#[98, 111, 114, 100, 101, 114, 45, 98, 111, 116, 116, 111, 109, 45, 115, 116, 121, 108, 101]⟩, ⟨#[110, 111, 110, 101]⟩, false, ⟨#[110, 111, 110, 101, 124, 104, 105, 100, 100, 101, 110, 124, 100, 111, 116, 116, 101, 100, 124, 100, 97, 115, 104, 101, 100, 124, 115, 111, 108, 105, 100, 124, 100, 111, 117, 98, 108, 101]⟩),
  (⟨#[98, 111, 114, 100, 101, 114, 45, 108, 101, 102, 116, 45, 115, 116, 121, 108, 101]⟩, ⟨#[110, 111, 110, 101]⟩, false, ⟨#[110, 111, 110, 101, 124, 104, 105, 100, 100, 101, 110, 124, 100, 111, 116, 116, 101, 100, 124, 100, 97, 115, 104, 101, 100, 124, 115, 111, 108, 105, 100, 124, 100, 111, 117, 98, 108, 101]⟩),
  (⟨#[98, 111, 114, 100, 101, 114, 45, 116, 111, 112, 45, 99, 111, 108, 111, 114]⟩, ⟨#[99, 117, 114, 114, 101, 110, 116, 99, 111, 108, 111, 114]⟩, false, ⟨#[99, 117, 114, 114, 101, 110, 116, 99, 111, 108, 111, 114, 124, 116, 114, 97, 110, 115, 112, 97, 114, 101, 110, 116, 124, 60, 99, 111, 108, 111, 114, 62]⟩),
  (⟨#[98, 111, 114, 100, 101, 114, 45, 114, 105, 103, 104, 116, 45, 99, 111, 108, 111, 114]⟩, ⟨#[99, 117, 114, 114, 101, 110, 116, 99, 111, 108, 111, 114]⟩, false, ⟨#[99, 117, 114, 114, 101, 110, 116, 99, 111, 108, 111, 114, 124, 116, 114, 97, 110, 115, 112, 97, 114, 101, 110, 116, 124, 60, 99, 111, 108, 111, 114, 62]⟩),
  (⟨#[98, 111, 114, 100, 101, 114, 45, 98, 111, 116, 116, 111, 109, 45, 99, 111, 108, 111, 114]⟩, ⟨#[99, 117, 114, 114, 101, 110, 116, 99, 111, 108, 111, 114]⟩, false, ⟨#[99, 117, 114, 114, 101, 110, 116, 99, 111, 108, 111, 114, 124, 116, 114, 97, 110, 115, 112, 97, 114, 101, 110, 116, 124, 60, 99, 111, 108, 111, 114, 62]⟩),
  (⟨#[98, 111, 114, 100, 101, 114, 45, 108, 101, 102, 116, 45, 99, 111, 108, 111, 114]⟩, ⟨#[99, 117, 114, 114, 101, 110, 116, 99, 111, 108, 111, 114]⟩, false, ⟨#[99, 117, 114, 114, 101, 110, 116, 99, 111, 108, 111, 114, 124, 116, 114, 97, 110, 115, 112, 97, 114, 101, 110, 116, 124, 60, 99, 111, 108, 111, 114, 62]⟩),
  (⟨#[116, 111, 112]⟩, ⟨#[97, 117, 116, 111]⟩, false, ⟨#[97, 117, 116, 111, 124, 60, 108, 101, 110, 62, 124, 60, 112, 99, 116, 62]⟩),
  (⟨#[114, 105, 103, 104, 116]⟩, ⟨#[97, 117, 116, 111]⟩, false, ⟨#[97, 117, 116, 111, 124, 60, 108, 101, 110, 62, 124, 60, 112, 99, 116, 62]⟩),
  (⟨#[98, 111, 116, 116, 111, 109]⟩, ⟨#[97, 117, 116, 111]⟩, false, ⟨#[97, 117, 116, 111, 124, 60, 108, 101, 110, 62, 124, 60, 112, 99, 116, 62]⟩),
  (⟨#[108, 101, 102, 116]⟩, ⟨#[97, 117, 116, 111]⟩, false, ⟨#[97, 117, 116, 111, 124, 60, 108, 101, 110, 62, 124, 60, 112, 99, 116, 62]⟩),
  (⟨#[99, 111, 108, 111, 114]⟩, ⟨#[35, 48, 48, 48, 48, 48, 48]⟩, true, ⟨#[60, 99, 111, 108, 111, 114, 62]⟩),
  (⟨#[98, 97, 99, 107, 103, 114, 111, 117, 110, 100, 45, 99, 111, 108, 111, 114]⟩, ⟨#[116, 114, 97, 110, 115, 112, 97, 114, 101, 110, 116]⟩, false, ⟨#[116, 114, 97, 110, 115, 112, 97, 114, 101, 110, 116, 124, 99, 117, 114, 114, 101, 110, 116, 99, 111, 108, 111, 114, 124, 60, 99, 111, 108, 111, 114, 62]⟩),
  (⟨#[102, 111, 110, 116, 45, 115, 105, 122, 101]⟩, ⟨#[49, 54, 112, 120]⟩, true, ⟨#[60, 108, 101, 110, 43, 62, 124, 60, 112, 99, 116, 43, 62]⟩),
  (⟨#[102, 111, 110, 116, 45, 119, 101, 105, 103, 104, 116]⟩, ⟨#[110, 111, 114, 109, 97, 108]⟩, true, ⟨#[110, 111, 114, 109, 97, 108, 124, 98, 111, 108, 100, 124, 60, 105, 110, 116, 43, 62]⟩),
  (⟨#[108, 105, 110, 101, 45, 104, 101, 105, 103, 104, 116]⟩, ⟨#[110, 111, 114, 109, 97, 108]⟩, true, ⟨#[110, 111, 114, 109, 97, 108, 124, 60, 105, 110, 116, 43, 62, 124, 60, 108, 101, 110, 43, 62, 124, 60, 112, 99, 116, 43, 62]⟩),
  (⟨#[116, 101, 120, 116, 45, 97, 108, 105, 103, 110]⟩, ⟨#[115, 116, 97, 114, 116]⟩, true, ⟨#[115, 116, 97, 114, 116, 124, 101, 110, 100, 124, 108, 101, 102, 116, 124, 114, 105, 103, 104, 116, 124, 99, 101, 110, 116, 101, 114, 124, 106, 117, 115, 116, 105, 102, 121]⟩),
  (⟨#[119, 104, 105, 116, 101, 45, 115, 112, 97, 99, 101]⟩, ⟨#[110, 111, 114, 109, 97, 108]⟩, true, ⟨#[110, 111, 114, 109, 97, 108, 124, 110, 111, 119, 114, 97, 112, 124, 112, 114, 101, 124, 112, 114, 101, 45, 119, 114, 97, 112]⟩),
  (⟨#[100, 105, 114, 101, 99, 116, 105, 111, 110]⟩, ⟨#[108, 116, 114]⟩, true, ⟨#[108, 116, 114, 124, 114, 116, 108]⟩),
  (⟨#[111, 114, 100, 101, 114]⟩, ⟨#[48]⟩, false, ⟨#[60, 105, 110, 116, 62]⟩),
  (⟨#[122, 45, 105, 110, 100, 101, 120]⟩, ⟨#[97, 117, 116, 111]⟩, false, ⟨#[97, 117, 116, 111, 124, 60, 105, 110, 116, 62]⟩)]

def tblRows : List (List Value) := tbl.map Row.cells
def tblCells : Array Value := tblRows.flatten.toArray
def zrow : List Value := [.string ⟨#[]⟩, .string ⟨#[]⟩, .bool false, .string ⟨#[]⟩]
def zeros : Array Value := ((List.replicate 48 zrow).flatten).toArray
def tblAct (p : Value) : Act := { tmps := (p :: (tbl.map fun r => Value.agg r.cells.toArray)).toArray.push (.agg tblCells), defers := [] }
theorem tbl_length : tbl.length = 48 := rfl

set_option maxHeartbeats 400000 in
set_option maxRecDepth 100000 in
/-- prop.table. -/
theorem table_any (w : World) :
    Calls Tryz.prog 54 #[] w fun e w' => e = .returned (.agg tblCells) ∧ w' = w.alloc (.cells tblCells 95) := by
  refine calls_of_wp Tryz.func54 rfl ?_
  apply wp_seq_k
  intro K1 hK1
  apply wp_region_lit
  refine wpList_exec1 (v := .pointer (some ⟨w.heap.size, 0, none⟩)) (w' := w.alloc (.cells zeros 95)) rfl (by kernel_rfl) ?_
  refine wpList_nil (hK1 _ _ ?_)
  clear hK1 K1
  apply wp_seq_k
  intro K1 hK1
  apply wp_region_lit
  refine wpList_builds_at 49 (a' := tblAct (.pointer (some ⟨w.heap.size, 0, none⟩))) (by kernel_rfl) ?_
  refine wpList_store_row rfl _ _ _ rfl w.heap.size tblCells (by kernel_rfl) (by kernel_rfl) 95 zeros (heap_alloc_new _ _) (by kernel_rfl) (by kernel_rfl) (by kernel_rfl) ?_
  rw [setRow_alloc_new]
  refine wpList_nil (hK1 _ _ ?_)
  clear hK1 K1
  apply wp_ret
  refine bodyPost_ret (v := .agg tblCells) ?_ rfl ⟨rfl, rfl⟩
  exact results_cell_row (p := 0) (by kernel_rfl) _ _ w.heap.size 95 tblCells (0, 0) _ (by kernel_rfl) (heap_alloc_new _ _) Tryz.underlying95 (by kernel_rfl) (by kernel_rfl)

theorem tblRows_len : ∀ r ∈ tblRows, r.length = 4 := by
  intro r hr
  obtain ⟨x, _, rfl⟩ := List.mem_map.1 hr
  rfl
theorem tbl_lt {k : Nat} (h : k < 48) : k < tbl.length := by rw [tbl_length]; exact h
/-- The k-th longhand. -/
def rowAt (k : Nat) : Row := tbl[k]?.getD (⟨#[]⟩, ⟨#[]⟩, false, ⟨#[]⟩)
theorem rowAt_cells {k : Nat} (h : k < 48) : tblRows[k]?.getD [] = (rowAt k).cells := by
  have hk := tbl_lt h
  simp [tblRows, rowAt, hk]
theorem info28 : ∃ i, Tryz.prog.info? 39 = some i ∧ i.size = 4 := by
  have h : (Tryz.prog.info? 39).map (·.size) = some 4 := by kernel_rfl
  exact Option.map_eq_some_iff.1 h
/-- table()[k]. -/
theorem run_index_tbl {k : Nat} (h : k < 48) (w : World) :
    (Instr.index 95 (.agg tblCells) (.int .i64 k)).run Tryz.prog w = .ok (rowAt k).val w := by
  obtain ⟨ie, hie, hsz⟩ := info28
  have := run_index_rows (P := Tryz.prog) (w := w) 95 39 48 4 tblRows .i64 k ie _ Tryz.underlying95 Tryz.underlying39 hie hsz tblRows_len (by simp [tblRows, tbl_length]) h
  rw [rowAt_cells h] at this
  exact this

/-- prop.places. -/
theorem places_any (w : World) :
    Calls Tryz.prog 98 #[] w fun e w' => e = .returned (.func (.func 138) #[] #[]) ∧ w' = w := by
  go_enter Tryz.func98, Tryz.ntmps98
  go_wp2
  go_ret
  exact ⟨rfl, rfl⟩
end Go.Proofs.YtpadcjcoafidgaaGreatDoor
/-! prop.places$1 as an iterator, and prop.Place: the place of a name in the table. -/
namespace Go.Proofs.YtpadcjcoafidgaaGreatDoor
open Go.RowKit Go.Shelf

attribute [local go_sem] Oper.semAt_some

/-- What has come when k rounds are over. -/
def upto {α : Type} (f : Nat → α) (k : Nat) : List α := (List.range k).map f
theorem upto_succ {α : Type} (f : Nat → α) (k : Nat) : upto f (k + 1) = upto f k ++ [f k] := by simp [upto, List.range_succ]
theorem upto_length {α : Type} (f : Nat → α) (k : Nat) : (upto f k).length = k := by simp [upto]
abbrev IR := Nat × Row
def irAt (k : Nat) : IR := (k, rowAt k)
abbrev irEnc (x : IR) : Array Value := #[.int .i64 x.1, x.2.val]

set_option maxRecDepth 100000 in
set_option maxHeartbeats 1000000 in
/-- prop.places$1: all longhands with their places, or a beginning of them. -/
theorem places1_stops (n : Nat) (w : World) :
    SeqStopsK Fence.wide n Tryz.prog 138 #[] irEnc (fun _ _ => True) (fun xs => xs = upto irAt 48) (fun pre => ∃ k, k ≤ 48 ∧ pre = upto irAt k) 48 w := fun l J Jx W hW hJ hJx hY h0 => by
  refine callsIn_of_wp Tryz.func138 rfl trivial ?_ rfl
  simp only [Tryz.ntmps138, List.size_toArray, List.length_cons, List.length_nil, Nat.reduceAdd, Nat.reduceSub, Array.replicate_succ, Array.replicate_zero, List.push_toArray, List.append_toArray, List.nil_append, List.cons_append]
  gi_wp2_with fail
  refine ⟨trivial, fun h => (by cases h), callsIn_wide.2 ((table_any _).mono ?_)⟩
  rintro e w' ⟨rfl, rfl⟩
  gi_wp2_with fail
  have hJ0 : J [] (W.alloc (.cells tblCells 95)) := hJ _ _ _ none h0 (World.grownBy_alloc W _ none) (fun r e => by cases e)
  gi_loopw [2, 3, 5] (fun _ _ i wr => ∃ k : Nat, k ≤ 48 ∧ i = .int .i64 k ∧ J (upto irAt k) wr)
    (fun _ _ i _ => 48 - (intOf i).toNat)
  case atStart => exact ⟨0, by omega, rfl, hJ0⟩
  case round =>
    obtain ⟨k, hk, rfl, hJs⟩ := hrel
    by_cases hlt : k < 48
    · have hix := fun wx => run_index_tbl hlt wx
      have hJa : J (upto irAt k) (wr.alloc (.cells (rowAt k).cells.toArray 39)) := hJ _ _ _ none hJs (World.grownBy_alloc wr _ none) (fun r e => by cases e)
      obtain ⟨fn, tmps, assign, body, hy, hR⟩ := hY _ (irAt k) _ hJa (by rw [upto_length]; exact hlt)
      dsimp only [irEnc, irAt, Row.val, Row.cells] at hy hR hJa
      gi_wp2_with fail
      refine ⟨fun h => (by cases h), hR.mono ?_⟩
      rintro e W3 (⟨rfl, hJ3, _⟩ | ⟨rfl, hJx3⟩)
      · gi_wp2_with fail
        go_roundw
        case rel => exact ⟨k + 1, by omega, by simp, by rw [upto_succ]; exact hJ3⟩
        case measure => simp [intOf]; omega
      · gi_wp2_with fail
        refine bodyPost_ret (results_none rfl _ _ _) rfl ?_
        exact ⟨⟨_, rfl⟩, .inr ⟨_, ⟨k + 1, by omega, (upto_succ _ _).symm⟩, hJx3⟩⟩
    · obtain rfl : k = 48 := by omega
      gi_wp2_with fail
      go_end0
      exact ⟨⟨_, rfl⟩, .inl ⟨_, rfl, hJs⟩⟩

/-- The place of a name: from 0 on; -1 if there is none. -/
def placeN (s : ByteArray) : Option Nat := tbl.findIdx? fun r => r.1 == s
def place (s : ByteArray) : Int := match placeN s with | some k => k | none => -1

/-- Block B holds just these cells. -/
def Holds4 (W : World) (B : Nat) (t : TypeId) (cs : Array Value) : Prop := W.heap[B]? = some (.cells cs t (0, 0))
theorem Holds4.own {β : Type} (B : Nat) (t : TypeId) (f : β → Array Value) : Own (fun s W => Holds4 W B t (f s)) := fun s X Y row hs hg hrow => by
  have hlt : B < X.heap.size := (Array.getElem?_eq_some_iff.1 hs).1
  refine (hg.block B hlt (fun e' => ?_)).trans hs
  obtain ⟨o, ho, hc⟩ := hrow B e'.symm
  rw [show X.heap[B]? = _ from hs] at ho; cases ho; cases hc
theorem Holds4.cell {W : World} {B : Nat} {t : TypeId} {cs : Array Value} (h : Holds4 W B t cs) (j : Nat) : W.cell? ⟨B, j, none⟩ = cs[j]? := by
  simp [World.cell?, show W.heap[B]? = _ from h]

/-- WHAT HAS COME, NONE OF THE NAME s. -/
def NoneIs (s : ByteArray) (pre : List IR) : Prop := ∀ x ∈ pre, (x.2.1 == s) = false
/-- The last that has come is the first of the name s; its place. -/
def LastIs (s : ByteArray) (pre : List IR) (k : Int) : Prop := ∃ pre' x, pre = pre' ++ [x] ∧ NoneIs s pre' ∧ (x.2.1 == s) = true ∧ k = x.1
theorem NoneIs.snoc {s : ByteArray} {pre : List IR} {x : IR} (h : NoneIs s pre) (hx : (x.2.1 == s) = false) : NoneIs s (pre ++ [x]) := by
  intro y hy
  rcases List.mem_append.1 hy with hy | hy
  · exact h y hy
  · rw [List.mem_singleton.1 hy]; exact hx

theorem rowAt_getElem {k : Nat} (h : k < tbl.length) : rowAt k = tbl[k] := by simp [rowAt, h]
theorem place_none {s : ByteArray} (h : NoneIs s (upto irAt 48)) : place s = -1 := by
  have : placeN s = none := by
    unfold placeN
    rw [List.findIdx?_eq_none_iff]
    intro r hr
    obtain ⟨k, hk, rfl⟩ := List.getElem_of_mem hr
    have := h (irAt k) (by unfold upto; exact List.mem_map.2 ⟨k, List.mem_range.2 (by rw [tbl_length] at hk; exact hk), rfl⟩)
    rw [← rowAt_getElem hk]
    exact this
  unfold place
  rw [this]
theorem place_last {s : ByteArray} {k : Nat} {i : Int} (hk : k ≤ 48) (h : LastIs s (upto irAt k) i) : place s = i := by
  obtain ⟨pre', x, he, hno, hx, rfl⟩ := h
  cases k with
  | zero => simp [upto] at he
  | succ k =>
    rw [upto_succ] at he
    obtain ⟨h1, h2⟩ := List.append_inj' he rfl
    subst h1
    obtain rfl : irAt k = x := by simpa using h2
    have hlt : k < tbl.length := by rw [tbl_length]; omega
    have : placeN s = some k := by
      unfold placeN
      rw [List.findIdx?_eq_some_iff_getElem]
      refine ⟨hlt, by rw [← rowAt_getElem hlt]; exact hx, fun j hj => ?_⟩
      have hjl : j < tbl.length := by omega
      have := hno (irAt j) (by unfold upto; exact List.mem_map.2 ⟨j, List.mem_range.2 hj, rfl⟩)
      rw [← rowAt_getElem hjl]
      simp only [irAt] at this
      simp [this]
    unfold place
    rw [this]
    rfl

set_option maxRecDepth 100000 in
set_option maxHeartbeats 2000000 in
/-- prop.Place, at every name. -/
theorem Place_any (s : ByteArray) (w : World) :
    Calls Tryz.prog 63 #[.string s] w fun e w' => e = .returned (.int .i64 (place s)) ∧ Below w.heap.size w w' := by
  refine (callsIn_wide (n := 9)).1 ?_
  refine callsIn_of_wp_marks Tryz.func63 rfl trivial ?_ rfl
  simp only [Tryz.ntmps63, List.size_toArray, List.length_cons, List.length_nil, Nat.reduceAdd, Nat.reduceSub, Array.replicate_succ, Array.replicate_zero, List.push_toArray, List.append_toArray, List.nil_append, List.cons_append]
  gi_wp2_with fail
  refine ⟨trivial, callsIn_wide.2 ((places_any _).mono ?_)⟩
  rintro e w' ⟨rfl, rfl⟩
  gi_wp2_with fail
  have bS := (Boxed.new w 9 (.string s)).alloc (.cells #[.int .i64 0] 3)
  have bR := Boxed.new (w.alloc (.cells #[.string s] 9)) 3 (.int .i64 0)
  simp only [World.size_alloc] at bR
  have hB0 : Below w.heap.size w ((w.alloc (.cells #[.string s] 9)).alloc (.cells #[.int .i64 0] 3)) := ((Below.refl _ w).alloc (Nat.le_refl _) _).alloc (by simp) _
  have hsz : ((w.alloc (.cells #[.string s] 9)).alloc (.cells #[.int .i64 0] 3)).heap.size = w.heap.size + 2 := by simp
  obtain ⟨W0, hW0⟩ : ∃ W0, (w.alloc (.cells #[.string s] 9)).alloc (.cells #[.int .i64 0] 3) = W0 := ⟨_, rfl⟩
  rw [hW0] at bS bR hB0 hsz ⊢
  clear hW0
  refine wpIn_rangeFunc_ownH rfl (by omega) (gf := 138) (lb := #[]) rfl trivial (enters_of Tryz.func138 (by kernel_rfl) rfl)
    (places1_stops 8 W0) (fun _ _ => trivial) (fun _ _ _ _ _ _ _ _ => trivial) (Below.refl _ _) (fun _ => rfl)
    (fun pre W => (NoneIs s pre ∧ Boxed W w.heap.size 9 (.string s)) ∧ Boxed W (w.heap.size + 1) 3 (.int .i64 0) ∧ Below w.heap.size w W)
    (fun c pre W => (∃ k, (c = .ret ∧ LastIs s pre k) ∧ Boxed W (w.heap.size + 1) 3 (.int .i64 k)) ∧ Below w.heap.size w W)
    (OwnFrom.and (OwnFrom.and (ownFrom_pure _ _) (Own.from (boxed_own _ _ _) _)) (OwnFrom.and (Own.from (boxed_own _ _ _) _) (ownFrom_below (Nat.le_refl _) (by omega))))
    (fun c => OwnFrom.and (fun s' X Y row hs hg hr => by obtain ⟨k, h1, h2⟩ := hs; exact ⟨k, h1, Own.from (boxed_own (w.heap.size + 1) 3 (fun (_ : Unit) => Value.int .i64 k)) _ () X Y row h2 hg hr⟩) (ownFrom_below (Nat.le_refl _) (by omega)))
    ⟨⟨fun _ h => (by cases h), bS⟩, bR, hB0⟩
    (fun x a' W => ∃ Bx, (w.heap.size + 1 < Bx ∧ Holds4 W Bx 39 x.2.cells.toArray) ∧ a' = { tmps := #[.string s, .pointer (some ⟨w.heap.size, 0, none⟩), .pointer (some ⟨w.heap.size + 1, 0, none⟩), .int .i64 x.1, .pointer (some ⟨Bx, 0, none⟩), .func (.func 138) #[] #[], .int .i64 x.1, x.2.val, undef, undef, undef, undef, undef], defers := [] })
    (fun x a' _ X Y row hs hg hr => by obtain ⟨Bx, ⟨h1, h2⟩, h3⟩ := hs; exact ⟨Bx, ⟨h1, Own.from (Holds4.own Bx 39 (fun (_ : Unit) => x.2.cells.toArray)) _ () X Y row h2 hg hr⟩, h3⟩)
    ?assign ?body ?done ?stop
  case assign =>
    rintro l pre x W K ⟨⟨hno, bS1⟩, bR1, hB1⟩ hK
    gi_wp2_with fail
    exact hK _ _ ((KeepsOthers.alloc _ _).from _) trivial ⟨⟨hno, bS1.alloc _⟩, bR1.alloc _, hB1.alloc hB1.size _⟩ ⟨W.heap.size, ⟨bR1.lt, World.alloc_heap_new _ _⟩, rfl⟩
  case body =>
    rintro l pre x a' W hl _ ⟨⟨hno, bS1⟩, bR1, hB1⟩ ⟨Bx, ⟨hBx, hX⟩, rfl⟩ _
    have cS := bS1.cell
    have cR := bR1.cell
    have fR := bR1.frozen
    have cX := hX.cell 0
    simp only [Row.cells, List.getElem?_toArray, List.getElem?_cons_zero] at cX
    gi_wp2_with fail
    · have hx : (x.2.1 == s) = true := by rw [beq_toListBytes]; assumption
      refine ⟨(KeepsOthers.setCell _ _ _).from _, ⟨x.1, ⟨rfl, pre, x, rfl, hno, hx, rfl⟩, bR1.set _⟩, hB1.setCell (p := ⟨w.heap.size + 1, 0, none⟩) (by simp) _⟩
    · have hx : (x.2.1 == s) = false := by rw [beq_toListBytes]; assumption
      exact ⟨(KeepsOthers.refl _).from _, trivial, ⟨hno.snoc hx, bS1⟩, bR1, hB1⟩
  case done =>
    rintro D xs W hD rfl ⟨⟨hno, bS1⟩, bR1, hB1⟩ hK
    have cR := bR1.cell
    have fR := bR1.frozen
    gi_wp2_with fail
    have hK' := (KeepsOthers.setCell W ⟨w.heap.size + 1, 0, none⟩ (.int .i64 (-1))).same D _ hK rfl
    refine ⟨by simp, .inl ⟨_, _, rfl, run_takeDeferred hK', ?_⟩⟩
    have hc5 := cell_kept (bR1.set (.int .i64 (-1))).cell (grownBy_putObj' _ D (.deferred none)) (fun r e => by cases e; exact ⟨_, hK', rfl⟩)
    refine ⟨.int .i64 (-1), ?_, by rw [place_none hno], ?_⟩
    · simp [results, Tryz.f63, go_sem, hc5]
    · exact (hB1.setCell (p := ⟨w.heap.size + 1, 0, none⟩) (by simp) _).trans (belowK_b (w := w) (Nat.le_refl _) _ D _ _ (by omega) hK' rfl rfl)
  case stop =>
    rintro D c pre W hD ⟨k, hk, rfl⟩ ⟨⟨k2, ⟨rfl, hlast⟩, bR1⟩, hB1⟩ hK
    gi_wp2_with fail
    refine ⟨by simp, .inl ⟨_, _, rfl, run_takeDeferred hK, ?_⟩⟩
    have hc5 := cell_kept bR1.cell (grownBy_putObj' _ D (.deferred none)) (fun r e => by cases e; exact ⟨_, hK, rfl⟩)
    refine ⟨.int .i64 k2, ?_, by rw [place_last hk hlast], ?_⟩
    · simp [results, Tryz.f63, go_sem, hc5]
    · exact hB1.trans (belowK_b (w := w) (Nat.le_refl _) _ D _ _ (by omega) hK rfl rfl)
end Go.Proofs.YtpadcjcoafidgaaGreatDoor
/-! prop.Find, prop.tableAll. -/
namespace Go.Proofs.YtpadcjcoafidgaaGreatDoor
open Go.RowKit

theorem placeN_lt {s : ByteArray} {k : Nat} (h : placeN s = some k) : k < 48 := by
  unfold placeN at h
  rw [List.findIdx?_eq_some_iff_getElem] at h
  obtain ⟨hlt, _⟩ := h
  rwa [tbl_length] at hlt
theorem placeN_name {s : ByteArray} {k : Nat} (h : placeN s = some k) : (rowAt k).1 = s := by
  unfold placeN at h
  rw [List.findIdx?_eq_some_iff_getElem] at h
  obtain ⟨hlt, he, _⟩ := h
  rw [rowAt_getElem hlt]
  have h2 : (tbl[k].1.toList == s.toList) = true := by rw [← beq_toListBytes]; exact he
  have h3 : tbl[k].1.toList = s.toList := eq_of_beq h2
  rw [ByteArray.toList_eq, ByteArray.toList_eq] at h3
  cases hs : tbl[k].1
  cases s
  rw [hs] at h3
  simp only at h3
  rw [Array.toList_inj.1 h3]
def noRow : Row := (⟨#[]⟩, ⟨#[]⟩, false, ⟨#[]⟩)
def findRow (s : ByteArray) : Row := match placeN s with | some k => rowAt k | none => noRow

theorem below_alloc_new (w : World) (o : Obj) : Below w.heap.size w (w.alloc o) := (Below.refl _ w).alloc (Nat.le_refl _) o
theorem table_below (w : World) : Calls Tryz.prog 54 #[] w fun e w' => e = .returned (.agg tblCells) ∧ Below w.heap.size w w' :=
  (table_any w).mono fun _ _ ⟨he, hw⟩ => ⟨he, hw ▸ below_alloc_new w _⟩
theorem bcell {W w1 : World} (hb : Below W.heap.size W w1) : (∀ b o, b < W.heap.size → w1.cell? ⟨b, o, none⟩ = W.cell? ⟨b, o, none⟩) ∧ (∀ b o, b < W.heap.size → w1.frozen? ⟨b, o, none⟩ = W.frozen? ⟨b, o, none⟩) :=
  ⟨fun b o h => hb.cell (p := ⟨b, o, none⟩) h, fun b o h => hb.frozen (p := ⟨b, o, none⟩) h⟩

set_option maxHeartbeats 400000 in
theorem Find_no (s : ByteArray) (h : placeN s = none) (w : World) :
    Calls Tryz.prog 52 #[.string s] w fun e w' => e = .returned (.tuple #[noRow.val, .bool false]) ∧ Below w.heap.size w w' := by
  have hp : place s = -1 := by unfold place; rw [h]
  have H := Lib.hid h
  clear h
  go_enter Tryz.func52, Tryz.ntmps52
  go_wp2_with fail
  refine (Place_any s _).mono ?_
  rintro e w1 ⟨rfl, hb⟩
  rw [hp]
  obtain ⟨hc, hf⟩ := bcell hb
  have hz := hb.size
  simp only [World.size_alloc] at hz hc hf
  go_wp2_with fail
  have hB1 : Below w.heap.size w w1 := ((Below.refl _ w).alloc (Nat.le_refl _) _).trans (hb.mono (by simp))
  refine bodyPost_ret (v := .tuple #[noRow.val, .bool false]) ?_ rfl ⟨rfl, (((hB1.setCell (p := ⟨w.heap.size, 0, none⟩) (Nat.le_refl _) _).setCell (p := ⟨w.heap.size, 1, none⟩) (Nat.le_refl _) _).setCell (p := ⟨w.heap.size, 2, none⟩) (Nat.le_refl _) _).setCell (p := ⟨w.heap.size, 3, none⟩) (Nat.le_refl _) _⟩
  simp [results, Tryz.results52, go_sem, hc, noRow]

set_option maxHeartbeats 400000 in
theorem Find_yes (s : ByteArray) (k : Nat) (h : placeN s = some k) (w : World) :
    Calls Tryz.prog 52 #[.string s] w fun e w' => e = .returned (.tuple #[(rowAt k).val, .bool true]) ∧ Below w.heap.size w w' := by
  have hp : place s = k := by unfold place; rw [h]
  have hk := placeN_lt h
  have hix := fun wx => run_index_tbl hk wx
  have H := Lib.hid h
  clear h
  have Hp := Lib.hid hp
  clear hp
  go_enter Tryz.func52, Tryz.ntmps52
  go_wp2_with fail
  refine (Place_any s _).mono ?_
  rintro e w1 ⟨rfl, hb⟩
  rw [Hp.out]
  obtain ⟨hc, hf⟩ := bcell hb
  have hz := hb.size
  simp only [World.size_alloc] at hz hc hf
  have hk0 : ¬ (k : Int) < 0 := by omega
  go_wp2_with fail
  clear hc hf hz
  refine (table_below _).mono ?_
  rintro e w2 ⟨rfl, hb'⟩
  have hb2 := hb.trans (hb'.mono hb.size)
  clear hb' hb
  obtain ⟨hc, hf⟩ := bcell hb2
  have hz := hb2.size
  simp only [World.size_alloc] at hz hc hf
  have hB1 : Below w.heap.size w w2 := ((Below.refl _ w).alloc (Nat.le_refl _) _).trans (hb2.mono (by simp))
  go_wp2_with fail
  refine bodyPost_ret (v := .tuple #[(rowAt k).val, .bool true]) ?_ rfl ⟨rfl, (((hB1.setCell (p := ⟨w.heap.size, 0, none⟩) (Nat.le_refl _) _).setCell (p := ⟨w.heap.size, 1, none⟩) (Nat.le_refl _) _).setCell (p := ⟨w.heap.size, 2, none⟩) (Nat.le_refl _) _).setCell (p := ⟨w.heap.size, 3, none⟩) (Nat.le_refl _) _⟩
  simp [results, Tryz.results52, go_sem, hc]

theorem Find_any (s : ByteArray) (w : World) :
    Calls Tryz.prog 52 #[.string s] w fun e w' => e = .returned (.tuple #[(findRow s).val, .bool (placeN s).isSome]) ∧ Below w.heap.size w w' := by
  unfold findRow
  cases h : placeN s with
  | none => exact Find_no s h w
  | some k => exact Find_yes s k h w
end Go.Proofs.YtpadcjcoafidgaaGreatDoor
/-! Package text: the characters' kinds. -/
namespace Go.Proofs.YtpadcjcoafidgaaGreatDoor
open Go.RowKit

theorem bAlloc1 (w : World) (a : Obj) : Below w.heap.size w (w.alloc a) := (Below.refl _ _).alloc (Nat.le_refl _) a
theorem bAlloc2 (w : World) (a b : Obj) : Below w.heap.size w ((w.alloc a).alloc b) := (bAlloc1 w a).trans ((bAlloc1 (w.alloc a) b).mono (by simp))
theorem bNext {w a b : World} (h : Below w.heap.size w a) (k : Below a.heap.size a b) : Below w.heap.size w b := h.trans (k.mono h.size)

def isIn (lo hi c : Int) : Bool := decide (lo ≤ c) && decide (c ≤ hi)
theorem isIn_of {lo hi c : Int} (h : lo ≤ c) : isIn lo hi c = decide (c ≤ hi) := by simp [isIn, h]
theorem isIn_lt {lo hi c : Int} (h : c < lo) : isIn lo hi c = false := by unfold isIn; rw [decide_eq_false (by omega)]; rfl
theorem Digit_any (c : Int) (w : World) :
    Calls Tryz.prog 76 #[.int .i32 c] w fun e w' => (e = .returned (.bool (isIn 48 57 c))) ∧ Below w.heap.size w w' := by
  go_enter Tryz.func76, Tryz.ntmps76
  go_wp2
  all_goals go_ret
  · exact ⟨by rw [isIn_of ‹_›]; rfl, bAlloc2 _ _ _⟩
  · exact ⟨by rw [isIn_lt ‹_›]; rfl, bAlloc2 _ _ _⟩
def isBlank (c : Int) : Bool := decide (c = 32) || decide (c = 9) || decide (c = 10)
theorem Blank_any (c : Int) (w : World) :
    Calls Tryz.prog 123 #[.int .i32 c] w fun e w' => (e = .returned (.bool (isBlank c))) ∧ w' = w := by
  go_enter Tryz.func123, Tryz.ntmps123
  go_wp2
  all_goals go_ret
  all_goals exact ⟨congrArg (fun b => Ending.returned (Value.bool b)) (Bool.eq_iff_iff.2 (by simp [isBlank, *])), rfl⟩
def isStart (c : Int) : Bool := decide (128 ≤ c) || decide (c = 95) || isIn 97 122 c || isIn 65 90 c
theorem Start_any (c : Int) (w : World) :
    Calls Tryz.prog 154 #[.int .i32 c] w fun e w' => (e = .returned (.bool (isStart c))) ∧ Below w.heap.size w w' := by
  go_enter Tryz.func154, Tryz.ntmps154
  go_wp2
  all_goals go_ret
  all_goals exact ⟨congrArg (fun b => Ending.returned (Value.bool b)) (Bool.eq_iff_iff.2 (by simp [isStart, isIn, *] <;> omega)), by repeat' first | exact Below.refl _ _ | (refine Below.alloc ?_ (by simp <;> omega) _)⟩
def isPart (c : Int) : Bool := decide (c = 45) || isIn 48 57 c || isStart c
theorem Part_any (c : Int) (w : World) :
    Calls Tryz.prog 127 #[.int .i32 c] w fun e w' => (e = .returned (.bool (isPart c))) ∧ Below w.heap.size w w' := by
  go_enter Tryz.func127, Tryz.ntmps127
  go_wp2_with (first
    | (go_at_call 76; refine (Digit_any _ _).mono ?_; rintro e w1 ⟨rfl, hb1⟩)
    | (go_at_call 154; refine (Start_any _ _).mono ?_; rintro e w2 ⟨rfl, hb2⟩))
  all_goals go_ret
  · exact ⟨congrArg (fun b => Ending.returned (Value.bool b)) (show true = _ by simp [isPart, *]), Below.refl _ _⟩
  · exact ⟨congrArg (fun b => Ending.returned (Value.bool b)) (show true = _ by simp [isPart, *]), hb1⟩
  · exact ⟨congrArg (fun b => Ending.returned (Value.bool b)) (show (c == 45 || isStart c) = _ by simp [isPart, *]), bNext hb1 hb2⟩
theorem digit_any (c : Int) (w : World) :
    Calls Tryz.prog 156 #[.int .i32 c] w fun e w' => (e = .returned (.bool (isIn 48 57 c))) ∧ Below w.heap.size w w' := by
  go_enter Tryz.func156, Tryz.ntmps156
  go_wp2_with (first
    | (go_at_call 76; refine (Digit_any _ _).mono ?_; rintro e w1 ⟨rfl, hb1⟩))
  all_goals go_ret
  · exact ⟨congrArg (fun b => Ending.returned (Value.bool b)) (show false = _ by simp [isIn, *]), Below.refl _ _⟩
  · exact ⟨congrArg (fun b => Ending.returned (Value.bool b)) (show (c != -1 && isIn 48 57 c) = _ by simp [*]), hb1⟩
def hexOf (c : Int) : Int := if isIn 48 57 c then c - 48 else if isIn 97 102 c then c - 87 else if isIn 65 70 c then c - 55 else -1
end Go.Proofs.YtpadcjcoafidgaaGreatDoor
/-! prop.Shorts: the shorthands' names, out of the package's table. -/
namespace Go.Proofs.YtpadcjcoafidgaaGreatDoor
open Go.RowKit

abbrev Short := ByteArray × ByteArray × ByteArray
def Short.cells (r : Short) : List Value := [.string r.1, .string r.2.1, .string r.2.2]
abbrev Short.val (r : Short) : Value := .agg #[.string r.1, .string r.2.1, .string r.2.2]
def shortsTbl : List Short := [
  (⟨#[98, 111, 114, 100, 101, 114, 45, 99, 111, 108, 111, 114]⟩, ⟨#[98, 111, 114, 100, 101, 114, 45, 116, 111, 112, 45, 99, 111, 108, 111, 114]⟩, ⟨#[98, 111, 114, 100, 101, 114, 45, 108, 101, 102, 116, 45, 99, 111, 108, 111, 114]⟩),
  (⟨#[98, 111, 114, 100, 101, 114, 45, 115, 116, 121, 108, 101]⟩, ⟨#[98, 111, 114, 100, 101, 114, 45, 116, 111, 112, 45, 115, 116, 121, 108, 101]⟩, ⟨#[98, 111, 114, 100, 101, 114, 45, 108, 101, 102, 116, 45, 115, 116, 121, 108, 101]⟩),
  (⟨#[98, 111, 114, 100, 101, 114, 45, 119, 105, 100, 116, 104]⟩, ⟨#[98, 111, 114, 100, 101, 114, 45, 116, 111, 112, 45, 119, 105, 100, 116, 104]⟩, ⟨#[98, 111, 114, 100, 101, 114, 45, 108, 101, 102, 116, 45, 119, 105, 100, 116, 104]⟩),
  (⟨#[109, 97, 114, 103, 105, 110]⟩, ⟨#[109, 97, 114, 103, 105, 110, 45, 116, 111, 112]⟩, ⟨#[109, 97, 114, 103, 105, 110, 45, 108, 101, 102, 116]⟩),
  (⟨#[111, 118, 101, 114, 102, 108, 111, 119]⟩, ⟨#[111, 118, 101, 114, 102, 108, 111, 119, 45, 120]⟩, ⟨#[111, 118, 101, 114, 102, 108, 111, 119, 45, 121]⟩),
  (⟨#[112, 97, 100, 100, 105, 110, 103]⟩, ⟨#[112, 97, 100, 100, 105, 110, 103, 45, 116, 111, 112]⟩, ⟨#[112, 97, 100, 100, 105, 110, 103, 45, 108, 101, 102, 116]⟩)]
def shortsRows : List (List Value) := shortsTbl.map Short.cells
def shortsCells : Array Value := shortsRows.flatten.toArray
/-- The variable prop.shorts holds its table. -/
def ShortsIn (w : World) : Prop := ∃ ty fr, w.heap[(2 : Nat)]? = some (.cells shortsCells ty fr)
theorem ShortsIn.lt {w : World} (h : ShortsIn w) : 2 < w.heap.size := by
  obtain ⟨_, _, h⟩ := h
  exact (Array.getElem?_eq_some_iff.1 h).1
theorem ShortsIn.below {w w' : World} {C : Nat} (h : ShortsIn w) (hb : Below C w w') (hC : w.heap.size ≤ C) : ShortsIn w' := by
  have hlt := h.lt
  obtain ⟨ty, fr, h⟩ := h
  exact ⟨ty, fr, by rw [hb.block _ (by omega)]; exact h⟩
theorem shortsIn_of_laid {w : World} {l : List (String × DataW Unit)} (h : laidMet Tryz.prog l w) (hm : ("gouache/prop.shorts", Rows.laid_gouache_prop_shorts) ∈ l) : ShortsIn w :=
  var_of_laid h hm (g := 2) (t := 107) (by kernel_rfl) (by kernel_rfl) 5 (cs := shortsRows.flatten) (by kernel_rfl)

theorem shortsRows_len : ∀ r ∈ shortsRows, r.length = 3 := by
  intro r hr
  obtain ⟨x, _, rfl⟩ := List.mem_map.1 hr
  rfl
def shortAt (k : Nat) : Short := shortsTbl[k]?.getD (⟨#[]⟩, ⟨#[]⟩, ⟨#[]⟩)
theorem shortsTbl_length : shortsTbl.length = 6 := rfl
theorem shortAt_cells {k : Nat} (h : k < 6) : shortsRows[k]?.getD [] = (shortAt k).cells := by
  have hk : k < shortsTbl.length := by rw [shortsTbl_length]; exact h
  simp [shortsRows, shortAt, hk]
theorem info49 : ∃ i, Tryz.prog.info? 106 = some i ∧ i.size = 3 := by
  have h : (Tryz.prog.info? 106).map (·.size) = some 3 := by kernel_rfl
  exact Option.map_eq_some_iff.1 h
theorem run_index_short {k : Nat} (h : k < 6) (w : World) :
    (Instr.index 107 (.agg shortsCells) (.int .i64 k)).run Tryz.prog w = .ok (shortAt k).val w := by
  obtain ⟨ie, hie, hsz⟩ := info49
  have := run_index_rows (P := Tryz.prog) (w := w) 107 106 6 3 shortsRows .i64 k ie _ Tryz.underlying107 Tryz.underlying106 hie hsz shortsRows_len (by simp [shortsRows, shortsTbl_length]) h
  rw [shortAt_cells h] at this
  exact this

theorem infoStr : (Tryz.prog.info? 9).map (fun i => (i.zero, i.size, i.bytes)) = some (some (.string ⟨#[]⟩), 1, 16) := by kernel_rfl

theorem sUpto_succ (k : Nat) : upto (fun i => (shortAt i).1) (k + 1) = upto (fun i => (shortAt i).1) k ++ [(shortAt k).1] := upto_succ _ _

set_option maxRecDepth 100000 in
set_option maxHeartbeats 1000000 in
/-- prop.Shorts. -/
theorem Shorts_any (w : World) (hS : ShortsIn w) :
    Calls Tryz.prog 37 #[] w fun e w' => ∃ v, e = .returned v ∧ Strs w.heap.size w' v (shortsTbl.map (·.1)) ∧ Below w.heap.size w w' := by
  obtain ⟨ty, fr, hg⟩ := hS
  have Hg := Lib.hid hg
  clear hg
  go_enter Tryz.func37, Tryz.ntmps37
  go_wp2_with (with_reducible refine wpList_load_row rfl 107 _ rfl 2 rfl _ shortsCells _ _ Hg.out Tryz.underlying107 rfl (by kernel_rfl) ?_)
  go_loopw [1, 3, 5] (fun v _ i wr => ∃ k : Nat, k ≤ 6 ∧ i = .int .i64 k ∧ wr.ownsRow w.heap.size 9 1 v (upto (fun i => (shortAt i).1) k).length ((upto (fun i => (shortAt i).1) k).map Value.string) ∧ Below w.heap.size w wr)
    (fun _ _ i _ => 6 - (intOf i).toNat)
  case atStart => exact ⟨0, by omega, rfl, World.ownsRow_nil _ _ _ _, Below.refl _ _⟩
  case round =>
    obtain ⟨k, hk, rfl, hown, hB⟩ := hrel
    by_cases hlt : k < 6
    · have hix := fun wx => run_index_short hlt wx
      have hsz := hB.size
      have Hl : Hid ((upto (fun i => (shortAt i).1) k).length = k) := Lib.hid (upto_length _ _)
      go_wp2_with (at_builtin; refine wpList_append_str rfl _ _ 42 9 rfl w.heap.size Tryz.underlying42 infoStr _ _ (shortAt k).1 rfl (((hown.alloc _).alloc _)) (wr.heap.size + 1) rfl (by simp) (by rw [Hl.out]; omega) (by simp; omega) ?_; intro v' w1 hown' hgrow hne)
      have hB1 : Below w.heap.size w w1 := ((hB.alloc hsz _).alloc (by simp; omega) _).grown hgrow (by simp; omega) (fun j e => (hown.lt j e).1)
      go_roundw
      case rel => exact ⟨k + 1, by omega, by go_num, by rw [upto_succ]; exact hown', hB1⟩
      case measure => simp [intOf]; omega
    · obtain rfl : k = 6 := by omega
      go_wp2_with fail
      go_ret
      have h6 : upto (fun i => (shortAt i).1) 6 = shortsTbl.map (·.1) := by rfl
      rw [h6] at hown
      exact ⟨_, rfl, Strs.of_owns hown rfl, hB⟩
end Go.Proofs.YtpadcjcoafidgaaGreatDoor
/-! A range over a function whose iterator keeps a state of its own in cells: what an iterator owes, and the law for its caller. Over any program, at the wide fence. -/
namespace Go.Proofs.YtpadcjcoafidgaaGreatDoor
open Go.RowKit

/-- WHAT AN ITERATOR OWES: it may turn the world by Tur between two rounds, and asks of a round that goes on that Kp holds from its begin to its end. -/
def SeqT {α : Type} (n : Nat) (P : Program) (g : Nat) (lb : Array Value) (encs : α → Array Value) (Tur Kp : World → World → Prop) (S Sp : List α → Prop) (N : Nat) (w : World) : Prop :=
  ∀ (l : Nat) (J Jx : List α → World → Prop) (W : World), Below w.heap.size w W → (∀ s A B, J s A → Tur A B → J s B) → (∀ s A B, Jx s A → Tur A B → Jx s B) →
    (∀ pre x W1, J pre W1 → pre.length < N → YieldAt Fence.wide (n - 1) P l (encs x) W1 fun e W' =>
      (e = .returned (.bool true) ∧ J (pre ++ [x]) W' ∧ Kp W1 W') ∨ (e = .returned (.bool false) ∧ Jx (pre ++ [x]) W')) →
    J [] W →
    CallsIn Fence.wide n P g (#[.func (.yield l) #[] #[]] ++ lb) W fun e W' => (∃ v, e = .returned v) ∧ ((∃ xs, S xs ∧ J xs W') ∨ (∃ pre, Sp pre ∧ Jx pre W'))

section
variable {n : Nat} {P : Program}

/-- How a body may be left. -/
def leftT {α : Type} (B : Nat) (Kp : World → World → Prop) (I : List α → World → Prop) (Ix : Code → List α → World → Prop) (xs : List α) (W : World) : Exit → Act → World → Prop
  | .normal, _, W' => KeepsFrom B W W' ∧ Kp W W' ∧ I xs W'
  | .ret, _, W' => KeepsFrom B W W' ∧ Ix .ret xs W'
  | .exit id, _, W' => KeepsFrom B W W' ∧ Ix (.exit id) xs W'
  | .goto t, _, W' => KeepsFrom B W W' ∧ Ix (.goto t) xs W'
  | .panic _, _, _ => False
  | .outgrown, _, _ => False

/-- THE LAW FOR THE CALLER. -/
theorem wpIn_rangeT {α : Type} {g : Operand} {ps : Array Tmp} {assign body : Code} {Q : Exit → Act → World → Prop} {a : Act} {w w0 : World}
    (h1 : 1 ≤ n) {gf : Nat} {lb : Array Value} (hg : a.eval g = .func (.func gf) #[] lb) (eg : ∀ args w, (callFunc gf args).run P w = .ok (.enter gf args) w)
    {encs : α → Array Value} (hps : ∀ x, (encs x).size = ps.size) {Tur Kp : World → World → Prop} {S Sp : List α → Prop} {N : Nat} (hseq : SeqT (n - 1) P gf lb encs Tur Kp S Sp N w0) (hb0 : Below w0.heap.size w0 w)
    (hTk : ∀ (A B : World) (k : Nat) (o : Obj), Tur A B → A.heap[k]? = some o → o.isCells = false → o.isWalk = false → B.heap[k]? = some o)
    (hKt : ∀ {A B C : World}, Kp A B → Kp B C → Kp A C) (hKb : ∀ (W : World) (l : Nat) (o o' : Obj), w.heap.size ≤ l → W.heap[l]? = some o → o.isCells = false → o.isWalk = false → Kp W (W.putObj l o'))
    (I : List α → World → Prop) (Ix : Code → List α → World → Prop) (hI : OwnFrom w.heap.size I) (hIx : ∀ c, OwnFrom w.heap.size (Ix c)) (hIT : ∀ s A B, I s A → Tur A B → I s B) (hIxT : ∀ c s A B, Ix c s A → Tur A B → Ix c s B)
    (h0 : I [] w) (Ax : α → Act → World → Prop) (hAx : ∀ x a', OwnFrom w.heap.size (fun (_ : Unit) W => Ax x a' W))
    (hassign : ∀ (l : Nat) (pre : List α) (x : α) (W : World) (K : Act → World → Prop), I pre W → (∀ a' W', KeepsFrom w.heap.size W W' → Kp W W' → I pre W' → Ax x a' W' → K a' W') →
      assign.wpIn (Fence.wide.inRound l) (n - 1 - 1) P (Exit.then K (fun _ _ _ => False)) { tmps := (ps.zip (encs x)).foldl (fun t (p, v) => t.setIfInBounds p v) a.tmps, defers := [] } W)
    (hbody : ∀ (l : Nat) (pre : List α) (x : α) (a' : Act) (W : World), I pre W → Ax x a' W → pre.length < N → body.wpIn (Fence.wide.inRound l) (n - 1 - 1) P (leftT w.heap.size Kp I Ix (pre ++ [x]) W) a' W)
    (hdone : ∀ (D : Nat) (xs : List α) (W : World), w.heap.size ≤ D → S xs → I xs W → W.heap[D]? = some (.deferred (some [])) → Q .normal { a with defers := { target := .collected D, args := #[] } :: a.defers } W)
    (hstop : ∀ (D : Nat) (c : Code) (pre : List α) (W : World), w.heap.size ≤ D → Sp pre → Ix c pre W → W.heap[D]? = some (.deferred (some [])) → c.wpIn Fence.wide n P Q { a with defers := { target := .collected D, args := #[] } :: a.defers } W) :
    (Code.rangeFunc g ps assign body).wpIn Fence.wide n P Q a w := by
  refine wpIn_rangeFunc fun fn hfn => ?_
  -- the loop's record, in whatever state
  obtain ⟨rec, hrec⟩ : ∃ rec : LoopState → Option Code → Loop, rec = fun st pe => { state := st, pending := pe, fn, tmps := a.tmps, params := ps, assign, body, defers := w.heap.size } := ⟨_, rfl⟩
  have hr0 : ∀ st pe, (rec st pe).params = ps ∧ (rec st pe).state = st ∧ (rec st pe).pending = pe := by intro st pe; rw [hrec]; exact ⟨rfl, rfl, rfl⟩
  let R := w.heap.size + 1
  -- a world in which both blocks of the loop lie as they should
  let Lies : LoopState → Option Code → World → Prop := fun st pe W => W.heap[R]? = some (.loop (rec st pe)) ∧ W.heap[w.heap.size]? = some (.deferred (some []))
  have lieT : ∀ st pe A B, Lies st pe A → Tur A B → Lies st pe B := fun st pe A B h t => ⟨hTk _ _ _ _ t h.1 rfl rfl, hTk _ _ _ _ t h.2 rfl rfl⟩
  have lieK : ∀ st pe A B, Lies st pe A → KeepsFrom w.heap.size A B → Lies st pe B := fun st pe A B h k => ⟨k.same R _ (by omega) h.1 rfl, k.same _ _ (Nat.le_refl _) h.2 rfl⟩
  have lieP : ∀ st pe st' pe' A, Lies st pe A → Lies st' pe' (A.putObj R (.loop (rec st' pe'))) := fun st pe st' pe' A h =>
    ⟨World.putObj_heap_same (Array.getElem?_eq_some_iff.1 h.1).1, (World.putObj_heap_other (by omega)).trans h.2⟩
  have put : ∀ {β : Type} {J : β → World → Prop} {s : β} {st : LoopState} {pe : Option Code} {A : World} (o : Obj), OwnFrom w.heap.size J → Lies st pe A → J s A → J s (A.putObj R o) := fun o hJ h hs => hJ.putObj o hs (by omega) h.1 rfl
  have hb1 : Below w0.heap.size w0 ((w.alloc (.deferred (some []))).alloc (.loop (rec .ready none))) := ((hb0.alloc hb0.size _).alloc (by have := hb0.size; simp; omega) _)
  have hL1 : Lies .ready none ((w.alloc (.deferred (some []))).alloc (.loop (rec .ready none))) := by
    refine ⟨?_, (Below.heap_alloc _ _ _ (by simp)).trans (World.alloc_heap_new w _)⟩
    have := World.alloc_heap_new (w.alloc (.deferred (some []))) (.loop (rec .ready none))
    rwa [World.size_alloc] at this
  have hI1 : I [] ((w.alloc (.deferred (some []))).alloc (.loop (rec .ready none))) := hI.alloc _ (hI.alloc _ h0)
  obtain ⟨W1, hW1⟩ : ∃ W1, (w.alloc (.deferred (some []))).alloc (.loop (rec .ready none)) = W1 := ⟨_, rfl⟩
  rw [hW1] at hb1 hL1 hI1
  refine ⟨R, [{ target := .collected w.heap.size, args := #[] }], W1, { target := .fn (.func gf) lb, args := #[.func (.yield R) #[] #[]] }, W1, gf, #[.func (.yield R) #[] #[]] ++ lb, W1, ?_, ?_, fun _ _ => trivial, ?_, fun _ => h1, ?_⟩
  · rw [← hW1, hrec]; exact run_enterLoop_outer _ _ _ _ _
  · simp only [resolve, hg]
    simp [go_sem]
  · simp [invoke, go_sem, eg]
  refine (hseq R (fun pre W => I pre W ∧ Lies .ready none W) (fun pre W => ∃ c, Ix c pre W ∧ Lies .done (some c) W) W1 hb1
    (fun s A B h t => ⟨hIT s A B h.1 t, lieT _ _ A B h.2 t⟩) (fun s A B h t => h.elim fun c h => ⟨c, hIxT c s A B h.1 t, lieT _ _ A B h.2 t⟩) ?_ ⟨hI1, hL1⟩).mono ?_
  · -- one round
    rintro pre x W ⟨hi, hl⟩ hlen
    have hy := run_yield (P := P) (args := encs x) hl.1 (by rw [(hr0 _ _).1]; exact hps x)
    rw [hrec] at hy
    refine ⟨fn, _, assign, body, hy, roundIn_of_wpIn hfn (hassign _ pre x W _ hi fun a' Wa hka hpa hia hax => ?_)⟩
    have hla := lieK _ _ _ _ hl hka
    refine ⟨_, run_beginRound hla.1 (hr0 _ _).2.1, ?_⟩
    have e1 : ({ rec .ready none with state := .busy } : Loop) = rec .busy none := by rw [hrec]
    rw [e1]
    have hlb := lieP _ _ .busy none _ hla
    have hkb : Kp Wa (Wa.putObj R (.loop (rec .busy none))) := hKb _ _ _ _ (by omega) hla.1 rfl rfl
    refine wpIn_mono (hbody _ pre x a' _ (put _ hI hla hia) (put (s := ()) _ (hAx x a') hla hax) hlen) fun e a3 W3 hp => ?_
    have fin : ∀ (jump : Option Code), KeepsFrom w.heap.size (Wa.putObj R (.loop (rec .busy none))) W3 →
        (Instr.endRound R jump).run P W3 = .ok (.bool jump.isNone) (W3.putObj R (.loop (rec (if jump.isNone then .ready else .done) jump))) ∧ Lies .busy none W3 ∧ Lies (if jump.isNone then .ready else .done) jump (W3.putObj R (.loop (rec (if jump.isNone then .ready else .done) jump))) := fun jump hk3 => by
      have hl3 := lieK _ _ _ _ hlb hk3
      have := run_endRound (P := P) jump hl3.1
      have e2 : ({ rec .busy none with state := if jump.isNone then .ready else .done, pending := jump } : Loop) = rec (if jump.isNone then .ready else .done) jump := by rw [hrec]
      rw [e2] at this
      exact ⟨this, hl3, lieP _ _ _ _ _ hl3⟩
    cases e with
    | normal =>
      obtain ⟨hk3, hp3, hi3⟩ := hp
      obtain ⟨hr, hl3, hl4⟩ := fin none hk3
      exact ⟨_, _, hr, .inl ⟨rfl, ⟨put _ hI hl3 hi3, hl4⟩, hKt hpa (hKt hkb (hKt hp3 (hKb _ _ _ _ (by omega) hl3.1 rfl rfl)))⟩⟩
    | ret =>
      obtain ⟨hr, hl3, hl4⟩ := fin (some .ret) hp.1
      exact ⟨_, _, hr, .inr ⟨rfl, .ret, put _ (hIx _) hl3 hp.2, hl4⟩⟩
    | exit id =>
      obtain ⟨hr, hl3, hl4⟩ := fin (some (.exit id)) hp.1
      exact ⟨_, _, hr, .inr ⟨rfl, .exit id, put _ (hIx _) hl3 hp.2, hl4⟩⟩
    | goto t =>
      obtain ⟨hr, hl3, hl4⟩ := fin (some (.goto t)) hp.1
      exact ⟨_, _, hr, .inr ⟨rfl, .goto t, put _ (hIx _) hl3 hp.2, hl4⟩⟩
    | panic ch => exact hp.elim
    | outgrown => exact hp.elim
  · -- behind the iterator
    rintro e W2 ⟨⟨v, rfl⟩, ⟨xs, hS, hi, hl⟩ | ⟨pre, hSp, c, hi, hl⟩⟩
    · exact ⟨none, _, by have := run_endLoop (P := P) hl.1 (by rw [(hr0 _ _).2.1]; simp); rw [(hr0 _ _).2.2] at this; exact this, hdone _ xs _ (Nat.le_refl _) hS (put _ hI hl hi) ((World.putObj_heap_other (by omega)).trans hl.2)⟩
    · exact ⟨some c, _, by have := run_endLoop (P := P) hl.1 (by rw [(hr0 _ _).2.1]; simp); rw [(hr0 _ _).2.2] at this; exact this, hstop _ c pre _ (Nat.le_refl _) hSp (put _ (hIx c) hl hi) ((World.putObj_heap_other (by omega)).trans hl.2)⟩
end
end Go.Proofs.YtpadcjcoafidgaaGreatDoor
