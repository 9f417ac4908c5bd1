/- Slices as lists of rows of cells: what a call hands back and a caller reads; how one grows by append. Over any program. -/
import Derived.Test.YtpadcjcoafidgaaGreatDoorLib
namespace Go.Proofs.YtpadcjcoafidgaaGreatDoor
open Go.RowKit

/-- THE SLICE VALUE v HOLDS THE ROWS, each of m cells, in a block from B on. -/
def Rws (B : Nat) (w : World) (m : Nat) (v : Value) (rows : List (List Value)) : Prop :=
  ∃ a cap, v = .slice a rows.length cap ∧ rows.length ≤ maxLen ∧
    (rows ≠ [] → ∃ b off, a = some ⟨b, off, none⟩ ∧ B ≤ b ∧ b < w.heap.size ∧ ∀ (i j : Nat) (x : Value), (rows[i]?.getD [])[j]? = some x → w.cell? ⟨b, off + i * m + j, none⟩ = some x)

theorem Rws.nil (B : Nat) (w : World) (m : Nat) : Rws B w m (.slice none 0 0) [] := ⟨none, 0, rfl, Nat.zero_le _, fun h => absurd rfl h⟩
theorem Rws.below {B C m : Nat} {w w' : World} {v : Value} {rows : List (List Value)} (h : Rws B w m v rows) (hb : Below C w w') (hC : w.heap.size ≤ C) : Rws B w' m v rows := by
  obtain ⟨a, cap, hv, hl, hr⟩ := h
  refine ⟨a, cap, hv, hl, fun hne => ?_⟩
  obtain ⟨b, off, ha, hB, hlt, hc⟩ := hr hne
  exact ⟨b, off, ha, hB, Nat.lt_of_lt_of_le hlt hb.size, fun i j x hx => (hb.cell (p := ⟨b, _, none⟩) (Nat.lt_of_lt_of_le hlt hC)).trans (hc i j x hx)⟩
theorem Rws.base {B B' m : Nat} {w : World} {v : Value} {rows : List (List Value)} (h : Rws B w m v rows) (hB : B' ≤ B) : Rws B' w m v rows := by
  obtain ⟨a, cap, hv, hl, hr⟩ := h
  refine ⟨a, cap, hv, hl, fun hne => ?_⟩
  obtain ⟨b, off, ha, hb, hlt, hc⟩ := hr hne
  exact ⟨b, off, ha, Nat.le_trans hB hb, hlt, hc⟩
/-- What is kept but for one block of the caller's own that lies elsewhere. -/
theorem Rws.kept {B m : Nat} {w w' : World} {v : Value} {rows : List (List Value)} {row : Option Nat} (h : Rws B w m v rows) (hg : w.grownBy w' row) (hr : ∀ k, row = some k → k < B) : Rws B w' m v rows := by
  obtain ⟨a, cap, hv, hl, hc⟩ := h
  refine ⟨a, cap, hv, hl, fun hne => ?_⟩
  obtain ⟨b, off, ha, hB, hlt, hc⟩ := hc hne
  refine ⟨b, off, ha, hB, Nat.lt_of_lt_of_le hlt hg.size, fun i j x hx => ?_⟩
  have hblk : w'.heap[b]? = w.heap[b]? := hg.block b hlt (fun e => by have := hr b e.symm; omega)
  exact (World.cell?_of_block (w := w) (a := ⟨b, _, none⟩) hblk).trans (hc i j x hx)
theorem flatten_get {m : Nat} : ∀ (rows : List (List Value)) (i j : Nat) (x : Value), (∀ r ∈ rows, r.length = m) → (rows[i]?.getD [])[j]? = some x → rows.flatten[i * m + j]? = some x
  | [], i, j, x, _, h => by simp at h
  | r :: rows, 0, j, x, hr, h => by
    have hj : j < r.length := by
      simp only [List.getElem?_cons_zero, Option.getD_some] at h
      exact (List.getElem?_eq_some_iff.1 h).1
    simp only [Nat.zero_mul, Nat.zero_add, List.flatten_cons]
    rw [List.getElem?_append_left hj]
    simpa using h
  | r :: rows, i + 1, j, x, hr, h => by
    have hl := hr r (by simp)
    rw [List.flatten_cons, List.getElem?_append_right (by rw [hl, Nat.succ_mul]; omega), show (i + 1) * m + j - r.length = i * m + j from by rw [hl, Nat.succ_mul]; omega]
    exact flatten_get rows i j x (fun y hy => hr y (by simp [hy])) (by simpa using h)
/-- What the call owns is such a slice. -/
theorem Rws.of_owns {B e m : Nat} {w : World} {v : Value} {n : Nat} {xs : List Value} {rows : List (List Value)} (h : w.ownsRow B e m v n xs) (hx : xs = rows.flatten) (hn : rows.length = n) (hm : ∀ r ∈ rows, r.length = m) : Rws B w m v rows := by
  subst hx hn
  obtain ⟨_, h | ⟨g, cap, cur, hv, hg, hh, hcap, hmax, hsz, htake⟩⟩ := h
  · obtain ⟨hv, h0⟩ := h
    exact ⟨none, 0, by rw [hv, h0], by omega, fun hne => absurd (List.eq_nil_of_length_eq_zero h0) hne⟩
  · refine ⟨some ⟨g, 0, none⟩, cap, hv, by omega, fun _ => ⟨g, 0, rfl, hg, (Array.getElem?_eq_some_iff.1 hh).1, fun i j x hx => ?_⟩⟩
    have h2 := flatten_get rows i j x hm hx
    rw [← htake] at h2
    have h3 : cur.toList[i * m + j]? = some x := by
      rw [List.getElem?_take] at h2
      split at h2
      · exact h2
      · cases h2
    simp only [World.cell?, hh, Nat.zero_add]
    simpa using h3
theorem Rws.len {B m : Nat} {w : World} {v : Value} {rows : List (List Value)} (h : Rws B w m v rows) : rows.length ≤ maxLen := by
  obtain ⟨_, _, _, h, _⟩ := h
  exact h
/-- A beginning and an end cut off: 'xs[i:j]' in the spelling of the model. -/
theorem Rws.shape {B m : Nat} {w : World} {v : Value} {rows : List (List Value)} (h : Rws B w m v rows) (hne : rows ≠ []) : ∃ b off cap, v = .slice (some ⟨b, off, none⟩) rows.length cap ∧ B ≤ b ∧ b < w.heap.size ∧
    ∀ (i j : Nat) (x : Value), (rows[i]?.getD [])[j]? = some x → w.cell? ⟨b, off + i * m + j, none⟩ = some x := by
  obtain ⟨a, cap, hv, _, hc⟩ := h
  obtain ⟨b, off, rfl, hB, hlt, hc⟩ := hc hne
  exact ⟨b, off, cap, hv, hB, hlt, hc⟩

/-! ### Slices of strings -/
def sRows (l : List ByteArray) : List (List Value) := l.map fun s => [Value.string s]
theorem sRows_len (l : List ByteArray) : ∀ r ∈ sRows l, r.length = 1 := by
  intro r hr
  obtain ⟨x, _, rfl⟩ := List.mem_map.1 hr
  rfl
theorem sRows_flatten (l : List ByteArray) : (sRows l).flatten = l.map Value.string := by
  induction l with
  | nil => rfl
  | cons a l ih => simpa [sRows] using ih
abbrev Strs (B : Nat) (w : World) (v : Value) (l : List ByteArray) : Prop := Rws B w 1 v (sRows l)
theorem Strs.of_owns {B e : Nat} {w : World} {v : Value} {n : Nat} {l : List ByteArray} (h : w.ownsRow B e 1 v n (l.map Value.string)) (hn : l.length = n) : Strs B w v l :=
  Rws.of_owns h (sRows_flatten l).symm (by simp [sRows, hn]) (sRows_len l)
/-- What a slice of strings looks like where it has an element. -/
theorem Strs.at {B : Nat} {w : World} {v : Value} {l : List ByteArray} (h : Strs B w v l) (hne : l ≠ []) : ∃ b off cap, v = .slice (some ⟨b, off, none⟩) l.length cap ∧ B ≤ b ∧ b < w.heap.size ∧
    ∀ (i : Nat) (hi : i < l.length), w.cell? ⟨b, off + i, none⟩ = some (.string l[i]) := by
  obtain ⟨b, off, cap, hv, hB, hlt, hc⟩ := h.shape (by intro e; exact hne (List.map_eq_nil_iff.1 e))
  refine ⟨b, off, cap, by simpa [sRows] using hv, hB, hlt, fun i hi => ?_⟩
  have := hc i 0 (.string l[i]) (by simp [sRows, hi])
  simpa using this
theorem Strs.val {B : Nat} {w : World} {v : Value} {l : List ByteArray} (h : Strs B w v l) : ∃ a cap, v = .slice a l.length cap ∧ l.length ≤ maxLen := by
  obtain ⟨a, cap, hv, hl, _⟩ := h
  simp only [sRows, List.length_map] at hv hl
  exact ⟨a, cap, hv, hl⟩

/-- A new block of strings is a slice of them. -/
theorem Strs.new (w : World) (l : List ByteArray) (t : TypeId) (hl : l.length ≤ maxLen) : Strs w.heap.size (w.alloc (.cells (l.map Value.string).toArray t)) (.slice (some ⟨w.heap.size, 0, none⟩) l.length l.length) l := by
  refine ⟨some ⟨w.heap.size, 0, none⟩, l.length, by simp [sRows], by simpa [sRows] using hl, fun _ => ⟨w.heap.size, 0, rfl, Nat.le_refl _, by simp, fun i j x hx => ?_⟩⟩
  have h2 := flatten_get (m := 1) (sRows l) i j x (sRows_len l) hx
  rw [sRows_flatten] at h2
  have hn := heap_alloc_new w (.cells (l.map Value.string).toArray t)
  simp only [World.cell?, hn, Nat.zero_add]
  simpa using h2
/-- What the call owns stays owned where only what lies from C on turns. -/
theorem ownsRow_below {w w' : World} {B C : Nat} {e : TypeId} {m : Nat} {v : Value} {n : Nat} {xs : List Value} (h : w.ownsRow B e m v n xs) (hb : Below C w w') (hC : w.heap.size ≤ C) : w'.ownsRow B e m v n xs := by
  obtain ⟨h1, h2⟩ := h
  refine ⟨h1, ?_⟩
  rcases h2 with h2 | ⟨g, cap, cur, hv, hg, hh, r⟩
  · exact Or.inl h2
  · have hlt : g < w.heap.size := (Array.getElem?_eq_some_iff.1 hh).1
    exact Or.inr ⟨g, cap, cur, hv, hg, by rw [hb.block g (by omega)]; exact hh, r⟩

theorem ownsRow_shape {w : World} {B : Nat} {e : TypeId} {m : Nat} {v : Value} {n : Nat} {xs : List Value} (h : w.ownsRow B e m v n xs) (hne : v ≠ .slice none 0 0) : ∃ g cap, v = .slice (some ⟨g, 0, none⟩) n cap := by
  obtain ⟨_, ⟨hv, _⟩ | ⟨g, cap, _, hv, _⟩⟩ := h
  · exact absurd hv hne
  · exact ⟨g, cap, hv⟩
theorem ownsRow_other {w : World} {B : Nat} {e : TypeId} {m : Nat} {v : Value} {n : Nat} {xs : List Value} (h : w.ownsRow B e m v n xs) {k : Nat} (hk : k < B) : some k ≠ v.ownBlock := by
  intro e'
  have := (h.lt k e'.symm).1
  omega

/-- 'l = append(l, s)', one string, l nil or the call's own. -/
theorem wpList_append_str {P : Program} {w : World} {ops : Array Oper} {rest : List Oper} {o : Oper} {a : Act} {Q : Exit → Act → World → Prop} (hgd : o.guard = none) (s x : Operand) (t e : TypeId)
    (ho : o.op = .call { callee := .builtin .append, args := #[s, x], argTypes := #[t, t] })
    (base : Nat) (ht : P.underlying t = some (.slice e)) (hinfo : (P.info? e).map (fun i => (i.zero, i.size, i.bytes)) = some (some (.string ⟨#[]⟩), 1, 16))
    (v : Value) (l : List ByteArray) (z : ByteArray) (hs : a.eval s = v) (hown : w.ownsRow base e 1 v l.length (l.map Value.string))
    (g : Nat) (hx : a.eval x = .slice (some ⟨g, 0, none⟩) 1 1) (hcell : w.cell? ⟨g, 0, none⟩ = some (.string z))
    (hlen : l.length ≤ 4294967295) (hbase : base ≤ w.heap.size)
    (h : ∀ v' w', w'.ownsRow base e 1 v' (l ++ [z]).length ((l ++ [z]).map Value.string) → w.grownBy w' v.ownBlock → v' ≠ .slice none 0 0 → wpList P ops Q rest (a.put o.dst v') w') : wpList P ops Q (o :: rest) a w := by
  obtain ⟨i0, hi, hz0, hz1, hz2⟩ := info_parts hinfo
  refine wpList_append_own w hgd s x t ho base e i0 (.string ⟨#[]⟩) 1 16 ht hi hz0 hz1 hz2 rfl (by decide) v l.length _ hs hown ⟨g, 0, none⟩ 1 1 [.string z] hx rfl ?_ ?_ ?_ ?_ hbase ?_
  · intro j u hj
    cases j with
    | zero => simp only [List.getElem?_cons_zero, Option.some.injEq] at hj; subst hj; exact hcell
    | succ j => simp at hj
  · intro u hu; simp only [List.mem_singleton] at hu; subst hu; rfl
  · unfold maxLen; omega
  · omega
  · intro v' w' h1 h2 h3
    refine h v' w' (by simpa using h1) h2 (fun e => ?_)
    have := h3.1 e
    omega
end Go.Proofs.YtpadcjcoafidgaaGreatDoor
