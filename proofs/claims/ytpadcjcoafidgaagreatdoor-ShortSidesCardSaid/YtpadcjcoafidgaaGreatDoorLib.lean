/- Laws over any program that the other texts of this seat share: a run of builds of constants in one step, an array's element, a new block whose cells were set. -/
import Derived.WalkKit
import Derived.WalkSpells
import Derived.WalkLawsBesides
namespace Go.Proofs.YtpadcjcoafidgaaGreatDoor
open Go.RowKit

/-- Draws turn no block. -/
theorem bDrew {B : Nat} {a w : World} (h : Below B a w) (n : Nat) : Below B a (w.drewN n) := h.trans ⟨rfl, rfl, rfl, Nat.le_refl _, fun _ _ => rfl⟩
/-- One build of a composite literal, as a computed step of the frame. -/
def pureStep (P : Program) (a : Act) (o : Oper) : Option Act :=
  match o.guard, o.op with
  | none, .build t parts => (P.built t (parts.map fun (i, x) => (i, a.eval x)).toList).map fun c => a.put o.dst (.agg c)
  | _, _ => none

theorem wpList_builds {P : Program} {ops : Array Oper} {Q : Exit → Act → World → Prop} {w : World} {rest : List Oper} : ∀ (l : List Oper) (a a' : Act),
    l.foldlM (pureStep P) a = some a' → wpList P ops Q rest a' w → wpList P ops Q (l ++ rest) a w
  | [], a, a', h, k => by simp at h; subst h; exact k
  | o :: l, a, a', h, k => by
    simp only [List.foldlM_cons, Option.bind_eq_bind, Option.bind_eq_some_iff] at h
    obtain ⟨a1, h1, h2⟩ := h
    unfold pureStep at h1
    split at h1
    · rename_i hg hop
      obtain ⟨c, hc, rfl⟩ := Option.map_eq_some_iff.1 h1
      refine wpList_build hg _ _ hop (by rw [hc]; rfl) ?_
      rw [hc]
      exact wpList_builds l _ _ h2 k
    · cases h1

/-- The first n operations are builds: the walk goes on behind them. -/
theorem wpList_builds_at {P : Program} {ops : Array Oper} {Q : Exit → Act → World → Prop} {w : World} (n : Nat) {l : List Oper} {a a' : Act}
    (h : (l.take n).foldlM (pureStep P) a = some a') (k : wpList P ops Q (l.drop n) a' w) : wpList P ops Q l a w := by
  have := wpList_builds (l.take n) a a' h k
  rwa [List.take_append_drop] at this

/-- One operation whose run is known. -/
theorem wpList_exec1 {P : Program} {ops : Array Oper} {Q : Exit → Act → World → Prop} {w w' : World} {rest : List Oper} {o : Oper} {a : Act} {v : Value} (hg : o.guard = none)
    (h : (execOp a.eval o).run P w = .ok (.value v) w') (k : wpList P ops Q rest (a.put o.dst v) w') : wpList P ops Q (o :: rest) a w :=
  wpList_plain hg fun K hK => by
    unfold Oper.wp
    rw [h]
    exact hK _ _ k

/-- A new block that is set whole is the block of what it was set to. -/
theorem setRow_alloc_new (w : World) (a b : Array Value) (t : TypeId) : (w.alloc (.cells a t)).setRow w.heap.size b = w.alloc (.cells b t) := by
  unfold World.setRow World.alloc
  congr 1
  apply Array.ext
  · simp
  · intro i h1 h2
    simp only [Array.getElem_modify, Array.getElem_push]
    by_cases hi : i < w.heap.size
    · simp [hi, show ¬ w.heap.size = i by omega]
    · have : i = w.heap.size := by simp at h1; omega
      subst this
      simp

theorem bytes_ext {a b : ByteArray} (h : a.toList = b.toList) : a = b := by
  rw [ByteArray.toList_eq, ByteArray.toList_eq] at h
  cases a
  cases b
  simp only at h
  rw [Array.toList_inj.1 h]
theorem bytes_ne {a b : ByteArray} (h : a ≠ b) : (a.toList == b.toList) = false := by
  rw [beq_eq_false_iff_ne]
  exact fun e => h (bytes_ext e)

/-- A cell of a new block. -/
theorem cells_new1 (w : World) (cs : List Value) (t : TypeId) (B : Nat) (hB : B = w.heap.size) : ∀ (j : Nat) (u : Value), cs[j]? = some u → (w.alloc (.cells cs.toArray t)).cell? ((⟨B, 0, none⟩ : Addr).add j) = some u := by
  subst hB
  intro j u h
  have hadd : (⟨w.heap.size, 0, none⟩ : Addr).add j = ⟨w.heap.size, j, none⟩ := by unfold Addr.add; split <;> simp_all
  rw [hadd]
  have hn := heap_alloc_new w (.cells cs.toArray t)
  simp only [World.cell?, hn]
  simpa using h
theorem cells_new2 (w : World) (A : Obj) (cs : List Value) (t : TypeId) : ∀ (j : Nat) (u : Value), cs[j]? = some u → ((w.alloc A).alloc (.cells cs.toArray t)).cell? ((⟨w.heap.size + 1, 0, none⟩ : Addr).add j) = some u :=
  cells_new1 (w.alloc A) cs t (w.heap.size + 1) (by simp)

/-- 'xs[i]' of an array by value whose elements are structs of m cells each: the i-th row. -/
theorem run_index_rows {P : Program} {w : World} (t e n m : Nat) (rows : List (List Value)) (k : IntKind) (i : Nat) (ie : TypeInfo) (fs : Array Field) (ht : P.underlying t = some (.array n e))
    (he : P.underlying e = some (.struct fs)) (hie : P.info? e = some ie) (hm : ie.size = m) (hrows : ∀ r ∈ rows, r.length = m) (hn : rows.length = n) (hi : i < n) :
    (Instr.index t (.agg rows.flatten.toArray) (.int k i)).run P w = .ok (.agg (rows[i]?.getD []).toArray) w := by
  subst hm hn
  have hex : ∀ (rows : List (List Value)) (i : Nat), (∀ r ∈ rows, r.length = ie.size) → i < rows.length → (rows.flatten.drop (i * ie.size)).take ie.size = rows[i]?.getD [] := by
    intro rows
    induction rows with
    | nil => intro i _ h; simp at h
    | cons r rows ih =>
      intro i hr h
      cases i with
      | zero =>
        simp only [Nat.zero_mul, List.drop_zero, List.flatten_cons, List.getElem?_cons_zero, Option.getD_some]
        rw [List.take_append_of_le_length (by rw [hr r (by simp)]; exact Nat.le_refl _), List.take_of_length_le (by rw [hr r (by simp)]; exact Nat.le_refl _)]
      | succ i =>
        have hl := hr r (by simp)
        rw [List.flatten_cons, List.drop_append, List.drop_eq_nil_of_le (by rw [hl, Nat.succ_mul]; omega), List.nil_append]
        rw [show (i + 1) * ie.size - r.length = i * ie.size from by rw [hl, Nat.succ_mul]; omega]
        simp only [List.getElem?_cons_succ]
        exact ih i (fun x hx => hr x (by simp [hx])) (by simp at h; omega)
  have h1 := hex rows i hrows hi
  have hlt : (i : Int) < (rows.length : Int) := by omega
  simp only [Instr.index, asIntOf, Sem.run_bind, Sem.run_pure, Result.andThen_ok, run_underlying ht]
  simp only [part, isAgg, sizeOf, typeInfo, Sem.run_bind, run_underlying he, hlt, Int.natCast_nonneg, and_self, if_true, Result.andThen_ok, Sem.run_pure, Int.toNat_natCast]
  rw [← h1]
  simp [hie]

end Go.Proofs.YtpadcjcoafidgaaGreatDoor
