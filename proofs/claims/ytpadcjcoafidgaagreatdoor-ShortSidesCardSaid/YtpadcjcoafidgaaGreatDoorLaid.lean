/- From what a listed package-level variable reads as, to its cells: data of bools, whole numbers and strings in structs and arrays. Over any program. -/
import Derived.Test.YtpadcjcoafidgaaGreatDoorSl
import Derived.Lib.LaidTab
import Derived.Stop.LaidErr
namespace Go.Proofs.YtpadcjcoafidgaaGreatDoor
open Go.RowKit Go.Lib

/-- Where a struct's fields lie, one behind the other. -/
def inRow (P : Program) : Nat → List Field → Bool
  | _, [] => true
  | off, f :: fs => f.offset == off && inRow P (off + P.cellsOf f.type) fs
def sumCells (P : Program) (fs : List Field) : Nat := (fs.map fun f => P.cellsOf f.type).sum

/-- THE CELLS OF A PLAIN DATUM AT A TYPE. -/
def plainAt (P : Program) : Nat → TypeId → DataW Unit → Option (List Value)
  | 0, _, _ => none
  | fuel + 1, t, d =>
    match P.underlying t, d with
    | some .bool, .lit (.bool b) => some [.bool b]
    | some (.int k), .lit (.int k' n) => if k' = k then some [.int k n] else none
    | some .string, .lit (.string l) => some [.string ⟨l.toArray⟩]
    | some (.struct fs), .agg ds => if inRow P 0 fs.toList = true ∧ sumCells P fs.toList = P.cellsOf t then ((fs.toList.zip ds).mapM fun x => plainAt P fuel x.1.type x.2).map List.flatten else none
    | some (.array n e), .agg ds => if n * P.cellsOf e = P.cellsOf t then (ds.mapM (plainAt P fuel e)).map List.flatten else none
    | _, _ => none

theorem pieces_struct {P : Program} {g : TypeId → List Value → Option (DataW Unit × List MemPlace)} {h : TypeId → DataW Unit → Option (List Value)} (hg : ∀ t cs d p cs', g t cs = some (d, p) → h t d = some cs' → cs = cs') (cs : List Value) :
    ∀ (fs : List Field) (off : Nat) (xs : List (DataW Unit × List MemPlace)) (ys : List (List Value)), inRow P off fs = true → off + sumCells P fs = cs.length →
      (fs.mapM fun f => g f.type ((cs.drop f.offset).take (P.cellsOf f.type))) = some xs → ((fs.zip (xs.map (·.1))).mapM fun x => h x.1.type x.2) = some ys → cs.drop off = ys.flatten
  | [], off, xs, ys, _, hl, hx, hy => by
    simp [sumCells] at hl hx
    subst hx
    simp at hy
    subst hy
    simp; omega
  | f :: fs, off, xs, ys, hr, hl, hx, hy => by
    simp only [inRow, Bool.and_eq_true, beq_iff_eq] at hr
    obtain ⟨ho, hr⟩ := hr
    simp only [List.mapM_cons, Option.bind_eq_bind, Option.bind_eq_some_iff, Option.pure_def, Option.some.injEq] at hx
    obtain ⟨x, hx1, xs', hx2, rfl⟩ := hx
    simp only [List.map_cons, List.zip_cons_cons, List.mapM_cons, Option.bind_eq_bind, Option.bind_eq_some_iff, Option.pure_def, Option.some.injEq] at hy
    obtain ⟨y, hy1, ys', hy2, rfl⟩ := hy
    have h1 := hg _ _ _ _ _ hx1 hy1
    have h2 := pieces_struct hg cs fs (off + P.cellsOf f.type) xs' ys' hr (by simp only [sumCells, List.map_cons, List.sum_cons] at hl; unfold sumCells; omega) hx2 hy2
    rw [ho] at h1
    rw [List.flatten_cons, ← h1, ← h2, ← List.drop_drop, List.take_append_drop]
theorem pieces_array {m : Nat} {g : List Value → Option (DataW Unit × List MemPlace)} {h : DataW Unit → Option (List Value)} (hg : ∀ cs d p cs', g cs = some (d, p) → h d = some cs' → cs = cs') (cs : List Value) :
    ∀ (n a : Nat) (xs : List (DataW Unit × List MemPlace)) (ys : List (List Value)), (a + n) * m = cs.length →
      ((List.range' a n).mapM fun i => g ((cs.drop (i * m)).take m)) = some xs → ((xs.map (·.1)).mapM h) = some ys → cs.drop (a * m) = ys.flatten
  | 0, a, xs, ys, hl, hx, hy => by
    simp at hl hx
    subst hx
    simp at hy
    subst hy
    simp; omega
  | n + 1, a, xs, ys, hl, hx, hy => by
    simp only [List.range'_succ, List.mapM_cons, Option.bind_eq_bind, Option.bind_eq_some_iff, Option.pure_def, Option.some.injEq] at hx
    obtain ⟨x, hx1, xs', hx2, rfl⟩ := hx
    simp only [List.map_cons, List.mapM_cons, Option.bind_eq_bind, Option.bind_eq_some_iff, Option.pure_def, Option.some.injEq] at hy
    obtain ⟨y, hy1, ys', hy2, rfl⟩ := hy
    have h1 := hg _ _ _ _ hx1 hy1
    have h2 := pieces_array hg cs n (a + 1) xs' ys' (by rw [← hl]; congr 1; omega) hx2 hy2
    rw [List.flatten_cons, ← h1, ← h2, Nat.succ_mul, ← List.drop_drop, List.take_append_drop]

/-- WHAT READS AS A PLAIN DATUM HOLDS ITS CELLS. -/
theorem trod_plain {P : Program} {w : World} {base : Nat} {sp : Nat → Bool} : ∀ (fuel : Nat) (t : TypeId) (cs : List Value) (d : DataW Unit) (p : List MemPlace) (fuel' : Nat) (cs' : List Value),
    DataW.trod (fun _ => ()) P w base sp false fuel t cs = some (d, p) → plainAt P fuel' t d = some cs' → cs = cs'
  | 0, t, cs, d, p, fuel', cs', h, _ => by simp [DataW.trod] at h
  | fuel + 1, t, cs, d, p, 0, cs', _, h' => by simp [plainAt] at h'
  | fuel + 1, t, cs, d, p, fuel' + 1, cs', h, h' => by
    have ih := fun t cs d p cs' => trod_plain (P := P) (w := w) (base := base) (sp := sp) fuel t cs d p fuel' cs'
    unfold plainAt at h'
    split at h'
    · rename_i b hu
      unfold DataW.trod at h
      rw [hu] at h
      split at h <;> simp_all
    · rename_i k k' n hu
      split at h'
      · unfold DataW.trod at h
        rw [hu] at h
        split at h <;> simp_all
      · cases h'
    · rename_i l hu
      unfold DataW.trod at h
      rw [hu] at h
      split at h <;> simp_all
      obtain ⟨_, rfl, _⟩ := h
      rw [← h']
    · rename_i fs ds hu
      split at h'
      · rename_i hc
        unfold DataW.trod at h
        rw [hu] at h
        simp only at h
        split at h
        · rename_i hl
          obtain ⟨xs, hx, he⟩ := Option.map_eq_some_iff.1 h
          obtain ⟨ys, hy, rfl⟩ := Option.map_eq_some_iff.1 h'
          simp only [Prod.mk.injEq, DataW.agg.injEq] at he
          obtain ⟨rfl, _⟩ := he
          have := pieces_struct (g := DataW.trod (fun _ => ()) P w base sp false fuel) (h := plainAt P fuel') ih cs fs.toList 0 xs ys hc.1 (by omega) hx hy
          simpa using this
        · cases h
      · cases h'
    · rename_i n e ds hu
      split at h'
      · rename_i hc
        unfold DataW.trod at h
        rw [hu] at h
        simp only at h
        split at h
        · rename_i hl
          obtain ⟨xs, hx, he⟩ := Option.map_eq_some_iff.1 h
          obtain ⟨ys, hy, rfl⟩ := Option.map_eq_some_iff.1 h'
          simp only [Prod.mk.injEq, DataW.agg.injEq] at he
          obtain ⟨rfl, _⟩ := he
          rw [List.range_eq_range'] at hx
          have := pieces_array (m := P.cellsOf e) (g := DataW.trod (fun _ => ()) P w base sp false fuel e) (h := plainAt P fuel' e) (ih e) cs n 0 xs ys (by rw [hl, ← hc]; congr 1; omega) hx hy
          simpa using this
        · cases h
      · cases h'
    · cases h'

/-- One listed variable's reading. -/
theorem laidVars_reads {P : Program} {w : World} : ∀ {l : List (String × DataW Unit)} {ps : List MemPlace}, DataW.LaidVars P w l ps → ∀ n d, (n, d) ∈ l →
    ∃ g t cs fuel p, P.globalNamed n = some g ∧ (P.globals[g]?).map (·.type) = some t ∧ w.var? P n = some cs ∧ DataW.trod (fun _ => ()) P w 0 (fun _ => true) false fuel t cs.toList = some (d, p)
  | [], _, _, _, _, hm => by cases hm
  | (n', d') :: r, ps, h, n, d, hm => by
    obtain ⟨g, t, cs, fuel, p, q, h1, h2, h3, h4, h5, _⟩ := h
    rcases List.mem_cons.1 hm with e | e
    · cases e
      exact ⟨g, t, cs, fuel, p, h1, h2, h3, h4⟩
    · exact laidVars_reads h5 n d e
/-- THE CELLS OF A LISTED VARIABLE. -/
theorem var_of_laid {P : Program} {w : World} {l : List (String × DataW Unit)} (h : laidMet P l w) {n : String} {d : DataW Unit} (hm : (n, d) ∈ l) {g : Nat} {t : TypeId} (hg : P.globalNamed n = some g) (ht : (P.globals[g]?).map (·.type) = some t)
    (fuel : Nat) {cs : List Value} (hp : plainAt P fuel t d = some cs) : ∃ ty fr, w.heap[g]? = some (.cells cs.toArray ty fr) := by
  obtain ⟨_, hv, _⟩ := h
  obtain ⟨g', t', cs', fuel', p, h1, h2, h3, h4⟩ := laidVars_reads hv n d hm
  obtain rfl : g = g' := Option.some.inj (hg.symm.trans h1)
  obtain rfl : t = t' := Option.some.inj (ht.symm.trans h2)
  have := trod_plain fuel' t cs'.toList d p fuel cs h4 hp
  subst this
  unfold World.var? at h3
  rw [hg] at h3
  simp only [Option.bind_some] at h3
  split at h3
  · rename_i c ty fr hh
    simp only [Option.some.injEq] at h3
    subst h3
    exact ⟨ty, fr, by simpa using hh⟩
  · cases h3
end Go.Proofs.YtpadcjcoafidgaaGreatDoor
