/- prop.Forms: the parts of a form between the signs. -/
import Derived.Test.YtpadcjcoafidgaaGreatDoorSplit
import Derived.Test.YtpadcjcoafidgaaGreatDoorSl
namespace Go.Proofs.YtpadcjcoafidgaaGreatDoor
open Go.RowKit Go.Shelf

attribute [local go_sem] Oper.semAt_some

/-- 'l = append(l, s)', one string, within a fence. -/
theorem wpListIn_append_str {F : Fence} {n : Nat} {P : Program} {w : World} {ops : Array Oper} {rest : List Oper} {o : Oper} {a : Act} {Q : Exit → Act → World → Prop} (hgd : o.guard = none) (s x : Operand) (t e : TypeId)
    (ho : o.op = .call { callee := .builtin .append, args := #[s, x], argTypes := #[t, t] })
    (base : Nat) (ht : P.underlying t = some (.slice e)) (hinfo : (P.info? e).map (fun i => (i.zero, i.size, i.bytes)) = some (some (.string ⟨#[]⟩), 1, 16))
    (v : Value) (l : List ByteArray) (z : ByteArray) (hs : a.eval s = v) (hown : w.ownsRow base e 1 v l.length (l.map Value.string))
    (g : Nat) (hx : a.eval x = .slice (some ⟨g, 0, none⟩) 1 1) (hcell : w.cell? ⟨g, 0, none⟩ = some (.string z))
    (hlen : l.length ≤ 4294967295) (hbase : base ≤ w.heap.size)
    (h : ∀ v' w', w'.ownsRow base e 1 v' (l ++ [z]).length ((l ++ [z]).map Value.string) → w.grownBy w' v.ownBlock → v' ≠ .slice none 0 0 → wpListIn F n P ops Q rest (a.put o.dst v') w') : wpListIn F n P ops Q (o :: rest) a w := by
  obtain ⟨i0, hi, hz0, hz1, hz2⟩ := info_parts hinfo
  refine wpListIn_append_own w hgd s x t ho base e i0 (.string ⟨#[]⟩) 1 16 ht hi hz0 hz1 hz2 rfl (by decide) v l.length _ hs hown ⟨g, 0, none⟩ 1 1 [.string z] hx rfl ?_ ?_ ?_ ?_ hbase ?_
  · intro j u hj
    cases j with
    | zero => simp only [List.getElem?_cons_zero, Option.some.injEq] at hj; subst hj; exact hcell
    | succ j => simp at hj
  · intro u hu; simp only [List.mem_singleton] at hu; subst hu; rfl
  · unfold maxLen; omega
  · omega
  · intro v' w' h1 h2 h3
    refine h v' w' (by simpa using h1) h2 (fun e => ?_)
    have := h3.1 e
    omega

theorem infoStr' : (Tryz.prog.info? 9).map (fun i => (i.zero, i.size, i.bytes)) = some (some (.string ⟨#[]⟩), 1, 16) := by kernel_rfl

/-- strings.SplitSeq at the sign: three boxes, and the function value over them. -/
theorem SplitSeq_bar (s : ByteArray) (w : World) :
    Calls Tryz.prog 92 #[.string s, .string ⟨#[124]⟩] w fun e w' => e = .returned (.func (.func 159) #[] #[.pointer (some ⟨w.heap.size + 1, 0, none⟩), .pointer (some ⟨w.heap.size, 0, none⟩), .pointer (some ⟨w.heap.size + 2, 0, none⟩)]) ∧
      w' = ((w.alloc (.cells #[.string s] 9)).alloc (.cells #[.string ⟨#[124]⟩] 9)).alloc (.cells #[.int .i64 0] 3) := by
  go_enter Tryz.func92, Tryz.ntmps92
  go_wp2
  go_ret
  exact ⟨rfl, rfl⟩

/-- The list that grows, in its box: in rows from n₀ on. -/
def GrowsIn (n₀ B : Nat) (t e : TypeId) (pre : List ByteArray) (W : World) : Prop := ∃ v, Boxed W B t v ∧ W.ownsRow n₀ e 1 v pre.length (pre.map Value.string) ∧ True
theorem growsIn_own (n₀ B : Nat) (t e : TypeId) : Own (GrowsIn n₀ B t e) := holdsRow_own n₀ B t e 1 (fun pre : List ByteArray => pre.length) (fun pre => pre.map Value.string) (fun _ _ => True)
theorem GrowsIn.set {n₀ B : Nat} {t e : TypeId} {pre : List ByteArray} {A : World} (h : GrowsIn n₀ B t e pre A) {b : Nat} (hb : B ≠ b) (hn : b < n₀) (u : Value) : GrowsIn n₀ B t e pre (A.setCell ⟨b, 0, none⟩ u) := by
  obtain ⟨v, h1, h2, h3⟩ := h
  exact ⟨v, h1.other hb u, ownsRow_setCell_below h2 hn u, h3⟩
theorem keepsFrom_below {B : Nat} {A C : World} (h : Below A.heap.size A C) : KeepsFrom B A C := ⟨h.size, fun k _ _ hk _ => (h.block k (Array.getElem?_eq_some_iff.1 hk).1).trans hk⟩

set_option maxRecDepth 100000 in
set_option maxHeartbeats 2000000 in
theorem Forms_any (x y f : ByteArray) (i : Bool) (hf : f.size ≤ 4294967290) (w : World) :
    Calls Tryz.prog 53 #[.agg #[.string x, .string y, .bool i, .string f]] w fun e w' => ∃ v, e = .returned v ∧ Strs w.heap.size w' v (parts f) ∧ Below w.heap.size w w' := by
  have hN := parts_length f
  refine (callsIn_wide (n := 9)).1 ?_
  refine callsIn_of_wp_marks Tryz.func53 rfl trivial ?_ rfl
  simp only [Tryz.ntmps53, List.size_toArray, List.length_cons, List.length_nil, Nat.reduceAdd, Nat.reduceSub, Array.replicate_succ, Array.replicate_zero, List.push_toArray, List.append_toArray, List.nil_append, List.cons_append]
  gi_wp2_with fail
  refine ⟨trivial, callsIn_wide.2 ((SplitSeq_bar _ _).mono ?_)⟩
  rintro e w' ⟨rfl, rfl⟩
  obtain ⟨W0, hW0⟩ : ∃ W0, ((((w.alloc (.cells #[.string x, .string y, .bool i, .string f] 39)).alloc (.cells #[.slice none 0 0] 42)).alloc (.cells #[.string f] 9)).alloc (.cells #[.string ⟨#[124]⟩] 9)).alloc (.cells #[.int .i64 0] 3) = W0 := ⟨_, rfl⟩
  have bL : Boxed W0 (w.heap.size + 1) 42 (.slice none 0 0) := by
    rw [← hW0]
    have := (((Boxed.new (w.alloc (.cells #[.string x, .string y, .bool i, .string f] 39)) 42 (.slice none 0 0)).alloc (.cells #[.string f] 9)).alloc (.cells #[.string ⟨#[124]⟩] 9)).alloc (.cells #[.int .i64 0] 3)
    simpa using this
  have bS : SplitAt W0 (w.heap.size + 1 + 1) f := by
    rw [← hW0]
    refine ⟨?_, ?_, ?_⟩
    · have := ((Boxed.new ((w.alloc (.cells #[.string x, .string y, .bool i, .string f] 39)).alloc (.cells #[.slice none 0 0] 42)) 9 (.string f)).alloc (.cells #[.string ⟨#[124]⟩] 9)).alloc (.cells #[.int .i64 0] 3)
      simpa using this
    · have := (Boxed.new (((w.alloc (.cells #[.string x, .string y, .bool i, .string f] 39)).alloc (.cells #[.slice none 0 0] 42)).alloc (.cells #[.string f] 9)) 9 (.string ⟨#[124]⟩)).alloc (.cells #[.int .i64 0] 3)
      simpa using this
    · have := Boxed.new ((((w.alloc (.cells #[.string x, .string y, .bool i, .string f] 39)).alloc (.cells #[.slice none 0 0] 42)).alloc (.cells #[.string f] 9)).alloc (.cells #[.string ⟨#[124]⟩] 9)) 3 (.int .i64 0)
      simpa using this
  have hB0 : Below w.heap.size w W0 := by
    rw [← hW0]
    exact (((((Below.refl _ w).alloc (Nat.le_refl _) _).alloc (by simp) _).alloc (by simp; omega) _).alloc (by simp; omega) _).alloc (by simp; omega) _
  have hsz : W0.heap.size = w.heap.size + 5 := by rw [← hW0]; simp
  rw [hW0]
  clear hW0
  gi_wp2_with fail
  refine wpIn_rangeT (by omega) (gf := 159) (lb := #[.pointer (some ⟨w.heap.size + 1 + 1 + 1, 0, none⟩), .pointer (some ⟨w.heap.size + 1 + 1, 0, none⟩), .pointer (some ⟨w.heap.size + 1 + 1 + 2, 0, none⟩)]) rfl (enters_of Tryz.func159 (by kernel_rfl) rfl)
    (fun _ => rfl) (split1_stops 8 (w.heap.size + 1 + 1) f (by unfold maxLen; omega) W0 bS) (Below.refl _ _)
    (fun A B k o ⟨u, hu⟩ hk ho _ => by rw [hu]; exact (KeepsOthers.setCell A _ u).same k o hk ho)
    (fun h k j h1 h2 => (k j h1 h2).trans (h j h1 h2)) (fun W l o o' hl _ _ _ j _ hj => World.putObj_heap_other (by omega))
    (fun pre W => GrowsIn W0.heap.size (w.heap.size + 1) 42 9 pre W ∧ Below w.heap.size w W ∧ W0.heap.size ≤ W.heap.size)
    (fun _ _ _ => False)
    ?hI (fun _ _ _ _ _ hs _ _ => hs) ?hIT (fun _ _ _ _ hs _ => hs)
    ⟨⟨_, bL, World.ownsRow_nil _ _ _ _, trivial⟩, hB0, Nat.le_refl _⟩
    (fun s a' _ => a' = { tmps := #[.agg #[.string x, .string y, .bool i, .string f], .pointer (some ⟨w.heap.size, 0, none⟩), .slice none 0 0, .pointer (some ⟨w.heap.size + 1, 0, none⟩), .string s, .pointer (some ⟨w.heap.size, 3, none⟩), .string f,
      .func (.func 159) #[] #[.pointer (some ⟨w.heap.size + 1 + 1 + 1, 0, none⟩), .pointer (some ⟨w.heap.size + 1 + 1, 0, none⟩), .pointer (some ⟨w.heap.size + 1 + 1 + 2, 0, none⟩)], .string s, undef, undef, undef, undef, undef], defers := [] })
    (fun _ _ _ _ _ _ hs _ _ => hs) ?assign ?body ?done ?stop
  case hI => exact OwnFrom.and (Own.from (growsIn_own _ _ _ _) _) (OwnFrom.and (ownFrom_below (Nat.le_refl _) (by omega)) (fun _ _ _ _ hs hg _ => Nat.le_trans hs hg.size))
  case hIT =>
    rintro pre A B ⟨h1, h2, h3⟩ ⟨u, rfl⟩
    exact ⟨h1.set (by omega) (by omega) u, h2.setCell (p := ⟨w.heap.size + 1 + 1, 0, none⟩) (by simp; omega) u, by simpa [World.setCell] using h3⟩
  case assign =>
    rintro l pre s W K hi hK
    gi_wp2_with fail
    exact hK _ _ (KeepsFrom.refl _ _) (fun _ _ _ => rfl) hi rfl
  case body =>
    rintro l pre s a' W ⟨⟨v, h1, h2, _⟩, h3, h4⟩ rfl hlen
    have c1 := h1.cell
    have f1 := h1.frozen
    gi_wp2_with (gi_at_builtin; refine wpListIn_append_str rfl _ _ 42 9 rfl W0.heap.size Tryz.underlying42 infoStr' _ pre s rfl (h2.alloc _) W.heap.size rfl (by simp) (by omega) (by simp; omega) ?_; intro v' w1 hown' hgrow0 hne; have hgrow : (W.alloc (.cells #[.string s] 9)).grownBy w1 v.ownBlock := hgrow0; rw [List.length_append, List.length_singleton] at hown'; obtain ⟨g', cap', rfl⟩ := ownsRow_shape hown' hne; have hv1 := (h1.alloc (.cells #[.string s] 9)).kept hgrow (ownsRow_other h2 (by omega)); have hc1 := hv1.cell; have hf1 := hv1.frozen)
    have hB1 : Below W0.heap.size W w1 := ((Below.refl _ W).alloc h4 _).grown hgrow (by simp; omega) (fun j e => (h2.lt j e).1)
    have hK1 : KeepsFrom W0.heap.size W w1 := by
      refine ((KeepsOthers.alloc W (.cells #[.string s] 9)).trans (KeepsOthers.of_grownBy hgrow fun j o ej hj => ?_)).from _
      rcases (h2.alloc (.cells #[.string s] 9)).2 with ⟨rfl, _⟩ | ⟨g, cap, cur, rfl, _, hgb, _⟩
      · simp [Value.ownBlock] at ej
      · obtain rfl : g = j := by simpa [Value.ownBlock] using ej
        rw [hgb] at hj; cases hj; rfl
    refine ⟨hK1.trans ((KeepsOthers.setCell _ _ _).from _), fun j j1 j2 => ?_, ⟨_, hv1.set _, by rw [List.length_append, List.length_singleton]; exact ownsRow_setCell_below hown' (a := ⟨w.heap.size + 1, 0, none⟩) (by simp; omega) _, trivial⟩, ?_, ?_⟩
    · rw [Below.heap_setCell _ _ _ _ (by simp; omega), hB1.block j (by omega)]
    · exact (h3.trans (hB1.mono hB0.size)).setCell (p := ⟨w.heap.size + 1, 0, none⟩) (by simp) _
    · have := hB1.size
      simp [World.setCell]
      omega
  case done =>
    rintro D xs W hD rfl ⟨⟨v, h1, h2, _⟩, h3, _⟩ hK
    have c1 := h1.cell
    gi_wp2_with fail
    refine ⟨by simp, .inl ⟨_, _, rfl, run_takeDeferred hK, ?_⟩⟩
    refine ⟨_, results_tmp rfl _ _ _, v, rfl, ?_, h3.trans (belowK_b (w := w) (Nat.le_refl _) _ D _ _ (by omega) hK rfl rfl)⟩
    have hrow := h2.kept (grownBy_putObj' W D (.deferred none)) (by
      rcases h2.2 with ⟨rfl, _⟩ | ⟨g, cap, cur, rfl, _, hgb, _⟩
      · exact .inl rfl
      · refine .inr fun e' => ?_
        obtain rfl : g = D := by simpa [Value.ownBlock] using e'
        rw [hgb] at hK; cases hK)
    exact (Strs.of_owns hrow rfl).base (by omega)
  case stop =>
    rintro D c pre W _ _ h _
    exact h.elim
end Go.Proofs.YtpadcjcoafidgaaGreatDoor
