/- Slices of values; slices.Clone; parse.Trim. -/
import Derived.Test.YtpadcjcoafidgaaGreatDoorTokens
namespace Go.Proofs.YtpadcjcoafidgaaGreatDoor
open Go.RowKit

/-- A value: its token, and the slice of its kids. -/
structure Val where
  tok : Tok
  ka : Option Addr
  kn : Nat
  kc : Nat
def Val.row (x : Val) : List Value := x.tok.row ++ [.slice x.ka x.kn x.kc]
def Val.val (x : Val) : Value := .agg x.row.toArray
theorem Val.row_one (t : Val) : ∀ u ∈ t.row, u.oneCell' = true := by
  intro u hu
  simp only [Val.row, List.mem_append, List.mem_singleton] at hu
  rcases hu with hu | rfl
  · exact t.tok.row_one u hu
  · rfl
theorem vRows_len (l : List Val) : ∀ r ∈ l.map Val.row, r.length = 6 := by
  intro r hr
  obtain ⟨t, _, rfl⟩ := List.mem_map.1 hr
  rfl
/-- The values that a slice holds. -/
def Vs (w : World) (v : Value) (l : List Val) : Prop :=
  ∃ a cap, v = .slice a l.length cap ∧ l.length ≤ cap ∧ l.length ≤ 100000 ∧
    (l ≠ [] → ∃ b off, a = some ⟨b, off, none⟩ ∧ b < w.heap.size ∧ ∀ (i : Nat) (hi : i < l.length) (j : Nat) (x : Value), l[i].row[j]? = some x → w.cell? ⟨b, off + i * 6 + j, none⟩ = some x)
theorem Vs.below {C : Nat} {w w' : World} {v : Value} {l : List Val} (h : Vs w v l) (hb : Below C w w') (hC : w.heap.size ≤ C) : Vs w' v l := by
  obtain ⟨a, cap, hv, hl, hl2, hr⟩ := h
  refine ⟨a, cap, hv, hl, hl2, fun hne => ?_⟩
  obtain ⟨b, off, ha, hlt, hc⟩ := hr hne
  exact ⟨b, off, ha, Nat.lt_of_lt_of_le hlt hb.size, fun i hi j x hx => (hb.cell (p := ⟨b, _, none⟩) (Nat.lt_of_lt_of_le hlt hC)).trans (hc i hi j x hx)⟩
theorem Vs.next {w w' : World} {v : Value} {l : List Val} (h : Vs w v l) (hb : Below w.heap.size w w') : Vs w' v l := h.below hb (Nat.le_refl _)
theorem Vs.of_owns {w : World} {B e : Nat} {v : Value} {l : List Val} (h : w.ownsRow B e 6 v (l.map Val.row).length (l.map Val.row).flatten) (hl : l.length ≤ 100000) : Vs w v l := by
  obtain ⟨_, ⟨hv, h0⟩ | ⟨g, cap, cur, hv, hg, hh, hcap, hmax, hsz, htake⟩⟩ := h
  · rw [List.length_map] at h0
    have : l = [] := List.eq_nil_of_length_eq_zero h0
    subst this
    exact ⟨none, 0, hv, Nat.le_refl _, hl, fun h => absurd rfl h⟩
  · rw [List.length_map] at hv hcap
    refine ⟨_, cap, hv, hcap, hl, fun _ => ⟨g, 0, rfl, (Array.getElem?_eq_some_iff.1 hh).1, fun i hi j x hx => ?_⟩⟩
    have h2 := flatten_get (m := 6) (l.map Val.row) i j x (vRows_len l) (by simpa [hi] using hx)
    rw [← htake, List.getElem?_take] at h2
    have h3 : cur.toList[i * 6 + j]? = some x := by
      split at h2
      · exact h2
      · cases h2
    simp only [World.cell?, hh, Nat.zero_add]
    simpa using h3
theorem Vs.len {w : World} {v : Value} {l : List Val} (h : Vs w v l) : l.length ≤ 100000 := by
  obtain ⟨_, _, _, _, h, _⟩ := h
  exact h
theorem infoVal : (Tryz.prog.info? 26).map (fun i => (i.zero, i.size, i.bytes)) = some (some (.agg #[.int .i64 0, .string ⟨#[]⟩, .string ⟨#[]⟩, .bool false, .bool false, .slice none 0 0]), 6, 72) := by kernel_rfl
/-- The cells of all values, one behind the other. -/
theorem flat_cells {w : World} {b off : Nat} {l : List Val} (hc : ∀ (i : Nat) (hi : i < l.length) (j : Nat) (x : Value), l[i].row[j]? = some x → w.cell? ⟨b, off + i * 6 + j, none⟩ = some x) :
    ∀ (j : Nat) (u : Value), (l.map Val.row).flatten[j]? = some u → w.cell? ((⟨b, off, none⟩ : Addr).add j) = some u := by
  have key : ∀ (l : List Val) (off : Nat), (∀ (i : Nat) (hi : i < l.length) (j : Nat) (x : Value), l[i].row[j]? = some x → w.cell? ⟨b, off + i * 6 + j, none⟩ = some x) → ∀ (j : Nat) (u : Value), (l.map Val.row).flatten[j]? = some u → w.cell? ⟨b, off + j, none⟩ = some u := by
    intro l
    induction l with
    | nil => intro off _ j u h; simp at h
    | cons a l ih =>
      intro off hc j u h
      rw [List.map_cons, List.flatten_cons, List.getElem?_append] at h
      split at h
      · have := hc 0 (by simp) j u (by simpa using h)
        simpa using this
      · rename_i hj
        have hl : a.row.length = 6 := rfl
        rw [hl] at hj h
        have := ih (off + 6) (fun i hi j x hx => by
          have := hc (i + 1) (by simpa using hi) j x (by simpa using hx)
          rw [show off + 6 + i * 6 + j = off + (i + 1) * 6 + j by omega]; exact this) (j - 6) u h
        rw [show off + 6 + (j - 6) = off + j by omega] at this
        exact this
  intro j u h
  have hadd : (⟨b, off, none⟩ : Addr).add j = ⟨b, off + j, none⟩ := by unfold Addr.add; split <;> simp only [*, Nat.add_zero]
  rw [hadd]
  exact key l off hc j u h
theorem flat_len (l : List Val) : (l.map Val.row).flatten.length = l.length * 6 := by
  induction l with
  | nil => rfl
  | cons a l ih =>
    rw [List.map_cons, List.flatten_cons, List.length_append, ih, List.length_cons]
    have hl : a.row.length = 6 := rfl
    omega
theorem flat_one (l : List Val) : ∀ u ∈ (l.map Val.row).flatten, u.oneCell' = true := by
  intro u hu
  obtain ⟨r, hr, hu⟩ := List.mem_flatten.1 hu
  obtain ⟨t, _, rfl⟩ := List.mem_map.1 hr
  exact t.row_one u hu
theorem eql_nil (a : Option Addr) (l c : Nat) (w : World) : (binOp .eql 24 (.slice a l c) (.slice none 0 0)).run Tryz.prog w = .ok (.bool a.isNone) w := by
  simp only [binOp]
  simp [run_equal_slice_nil w 24 26 a l c Tryz.underlying24]
set_option maxRecDepth 100000 in
set_option maxHeartbeats 1000000 in
theorem Clone_any (w : World) (v : Value) (l : List Val) (h : Vs w v l) :
    Calls Tryz.prog 91 #[v] w fun e w' => ∃ V, e = .returned V ∧ Vs w' V l ∧ Below w.heap.size w w' := by
  obtain ⟨i0, hi, hz0, hz1, hz2⟩ := info_parts infoVal
  obtain ⟨a, cap, rfl, hcap, hl, hr⟩ := h
  cases a with
  | none =>
    have hl0 : l = [] := by
      cases l with
      | nil => rfl
      | cons x l =>
        obtain ⟨b, off, ha, _⟩ := hr (by simp)
        cases ha
    subst hl0
    clear hr
    go_enter Tryz.func91, Tryz.ntmps91
    go_wp2_with fail
    rw [eql_nil]
    go_wp2_with fail
    go_ret
    exact ⟨_, rfl, ⟨none, 0, rfl, Nat.zero_le _, Nat.zero_le _, fun h => absurd rfl h⟩, Below.refl _ _⟩
  | some ad =>
    have hcells : ∀ (j : Nat) (u : Value), (l.map Val.row).flatten[j]? = some u → w.cell? (ad.add j) = some u ∧ (ad.add j).block < w.heap.size := by
      intro j u hu
      have hne : l ≠ [] := by intro e; subst e; simp at hu
      obtain ⟨b, off, ha, hlt, hc⟩ := hr hne
      cases ha
      refine ⟨flat_cells hc j u hu, ?_⟩
      unfold Addr.add
      split <;> exact hlt
    have HC := Lib.hid hcells
    clear hcells hr
    go_enter Tryz.func91, Tryz.ntmps91
    go_wp2_with fail
    rw [eql_nil]
    go_wp2_with (at_builtin; refine wpList_append_own _ rfl _ _ 24 rfl w.heap.size 26 i0 (.agg #[.int .i64 0, .string ⟨#[]⟩, .string ⟨#[]⟩, .bool false, .bool false, .slice none 0 0]) 6 72 Tryz.underlying24 hi hz0 hz1 hz2 rfl (by decide) (.slice (some ⟨w.heap.size, 0, none⟩) 0 0) 0 [] rfl ⟨rfl, .inr ⟨w.heap.size, 0, #[], rfl, Nat.le_refl _, heap_alloc_new _ _, Nat.le_refl _, by decide, rfl, rfl⟩⟩ ad l.length cap (l.map Val.row).flatten rfl (flat_len l) (fun j u hu => (World.cell?_alloc_lt _ _ _ (HC.out j u hu).2).trans (HC.out j u hu).1) (flat_one l) (by unfold maxLen; omega) (by omega) (by simp) ?_; intro v' w1 hown hgrow hne)
    go_ret
    refine ⟨v', rfl, Vs.of_owns (by simpa using hown) hl, (bAlloc1 w _).grown hgrow (by simp) (fun j e => by simp [Value.ownBlock] at e; omega)⟩
end Go.Proofs.YtpadcjcoafidgaaGreatDoor
