/- Texts of this seat, laid together: Reader, Writer, Name, While, Counts, Toks, Word, Hash, Number. -/
import Derived.Test.YtpadcjcoafidgaaGreatDoorShelf
import Derived.Test.YtpadcjcoafidgaaGreatDoorRows
import Derived.Test.YtpadcjcoafidgaaGreatDoorK1
import Derived.BigQuiet
import Derived.IntWalk
import Derived.Deep.QuietTactic
import Derived.Laws.BitsAllLaws
import Derived.Laws.Cover4
/-! The reader of tokens: what stands in its two cells; peek, over, escape. -/
namespace Go.Proofs.YtpadcjcoafidgaaGreatDoor
open Go.RowKit

def at_ (rs : List Int) (k : Nat) : Int := rs[k]?.getD (-1)
theorem at_of {rs : List Int} {k : Nat} (h : k < rs.length) : at_ rs k = rs[k] := by simp [at_, h]
theorem at_end {rs : List Int} {k : Nat} (h : rs.length ≤ k) : at_ rs k = -1 := by simp [at_, h]
/-- The runes that a slice value holds, in a block below B. -/
def Rn (B : Nat) (w : World) (v : Value) (rs : List Int) : Prop :=
  ∃ p off cap, v = .slice (some ⟨p, off, none⟩) rs.length cap ∧ rs.length ≤ cap ∧ p < B ∧ ∀ (k : Nat) (h : k < rs.length), w.cell? ⟨p, off + k, none⟩ = some (.int .i32 rs[k])
/-- The reader in block b stands at i of the runes. -/
structure Rd (w : World) (b : Nat) (rv : Value) (rs : List Int) (i : Nat) : Prop where
  c0 : w.cell? ⟨b, 0, none⟩ = some rv
  c1 : w.cell? ⟨b, 0 + 1, none⟩ = some (.int .i64 (i : Int))
  f1 : w.frozen? ⟨b, 0 + 1, none⟩ = false
  le : i ≤ rs.length
  big : rs.length ≤ 4294967295
  rn : Rn b w rv rs
/-- Below B, but for block b, the world is as it was. -/
structure But (B b : Nat) (w w' : World) : Prop where
  os : w'.os = w.os
  tape : w'.tape = w.tape
  output : w'.output = w.output
  size : w.heap.size ≤ w'.heap.size
  block : ∀ k, k < B → k ≠ b → w'.heap[k]? = w.heap[k]?
theorem But.of {B b : Nat} {w w' : World} (h : Below B w w') : But B b w w' := ⟨h.os, h.tape, h.output, h.size, fun k hk _ => h.block k hk⟩
theorem But.trans {B b : Nat} {u v w : World} (h : But B b u v) (k : But B b v w) : But B b u w :=
  ⟨k.os.trans h.os, k.tape.trans h.tape, k.output.trans h.output, Nat.le_trans h.size k.size, fun i hi hn => (k.block i hi hn).trans (h.block i hi hn)⟩
theorem But.mono {B B' b : Nat} {w w' : World} (h : But B b w w') (hB : B' ≤ B) : But B' b w w' := ⟨h.os, h.tape, h.output, h.size, fun k hk => h.block k (Nat.lt_of_lt_of_le hk hB)⟩
theorem But.below {B B' b : Nat} {w w' : World} (h : But B b w w') (hB : B' ≤ B) (hb : B' ≤ b) : Below B' w w' := ⟨h.os, h.tape, h.output, h.size, fun k hk => h.block k (Nat.lt_of_lt_of_le hk hB) (by omega)⟩
theorem But.next {b : Nat} {w u v : World} (h : But w.heap.size b w u) (k : But u.heap.size b u v) : But w.heap.size b w v := h.trans (k.mono h.size)
theorem But.set {B b : Nat} {w u : World} (h : But B b w u) (k : Nat) (x : Value) : But B b w (u.setCell ⟨b, k, none⟩ x) :=
  h.trans ⟨rfl, rfl, rfl, by simp [World.setCell], fun i _ hn => Below.heap_setCell _ _ _ _ hn⟩
theorem Rn.kept {B b C : Nat} {w w' : World} {v : Value} {rs : List Int} (h : Rn B w v rs) (hb : But C b w w') (hC : w.heap.size ≤ C) (hB : B ≤ b) : Rn B w' v rs := by
  obtain ⟨p, off, cap, hv, hc, hp, hcell⟩ := h
  refine ⟨p, off, cap, hv, hc, hp, fun k hk => ?_⟩
  have h1 := hcell k hk
  have hlt : p < w.heap.size := World.block_lt_of_cell? w _ h1
  exact (World.cell?_of_block (w := w) (a := ⟨p, _, none⟩) (hb.block p (by omega) (by omega))).trans h1
theorem Rd.below {w w' : World} {b C : Nat} {rv : Value} {rs : List Int} {i : Nat} (h : Rd w b rv rs i) (hb : Below C w w') (hC : w.heap.size ≤ C) : Rd w' b rv rs i := by
  have hlt : b < C := Nat.lt_of_lt_of_le (World.block_lt_of_cell? w _ h.c0) hC
  exact ⟨(hb.cell (p := ⟨b, _, none⟩) hlt).trans h.c0, (hb.cell (p := ⟨b, _, none⟩) hlt).trans h.c1, (hb.frozen (p := ⟨b, _, none⟩) hlt).trans h.f1, h.le, h.big, h.rn.kept (But.of hb) hC (Nat.le_refl _)⟩
theorem Rd.next {w w' : World} {b : Nat} {rv : Value} {rs : List Int} {i : Nat} (h : Rd w b rv rs i) (hb : Below w.heap.size w w') : Rd w' b rv rs i := h.below hb (Nat.le_refl _)
theorem Rd.store {w : World} {b : Nat} {rv : Value} {rs : List Int} {i : Nat} (h : Rd w b rv rs i) (j : Nat) (x : Int) (hx : x = (j : Int)) (hj : j ≤ rs.length) : Rd (w.setCell ⟨b, 1, none⟩ (.int .i64 x)) b rv rs j := by
  subst hx
  exact ⟨by rw [World.cell?_setCell_other _ _ _ _ (by simp)]; exact h.c0, World.cell?_setCell_same _ _ _ h.c1, by simp [h.f1], hj, h.big, h.rn.kept ((But.of (Below.refl _ _)).set _ _) (Nat.le_refl _) (Nat.le_refl _)⟩


set_option maxHeartbeats 800000 in
theorem peek_any (w : World) (b : Nat) (rv : Value) (rs : List Int) (i n : Nat) (h : Rd w b rv rs i) (hn : n ≤ 1000) :
    Calls Tryz.prog 122 #[.pointer (some ⟨b, 0, none⟩), .int .i64 (n : Int)] w fun e w' => (e = .returned (.int .i32 (at_ rs (i + n)))) ∧ Below w.heap.size w w' := by
  obtain ⟨h0, h1, -, hle, hbig, p, off, cap, rfl, hcap, hp, hcell⟩ := h
  have hw1 : IntKind.i64.wrap ((rs.length : Int) - (i : Int)) = (rs.length : Int) - (i : Int) := Go.IntWalk.i64_in _ (by omega)
  have hw2 : IntKind.i64.wrap ((i : Int) + (n : Int)) = ((i + n : Nat) : Int) := by rw [Go.IntWalk.i64_in _ (by omega)]; omega
  by_cases hlt : i + n < rs.length
  · have hcell' := hcell (i + n) hlt
    clear hcell
    have q1 : (0 : Int) ≤ ((i + n : Nat) : Int) := by omega
    have q2 : ((i + n : Nat) : Int) < (rs.length : Int) := by omega
    have q3 : ¬ ((rs.length : Int) - (i : Int) ≤ (n : Int)) := by omega
    rw [at_of hlt]
    go_enter Tryz.func122, Tryz.ntmps122
    go_wp2_with fail
    go_quiet (fail)
    go_wp2_with fail
    go_quiet (fail)
    go_wp2_with fail
    go_ret
    exact ⟨rfl, bDrew (bDrew (Below.refl _ _) _) _⟩
  · clear hcell
    have q3 : (rs.length : Int) - (i : Int) ≤ (n : Int) := by omega
    rw [at_end (by omega)]
    go_enter Tryz.func122, Tryz.ntmps122
    go_wp2_with fail
    go_quiet (fail)
    go_wp2_with fail
    go_ret
    exact ⟨rfl, bDrew (Below.refl _ _) _⟩

set_option maxHeartbeats 800000 in
theorem over_any (w : World) (b : Nat) (rv : Value) (rs : List Int) (i : Nat) (h : Rd w b rv rs i) :
    Calls Tryz.prog 86 #[.pointer (some ⟨b, 0, none⟩)] w fun e w' => (e = .returned (.bool (decide (rs.length ≤ i)))) ∧ Below w.heap.size w w' := by
  obtain ⟨h0, h1, -, hle, hbig, p, off, cap, rfl, hcap, hp, hcell⟩ := h
  clear hcell
  go_enter Tryz.func86, Tryz.ntmps86
  go_wp2_with fail
  go_quiet (fail)
  go_wp2_with fail
  go_ret
  exact ⟨rfl, bDrew (Below.refl _ _) _⟩

/-- A digit, a letter, a hyphen, #, %, a space. -/
def tm (c : Int) : Prop := (48 ≤ c ∧ c ≤ 57) ∨ (65 ≤ c ∧ c ≤ 90) ∨ (97 ≤ c ∧ c ≤ 122) ∨ c = 45 ∨ c = 35 ∨ c = 37 ∨ c = 32
instance (c : Int) : Decidable (tm c) := by unfold tm; infer_instance
/-- Only such runes stand here. -/
def Tame (rs : List Int) : Prop := ∀ c ∈ rs, tm c
theorem Tame.or {rs : List Int} (h : Tame rs) (k : Nat) : at_ rs k = -1 ∨ tm (at_ rs k) := by
  by_cases hk : k < rs.length
  · rw [at_of hk]; exact .inr (h _ (List.getElem_mem _))
  · exact .inl (at_end (by omega))
theorem Tame.at {rs : List Int} (h : Tame rs) (k : Nat) : at_ rs k ≠ 92 := by
  have := h.or k
  unfold tm at this
  omega
theorem escape_no (w : World) (b : Nat) (rv : Value) (rs : List Int) (i n : Nat) (h : Rd w b rv rs i) (hn : n ≤ 1000) (ht : Tame rs) :
    Calls Tryz.prog 126 #[.pointer (some ⟨b, 0, none⟩), .int .i64 (n : Int)] w fun e w' => (e = .returned (.bool false)) ∧ Below w.heap.size w w' := by
  have h9 := ht.at (i + n)
  go_enter Tryz.func126, Tryz.ntmps126
  go_wp2_with fail
  refine (peek_any w b rv rs i n h hn).mono ?_
  rintro e w1 ⟨rfl, hb1⟩
  go_wp2_with fail
  go_ret
  exact ⟨rfl, hb1⟩
/-- Does a name begin here? -/
def begins (s : List Int) : Bool := if at_ s 0 = 45 then decide (at_ s 1 = 45) || (decide (at_ s 1 ≠ -1) && isStart (at_ s 1)) else decide (at_ s 0 ≠ -1) && isStart (at_ s 0)

theorem at_drop (rs : List Int) (i k : Nat) : at_ (rs.drop i) k = at_ rs (i + k) := by simp [at_, List.getElem?_drop]
set_option maxHeartbeats 800000 in
theorem begins_any (w : World) (b : Nat) (rv : Value) (rs : List Int) (i n : Nat) (h : Rd w b rv rs i) (hn : n ≤ 100) (ht : Tame rs) :
    Calls Tryz.prog 133 #[.pointer (some ⟨b, 0, none⟩), .int .i64 (n : Int)] w fun e w' => (e = .returned (.bool (begins (rs.drop (i + n))))) ∧ Below w.heap.size w w' := by
  have H := Lib.hid h
  have T := Lib.hid ht
  clear h ht
  have hw2 : IntKind.i64.wrap ((n : Int) + 1) = ((n + 1 : Nat) : Int) := by rw [Go.IntWalk.i64_in _ (by omega)]; omega
  obtain ⟨c, hc⟩ : ∃ c, at_ rs (i + n + 0) = c := ⟨_, rfl⟩
  obtain ⟨d, hd⟩ : ∃ c, at_ rs (i + n + 1) = c := ⟨_, rfl⟩
  have hbg : RowKit.Hid (begins (rs.drop (i + n)) = if c = 45 then decide (d = 45) || (decide (d ≠ -1) && isStart d) else decide (c ≠ -1) && isStart c) := Lib.hid (by unfold begins; rw [at_drop, at_drop, hc, hd])
  go_enter Tryz.func133, Tryz.ntmps133
  go_wp2_with fail
  refine (peek_any w b rv rs i n H.out (by omega)).mono ?_
  rintro e w1 ⟨rfl, hb1⟩
  rw [show at_ rs (i + n) = c from hc]
  have H1 := Lib.hid (H.out.next hb1)
  by_cases h45 : c = 45
  · go_wp2_with fail
    refine (peek_any w1 b rv rs i (n + 1) H1.out (by omega)).mono ?_
    rintro e w2 ⟨rfl, hb2⟩
    rw [show at_ rs (i + (n + 1)) = d from hd]
    have H2 := Lib.hid (H1.out.next hb2)
    have hb12 := bNext hb1 hb2
    have hbe : begins (rs.drop (i + n)) = (decide (d = 45) || (decide (d ≠ -1) && isStart d)) := by rw [hbg.out, if_pos h45]
    have HB := Lib.hid hbe
    clear hb1 hb2 hbe
    go_wp2_with (first
      | (go_at_call 154; refine (Start_any _ _).mono ?_; rintro e w3 ⟨rfl, hb3⟩; have H3 := Lib.hid (H2.out.next hb3))
      | (go_at_call 126; refine (escape_no _ b rv rs i (n + 1) (by first | exact H3.out | exact H2.out) (by omega) T.out).mono ?_; rintro e w4 ⟨rfl, hb4⟩))
    all_goals go_ret
    all_goals exact ⟨congrArg (fun b => Ending.returned (Value.bool b)) (by rw [HB.out]; simp [*]), by first | exact bNext (bNext hb12 hb3) hb4 | exact bNext hb12 hb4 | exact bNext hb12 hb3 | exact hb12⟩
  · have HB : Hid (begins (rs.drop (i + n)) = (decide (c ≠ -1) && isStart c)) := Lib.hid (by rw [hbg.out, if_neg h45])
    go_wp2_with (first
      | (go_at_call 154; refine (Start_any _ _).mono ?_; rintro e w3 ⟨rfl, hb3⟩; have H3 := Lib.hid (H1.out.next hb3))
      | (go_at_call 126; refine (escape_no _ b rv rs i n (by first | exact H3.out | exact H1.out) (by omega) T.out).mono ?_; rintro e w4 ⟨rfl, hb4⟩))
    all_goals go_ret
    all_goals exact ⟨congrArg (fun b => Ending.returned (Value.bool b)) (by rw [HB.out]; simp [*]), by first | exact bNext (bNext hb1 hb3) hb4 | exact bNext hb1 hb4 | exact bNext hb1 hb3 | exact hb1⟩
/-- Does a number begin here, with no point? -/
def counts (s : List Int) : Bool := if at_ s 0 = 45 then isIn 48 57 (at_ s 1) else isIn 48 57 (at_ s 0)
end Go.Proofs.YtpadcjcoafidgaaGreatDoor
/-! strings.Builder's copyCheck and WriteRune at this translation (whose copyCheck holds a line that the loader refused, so the shelf does not lay them). -/
namespace Go.Proofs.YtpadcjcoafidgaaGreatDoor
open Go.RowKit Go.Shelf

set_option maxHeartbeats 1000000 in
set_option maxRecDepth 100000 in
theorem copyCheck_used (b : Nat) (w : World) (h0 : w.cell? ⟨b, 0, none⟩ = some (.pointer (some ⟨b, 0, none⟩))) :
    Calls Tryz.prog 118 #[.pointer (some ⟨b, 0, none⟩)] w fun e w' => e = .returned (.tuple #[]) ∧ w' = w := by
  obtain ⟨j, hj, _⟩ := Option.map_eq_some_iff.1 (Tryz.Builder_Extra_169).sizeBuilder
  go_enter Tryz.func118, Tryz.ntmps118
  go_wp2
  rw [Lib.run_neq_ptr_same w _ Tryz.underlying123 hj]
  go_wp2
  go_end0
  exact ⟨rfl, rfl⟩
set_option maxHeartbeats 1000000 in
set_option maxRecDepth 100000 in
theorem copyCheck_fresh (b : Nat) (w : World) (h0 : w.cell? ⟨b, 0, none⟩ = some (.pointer none)) (hsh : w.shape? b = some (125, 2)) (hfz : w.frozen? ⟨b, 0, none⟩ = false) :
    Calls Tryz.prog 118 #[.pointer (some ⟨b, 0, none⟩)] w fun e w' => e = .returned (.tuple #[]) ∧ w' = w.setCell ⟨b, 0, none⟩ (.pointer (some ⟨b, 0, none⟩)) := by
  obtain ⟨j, hj, hjs⟩ := Option.map_eq_some_iff.1 (Tryz.Builder_Extra_169).sizeBuilder
  go_enter Tryz.func118, Tryz.ntmps118
  go_wp2
  rw [Lib.run_to_unsafe w ⟨b, 0, none⟩ Tryz.underlying123 Tryz.underlying183 hj (by rw [hjs]; decide) hsh (Nat.zero_lt_succ 1)]
  simp only [Result.andThen]
  rw [Oper.upon_value]
  go_wp2
  rw [run_callFunc_extern Tryz.func149 (by kernel_rfl) (by kernel_rfl) (by kernel_rfl) (e := Extern.AbiNoEscape.same) (by kernel_rfl)]
  rw [Lib.run_noEscape]
  simp only [Result.andThen]
  rw [Oper.upon_value]
  go_wp2
  rw [Lib.run_from_unsafe w ⟨b, 0, none⟩ Tryz.underlying183 Tryz.underlying123 hj hsh (Tryz.Builder_Extra_169).liesBuilder]
  simp only [Result.andThen]
  rw [Oper.upon_value]
  go_wp2
  go_end0
  exact ⟨rfl, rfl⟩

theorem copyCheck_f (B b : Nat) (bs : List Value) (w : World) (h : Lib.IsBuilderF 125 5 B b bs w) :
    Calls Tryz.prog 118 #[.pointer (some ⟨b, 0, none⟩)] w fun e w' => e = .returned (.tuple #[]) ∧ (Lib.BuilderAtF 125 5 B b (.pointer (some ⟨b, 0, none⟩)) bs w' ∧ Below B w w') := by
  rcases h with h | h
  · refine (copyCheck_fresh b w h.cell0 h.shape h.frozen0).mono ?_
    rintro e w' ⟨rfl, rfl⟩
    exact ⟨rfl, h.used _, (Below.refl B w).setCell (p := ⟨b, 0, none⟩) h.1 _⟩
  · refine (copyCheck_used b w h.cell0).mono ?_
    rintro e w' ⟨rfl, rfl⟩
    exact ⟨rfl, h, Below.refl B _⟩

set_option maxHeartbeats 4000000 in
set_option maxRecDepth 100000 in
theorem WriteRune_f (B b : Nat) (bs : List Value) (r : Int) (hr0 : -2147483648 ≤ r) (hr1 : r ≤ 2147483647) (w : World) (h : Lib.IsBuilderF 125 5 B b bs w) (hlen : bs.length + 4 ≤ 140737488355328) (hBw : B ≤ w.heap.size) :
    Calls Tryz.prog 152 #[.pointer (some ⟨b, 0, none⟩), .int .i32 r] w fun e w' => e = .returned (.tuple #[.int .i64 (Lib.runeCells r).length, .nilIface]) ∧ (Lib.BuilderAtF 125 5 B b (.pointer (some ⟨b, 0, none⟩)) (bs ++ Lib.runeCells r) w' ∧ Below B w w') := by
  have hk4 := Lib.runeCells_le r
  go_enter Tryz.func152, Tryz.ntmps152
  go_wp2_with fail
  refine (copyCheck_f B b bs _ h).mono ?_
  rintro e w1 ⟨rfl, h1, hb1⟩
  obtain ⟨hB, v, hbk, hown, hne⟩ := h1
  obtain ⟨ao, cap, rfl⟩ : ∃ ao cap, v = .slice ao bs.length cap := by
    rcases hown.2 with ⟨hv, h0⟩ | ⟨g, cap, cur, fz, hv, _⟩
    · exact ⟨none, 0, by rw [hv, h0]⟩
    · exact ⟨_, _, hv⟩
  have c0 : w1.cell? ⟨b, 0, none⟩ = some (.pointer (some ⟨b, 0, none⟩)) := by rw [Lib.cell_of_heap hbk]; rfl
  have c1 : w1.cell? ⟨b, 0 + 1, none⟩ = some (.slice ao bs.length cap) := by rw [Lib.cell_of_heap hbk]; rfl
  go_wp2_with fail
  refine (Tryz.utf8_AppendRune_row B _ bs.length bs r hr0 hr1 _ hown hlen (by have := hb1.size; omega)).mono ?_
  rintro e w2 ⟨v', rfl, hown', o, hgrow⟩
  have hlt : b < w1.heap.size := by
    rcases Nat.lt_or_ge b w1.heap.size with h' | h'
    · exact h'
    · simp [Array.getElem?_eq_none h'] at hbk
  have hb2 : w2.heap[b]? = some (.cells #[.pointer (some ⟨b, 0, none⟩), .slice ao bs.length cap] 125 (0, 0)) := by
    rw [hgrow.block b (by simp; omega) (fun e => hne e.symm), Lib.alloc_old w1 _ b hlt]
    exact hbk
  have d0 : w2.cell? ⟨b, 0, none⟩ = some (.pointer (some ⟨b, 0, none⟩)) := by rw [Lib.cell_of_heap hb2]; rfl
  have d1 : w2.cell? ⟨b, 0 + 1, none⟩ = some (.slice ao bs.length cap) := by rw [Lib.cell_of_heap hb2]; rfl
  have f1 : w2.frozen? ⟨b, 0 + 1, none⟩ = false := Lib.frozen_of_heap hb2 1
  obtain ⟨g, cap', rfl⟩ : ∃ g cap', v' = .slice (some ⟨g, 0, none⟩) (bs.length + (Lib.runeCells r).length) cap' := by
    rcases hown'.2 with ⟨_, h0⟩ | ⟨g, cap', cur, fz, hv, _⟩
    · omega
    · exact ⟨g, cap', hv⟩
  go_wp2_with fail
  go_ret2
  refine ⟨?_, ?_, ?_⟩
  · have e : ((bs.length : Int) + ((Lib.runeCells r).length : Int) - (bs.length : Int)) = ((Lib.runeCells r).length : Int) := by omega
    simp [e]
  · exact Lib.BuilderAtF.put (T := 125) (e := 5) hB hb2 (bs' := bs ++ Lib.runeCells r) (by simpa using hown') (Tryz.Builder_Extra_169).neB5
  · exact ((hb1.alloc (by have := hb1.size; omega) _).grown hgrow (by have := hb1.size; simp; omega) (fun k hk => (hown.lt k hk).1)).setCell (p := ⟨b, 1, none⟩) hB _
end Go.Proofs.YtpadcjcoafidgaaGreatDoor
/-! reader.name over runes without a backslash. -/
namespace Go.Proofs.YtpadcjcoafidgaaGreatDoor
open Go.RowKit

/-- The text of runes that are all below 128. -/
def byteOf (c : Int) : UInt8 := UInt8.ofNat c.toNat
def strOf (l : List Int) : ByteArray := ⟨(l.map byteOf).toArray⟩
def asc (c : Int) : Prop := 0 ≤ c ∧ c ≤ 127
theorem byteCells_strOf (l : List Int) (h : ∀ c ∈ l, asc c) : Lib.byteCells (l.map byteOf) = l.map fun c => Value.int .u8 c := by
  unfold Lib.byteCells
  rw [List.map_map]
  refine List.map_congr_left fun c hc => ?_
  obtain ⟨h0, h1⟩ := h c hc
  have : (byteOf c).toNat = c.toNat := by unfold byteOf; simp; omega
  simp only [Function.comp, this]
  rw [Int.toNat_of_nonneg h0]
theorem runeCells_asc (c : Int) (h : asc c) : Lib.runeCells c = [Value.int .u8 c] := by simp [Lib.runeCells, Lib.encodeRuneZ_one h.1 h.2]
/-- All runes that stand here lie below 128, and none is a backslash. -/
def Asc (rs : List Int) : Prop := ∀ c ∈ rs, asc c
def nameLen (s : List Int) : Nat := (s.takeWhile isPart).length
theorem takeWhile_take (p : Int → Bool) : ∀ (l : List Int) (k : Nat), (∀ j, j < k → ∃ hl : j < l.length, p l[j] = true) → (∀ hl : k < l.length, p l[k] = false) → l.takeWhile p = l.take k
  | [], k, h, _ => by
    cases k with
    | zero => rfl
    | succ k => obtain ⟨hl, _⟩ := h 0 (by omega); simp at hl
  | a :: l, 0, _, hn => by
    have := hn (by simp)
    simp at this
    simp [this]
  | a :: l, k + 1, h, hn => by
    obtain ⟨_, ha⟩ := h 0 (by omega)
    simp at ha
    rw [List.takeWhile_cons_of_pos (by simpa using ha), List.take_succ_cons]
    congr 1
    exact takeWhile_take p l k (fun j hj => by obtain ⟨hl, hp⟩ := h (j + 1) (by omega); simp at hl hp; exact ⟨by omega, hp⟩) (fun hl => by have := hn (by simpa using hl); simpa using this)

theorem isB_keep {T e : TypeId} {B b : Nat} {bs : List Value} {w w' : World} (h : Lib.IsBuilderF T e B b bs w) (hk : ∀ k, B ≤ k → k < w.heap.size → w'.heap[k]? = w.heap[k]?) : Lib.IsBuilderF T e B b bs w' := by
  have lt : ∀ {k : Nat} {o : Obj}, w.heap[k]? = some o → k < w.heap.size := fun hh => (Array.getElem?_eq_some_iff.1 hh).1
  have key : ∀ p, Lib.BuilderAtF T e B b p bs w → Lib.BuilderAtF T e B b p bs w' := by
    rintro p ⟨h1, v, hbk, ⟨hl, hown⟩, hne⟩
    refine ⟨h1, v, (hk b h1 (lt hbk)).trans hbk, ⟨hl, ?_⟩, hne⟩
    rcases hown with hn | ⟨g, cap, cur, fz, hv, hg, hgg, rest⟩
    · exact .inl hn
    · exact .inr ⟨g, cap, cur, fz, hv, hg, (hk g hg (lt hgg)).trans hgg, rest⟩
  exact h.elim (fun x => .inl (key _ x)) (fun x => .inr (key _ x))
theorem isB_below {T e : TypeId} {B b : Nat} {bs : List Value} {w w' : World} (h : Lib.IsBuilderF T e B b bs w) (hb : Below w.heap.size w w') : Lib.IsBuilderF T e B b bs w' :=
  isB_keep h fun k _ hlt => hb.block k hlt
theorem isB_set {T e : TypeId} {B b : Nat} {bs : List Value} {w : World} (h : Lib.IsBuilderF T e B b bs w) (c k : Nat) (x : Value) (hc : c < B) : Lib.IsBuilderF T e B b bs (w.setCell ⟨c, k, none⟩ x) :=
  isB_keep h fun k hB _ => Below.heap_setCell _ _ _ _ (by simp; omega)
theorem rd_below {w w' : World} {b B : Nat} {rv : Value} {rs : List Int} {i : Nat} (h : Rd w b rv rs i) (hb : Below B w w') (hC : b < B) : Rd w' b rv rs i := by
  obtain ⟨p, off, cap, hv, hc, hp, hcell⟩ := h.rn
  exact ⟨(hb.cell (p := ⟨b, _, none⟩) hC).trans h.c0, (hb.cell (p := ⟨b, _, none⟩) hC).trans h.c1, (hb.frozen (p := ⟨b, _, none⟩) hC).trans h.f1, h.le, h.big, p, off, cap, hv, hc, hp, fun k hk => (hb.cell (p := ⟨p, _, none⟩) (Nat.lt_trans hp hC)).trans (hcell k hk)⟩

set_option maxHeartbeats 4000000 in
theorem name_any (w : World) (b : Nat) (rv : Value) (rs : List Int) (i : Nat) (h : Rd w b rv rs i) (ht : Tame rs) (ha : Asc rs) :
    Calls Tryz.prog 155 #[.pointer (some ⟨b, 0, none⟩)] w fun e w' => (e = .returned (.string (strOf ((rs.drop i).takeWhile isPart)))) ∧ But w.heap.size b w w' ∧ Rd w' b rv rs (i + nameLen (rs.drop i)) := by
  have H := Lib.hid h
  have T := Lib.hid ht
  have A := Lib.hid ha
  have hbw : b < w.heap.size := World.block_lt_of_cell? w _ h.c0
  have hbig := h.big
  have hle := h.le
  clear h ht ha
  go_enter Tryz.func155, Tryz.ntmps155
  go_wp2_with fail
  go_loopw [4, 8, 24] (fun _ _ _ wr => ∃ j : Nat, i ≤ j ∧ Hid (Rd wr b rv rs j) ∧ Hid (∀ m, m < j - i → ∃ hl : m < (rs.drop i).length, isPart (rs.drop i)[m] = true) ∧ Hid (Lib.IsBuilderF 125 5 w.heap.size w.heap.size (((rs.drop i).take (j - i)).map fun c => Value.int .u8 c) wr) ∧ But w.heap.size b w wr)
    (fun _ _ _ wr => rs.length - (intOf ((wr.cell? ⟨b, 0 + 1, none⟩).getD undef)).toNat)
  case atStart =>
    refine ⟨i, Nat.le_refl _, Lib.hid (H.out.next (bAlloc1 _ _)), Lib.hid (fun m hm => by omega), Lib.hid ?_, But.of (bAlloc1 _ _)⟩
    rw [Nat.sub_self]
    exact Lib.IsBuilderF.of (Lib.fresh_isBuilder _ _ w)
  case round =>
    obtain ⟨j, hij, HR, HP, HB, hbut⟩ := hrel
    obtain ⟨c, hc⟩ : ∃ c, at_ rs j = c := ⟨_, rfl⟩
    go_wp2_with fail
    refine (peek_any wr b rv rs j 0 HR.out (by omega)).mono ?_
    rintro e w1 ⟨rfl, hb1⟩
    rw [show at_ rs (j + 0) = c from hc]
    have HR1 := Lib.hid (HR.out.next hb1)
    have HB1 := Lib.hid (isB_below HB.out hb1)
    have hbut1 := hbut.trans ((But.of hb1).mono hbut.size)
    by_cases hp : c ≠ -1 ∧ isPart c = true
    · obtain ⟨hne, hpt⟩ := hp
      have hj : j < rs.length := by
        rcases Nat.lt_or_ge j rs.length with h' | h'
        · exact h'
        · exact absurd (hc.symm.trans (at_end h')) hne
      have hca : asc c := by rw [← hc, at_of hj]; exact A.out _ (List.getElem_mem _)
      obtain ⟨ha0, ha1⟩ := hca
      have hcx := Lib.hid hc
      clear hc hb1 hbut
      go_wp2_with fail
      refine (Part_any _ _).mono ?_
      rintro e w2 ⟨rfl, hb2⟩
      have HR2 := Lib.hid (HR1.out.next hb2)
      have HB2 := Lib.hid (isB_below HB1.out hb2)
      have hbut2 := hbut1.trans ((But.of hb2).mono hbut1.size)
      clear hb2
      go_wp2_with fail
      refine (WriteRune_f w.heap.size w.heap.size _ c (by omega) (by omega) w2 HB2.out (by simp; omega) hbut2.size).mono ?_
      rintro e w3 ⟨rfl, hB3, hb3⟩
      have HB3 := Lib.hid hB3
      have HR3 := Lib.hid (rd_below HR2.out hb3 hbw)
      have hbut3 := hbut2.trans (But.of hb3)
      clear hB3 hb3
      have c1 := HR3.out.c1
      have f1 := HR3.out.f1
      have hwj : IntKind.i64.wrap ((j : Int) + 1) = ((j + 1 : Nat) : Int) := by rw [Go.IntWalk.i64_in _ (by omega)]; omega
      go_wp2_with fail
      go_roundw
      case rel =>
        refine ⟨j + 1, by omega, Lib.hid (HR3.out.store (j + 1) _ (by omega) (by omega)), Lib.hid fun m hm => ?_, Lib.hid ?_, hbut3.set _ _⟩
        · by_cases hm2 : m < j - i
          · exact HP.out m hm2
          · obtain rfl : m = j - i := by omega
            refine ⟨by simp; omega, ?_⟩
            rw [List.getElem_drop]
            have : rs[i + (j - i)]'(by omega) = c := by rw [← hcx.out, at_of hj]; congr 1; omega
            rw [this]; exact hpt
        · refine isB_set ?_ b _ _ hbw
          rw [show j + 1 - i = (j - i) + 1 by omega, List.take_add_one, List.map_append]
          have : (rs.drop i)[j - i]? = some c := by
            rw [List.getElem?_drop, show i + (j - i) = j by omega, List.getElem?_eq_getElem hj, ← at_of hj, hcx.out]
          rw [this]
          have hB := HB3.out
          rw [runeCells_asc c ⟨ha0, ha1⟩] at hB
          exact .inr hB
      case measure =>
        have e1 := HR.out.c1
        have e2 := (HR3.out.store (j + 1) ((j : Int) + 1) (by omega) (by omega)).c1
        rw [e1, e2]
        simp [intOf]; omega
    · have HT : Hid ((rs.drop i).takeWhile isPart = (rs.drop i).take (j - i)) := Lib.hid (takeWhile_take _ _ _ HP.out (fun hl => by
        rw [List.length_drop] at hl
        rw [List.getElem_drop]
        have e : rs[i + (j - i)]'(by omega) = c := by rw [← hc, at_of (by omega)]; congr 1; omega
        rw [e]
        have hne : c ≠ -1 := by
          have := A.out _ (List.getElem_mem (l := rs) (n := i + (j - i)) (by omega))
          rw [e] at this; unfold asc at this; omega
        cases hq : isPart c
        · rfl
        · exact absurd ⟨hne, hq⟩ hp))
      clear hb1 hbut
      by_cases hne : c = -1
      · subst hne
        clear hp
        have hcx := Lib.hid hc
        clear hc
        have HR2 := HR1
        have HB2 := HB1
        have hbut2 := hbut1
        clear HR1 HB1 hbut1
        go_wp2_with fail
        refine (escape_no _ b rv rs j 0 HR2.out (by omega) T.out).mono ?_
        rintro e w3 ⟨rfl, hb3⟩
        have HR3 := Lib.hid (HR2.out.next hb3)
        have HB3 := Lib.hid (isB_below HB2.out hb3)
        have hbut3 := hbut2.trans ((But.of hb3).mono hbut2.size)
        go_wp2_with fail
        refine (Tryz.Builder_String_any_f w.heap.size w.heap.size (((rs.drop i).take (j - i)).map byteOf) w3 (by rw [byteCells_strOf _ (fun x hx => A.out x (List.mem_of_mem_drop (List.mem_of_mem_take hx)))]; exact HB3.out) hbut3.size).mono ?_
        rintro e w4 ⟨rfl, _, hb4⟩
        go_wp2_with fail
        go_ret
        refine ⟨?_, hbut3.trans (But.of hb4), ?_⟩
        · rw [HT.out]; unfold strOf; rw [List.map_take, List.map_drop]; rfl
        · have := rd_below HR3.out hb4 hbw
          unfold nameLen
          rw [HT.out, List.length_take, List.length_drop, show i + min (j - i) (rs.length - i) = j by have := HR.out.le; omega]
          exact this
      · have hq : isPart c = false := by
          cases hq : isPart c
          · rfl
          · exact absurd ⟨hne, hq⟩ hp
        clear hp
        have hcx := Lib.hid hc
        clear hc
        go_wp2_with fail
        refine (Part_any _ _).mono ?_
        rintro e w2 ⟨rfl, hb2⟩
        have HR2 := Lib.hid (HR1.out.next hb2)
        have HB2 := Lib.hid (isB_below HB1.out hb2)
        have hbut2 := hbut1.trans ((But.of hb2).mono hbut1.size)
        clear hb2
        go_wp2_with fail
        refine (escape_no _ b rv rs j 0 HR2.out (by omega) T.out).mono ?_
        rintro e w3 ⟨rfl, hb3⟩
        have HR3 := Lib.hid (HR2.out.next hb3)
        have HB3 := Lib.hid (isB_below HB2.out hb3)
        have hbut3 := hbut2.trans ((But.of hb3).mono hbut2.size)
        go_wp2_with fail
        refine (Tryz.Builder_String_any_f w.heap.size w.heap.size (((rs.drop i).take (j - i)).map byteOf) w3 (by rw [byteCells_strOf _ (fun x hx => A.out x (List.mem_of_mem_drop (List.mem_of_mem_take hx)))]; exact HB3.out) hbut3.size).mono ?_
        rintro e w4 ⟨rfl, _, hb4⟩
        go_wp2_with fail
        go_ret
        refine ⟨?_, hbut3.trans (But.of hb4), ?_⟩
        · rw [HT.out]; unfold strOf; rw [List.map_take, List.map_drop]; rfl
        · have := rd_below HR3.out hb4 hbw
          unfold nameLen
          rw [HT.out, List.length_take, List.length_drop, show i + min (j - i) (rs.length - i) = j by have := HR.out.le; omega]
          exact this
end Go.Proofs.YtpadcjcoafidgaaGreatDoor
/-! reader.while with the two kinds of runes that it is called with. -/
namespace Go.Proofs.YtpadcjcoafidgaaGreatDoor
open Go.RowKit

set_option maxRecDepth 100000 in
set_option maxHeartbeats 2000000 in
theorem while_digit (w : World) (b : Nat) (rv : Value) (rs : List Int) (i : Nat) (h : Rd w b rv rs i) :
    Calls Tryz.prog 151 #[.pointer (some ⟨b, 0, none⟩), .func (.func 76) #[] #[]] w fun e w' => (∃ v, e = .returned v) ∧ But w.heap.size b w w' ∧ Rd w' b rv rs (i + ((rs.drop i).takeWhile (isIn 48 57)).length) := by
  have H := Lib.hid h
  have hbw : b < w.heap.size := World.block_lt_of_cell? w _ h.c0
  have hbig := h.big
  have hle := h.le
  have c1 := h.c1
  clear h
  go_enter Tryz.func151, Tryz.ntmps151
  go_wp2_with fail
  clear c1
  go_loopw [10] (fun _ wr => ∃ j : Nat, i ≤ j ∧ Hid (Rd wr b rv rs j) ∧ Hid (∀ m, m < j - i → ∃ hl : m < (rs.drop i).length, (isIn 48 57) (rs.drop i)[m] = true) ∧ But w.heap.size b w wr)
    (fun _ wr => rs.length - (intOf ((wr.cell? ⟨b, 0 + 1, none⟩).getD undef)).toNat)
  case atStart => exact ⟨i, Nat.le_refl _, H, Lib.hid (fun m hm => by omega), But.of (Below.refl _ _)⟩
  case round =>
    obtain ⟨j, hij, HR, HP, hbut⟩ := hrel
    have hjl := HR.out.le
    go_wp2_with fail
    refine (over_any wr b rv rs j HR.out).mono ?_
    rintro e w1 ⟨rfl, hb1⟩
    have HR1 := Lib.hid (HR.out.next hb1)
    have hbut1 := hbut.trans ((But.of hb1).mono hbut.size)
    clear hb1 hbut
    by_cases hj : j < rs.length
    · rw [show decide (rs.length ≤ j) = false from decide_eq_false (by omega)]
      go_wp2_with fail
      refine (peek_any w1 b rv rs j 0 HR1.out (by omega)).mono ?_
      rintro e w2 ⟨rfl, hb2⟩
      obtain ⟨c, hc⟩ : ∃ c, at_ rs (j + 0) = c := ⟨_, rfl⟩
      rw [hc]
      have HR2 := Lib.hid (HR1.out.next hb2)
      have hbut2 := hbut1.trans ((But.of hb2).mono hbut1.size)
      clear hb2 hbut1
      go_wp2_with fail
      refine (Digit_any c w2).mono ?_
      rintro e w3 ⟨rfl, hb3⟩
      have HR3 := Lib.hid (HR2.out.next hb3)
      have hbut3 := hbut2.trans ((But.of hb3).mono hbut2.size)
      clear hb3 hbut2
      cases hp : (isIn 48 57) c
      · have HT : Hid ((rs.drop i).takeWhile (isIn 48 57) = (rs.drop i).take (j - i)) := Lib.hid (takeWhile_take _ _ _ HP.out (fun hl => by
          rw [List.getElem_drop]
          have e : rs[i + (j - i)]'(by omega) = c := by rw [← hc, at_of (by omega)]; congr 1; omega
          rw [e]; exact hp))
        have HR4 := Lib.hid (Eq.symm (show i + ((rs.drop i).takeWhile (isIn 48 57)).length = j by rw [HT.out, List.length_take, List.length_drop]; omega))
        clear hc
        go_wp2_with fail
        obtain ⟨p, off, cap, hrv, hcap, hp', hcell⟩ := HR3.out.rn
        have g0 := HR3.out.c0
        rw [hrv] at g0
        have hrv' := Lib.hid hrv
        clear hrv
        have g1 := HR3.out.c1
        clear hcell
        have q1 : (i : Int) ≤ (j : Int) := by omega
        have q2 : (j : Int) ≤ (cap : Int) := by omega
        have q3 : (0 : Int) ≤ (i : Int) := by omega
        go_quiet (fail)
        all_goals go_wp2_with fail
        all_goals go_ret
        all_goals exact ⟨⟨_, rfl⟩, hbut3.trans (But.of (bDrew (Below.refl _ _) _)), by rw [← HR4.out]; exact HR3.out.next (bDrew (Below.refl _ _) _)⟩
      · have hcx := Lib.hid hc
        clear hc
        have c1 := HR3.out.c1
        have f1 := HR3.out.f1
        have hwj : IntKind.i64.wrap ((j : Int) + 1) = ((j + 1 : Nat) : Int) := by rw [Go.IntWalk.i64_in _ (by omega)]; omega
        go_wp2_with fail
        go_roundw
        case rel =>
          refine ⟨j + 1, by omega, Lib.hid (HR3.out.store (j + 1) _ (by omega) (by omega)), Lib.hid fun m hm => ?_, hbut3.set _ _⟩
          by_cases hm2 : m < j - i
          · exact HP.out m hm2
          · obtain rfl : m = j - i := by omega
            refine ⟨by simp; omega, ?_⟩
            rw [List.getElem_drop]
            have : rs[i + (j - i)]'(by omega) = c := by rw [← hcx.out, at_of (by omega)]; congr 1; omega
            rw [this]; exact hp
        case measure =>
          have e1 := HR.out.c1
          have e2 := (HR3.out.store (j + 1) ((j : Int) + 1) (by omega) (by omega)).c1
          rw [e1, e2]
          simp [intOf]; omega
    · rw [show decide (rs.length ≤ j) = true from decide_eq_true (by omega)]
      have HT : Hid ((rs.drop i).takeWhile (isIn 48 57) = (rs.drop i).take (j - i)) := Lib.hid (takeWhile_take _ _ _ HP.out (fun hl => by simp at hl; omega))
      have HR4 := Lib.hid (Eq.symm (show i + ((rs.drop i).takeWhile (isIn 48 57)).length = j by rw [HT.out, List.length_take, List.length_drop]; omega))
      have HR3 := HR1
      have hbut3 := hbut1
      clear HR1 hbut1
      go_wp2_with fail
      obtain ⟨p, off, cap, hrv, hcap, hp', hcell⟩ := HR3.out.rn
      have g0 := HR3.out.c0
      rw [hrv] at g0
      have hrv' := Lib.hid hrv
      clear hrv
      have g1 := HR3.out.c1
      clear hcell
      have q1 : (i : Int) ≤ (j : Int) := by omega
      have q2 : (j : Int) ≤ (cap : Int) := by omega
      have q3 : (0 : Int) ≤ (i : Int) := by omega
      go_quiet (fail)
      all_goals go_wp2_with fail
      all_goals go_ret
      all_goals exact ⟨⟨_, rfl⟩, hbut3.trans (But.of (bDrew (Below.refl _ _) _)), by rw [← HR4.out]; exact HR3.out.next (bDrew (Below.refl _ _) _)⟩

set_option maxRecDepth 100000 in
set_option maxHeartbeats 2000000 in
theorem while_blank (w : World) (b : Nat) (rv : Value) (rs : List Int) (i : Nat) (h : Rd w b rv rs i) :
    Calls Tryz.prog 151 #[.pointer (some ⟨b, 0, none⟩), .func (.func 123) #[] #[]] w fun e w' => (∃ v, e = .returned v) ∧ But w.heap.size b w w' ∧ Rd w' b rv rs (i + ((rs.drop i).takeWhile isBlank).length) := by
  have H := Lib.hid h
  have hbw : b < w.heap.size := World.block_lt_of_cell? w _ h.c0
  have hbig := h.big
  have hle := h.le
  have c1 := h.c1
  clear h
  go_enter Tryz.func151, Tryz.ntmps151
  go_wp2_with fail
  clear c1
  go_loopw [10] (fun _ wr => ∃ j : Nat, i ≤ j ∧ Hid (Rd wr b rv rs j) ∧ Hid (∀ m, m < j - i → ∃ hl : m < (rs.drop i).length, isBlank (rs.drop i)[m] = true) ∧ But w.heap.size b w wr)
    (fun _ wr => rs.length - (intOf ((wr.cell? ⟨b, 0 + 1, none⟩).getD undef)).toNat)
  case atStart => exact ⟨i, Nat.le_refl _, H, Lib.hid (fun m hm => by omega), But.of (Below.refl _ _)⟩
  case round =>
    obtain ⟨j, hij, HR, HP, hbut⟩ := hrel
    have hjl := HR.out.le
    go_wp2_with fail
    refine (over_any wr b rv rs j HR.out).mono ?_
    rintro e w1 ⟨rfl, hb1⟩
    have HR1 := Lib.hid (HR.out.next hb1)
    have hbut1 := hbut.trans ((But.of hb1).mono hbut.size)
    clear hb1 hbut
    by_cases hj : j < rs.length
    · rw [show decide (rs.length ≤ j) = false from decide_eq_false (by omega)]
      go_wp2_with fail
      refine (peek_any w1 b rv rs j 0 HR1.out (by omega)).mono ?_
      rintro e w2 ⟨rfl, hb2⟩
      obtain ⟨c, hc⟩ : ∃ c, at_ rs (j + 0) = c := ⟨_, rfl⟩
      rw [hc]
      have HR2 := Lib.hid (HR1.out.next hb2)
      have hbut2 := hbut1.trans ((But.of hb2).mono hbut1.size)
      clear hb2 hbut1
      go_wp2_with fail
      refine (Blank_any c w2).mono ?_
      rintro e w3 ⟨rfl, rfl⟩
      have hb3 := Below.refl w3.heap.size w3
      have HR3 := Lib.hid (HR2.out.next hb3)
      have hbut3 := hbut2.trans ((But.of hb3).mono hbut2.size)
      clear hb3 hbut2
      cases hp : isBlank c
      · have HT : Hid ((rs.drop i).takeWhile isBlank = (rs.drop i).take (j - i)) := Lib.hid (takeWhile_take _ _ _ HP.out (fun hl => by
          rw [List.getElem_drop]
          have e : rs[i + (j - i)]'(by omega) = c := by rw [← hc, at_of (by omega)]; congr 1; omega
          rw [e]; exact hp))
        have HR4 := Lib.hid (Eq.symm (show i + ((rs.drop i).takeWhile isBlank).length = j by rw [HT.out, List.length_take, List.length_drop]; omega))
        clear hc
        go_wp2_with fail
        obtain ⟨p, off, cap, hrv, hcap, hp', hcell⟩ := HR3.out.rn
        have g0 := HR3.out.c0
        rw [hrv] at g0
        have hrv' := Lib.hid hrv
        clear hrv
        have g1 := HR3.out.c1
        clear hcell
        have q1 : (i : Int) ≤ (j : Int) := by omega
        have q2 : (j : Int) ≤ (cap : Int) := by omega
        have q3 : (0 : Int) ≤ (i : Int) := by omega
        go_quiet (fail)
        all_goals go_wp2_with fail
        all_goals go_ret
        all_goals exact ⟨⟨_, rfl⟩, hbut3.trans (But.of (bDrew (Below.refl _ _) _)), by rw [← HR4.out]; exact HR3.out.next (bDrew (Below.refl _ _) _)⟩
      · have hcx := Lib.hid hc
        clear hc
        have c1 := HR3.out.c1
        have f1 := HR3.out.f1
        have hwj : IntKind.i64.wrap ((j : Int) + 1) = ((j + 1 : Nat) : Int) := by rw [Go.IntWalk.i64_in _ (by omega)]; omega
        go_wp2_with fail
        go_roundw
        case rel =>
          refine ⟨j + 1, by omega, Lib.hid (HR3.out.store (j + 1) _ (by omega) (by omega)), Lib.hid fun m hm => ?_, hbut3.set _ _⟩
          by_cases hm2 : m < j - i
          · exact HP.out m hm2
          · obtain rfl : m = j - i := by omega
            refine ⟨by simp; omega, ?_⟩
            rw [List.getElem_drop]
            have : rs[i + (j - i)]'(by omega) = c := by rw [← hcx.out, at_of (by omega)]; congr 1; omega
            rw [this]; exact hp
        case measure =>
          have e1 := HR.out.c1
          have e2 := (HR3.out.store (j + 1) ((j : Int) + 1) (by omega) (by omega)).c1
          rw [e1, e2]
          simp [intOf]; omega
    · rw [show decide (rs.length ≤ j) = true from decide_eq_true (by omega)]
      have HT : Hid ((rs.drop i).takeWhile isBlank = (rs.drop i).take (j - i)) := Lib.hid (takeWhile_take _ _ _ HP.out (fun hl => by simp at hl; omega))
      have HR4 := Lib.hid (Eq.symm (show i + ((rs.drop i).takeWhile isBlank).length = j by rw [HT.out, List.length_take, List.length_drop]; omega))
      have HR3 := HR1
      have hbut3 := hbut1
      clear HR1 hbut1
      go_wp2_with fail
      obtain ⟨p, off, cap, hrv, hcap, hp', hcell⟩ := HR3.out.rn
      have g0 := HR3.out.c0
      rw [hrv] at g0
      have hrv' := Lib.hid hrv
      clear hrv
      have g1 := HR3.out.c1
      clear hcell
      have q1 : (i : Int) ≤ (j : Int) := by omega
      have q2 : (j : Int) ≤ (cap : Int) := by omega
      have q3 : (0 : Int) ≤ (i : Int) := by omega
      go_quiet (fail)
      all_goals go_wp2_with fail
      all_goals go_ret
      all_goals exact ⟨⟨_, rfl⟩, hbut3.trans (But.of (bDrew (Below.refl _ _) _)), by rw [← HR4.out]; exact HR3.out.next (bDrew (Below.refl _ _) _)⟩
end Go.Proofs.YtpadcjcoafidgaaGreatDoor
/-! reader.counts: does a number begin here? -/
namespace Go.Proofs.YtpadcjcoafidgaaGreatDoor
open Go.RowKit

set_option maxRecDepth 100000 in
set_option maxHeartbeats 2000000 in
theorem counts_any (w : World) (b : Nat) (rv : Value) (rs : List Int) (i : Nat) (h : Rd w b rv rs i) (ht : Tame rs) :
    Calls Tryz.prog 129 #[.pointer (some ⟨b, 0, none⟩)] w fun e w' => (e = .returned (.bool (counts (rs.drop i)))) ∧ Below w.heap.size w w' := by
  have H := Lib.hid h
  have T := Lib.hid ht
  clear h ht
  obtain ⟨c, hc⟩ : ∃ c, at_ rs (i + 0) = c := ⟨_, rfl⟩
  obtain ⟨d, hd⟩ : ∃ c, at_ rs (i + 1) = c := ⟨_, rfl⟩
  obtain ⟨d2, hd2⟩ : ∃ c, at_ rs (i + 2) = c := ⟨_, rfl⟩
  have h43 : c ≠ 43 := by have := T.out.or (i + 0); rw [hc] at this; unfold tm at this; omega
  have h46 : c ≠ 46 := by have := T.out.or (i + 0); rw [hc] at this; unfold tm at this; omega
  have h46' : d ≠ 46 := by have := T.out.or (i + 1); rw [hd] at this; unfold tm at this; omega
  have hbg : Hid (counts (rs.drop i) = if c = 45 then isIn 48 57 d else isIn 48 57 c) := Lib.hid (by unfold counts; rw [at_drop, at_drop, hc, hd])
  go_enter Tryz.func129, Tryz.ntmps129
  go_wp2_with fail
  refine (peek_any w b rv rs i 0 H.out (by decide)).mono ?_
  rintro e w1 ⟨rfl, hb1⟩
  rw [hc]
  have H1 := Lib.hid (H.out.next hb1)
  by_cases h45 : c = 45
  · have HB : Hid (counts (rs.drop i) = isIn 48 57 d) := Lib.hid (by rw [hbg.out, if_pos h45])
    go_wp2_with fail
    refine (peek_any w1 b rv rs i 1 H1.out (by decide)).mono ?_
    rintro e w2 ⟨rfl, hb2⟩
    rw [hd]
    have H2 := Lib.hid (H1.out.next hb2)
    go_wp2_with fail
    refine (digit_any _ _).mono ?_
    rintro e w3 ⟨rfl, hb3⟩
    have H3 := Lib.hid (H2.out.next hb3)
    have hbb := bNext (bNext hb1 hb2) hb3
    clear hb1 hb2 hb3
    cases hq : isIn 48 57 d
    · go_wp2_with fail
      refine (peek_any w3 b rv rs i 1 H3.out (by decide)).mono ?_
      rintro e w4 ⟨rfl, hb4⟩
      rw [hd]
      go_wp2_with fail
      go_ret
      exact ⟨congrArg (fun b => Ending.returned (Value.bool b)) (by rw [HB.out]; simp [*]), bNext hbb hb4⟩
    · go_wp2_with fail
      go_ret
      exact ⟨congrArg (fun b => Ending.returned (Value.bool b)) (by rw [HB.out]; simp [*]), hbb⟩
  · have HB : Hid (counts (rs.drop i) = isIn 48 57 c) := Lib.hid (by rw [hbg.out, if_neg h45])
    have b43 : (c == 43) = false := by simpa using h43
    have b45 : (c == 45) = false := by simpa using h45
    go_wp2_with fail
    refine (peek_any w1 b rv rs i 0 H1.out (by decide)).mono ?_
    rintro e w2 ⟨rfl, hb2⟩
    rw [hc]
    have H2 := Lib.hid (H1.out.next hb2)
    go_wp2_with fail
    refine (digit_any _ _).mono ?_
    rintro e w3 ⟨rfl, hb3⟩
    have H3 := Lib.hid (H2.out.next hb3)
    have hbb := bNext (bNext hb1 hb2) hb3
    clear hb1 hb2 hb3
    cases hq : isIn 48 57 c
    · go_wp2_with fail
      refine (peek_any w3 b rv rs i 0 H3.out (by decide)).mono ?_
      rintro e w4 ⟨rfl, hb4⟩
      rw [hc]
      go_wp2_with fail
      go_ret
      exact ⟨congrArg (fun b => Ending.returned (Value.bool b)) (by rw [HB.out]; simp [*]), bNext hbb hb4⟩
    · go_wp2_with fail
      go_ret
      exact ⟨congrArg (fun b => Ending.returned (Value.bool b)) (by rw [HB.out]; simp [*]), hbb⟩
end Go.Proofs.YtpadcjcoafidgaaGreatDoor
/-! The readers of one token: space, hash, word. -/
namespace Go.Proofs.YtpadcjcoafidgaaGreatDoor
open Go.RowKit

def noStr : ByteArray := ⟨#[]⟩
/-- A token's value. -/
def tokV (k : Int) (t u : ByteArray) (wh fl : Bool) : Value := .agg #[.int .i64 k, .string t, .string u, .bool wh, .bool fl]
theorem But.cells {b k : Nat} {w w' : World} (h : But w.heap.size b w w') (hb : k ≠ b) (hk : k < w.heap.size) : (∀ o, w'.cell? ⟨k, o, none⟩ = w.cell? ⟨k, o, none⟩) ∧ (∀ o, w'.frozen? ⟨k, o, none⟩ = w.frozen? ⟨k, o, none⟩) :=
  ⟨fun o => World.cell?_of_block (w := w) (a := ⟨k, o, none⟩) (h.block k hk hb), fun o => World.frozen?_of_block (w := w) (a := ⟨k, o, none⟩) (h.block k hk hb)⟩
theorem But.own {B b : Nat} {w u : World} (h : But B b w u) {c : Nat} (hc : B ≤ c) (k : Nat) (x : Value) : But B b w (u.setCell ⟨c, k, none⟩ x) :=
  h.trans ⟨rfl, rfl, rfl, by simp [World.setCell], fun i hi _ => Below.heap_setCell _ _ _ _ (by simp; omega)⟩
/-- A store into another block than the reader's and the runes'. -/
theorem rd_own {w : World} {b : Nat} {rv : Value} {rs : List Int} {i : Nat} (h : Rd w b rv rs i) {c : Nat} (hc : b < c) (k : Nat) (x : Value) : Rd (w.setCell ⟨c, k, none⟩ x) b rv rs i :=
  rd_below h ((Below.refl c w).setCell (p := ⟨c, k, none⟩) (Nat.le_refl _) x) hc
set_option maxRecDepth 100000 in
set_option maxHeartbeats 1000000 in
theorem space_any (w : World) (b : Nat) (rv : Value) (rs : List Int) (i : Nat) (h : Rd w b rv rs i) :
    Calls Tryz.prog 124 #[.pointer (some ⟨b, 0, none⟩)] w fun e w' => (e = .returned (tokV 13 noStr noStr false false)) ∧ But w.heap.size b w w' ∧ Rd w' b rv rs (i + ((rs.drop i).takeWhile isBlank).length) := by
  have H := Lib.hid h
  have hbw : b < w.heap.size := World.block_lt_of_cell? w _ h.c0
  clear h
  go_enter Tryz.func124, Tryz.ntmps124
  go_wp2_with fail
  refine (while_blank _ b rv rs i (H.out.next (bAlloc1 _ _))).mono ?_
  rintro e w1 ⟨⟨v, rfl⟩, hbut, hrd⟩
  have hb1 : But w.heap.size b w w1 := (But.of (bAlloc1 _ _)).trans (hbut.mono (by simp))
  have HR := Lib.hid hrd
  obtain ⟨hc, hf⟩ := hbut.cells (by simp; omega) (k := w.heap.size) (by simp)
  clear hbut hrd
  have hw0 : w.heap.size ≤ w.heap.size := Nat.le_refl _
  go_wp2_with fail
  refine bodyPost_ret (v := tokV 13 noStr noStr false false) ?_ rfl ⟨rfl, ?_, ?_⟩
  · simp [results, Tryz.results124, go_sem, hc, tokV, noStr]
  · exact ((((hb1.own hw0 0 _).own hw0 1 _).own hw0 2 _).own hw0 3 _).own hw0 4 _
  · exact rd_own (rd_own (rd_own (rd_own (rd_own HR.out hbw 0 _) hbw 1 _) hbw 2 _) hbw 3 _) hbw 4 _
end Go.Proofs.YtpadcjcoafidgaaGreatDoor
/-! reader.word where no bracket stands. -/
namespace Go.Proofs.YtpadcjcoafidgaaGreatDoor
open Go.RowKit

set_option maxRecDepth 100000 in
set_option maxHeartbeats 4000000 in
theorem word_any (w : World) (b : Nat) (rv : Value) (rs : List Int) (i : Nat) (h : Rd w b rv rs i) (ht : Tame rs) (ha : Asc rs) :
    Calls Tryz.prog 134 #[.pointer (some ⟨b, 0, none⟩)] w fun e w' => (e = .returned (tokV 1 (strOf ((rs.drop i).takeWhile isPart)) noStr false false)) ∧ But w.heap.size b w w' ∧ Rd w' b rv rs (i + nameLen (rs.drop i)) := by
  have H := Lib.hid h
  have T := Lib.hid ht
  have hbw : b < w.heap.size := World.block_lt_of_cell? w _ h.c0
  obtain ⟨z, hz⟩ : ∃ z, strOf ((rs.drop i).takeWhile isPart) = z := ⟨_, rfl⟩
  obtain ⟨j, hj⟩ : ∃ j, i + nameLen (rs.drop i) = j := ⟨_, rfl⟩
  have hd : at_ rs (j + 0) ≠ 40 := by have := ht.or (j + 0); unfold tm at this; omega
  have hN := fun w' h' => name_any w' b rv rs i h' ht ha
  rw [hz, hj] at hN
  rw [hz, hj]
  have HN := Lib.hid hN
  clear h ht hN hz hj
  go_enter Tryz.func134, Tryz.ntmps134
  go_wp2_with fail
  refine (HN.out _ (H.out.next (bAlloc1 _ _))).mono ?_
  rintro e w1 ⟨rfl, hbut, hrd⟩
  have hb1 : But w.heap.size b w w1 := (But.of (bAlloc1 _ _)).trans (hbut.mono (by simp))
  have HR := Lib.hid hrd
  obtain ⟨hc, hf⟩ := hbut.cells (by simp; omega) (k := w.heap.size) (by simp)
  have hs1 := hbut.size
  clear hbut hrd
  have hbw1 : b < w1.heap.size := Nat.lt_of_lt_of_le hbw hb1.size
  simp only [World.size_alloc] at hs1
  have hne : ¬ (w.heap.size = w1.heap.size) := by omega
  have hlt : w.heap.size < w1.heap.size := by omega
  go_wp2_with fail
  refine (peek_any _ b rv rs j 0 ?_ (by decide)).mono ?_
  · repeat' first | exact HR.out | refine rd_own ?_ hbw1 _ _ | refine Rd.next ?_ (bAlloc1 _ _)
  rintro e w2 ⟨rfl, hb2⟩
  obtain ⟨c, hcc⟩ : ∃ c, at_ rs (j + 0) = c := ⟨_, rfl⟩
  rw [hcc] at hd ⊢
  have hdb : (c != 40) = true := by simpa using hd
  obtain ⟨hc2, hf2⟩ := bcell hb2
  have hz2 := hb2.size
  simp only [World.size_alloc] at hz2 hc2 hf2
  have HR2 : Hid (Rd w2 b rv rs j) := Lib.hid (Rd.next (by repeat' first | exact HR.out | refine rd_own ?_ hbw1 _ _ | refine Rd.next ?_ (bAlloc1 _ _)) hb2)
  have hb12 : But w.heap.size b w w2 := (hb1.trans ((But.of (bAlloc1 _ _)).mono hb1.size)).trans ((But.of hb2).mono (by simp; omega))
  clear hb2
  have hw0 : w.heap.size ≤ w.heap.size := Nat.le_refl _
  have g : ∀ o, w2.cell? ⟨w.heap.size, o, none⟩ = (w.alloc _).cell? ⟨w.heap.size, o, none⟩ := fun o => (hc2 _ o (by omega)).trans ((World.cell?_alloc_lt _ _ _ hlt).trans (hc o))
  go_wp2_with fail
  refine bodyPost_ret (v := tokV 1 z noStr false false) ?_ rfl ⟨rfl, ?_, ?_⟩
  · simp [results, Tryz.results134, go_sem, g, tokV, noStr]
  · exact ((((hb12.own hw0 0 _).own hw0 1 _).own hw0 2 _).own hw0 3 _).own hw0 4 _
  · exact rd_own (rd_own (rd_own (rd_own (rd_own HR2.out hbw 0 _) hbw 1 _) hbw 2 _) hbw 3 _) hbw 4 _
end Go.Proofs.YtpadcjcoafidgaaGreatDoor
/-! reader.hash. -/
namespace Go.Proofs.YtpadcjcoafidgaaGreatDoor
open Go.RowKit
theorem frozen_alloc_lt (w : World) (o : Obj) (a : Addr) (h : a.block < w.heap.size) : (w.alloc o).frozen? a = w.frozen? a := World.frozen?_of_block (Below.heap_alloc w o a.block h)
/-- A hash with a name behind it. -/
def hashTok (s : List Int) : Value := tokV 4 (strOf ((s.drop 1).takeWhile isPart)) noStr false (begins (s.drop 1))
set_option maxRecDepth 100000 in
set_option maxHeartbeats 4000000 in
theorem hash_any (w : World) (b : Nat) (rv : Value) (rs : List Int) (i : Nat) (h : Rd w b rv rs i) (ht : Tame rs) (ha : Asc rs) (hi : i < rs.length) :
    Calls Tryz.prog 128 #[.pointer (some ⟨b, 0, none⟩)] w fun e w' => (e = .returned (hashTok (rs.drop i))) ∧ But w.heap.size b w w' ∧ Rd w' b rv rs (i + 1 + nameLen (rs.drop (i + 1))) := by
  have H := Lib.hid h
  have hbw : b < w.heap.size := World.block_lt_of_cell? w _ h.c0
  have hbig := h.big
  have HZ : Hid (hashTok (rs.drop i) = tokV 4 (strOf ((rs.drop (i + 1)).takeWhile isPart)) noStr false (begins (rs.drop (i + 1)))) := Lib.hid (by unfold hashTok; rw [List.drop_drop])
  obtain ⟨z, hz⟩ : ∃ z, strOf ((rs.drop (i + 1)).takeWhile isPart) = z := ⟨_, rfl⟩
  obtain ⟨j, hj⟩ : ∃ j, i + 1 + nameLen (rs.drop (i + 1)) = j := ⟨_, rfl⟩
  obtain ⟨fl, hfl⟩ : ∃ j, begins (rs.drop (i + 1)) = j := ⟨_, rfl⟩
  have hN := fun w' h' => name_any w' b rv rs (i + 1) h' ht ha
  have hG := fun w' h' => begins_any w' b rv rs (i + 1) 0 h' (by decide) ht
  rw [Nat.add_zero, hfl] at hG
  rw [hz, hj] at hN
  rw [hz, hfl] at HZ
  rw [HZ.out, hj]
  have HN := Lib.hid hN
  have HG := Lib.hid hG
  have hC := h.c1
  have c1 : (w.alloc (.cells #[.int .i64 0, .string ⟨#[]⟩, .string ⟨#[]⟩, .bool false, .bool false] 23)).cell? ⟨b, 0 + 1, none⟩ = some (.int .i64 (i : Int)) := (h.next (bAlloc1 w _)).c1
  have f1 : (w.alloc (.cells #[.int .i64 0, .string ⟨#[]⟩, .string ⟨#[]⟩, .bool false, .bool false] 23)).frozen? ⟨b, 0 + 1, none⟩ = false := (h.next (bAlloc1 w _)).f1
  have hwj : IntKind.i64.wrap ((i : Int) + 1) = ((i + 1 : Nat) : Int) := by rw [Go.IntWalk.i64_in _ (by omega)]; omega
  obtain ⟨u, hu⟩ : ∃ u, w.setCell ⟨b, 1, none⟩ (.int .i64 ((i : Int) + 1)) = u := ⟨_, rfl⟩
  have hRu := h.store (i + 1) ((i : Int) + 1) (by omega) (by omega)
  have hbu : But w.heap.size b w u := hu ▸ (But.of (Below.refl _ _)).set 1 (.int .i64 ((i : Int) + 1))
  have hus : u.heap.size = w.heap.size := by rw [← hu]; simp [World.setCell]
  rw [hu] at hRu
  have HR0 := Lib.hid hRu
  clear h ht hN hz hj hG hfl hRu
  go_enter Tryz.func128, Tryz.ntmps128
  go_wp2_with fail
  clear c1 f1 hC hu
  refine (HG.out _ (HR0.out.next (bAlloc1 _ _))).mono ?_
  rintro e w1 ⟨rfl, hb1⟩
  have HR := Lib.hid ((HR0.out.next (bAlloc1 _ _)).next hb1)
  have hb1' : But w.heap.size b w w1 := (hbu.trans ((But.of (bAlloc1 _ _)).mono (by omega))).trans ((But.of hb1).mono (by simp; omega))
  obtain ⟨hc, hf⟩ := bcell hb1
  have hz1 := hb1.size
  simp only [World.size_alloc] at hz1 hc hf
  clear hb1
  have hbw1 : b < w1.heap.size := Nat.lt_of_lt_of_le hbw hb1'.size
  have hne : ¬ (u.heap.size = w1.heap.size) := by omega
  have hlt : u.heap.size < w1.heap.size := by omega
  go_wp2_with fail
  refine (HN.out _ ?_).mono ?_
  · repeat' first | exact HR.out | refine rd_own ?_ hbw1 _ _ | refine Rd.next ?_ (bAlloc1 _ _)
  rintro e w2 ⟨rfl, hb2, hrd2⟩
  have HR2 := Lib.hid hrd2
  have hb12 : But w.heap.size b w w2 := (hb1'.trans ((But.of (bAlloc1 _ _)).mono hb1'.size)).trans (hb2.mono (by simp; omega))
  obtain ⟨hc2, hf2⟩ := hb2.cells (k := w1.heap.size) (by omega) (by simp)
  obtain ⟨hc3, hf3⟩ := hb2.cells (k := u.heap.size) (by omega) (by simp; omega)
  have hz2 := hb2.size
  simp only [World.size_alloc] at hz2
  clear hb2 hrd2
  have g : ∀ o, w2.cell? ⟨w.heap.size, o, none⟩ = (u.alloc (.cells #[.int .i64 0, .string ⟨#[]⟩, .string ⟨#[]⟩, .bool false, .bool false] 23)).cell? ⟨u.heap.size, o, none⟩ := fun o => by rw [← hus]; exact (hc3 o).trans ((World.cell?_alloc_lt _ _ _ hlt).trans (hc _ o (by omega)))
  have gf : ∀ o, w2.frozen? ⟨w.heap.size, o, none⟩ = (u.alloc (.cells #[.int .i64 0, .string ⟨#[]⟩, .string ⟨#[]⟩, .bool false, .bool false] 23)).frozen? ⟨u.heap.size, o, none⟩ := fun o => by rw [← hus]; exact (hf3 o).trans ((frozen_alloc_lt _ _ _ hlt).trans (hf _ o (by omega)))
  have hw0 : w.heap.size ≤ w.heap.size := Nat.le_refl _
  have hw1 : w.heap.size ≤ w1.heap.size := by omega
  have hneW : ¬ (w.heap.size = w1.heap.size) := by omega
  have hneW' : ¬ (w1.heap.size = w.heap.size) := by omega
  clear hus
  go_wp2_with fail
  refine bodyPost_ret (v := tokV 4 z noStr false fl) ?_ rfl ⟨rfl, ?_, ?_⟩
  · simp [results, Tryz.results128, go_sem, g, tokV, noStr]
  · exact (((((hb12.own hw1 1 _).own hw0 0 _).own hw0 1 _).own hw0 2 _).own hw0 3 _).own hw0 4 _
  · exact rd_own (rd_own (rd_own (rd_own (rd_own (rd_own HR2.out hbw1 1 _) hbw 0 _) hbw 1 _) hbw 2 _) hbw 3 _) hbw 4 _
end Go.Proofs.YtpadcjcoafidgaaGreatDoor
/-! reader.number where no point and no exponent stands. -/
namespace Go.Proofs.YtpadcjcoafidgaaGreatDoor
open Go.RowKit

theorem noE_tab : ∀ n : Fin 128, n.val = 101 ∨ n.val = 69 ∨ (bits .or .i32 (n.val : Int) 32 == 101) = false := by decide +kernel
theorem noE (c : Int) (h : c = -1 ∨ tm c) (h1 : c ≠ 101) (h2 : c ≠ 69) : (bits .or .i32 c 32 == 101) = false := by
  rcases h with rfl | h
  · decide +kernel
  · unfold tm at h
    have := noE_tab ⟨c.toNat, by omega⟩
    simp only at this
    rw [Int.toNat_of_nonneg (by omega)] at this
    rcases this with e | e | e
    · omega
    · omega
    · exact e
/-- Two blocks that the call has made at its beginning, and what they hold. -/
structure Two (w : World) (b : Nat) (W : World) (c0 c1 : Array Value) : Prop where
  s : w.heap.size + 2 ≤ W.heap.size
  m0 : ∀ o, W.cell? ⟨w.heap.size, o, none⟩ = c0[o]?
  f0 : ∀ o, W.frozen? ⟨w.heap.size, o, none⟩ = false
  m1 : ∀ o, W.cell? ⟨w.heap.size + 1, o, none⟩ = c1[o]?
  f1 : ∀ o, W.frozen? ⟨w.heap.size + 1, o, none⟩ = false
  but : But w.heap.size b w W
theorem Two.next {w W W' : World} {b : Nat} {c0 c1 : Array Value} (h : Two w b W c0 c1) (hb : b < w.heap.size) (k : But W.heap.size b W W') : Two w b W' c0 c1 := by
  have hs := h.s
  obtain ⟨g0, e0⟩ := k.cells (k := w.heap.size) (by omega) (by omega)
  obtain ⟨g1, e1⟩ := k.cells (k := w.heap.size + 1) (by omega) (by omega)
  exact ⟨Nat.le_trans hs k.size, fun o => (g0 o).trans (h.m0 o), fun o => (e0 o).trans (h.f0 o), fun o => (g1 o).trans (h.m1 o), fun o => (e1 o).trans (h.f1 o), h.but.trans (k.mono (by omega))⟩
theorem Two.new (w : World) (b : Nat) (c0 c1 : Array Value) (t0 t1 : TypeId) : Two w b ((w.alloc (.cells c0 t0)).alloc (.cells c1 t1)) c0 c1 := by
  have h1 : ((w.alloc (.cells c0 t0)).alloc (.cells c1 t1)).heap[w.heap.size]? = some (.cells c0 t0) := by
    rw [Below.heap_alloc _ _ _ (by simp)]; exact heap_alloc_new w _
  have h2 : ((w.alloc (.cells c0 t0)).alloc (.cells c1 t1)).heap[w.heap.size + 1]? = some (.cells c1 t1) := by
    have := heap_alloc_new (w.alloc (.cells c0 t0)) (.cells c1 t1)
    simpa using this
  exact ⟨by simp, fun o => Lib.cell_of_heap h1 o, fun o => Lib.frozen_of_heap h1 o, fun o => Lib.cell_of_heap h2 o, fun o => Lib.frozen_of_heap h2 o, But.of (bAlloc2 w _ _)⟩
theorem Two.drew {w W : World} {b : Nat} {c0 c1 : Array Value} (h : Two w b W c0 c1) : Two w b W.drew c0 c1 := ⟨h.s, h.m0, h.f0, h.m1, h.f1, ⟨h.but.os, h.but.tape, h.but.output, h.but.size, h.but.block⟩⟩
/-- A store into the second block. -/
theorem Two.set1 {w W : World} {b : Nat} {c0 c1 : Array Value} (h : Two w b W c0 c1) (k : Nat) (x : Value) (hk : k < c1.size) : Two w b (W.setCell ⟨w.heap.size + 1, k, none⟩ x) c0 (c1.setIfInBounds k x) := by
  refine ⟨by have := h.s; simpa [World.setCell] using this, fun o => ?_, fun o => by simp [h.f0], fun o => ?_, fun o => by simp [h.f1], h.but.own (by omega) _ _⟩
  · rw [World.cell?_setCell_other _ _ _ _ (by simp)]; exact h.m0 o
  · by_cases ho : k = o
    · subst ho
      rw [World.cell?_setCell_same _ _ _ ((h.m1 k).trans (Array.getElem?_eq_getElem hk))]
      simp [hk]
    · rw [World.cell?_setCell_other _ _ _ _ (by simp), h.m1 o, Array.getElem?_setIfInBounds_ne ho]
/-- A store into the reader's own block. -/
theorem Two.setb {w W : World} {b : Nat} {c0 c1 : Array Value} (h : Two w b W c0 c1) (hb : b < w.heap.size) (k : Nat) (x : Value) : Two w b (W.setCell ⟨b, k, none⟩ x) c0 c1 :=
  ⟨by have := h.s; simpa [World.setCell] using this, fun o => by rw [World.cell?_setCell_other _ _ _ _ (by simp <;> omega)]; exact h.m0 o, fun o => by simp [h.f0],
    fun o => by rw [World.cell?_setCell_other _ _ _ _ (by simp <;> omega)]; exact h.m1 o, fun o => by simp [h.f1], h.but.set _ _⟩
theorem encode_asc (c : Int) (h : asc c) : Utf8.encode c = ⟨#[byteOf c]⟩ := by
  obtain ⟨h0, h1⟩ := h
  have hv : Utf8.valid c = true := by simp [Utf8.valid]; omega
  unfold Utf8.encode
  simp only [hv, if_true]
  rw [if_pos (by omega)]
  rfl
theorem runesBytes_asc (l : List Int) (h : ∀ c ∈ l, asc c) : runesBytes l = strOf l := by
  have key : ∀ (l : List Int) (s : ByteArray), (∀ c ∈ l, asc c) → l.foldl (fun r n => r ++ Utf8.encode n) s = s ++ strOf l := by
    intro l
    induction l with
    | nil => intro s _; exact (ByteArray.ext (by simp [strOf]))
    | cons a l ih =>
      intro s hl
      rw [List.foldl_cons, ih _ (fun c hc => hl c (by simp [hc])), encode_asc a (hl a (by simp))]
      unfold strOf
      apply ByteArray.ext
      simp
  unfold runesBytes
  rw [key l _ h]
  apply ByteArray.ext
  simp
/-- The sign's rune, and the digits'. -/
def signLen (s : List Int) : Nat := if isIn 48 57 (at_ s 0) then 0 else 1
def digLen (s : List Int) : Nat := signLen s + ((s.drop (signLen s)).takeWhile (isIn 48 57)).length
/-- The token of a number, and how many runes it has. -/
def numTok (s : List Int) : Value :=
  if begins (s.drop (digLen s)) = true then tokV 12 (strOf (s.take (digLen s))) (strOf ((s.drop (digLen s)).takeWhile isPart)) true false
  else if at_ (s.drop (digLen s)) 0 = 37 then tokV 11 (strOf (s.take (digLen s))) noStr true false
  else tokV 10 (strOf (s.take (digLen s))) noStr true false
def numLen (s : List Int) : Nat :=
  digLen s + if begins (s.drop (digLen s)) = true then nameLen (s.drop (digLen s)) else if at_ (s.drop (digLen s)) 0 = 37 then 1 else 0
/-- No exponent stands behind the digits. -/
def NoExp (s : List Int) : Prop := at_ s (digLen s) ≠ 101 ∧ at_ s (digLen s) ≠ 69
end Go.Proofs.YtpadcjcoafidgaaGreatDoor
