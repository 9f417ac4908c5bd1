/- The reader of tokens: what stands in its two cells; peek, over, escape. -/
import Derived.Test.YtpadcjcoafidgaaGreatDoorText
import Derived.BigQuiet
import Derived.IntWalk
import Derived.Deep.QuietTactic
namespace Go.Proofs.YtpadcjcoafidgaaGreatDoor
open Go.RowKit

def at_ (rs : List Int) (k : Nat) : Int := rs[k]?.getD (-1)
theorem at_of {rs : List Int} {k : Nat} (h : k < rs.length) : at_ rs k = rs[k] := by simp [at_, h]
theorem at_end {rs : List Int} {k : Nat} (h : rs.length ≤ k) : at_ rs k = -1 := by simp [at_, h]
/-- The runes that a slice value holds, in a block below B. -/
def Rn (B : Nat) (w : World) (v : Value) (rs : List Int) : Prop :=
  ∃ p off cap, v = .slice (some ⟨p, off, none⟩) rs.length cap ∧ rs.length ≤ cap ∧ p < B ∧ ∀ (k : Nat) (h : k < rs.length), w.cell? ⟨p, off + k, none⟩ = some (.int .i32 rs[k])
/-- The reader in block b stands at i of the runes. -/
structure Rd (w : World) (b : Nat) (rv : Value) (rs : List Int) (i : Nat) : Prop where
  c0 : w.cell? ⟨b, 0, none⟩ = some rv
  c1 : w.cell? ⟨b, 0 + 1, none⟩ = some (.int .i64 (i : Int))
  f1 : w.frozen? ⟨b, 0 + 1, none⟩ = false
  le : i ≤ rs.length
  big : rs.length ≤ 4294967295
  rn : Rn b w rv rs
/-- Below B, but for block b, the world is as it was. -/
structure But (B b : Nat) (w w' : World) : Prop where
  os : w'.os = w.os
  tape : w'.tape = w.tape
  output : w'.output = w.output
  size : w.heap.size ≤ w'.heap.size
  block : ∀ k, k < B → k ≠ b → w'.heap[k]? = w.heap[k]?
theorem But.of {B b : Nat} {w w' : World} (h : Below B w w') : But B b w w' := ⟨h.os, h.tape, h.output, h.size, fun k hk _ => h.block k hk⟩
theorem But.trans {B b : Nat} {u v w : World} (h : But B b u v) (k : But B b v w) : But B b u w :=
  ⟨k.os.trans h.os, k.tape.trans h.tape, k.output.trans h.output, Nat.le_trans h.size k.size, fun i hi hn => (k.block i hi hn).trans (h.block i hi hn)⟩
theorem But.mono {B B' b : Nat} {w w' : World} (h : But B b w w') (hB : B' ≤ B) : But B' b w w' := ⟨h.os, h.tape, h.output, h.size, fun k hk => h.block k (Nat.lt_of_lt_of_le hk hB)⟩
theorem But.below {B B' b : Nat} {w w' : World} (h : But B b w w') (hB : B' ≤ B) (hb : B' ≤ b) : Below B' w w' := ⟨h.os, h.tape, h.output, h.size, fun k hk => h.block k (Nat.lt_of_lt_of_le hk hB) (by omega)⟩
theorem But.next {b : Nat} {w u v : World} (h : But w.heap.size b w u) (k : But u.heap.size b u v) : But w.heap.size b w v := h.trans (k.mono h.size)
theorem But.set {B b : Nat} {w u : World} (h : But B b w u) (k : Nat) (x : Value) : But B b w (u.setCell ⟨b, k, none⟩ x) :=
  h.trans ⟨rfl, rfl, rfl, by simp [World.setCell], fun i _ hn => Below.heap_setCell _ _ _ _ hn⟩
theorem Rn.kept {B b C : Nat} {w w' : World} {v : Value} {rs : List Int} (h : Rn B w v rs) (hb : But C b w w') (hC : w.heap.size ≤ C) (hB : B ≤ b) : Rn B w' v rs := by
  obtain ⟨p, off, cap, hv, hc, hp, hcell⟩ := h
  refine ⟨p, off, cap, hv, hc, hp, fun k hk => ?_⟩
  have h1 := hcell k hk
  have hlt : p < w.heap.size := World.block_lt_of_cell? w _ h1
  exact (World.cell?_of_block (w := w) (a := ⟨p, _, none⟩) (hb.block p (by omega) (by omega))).trans h1
theorem Rd.below {w w' : World} {b C : Nat} {rv : Value} {rs : List Int} {i : Nat} (h : Rd w b rv rs i) (hb : Below C w w') (hC : w.heap.size ≤ C) : Rd w' b rv rs i := by
  have hlt : b < C := Nat.lt_of_lt_of_le (World.block_lt_of_cell? w _ h.c0) hC
  exact ⟨(hb.cell (p := ⟨b, _, none⟩) hlt).trans h.c0, (hb.cell (p := ⟨b, _, none⟩) hlt).trans h.c1, (hb.frozen (p := ⟨b, _, none⟩) hlt).trans h.f1, h.le, h.big, h.rn.kept (But.of hb) hC (Nat.le_refl _)⟩
theorem Rd.next {w w' : World} {b : Nat} {rv : Value} {rs : List Int} {i : Nat} (h : Rd w b rv rs i) (hb : Below w.heap.size w w') : Rd w' b rv rs i := h.below hb (Nat.le_refl _)
theorem Rd.store {w : World} {b : Nat} {rv : Value} {rs : List Int} {i : Nat} (h : Rd w b rv rs i) (j : Nat) (x : Int) (hx : x = (j : Int)) (hj : j ≤ rs.length) : Rd (w.setCell ⟨b, 1, none⟩ (.int .i64 x)) b rv rs j := by
  subst hx
  exact ⟨by rw [World.cell?_setCell_other _ _ _ _ (by simp)]; exact h.c0, World.cell?_setCell_same _ _ _ h.c1, by simp [h.f1], hj, h.big, h.rn.kept ((But.of (Below.refl _ _)).set _ _) (Nat.le_refl _) (Nat.le_refl _)⟩


set_option maxHeartbeats 800000 in
theorem peek_any (w : World) (b : Nat) (rv : Value) (rs : List Int) (i n : Nat) (h : Rd w b rv rs i) (hn : n ≤ 1000) :
    Calls Tryz.prog 122 #[.pointer (some ⟨b, 0, none⟩), .int .i64 (n : Int)] w fun e w' => (e = .returned (.int .i32 (at_ rs (i + n)))) ∧ Below w.heap.size w w' := by
  obtain ⟨h0, h1, -, hle, hbig, p, off, cap, rfl, hcap, hp, hcell⟩ := h
  have hw1 : IntKind.i64.wrap ((rs.length : Int) - (i : Int)) = (rs.length : Int) - (i : Int) := Go.IntWalk.i64_in _ (by omega)
  have hw2 : IntKind.i64.wrap ((i : Int) + (n : Int)) = ((i + n : Nat) : Int) := by rw [Go.IntWalk.i64_in _ (by omega)]; omega
  by_cases hlt : i + n < rs.length
  · have hcell' := hcell (i + n) hlt
    clear hcell
    have q1 : (0 : Int) ≤ ((i + n : Nat) : Int) := by omega
    have q2 : ((i + n : Nat) : Int) < (rs.length : Int) := by omega
    have q3 : ¬ ((rs.length : Int) - (i : Int) ≤ (n : Int)) := by omega
    rw [at_of hlt]
    go_enter Tryz.func122, Tryz.ntmps122
    go_wp2_with fail
    go_quiet (fail)
    go_wp2_with fail
    go_quiet (fail)
    go_wp2_with fail
    go_ret
    exact ⟨rfl, bDrew (bDrew (Below.refl _ _) _) _⟩
  · clear hcell
    have q3 : (rs.length : Int) - (i : Int) ≤ (n : Int) := by omega
    rw [at_end (by omega)]
    go_enter Tryz.func122, Tryz.ntmps122
    go_wp2_with fail
    go_quiet (fail)
    go_wp2_with fail
    go_ret
    exact ⟨rfl, bDrew (Below.refl _ _) _⟩

set_option maxHeartbeats 800000 in
theorem over_any (w : World) (b : Nat) (rv : Value) (rs : List Int) (i : Nat) (h : Rd w b rv rs i) :
    Calls Tryz.prog 86 #[.pointer (some ⟨b, 0, none⟩)] w fun e w' => (e = .returned (.bool (decide (rs.length ≤ i)))) ∧ Below w.heap.size w w' := by
  obtain ⟨h0, h1, -, hle, hbig, p, off, cap, rfl, hcap, hp, hcell⟩ := h
  clear hcell
  go_enter Tryz.func86, Tryz.ntmps86
  go_wp2_with fail
  go_quiet (fail)
  go_wp2_with fail
  go_ret
  exact ⟨rfl, bDrew (Below.refl _ _) _⟩

/-- A digit, a letter, a hyphen, #, %, a space. -/
def tm (c : Int) : Prop := (48 ≤ c ∧ c ≤ 57) ∨ (65 ≤ c ∧ c ≤ 90) ∨ (97 ≤ c ∧ c ≤ 122) ∨ c = 45 ∨ c = 35 ∨ c = 37 ∨ c = 32
instance (c : Int) : Decidable (tm c) := by unfold tm; infer_instance
/-- Only such runes stand here. -/
def Tame (rs : List Int) : Prop := ∀ c ∈ rs, tm c
theorem Tame.or {rs : List Int} (h : Tame rs) (k : Nat) : at_ rs k = -1 ∨ tm (at_ rs k) := by
  by_cases hk : k < rs.length
  · rw [at_of hk]; exact .inr (h _ (List.getElem_mem _))
  · exact .inl (at_end (by omega))
theorem Tame.at {rs : List Int} (h : Tame rs) (k : Nat) : at_ rs k ≠ 92 := by
  have := h.or k
  unfold tm at this
  omega
theorem escape_no (w : World) (b : Nat) (rv : Value) (rs : List Int) (i n : Nat) (h : Rd w b rv rs i) (hn : n ≤ 1000) (ht : Tame rs) :
    Calls Tryz.prog 126 #[.pointer (some ⟨b, 0, none⟩), .int .i64 (n : Int)] w fun e w' => (e = .returned (.bool false)) ∧ Below w.heap.size w w' := by
  have h9 := ht.at (i + n)
  go_enter Tryz.func126, Tryz.ntmps126
  go_wp2_with fail
  refine (peek_any w b rv rs i n h hn).mono ?_
  rintro e w1 ⟨rfl, hb1⟩
  go_wp2_with fail
  go_ret
  exact ⟨rfl, hb1⟩
/-- Does a name begin here? -/
def begins (s : List Int) : Bool := if at_ s 0 = 45 then decide (at_ s 1 = 45) || (decide (at_ s 1 ≠ -1) && isStart (at_ s 1)) else decide (at_ s 0 ≠ -1) && isStart (at_ s 0)

theorem at_drop (rs : List Int) (i k : Nat) : at_ (rs.drop i) k = at_ rs (i + k) := by simp [at_, List.getElem?_drop]
set_option maxHeartbeats 800000 in
theorem begins_any (w : World) (b : Nat) (rv : Value) (rs : List Int) (i n : Nat) (h : Rd w b rv rs i) (hn : n ≤ 100) (ht : Tame rs) :
    Calls Tryz.prog 133 #[.pointer (some ⟨b, 0, none⟩), .int .i64 (n : Int)] w fun e w' => (e = .returned (.bool (begins (rs.drop (i + n))))) ∧ Below w.heap.size w w' := by
  have H := Lib.hid h
  have T := Lib.hid ht
  clear h ht
  have hw2 : IntKind.i64.wrap ((n : Int) + 1) = ((n + 1 : Nat) : Int) := by rw [Go.IntWalk.i64_in _ (by omega)]; omega
  obtain ⟨c, hc⟩ : ∃ c, at_ rs (i + n + 0) = c := ⟨_, rfl⟩
  obtain ⟨d, hd⟩ : ∃ c, at_ rs (i + n + 1) = c := ⟨_, rfl⟩
  have hbg : RowKit.Hid (begins (rs.drop (i + n)) = if c = 45 then decide (d = 45) || (decide (d ≠ -1) && isStart d) else decide (c ≠ -1) && isStart c) := Lib.hid (by unfold begins; rw [at_drop, at_drop, hc, hd])
  go_enter Tryz.func133, Tryz.ntmps133
  go_wp2_with fail
  refine (peek_any w b rv rs i n H.out (by omega)).mono ?_
  rintro e w1 ⟨rfl, hb1⟩
  rw [show at_ rs (i + n) = c from hc]
  have H1 := Lib.hid (H.out.next hb1)
  by_cases h45 : c = 45
  · go_wp2_with fail
    refine (peek_any w1 b rv rs i (n + 1) H1.out (by omega)).mono ?_
    rintro e w2 ⟨rfl, hb2⟩
    rw [show at_ rs (i + (n + 1)) = d from hd]
    have H2 := Lib.hid (H1.out.next hb2)
    have hb12 := bNext hb1 hb2
    have hbe : begins (rs.drop (i + n)) = (decide (d = 45) || (decide (d ≠ -1) && isStart d)) := by rw [hbg.out, if_pos h45]
    have HB := Lib.hid hbe
    clear hb1 hb2 hbe
    go_wp2_with (first
      | (go_at_call 154; refine (Start_any _ _).mono ?_; rintro e w3 ⟨rfl, hb3⟩; have H3 := Lib.hid (H2.out.next hb3))
      | (go_at_call 126; refine (escape_no _ b rv rs i (n + 1) (by first | exact H3.out | exact H2.out) (by omega) T.out).mono ?_; rintro e w4 ⟨rfl, hb4⟩))
    all_goals go_ret
    all_goals exact ⟨congrArg (fun b => Ending.returned (Value.bool b)) (by rw [HB.out]; simp [*]), by first | exact bNext (bNext hb12 hb3) hb4 | exact bNext hb12 hb4 | exact bNext hb12 hb3 | exact hb12⟩
  · have HB : Hid (begins (rs.drop (i + n)) = (decide (c ≠ -1) && isStart c)) := Lib.hid (by rw [hbg.out, if_neg h45])
    go_wp2_with (first
      | (go_at_call 154; refine (Start_any _ _).mono ?_; rintro e w3 ⟨rfl, hb3⟩; have H3 := Lib.hid (H1.out.next hb3))
      | (go_at_call 126; refine (escape_no _ b rv rs i n (by first | exact H3.out | exact H1.out) (by omega) T.out).mono ?_; rintro e w4 ⟨rfl, hb4⟩))
    all_goals go_ret
    all_goals exact ⟨congrArg (fun b => Ending.returned (Value.bool b)) (by rw [HB.out]; simp [*]), by first | exact bNext (bNext hb1 hb3) hb4 | exact bNext hb1 hb4 | exact bNext hb1 hb3 | exact hb1⟩
/-- Does a number begin here, with no point? -/
def counts (s : List Int) : Bool := if at_ s 0 = 45 then isIn 48 57 (at_ s 1) else isIn 48 57 (at_ s 0)
end Go.Proofs.YtpadcjcoafidgaaGreatDoor
