/- parse.Values of tokens that open nothing. -/
import Derived.Test.YtpadcjcoafidgaaGreatDoorTrim
namespace Go.Proofs.YtpadcjcoafidgaaGreatDoor
open Go.RowKit

/-- A kind that opens nothing. -/
def flatK (k : Int) : Prop := k ≠ 2 ∧ k ≠ 19 ∧ k ≠ 21 ∧ k ≠ 23
theorem closes_no (k : Int) (h : flatK k) (w : World) :
    Calls Tryz.prog 120 #[.int .i64 k] w fun e w' => e = .returned (.int .i64 0) ∧ w' = w := by
  obtain ⟨h1, h2, h3, h4⟩ := h
  go_enter Tryz.func120, Tryz.ntmps120
  go_wp2_with fail
  go_ret
  exact ⟨rfl, rfl⟩
theorem never_any (t : Tok) (w : World) :
    Calls Tryz.prog 85 #[.agg #[.int .i64 t.k, .string t.t, .string t.u, .bool t.wh, .bool t.fl]] w fun e w' => e = .returned (.bool false) ∧ Below w.heap.size w w' := by
  go_enter Tryz.func85, Tryz.ntmps85
  go_wp2_with fail
  go_ret
  exact ⟨rfl, bAlloc1 _ _⟩
/-- The tokens that a slice value holds, in a block below B. -/
def Tk (B : Nat) (w : World) (v : Value) (toks : List Tok) : Prop :=
  ∃ p off cap, v = .slice (some ⟨p, off, none⟩) toks.length cap ∧ p < B ∧ ∀ (k : Nat) (h : k < toks.length) (j : Nat) (x : Value), toks[k].row[j]? = some x → w.cell? ⟨p, off + k * 5 + j, none⟩ = some x
/-- The cutter in block b stands at i of the tokens. -/
structure Cu (w : World) (b : Nat) (tv : Value) (toks : List Tok) (i : Nat) : Prop where
  c0 : w.cell? ⟨b, 0, none⟩ = some tv
  c1 : w.cell? ⟨b, 0 + 1, none⟩ = some (.int .i64 (i : Int))
  f1 : w.frozen? ⟨b, 0 + 1, none⟩ = false
  le : i ≤ toks.length
  big : toks.length ≤ 100000
  tk : Tk b w tv toks
theorem Cu.below {w w' : World} {b B : Nat} {tv : Value} {toks : List Tok} {i : Nat} (h : Cu w b tv toks i) (hb : Below B w w') (hB : b < B) : Cu w' b tv toks i := by
  refine ⟨(hb.cell (p := ⟨b, _, none⟩) hB).trans h.c0, (hb.cell (p := ⟨b, _, none⟩) hB).trans h.c1, (hb.frozen (p := ⟨b, _, none⟩) hB).trans h.f1, h.le, h.big, ?_⟩
  obtain ⟨p, off, cap, hv, hp, hc⟩ := h.tk
  exact ⟨p, off, cap, hv, hp, fun k hk j x hx => (hb.cell (p := ⟨p, _, none⟩) (Nat.lt_trans hp hB)).trans (hc k hk j x hx)⟩
theorem Cu.next {w w' : World} {b : Nat} {tv : Value} {toks : List Tok} {i : Nat} (h : Cu w b tv toks i) (hb : Below w.heap.size w w') : Cu w' b tv toks i := h.below hb (World.block_lt_of_cell? w _ h.c0)
theorem Cu.own {w : World} {b : Nat} {tv : Value} {toks : List Tok} {i : Nat} (h : Cu w b tv toks i) {c : Nat} (hc : b < c) (k : Nat) (x : Value) : Cu (w.setCell ⟨c, k, none⟩ x) b tv toks i :=
  h.below ((Below.refl c w).setCell (p := ⟨c, k, none⟩) (Nat.le_refl _) x) hc
theorem Cu.store {w : World} {b : Nat} {tv : Value} {toks : List Tok} {i : Nat} (h : Cu w b tv toks i) (j : Nat) (x : Int) (hx : x = (j : Int)) (hj : j ≤ toks.length) : Cu (w.setCell ⟨b, 1, none⟩ (.int .i64 x)) b tv toks j := by
  subst hx
  refine ⟨by rw [World.cell?_setCell_other _ _ _ _ (by simp)]; exact h.c0, World.cell?_setCell_same _ _ _ h.c1, by simp [h.f1], hj, h.big, ?_⟩
  obtain ⟨p, off, cap, hv, hp, hc⟩ := h.tk
  exact ⟨p, off, cap, hv, hp, fun k hk j x hx => by rw [World.cell?_setCell_other _ _ _ _ (by simp <;> omega)]; exact hc k hk j x hx⟩
/-- A block that holds these cells. -/
structure Own (k : Nat) (W : World) (c : Array Value) : Prop where
  lt : k < W.heap.size
  m : ∀ o, W.cell? ⟨k, o, none⟩ = c[o]?
  f : ∀ o, W.frozen? ⟨k, o, none⟩ = false
theorem Own.below {k B : Nat} {W W' : World} {c : Array Value} (h : Own k W c) (hb : Below B W W') (hk : k < B) : Own k W' c :=
  ⟨Nat.lt_of_lt_of_le h.lt hb.size, fun o => (hb.cell (p := ⟨k, o, none⟩) hk).trans (h.m o), fun o => (hb.frozen (p := ⟨k, o, none⟩) hk).trans (h.f o)⟩
theorem Own.next {k : Nat} {W W' : World} {c : Array Value} (h : Own k W c) (hb : Below W.heap.size W W') : Own k W' c := h.below hb h.lt
theorem Own.new (W : World) (c : Array Value) (t : TypeId) : Own W.heap.size (W.alloc (.cells c t)) c :=
  ⟨by simp, fun o => Lib.cell_of_heap (heap_alloc_new W _) o, fun o => Lib.frozen_of_heap (heap_alloc_new W _) o⟩
theorem Own.set {k j : Nat} {W : World} {c : Array Value} (h : Own k W c) (hj : j ≠ k) (o : Nat) (x : Value) : Own k (W.setCell ⟨j, o, none⟩ x) c :=
  ⟨by have := h.lt; simpa [World.setCell] using this, fun q => by rw [World.cell?_setCell_other _ _ _ _ (by simp <;> omega)]; exact h.m q, fun q => by simp [h.f]⟩
theorem Own.drew {k : Nat} {W : World} {c : Array Value} (h : Own k W c) : Own k W.drew c := h.next ((Below.refl _ _).drew)
def vRow (t : Tok) : List Value := t.row ++ [.slice none 0 0]
def Val.of (t : Tok) : Val := ⟨t, none, 0, 0⟩
theorem vRow_one (t : Tok) : ∀ u ∈ vRow t, u.oneCell' = true := (Val.of t).row_one
theorem vRow_of (l : List Tok) : l.map vRow = (l.map Val.of).map Val.row := by rw [List.map_map]; rfl
set_option maxRecDepth 100000 in
set_option maxHeartbeats 4000000 in
theorem values_flat (w : World) (b : Nat) (tv : Value) (toks : List Tok) (h : Cu w b tv toks 0) (hf : ∀ t ∈ toks, flatK t.k) :
    Calls Tryz.prog 84 #[.pointer (some ⟨b, 0, none⟩), .int .i64 0, .func (.func 85) #[] #[]] w fun e w' => ∃ V, e = .returned V ∧ Vs w' V (toks.map Val.of) ∧ But w.heap.size b w w' := by
  have H0 := Lib.hid h
  have HF := Lib.hid hf
  have hbw : b < w.heap.size := World.block_lt_of_cell? w _ h.c0
  clear h hf
  go_enter Tryz.func84, Tryz.ntmps84
  go_wp2_with fail
  go_loopw [7] (fun l wr => ∃ i : Nat, Hid (Cu wr b tv toks i) ∧ wr.ownsRow w.heap.size 26 6 l ((toks.take i).map vRow).length ((toks.take i).map vRow).flatten ∧ But w.heap.size b w wr)
    (fun l _ => toks.length - lenOf l)
  case atStart => exact ⟨0, H0, ⟨by simp, .inl ⟨rfl, rfl⟩⟩, But.of (Below.refl _ _)⟩
  case round =>
    obtain ⟨i, HR, hown, hb⟩ := hrel
    clear H0
    have HM := Lib.hid (ownsRow_lenOf hown)
    have c0 := HR.out.c0
    have c1 := HR.out.c1
    have f1 := HR.out.f1
    have hle := HR.out.le
    have hbig := HR.out.big
    obtain ⟨p, off, cap, hv, hp, hcell⟩ := HR.out.tk
    have HV := Lib.hid hv
    rw [hv] at c0
    clear hv
    by_cases hj : i < toks.length
    · have q1 : (i : Int) < (toks.length : Int) := by omega
      have q0 : (0 : Int) ≤ (i : Int) := by omega
      have x0 := hcell i hj 0 _ rfl
      have x1 := hcell i hj 1 _ rfl
      have x2 := hcell i hj 2 _ rfl
      have x3 := hcell i hj 3 _ rfl
      have x4 := hcell i hj 4 _ rfl
      have hfk := HF.out _ (List.getElem_mem hj)
      obtain ⟨⟨tk, tt, tu, twh, tfl⟩, htk⟩ : ∃ t, toks[i] = t := ⟨_, rfl⟩
      rw [htk] at x0 x1 x2 x3 x4 hfk
      simp only at x0 x1 x2 x3 x4 hfk
      clear hcell
      go_wp2_with fail
      go_quiet (fail)
      go_wp2_with fail
      obtain ⟨W, hW⟩ : ∃ W, wr.drewN nq = W := ⟨_, rfl⟩
      have hWd : Below wr.heap.size wr W := hW ▸ bDrew (Below.refl _ _) nq
      have HR1 := Lib.hid (HR.out.next hWd)
      have hown1 := ownsRow_below hown hWd (Nat.le_refl _)
      have hb1 := hb.trans ((But.of hWd).mono hb.size)
      have c0 := HR1.out.c0
      have c1 := HR1.out.c1
      have f1 := HR1.out.f1
      rw [HV.out] at c0
      have hpr : p < wr.heap.size := Nat.lt_of_lt_of_le (Nat.lt_trans hp hbw) hb.size
      have x0 := (hWd.cell (p := ⟨p, _, none⟩) hpr).trans x0
      have x1 := (hWd.cell (p := ⟨p, _, none⟩) hpr).trans x1
      have x2 := (hWd.cell (p := ⟨p, _, none⟩) hpr).trans x2
      have x3 := (hWd.cell (p := ⟨p, _, none⟩) hpr).trans x3
      have x4 := (hWd.cell (p := ⟨p, _, none⟩) hpr).trans x4
      have hpW : p < W.heap.size := Nat.lt_of_lt_of_le hpr hWd.size
      have d0 : ∀ o, (W.alloc o).cell? ⟨b, 0, none⟩ = some (Value.slice (some { block := p, off := off }) toks.length cap) := fun o => HV.out ▸ (HR1.out.next (bAlloc1 W o)).c0
      have d1 : ∀ o, (W.alloc o).cell? ⟨b, 0 + 1, none⟩ = some (.int .i64 (i : Int)) := fun o => (HR1.out.next (bAlloc1 W o)).c1
      have y0 : ∀ o, (W.alloc o).cell? ⟨p, off + i * 5, none⟩ = some (.int .i64 tk) := fun o => (World.cell?_alloc_lt _ _ _ hpW).trans x0
      have y1 : ∀ o, (W.alloc o).cell? ⟨p, off + i * 5 + 1, none⟩ = some (.string tt) := fun o => (World.cell?_alloc_lt _ _ _ hpW).trans x1
      have y2 : ∀ o, (W.alloc o).cell? ⟨p, off + i * 5 + 2, none⟩ = some (.string tu) := fun o => (World.cell?_alloc_lt _ _ _ hpW).trans x2
      have y3 : ∀ o, (W.alloc o).cell? ⟨p, off + i * 5 + 3, none⟩ = some (.bool twh) := fun o => (World.cell?_alloc_lt _ _ _ hpW).trans x3
      have y4 : ∀ o, (W.alloc o).cell? ⟨p, off + i * 5 + 4, none⟩ = some (.bool tfl) := fun o => (World.cell?_alloc_lt _ _ _ hpW).trans x4
      have x0' : W.cell? ⟨p, off + i * 5, none⟩ = some (.int .i64 tk) := x0
      rw [hW]
      clear hW hWd HR hown hb hpr x0
      go_region
      obtain ⟨W2, hW2⟩ : ∃ W2, (W.alloc (Obj.cells #[Value.int IntKind.i64 tk, Value.string tt, Value.string tu, Value.bool twh, Value.bool tfl] 23)).drew = W2 := ⟨_, rfl⟩
      have hd2 : Below W.heap.size W W2 := hW2 ▸ (bAlloc1 W _).drew
      have HO2 := Lib.hid (hW2 ▸ (Own.new W #[Value.int IntKind.i64 tk, Value.string tt, Value.string tu, Value.bool twh, Value.bool tfl] 23).drew)
      have HR2 := Lib.hid (HR1.out.next hd2)
      have hown2 := ownsRow_below hown1 hd2 (Nat.le_refl _)
      have hb2 := hb1.trans ((But.of hd2).mono hb1.size)
      have c1 := HR2.out.c1
      have f1 := HR2.out.f1
      rw [hW2]
      have hwW := hb1.size
      obtain ⟨kt, hkt⟩ : ∃ k, W.heap.size = k := ⟨_, rfl⟩
      rw [hkt] at HO2 hwW ⊢
      clear hW2 hd2 hown1 hb1 HR1 x0' x1 x2 x3 x4 y0 y1 y2 y3 y4 d0 d1 hkt
      have hwi : IntKind.i64.wrap ((i : Int) + 1) = ((i + 1 : Nat) : Int) := by rw [Go.IntWalk.i64_in _ (by omega)]; omega
      have hbk : b ≠ kt := by omega
      have m0 : ∀ o, (W2.setCell ⟨b, 1, none⟩ (.int .i64 ((i : Int) + 1))).cell? ⟨kt, o, none⟩ = _ := (HO2.out.set hbk 1 (.int .i64 ((i : Int) + 1))).m
      go_wp2_with fail
      have HR3 := Lib.hid (HR2.out.store (i + 1) ((i : Int) + 1) (by omega) (by omega))
      have HO3 := Lib.hid (HO2.out.set hbk 1 (.int .i64 ((i : Int) + 1)))
      have hs3 : But W2.heap.size b W2 (W2.setCell ⟨b, 1, none⟩ (.int .i64 ((i : Int) + 1))) := (But.of (Below.refl _ _)).set 1 _
      have hown3 := ownsRow_but hown2 hs3 hbw
      have hb3 := hb2.trans (hs3.mono hb2.size)
      obtain ⟨W3, hW3⟩ : ∃ W3, W2.setCell ⟨b, 1, none⟩ (.int .i64 ((i : Int) + 1)) = W3 := ⟨_, rfl⟩
      rw [hW3] at HR3 HO3 hown3 hb3 ⊢
      clear hs3 hW3 m0 HO2 hown2 hb2 HR2 f1 c1 x0 x1 x2 x3 x4 hwi
      refine (never_any ⟨tk, tt, tu, twh, tfl⟩ _).mono ?_
      rintro e w4 ⟨rfl, hb4⟩
      have HR4 := Lib.hid (HR3.out.next hb4)
      have HO4 := Lib.hid (HO3.out.next hb4)
      have hown4 := ownsRow_below hown3 hb4 (Nat.le_refl _)
      have hbb4 := hb3.trans ((But.of hb4).mono hb3.size)
      have m4 := HO4.out.m
      have hk4 := HO4.out.lt
      clear hb4 hown3 hb3 HR3 HO3
      have hne4 : ¬ (kt = w4.heap.size) := by omega
      have n4 : ∀ o ob, (w4.alloc ob).cell? ⟨kt, o, none⟩ = _ := fun o ob => (World.cell?_alloc_lt _ _ _ hk4).trans (m4 o)
      go_wp2_with fail
      refine (closes_no tk hfk _).mono ?_
      rintro e w5 ⟨rfl, rfl⟩
      have HO5 := Lib.hid (Own.new w4 #[.int .i64 tk, .string tt, .string tu, .bool twh, .bool tfl, .slice none 0 0] 26)
      have HR5 := Lib.hid (HR4.out.next (bAlloc1 w4 (.cells #[.int .i64 tk, .string tt, .string tu, .bool twh, .bool tfl, .slice none 0 0] 26)))
      have hown5 := hown4.alloc (.cells #[.int .i64 tk, .string tt, .string tu, .bool twh, .bool tfl, .slice none 0 0] 26)
      have hbb5 := hbb4.trans ((But.of (bAlloc1 w4 (.cells #[.int .i64 tk, .string tt, .string tu, .bool twh, .bool tfl, .slice none 0 0] 26))).mono hbb4.size)
      obtain ⟨W5, hW5⟩ : ∃ W5, w4.alloc (.cells #[.int .i64 tk, .string tt, .string tu, .bool twh, .bool tfl, .slice none 0 0] 26) = W5 := ⟨_, rfl⟩
      rw [hW5] at HO5 HR5 hown5 hbb5 ⊢
      obtain ⟨k5, hk5⟩ : ∃ k, w4.heap.size = k := ⟨_, rfl⟩
      rw [hk5] at HO5 ⊢
      clear n4 hne4 m4 hk4 HO4 hown4 HR4 hbb4 hW5 hk5 hfk
      have m5 := HO5.out.m
      have hl5 := HO5.out.lt
      have hne5 : ¬ (k5 = W5.heap.size) := by omega
      have n5 : ∀ o ob, (W5.alloc ob).cell? ⟨k5, o, none⟩ = _ := fun o ob => (World.cell?_alloc_lt _ _ _ hl5).trans (m5 o)
      have hs5 := hbb5.size
      have htk' : (toks.take (i + 1)).map vRow = (toks.take i).map vRow ++ [vRow ⟨tk, tt, tu, twh, tfl⟩] := by
        rw [List.take_succ_eq_append_getElem hj, htk]; simp
      have HTK := Lib.hid htk'
      clear htk'
      have hrl : ((toks.take i).map vRow).length ≤ 100000 := by simp; omega
      go_wp2_with (at_builtin; refine wpList_append_row rfl _ _ 24 26 rfl w.heap.size 6 72 _ Tryz.underlying24 infoVal rfl (by decide) u7 ((toks.take i).map vRow) (vRow ⟨tk, tt, tu, twh, tfl⟩) rfl ((hown5.alloc _).alloc _) ⟨W5.heap.size + 1, 0, none⟩ 1 rfl rfl (cells_new2 W5 _ _ _) (vRow_one _) (by omega) (by decide) (by simp; omega) ?_; intro v' w6 hown6 hgrow hne6)
      have hR6 : Cu w6 b tv toks (i + 1) := by
        refine ((HR5.out.next (bAlloc2 W5 _ _)).below ((Below.refl w.heap.size _).grown hgrow (by simp; omega) (fun j e => (hown5.lt j e).1)) hbw)
      have hlen6 := ownsRow_lenOf hown6
      go_roundw
      case rel =>
        refine ⟨i + 1, Lib.hid hR6, by rw [HTK.out]; exact hown6, (hbb5.trans ((But.of (bAlloc2 W5 _ _)).mono hs5)).trans (But.of ((Below.refl w.heap.size _).grown hgrow (by simp; omega) (fun j e => (hown5.lt j e).1)))⟩
      case measure =>
        rw [HM.out]
        show toks.length - lenOf v' < _
        rw [hlen6]
        simp
        omega
    · have hi : i = toks.length := by omega
      clear hcell
      have q1 : ¬ (i : Int) < (toks.length : Int) := by omega
      rw [hi, List.take_length] at hown
      go_wp2_with fail
      go_quiet (fail)
      go_wp2_with fail
      go_ret
      rw [vRow_of] at hown
      exact ⟨_, rfl, (Vs.of_owns hown (by rw [List.length_map]; exact hbig)).next (bDrew (Below.refl _ _) _), hb.trans (But.of (bDrew (Below.refl _ _) _))⟩
end Go.Proofs.YtpadcjcoafidgaaGreatDoor
