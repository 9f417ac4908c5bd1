/- prop.tableAll, prop.Longs, prop.All. -/
import Derived.Test.YtpadcjcoafidgaaGreatDoorShorts
import Derived.Deep.RegionHeld3
import Derived.Deep.LoopGhost
namespace Go.Proofs.YtpadcjcoafidgaaGreatDoor
open Go.RowKit

theorem zero46 (w : World) : (zeroValue 95).run Tryz.prog w = .ok (.agg zeros) w := by kernel_rfl

set_option maxRecDepth 100000 in
theorem run_alloc46 (w : World) : (Instr.alloc 95 true (.tuple #[])).run Tryz.prog w = .ok (.pointer (some ⟨w.heap.size, 0, none⟩)) (w.alloc (.cells zeros 95)) := by kernel_rfl
theorem wpList_alloc46 {ops : Array Oper} {Q : Exit → Act → World → Prop} {w : World} {rest : List Oper} {o : Oper} {a : Act} (hg : o.guard = none) (ho : o.op = .alloc 95)
    (k : wpList Tryz.prog ops Q rest (a.put o.dst (.pointer (some ⟨w.heap.size, 0, none⟩))) (w.alloc (.cells zeros 95))) : wpList Tryz.prog ops Q (o :: rest) a w := by
  refine wpList_exec1 hg ?_ k
  unfold execOp
  simp only [ho, Sem.run_bind, run_alloc46, Result.andThen_ok]
  rfl

set_option maxRecDepth 100000 in
set_option maxHeartbeats 400000 in
/-- prop.tableAll: a new array's slice. -/
theorem tableAll_any (w : World) :
    Calls Tryz.prog 62 #[] w fun e w' => e = .returned (.slice (some ⟨w.heap.size + 1, 0, none⟩) 48 48) ∧ w' = (w.alloc (.cells tblCells 95)).alloc (.cells tblCells 95) := by
  go_enter Tryz.func62, Tryz.ntmps62
  go_wp2_with (first
    | (go_at_call 54; refine (table_any _).mono ?_; rintro e w1 ⟨rfl, rfl⟩)
    | (with_reducible refine wpList_alloc46 rfl rfl ?_)
    | (refine wpList_store_row rfl 95 _ _ rfl _ tblCells rfl rfl 95 zeros (heap_alloc_new _ _) (by kernel_rfl) (by kernel_rfl) (by kernel_rfl) ?_; rw [setRow_alloc_new]))
  go_ret
  exact ⟨rfl, rfl⟩

theorem tableAll_held (w : World) :
    Calls Tryz.prog 62 #[] w fun e w' => e = .returned (.slice (some ⟨w.heap.size + 1, 0, none⟩) 48 48) ∧ Holds4 w' (w.heap.size + 1) 95 tblCells ∧ Below w.heap.size w w' :=
  (tableAll_any w).mono fun _ _ ⟨he, hw⟩ => by
    subst hw
    exact ⟨he, heap_alloc2_new _ _ _, ((Below.refl _ w).alloc (Nat.le_refl _) _).alloc (by simp) _⟩
theorem Place_yes {s : ByteArray} {k : Nat} (h : placeN s = some k) (w : World) :
    Calls Tryz.prog 63 #[.string s] w fun e w' => e = .returned (.int .i64 (k : Int)) ∧ Below w.heap.size w w' := by
  have := Place_any s w
  unfold place at this
  rw [h] at this
  exact this

/-- The longhands of the k-th shorthand: from its first to its last. -/
def lo (k : Nat) : Nat := (placeN (shortAt k).2.1).getD 0
def hi (k : Nat) : Nat := (placeN (shortAt k).2.2).getD 0
theorem lohi : ∀ k, k < 6 → placeN (shortAt k).2.1 = some (lo k) ∧ placeN (shortAt k).2.2 = some (hi k) ∧ lo k ≤ hi k ∧ hi k < 48 := by
  decide +kernel
def longsAt (k : Nat) : List ByteArray := (List.range (hi k + 1 - lo k)).map fun i => (rowAt (lo k + i)).1
def shortN (s : ByteArray) : Option Nat := shortsTbl.findIdx? fun r => r.1 == s
/-- WHAT prop.Longs ANSWERS. -/
def longsOf (s : ByteArray) : List ByteArray := match shortN s with | some k => longsAt k | none => []

/-- None of the first k shorthands has the name s. -/
def NoShort (s : ByteArray) (k : Nat) : Prop := ∀ j, j < k → ((shortAt j).1 == s) = false
theorem NoShort.succ {s : ByteArray} {k : Nat} (h : NoShort s k) (hk : ((shortAt k).1 == s) = false) : NoShort s (k + 1) := by
  intro j hj
  by_cases e : j = k
  · subst e; exact hk
  · exact h j (by omega)
theorem shortAt_getElem {k : Nat} (h : k < shortsTbl.length) : shortAt k = shortsTbl[k] := by simp [shortAt, h]
theorem longs_none {s : ByteArray} (h : NoShort s 6) : longsOf s = [] := by
  have : shortN s = none := by
    unfold shortN
    rw [List.findIdx?_eq_none_iff]
    intro r hr
    obtain ⟨k, hk, rfl⟩ := List.getElem_of_mem hr
    rw [← shortAt_getElem hk]
    exact h k (by rw [shortsTbl_length] at hk; exact hk)
  unfold longsOf
  rw [this]
theorem longs_some {s : ByteArray} {k : Nat} (hk : k < 6) (h : NoShort s k) (he : ((shortAt k).1 == s) = true) : longsOf s = longsAt k := by
  have hlt : k < shortsTbl.length := by rw [shortsTbl_length]; exact hk
  have : shortN s = some k := by
    unfold shortN
    rw [List.findIdx?_eq_some_iff_getElem]
    refine ⟨hlt, by rw [← shortAt_getElem hlt]; exact he, fun j hj => ?_⟩
    have hjl : j < shortsTbl.length := by omega
    rw [← shortAt_getElem hjl]
    simp [h j hj]
  unfold longsOf
  rw [this]

set_option maxRecDepth 100000 in
set_option maxHeartbeats 2000000 in
/-- prop.Longs. -/
theorem Longs_any (s : ByteArray) (w : World) (hS : ShortsIn w) :
    Calls Tryz.prog 27 #[.string s] w fun e w' => ∃ v, e = .returned v ∧ Strs w.heap.size w' v (longsOf s) ∧ (longsOf s = [] → v = .slice none 0 0) ∧ Below w.heap.size w w' := by
  obtain ⟨ty, fr, hg⟩ := hS
  have Hg := Lib.hid hg
  clear hg
  go_enter Tryz.func27, Tryz.ntmps27
  go_wp2_with (with_reducible refine wpList_load_row rfl 107 _ rfl 2 rfl _ shortsCells _ _ Hg.out Tryz.underlying107 rfl (by kernel_rfl) ?_)
  go_loopw [4, 5, 7, 9, 26] (fun _ _ _ i _ wr => ∃ k : Nat, k ≤ 6 ∧ i = .int .i64 k ∧ NoShort s k ∧ Below w.heap.size w wr)
    (fun _ _ _ i _ _ => 6 - (intOf i).toNat)
  case atStart => exact ⟨0, by omega, rfl, fun _ h => (by omega), Below.refl _ _⟩
  case round =>
    obtain ⟨k, hk, rfl, hno, hB⟩ := hrel
    by_cases hlt : k < 6
    · have hix := fun wx => run_index_short hlt wx
      have hsz := hB.size
      by_cases he : ((shortAt k).1 == s) = true
      · have he' : ((shortAt k).1.toList == s.toList) = true := by rw [← beq_toListBytes]; exact he
        have He := Lib.hid he
        clear he
        obtain ⟨hlo, hhi, hle, h48⟩ := lohi k hlt
        have Hlo := Lib.hid hlo
        have Hhi := Lib.hid hhi
        clear hlo hhi
        go_wp2_with fail
        have f1 : (wr.alloc (.cells #[.string (shortAt k).1, .string (shortAt k).2.1, .string (shortAt k).2.2] 106)).cell? ⟨wr.heap.size, 1, none⟩ = some (.string (shortAt k).2.1) := by simp
        have f2 : (wr.alloc (.cells #[.string (shortAt k).1, .string (shortAt k).2.1, .string (shortAt k).2.2] 106)).cell? ⟨wr.heap.size, 2, none⟩ = some (.string (shortAt k).2.2) := by simp
        have hB1 := hB.alloc hsz (.cells #[.string (shortAt k).1, .string (shortAt k).2.1, .string (shortAt k).2.2] 106)
        have hsx : wr.heap.size < (wr.alloc (.cells #[.string (shortAt k).1, .string (shortAt k).2.1, .string (shortAt k).2.2] 106)).heap.size := by simp
        generalize wr.alloc (.cells #[.string (shortAt k).1, .string (shortAt k).2.1, .string (shortAt k).2.2] 106) = wx at f1 f2 hB1 hsx ⊢
        have q1 : (0 : Int) ≤ (lo k : Int) := by omega
        have q2 : (lo k : Int) ≤ (hi k : Int) + 1 := by omega
        have q3 : (0 : Int) ≤ (hi k : Int) + 1 := by omega
        have q4 : (hi k : Int) + 1 ≤ 48 := by omega
        have q5 : IntKind.i64.wrap ((hi k : Int) + 1) = (hi k : Int) + 1 := IntWalk.i64_in _ (by omega)
        have q6 : ¬ (48 = lo k) := by omega
        go_region_held3 (fun w' => w'.cell? ⟨wr.heap.size, 1, none⟩ = some (.string (shortAt k).2.1) ∧ w'.cell? ⟨wr.heap.size, 2, none⟩ = some (.string (shortAt k).2.2)) (go_keep)
          (first
            | (go_at_call 62; refine (tableAll_held _).mono ?_; rintro e w1 ⟨rfl, ht1, hb1⟩; have g1 := (hb1.cell (p := ⟨wr.heap.size, 1, none⟩) (by simp; omega)).trans (by assumption); have g2 := (hb1.cell (p := ⟨wr.heap.size, 2, none⟩) (by simp; omega)).trans (by assumption))
            | (go_at_call 63; ((with_reducible refine (Place_yes Hlo.out _).mono ?_); rintro e w2 ⟨rfl, hb2⟩; have g3 := (hb2.cell (p := ⟨wr.heap.size, 1, none⟩) (by have := hb1.size; simp at this ⊢; omega)).trans g1; have g4 := (hb2.cell (p := ⟨wr.heap.size, 2, none⟩) (by have := hb1.size; simp at this ⊢; omega)).trans g2))
            | (go_at_call 63; ((with_reducible refine (Place_yes Hhi.out _).mono ?_); rintro e w3 ⟨rfl, hb3⟩; have g5 := (hb3.cell (p := ⟨wr.heap.size, 1, none⟩) (by have := hb1.size; have := hb2.size; simp at *; omega)).trans g3; have g6 := (hb3.cell (p := ⟨wr.heap.size, 2, none⟩) (by have := hb1.size; have := hb2.size; simp at *; omega)).trans g4)))
        clear q5 q4 q3 q2 q1 q6
        have hX : wx.heap.size + 1 < w1.heap.size := (Array.getElem?_eq_some_iff.1 ht1).1
        have ht3 : Holds4 w3 (wx.heap.size + 1) 95 tblCells := ((hb2.trans (hb3.mono hb2.size)).block _ hX).trans ht1
        have hX3 : wx.heap.size + 1 < w3.heap.size := (Array.getElem?_eq_some_iff.1 ht3).1
        have hB3 : Below w.heap.size w w3 := ((hB1.drew.trans (hb1.mono hB1.drew.size)).trans (hb2.mono (by have := hB1.size; have := hb1.size; simp at this ⊢; omega))).trans (hb3.mono (by have := hB1.size; have := hb1.size; have := hb2.size; simp at *; omega))
        clear ht1 hb1 hb2 hb3 g1 g2 g3 g4 g5 g6 f1 f2
        obtain ⟨wo, rfl⟩ : ∃ wo : World, wo = wr := ⟨_, rfl⟩
        go_wp2_with fail
        go_loopw [5, 7, 26] (fun v _ i wi => ∃ m : Nat, m ≤ hi k + 1 - lo k ∧ i = .int .i64 m ∧ wi.ownsRow w3.heap.size 9 1 v (upto (fun i => (rowAt (lo k + i)).1) m).length ((upto (fun i => (rowAt (lo k + i)).1) m).map Value.string) ∧ Below w3.heap.size w3 wi)
          (fun _ _ i _ => hi k + 1 - lo k - (intOf i).toNat)
        case atStart => exact ⟨0, by omega, rfl, World.ownsRow_nil _ _ _ _, Below.refl _ _⟩
        case round =>
          obtain ⟨m, hm, rfl, hown, hBi⟩ := hrel
          have hsi := hBi.size
          have Hl : Hid ((upto (fun i => (rowAt (lo k + i)).1) m).length = m) := Lib.hid (upto_length _ _)
          by_cases hlm : m < hi k + 1 - lo k
          · have hrow : lo k + m < 48 := by omega
            have hcell : ∀ (j : Nat) (x : Value), (rowAt (lo k + m)).cells[j]? = some x → wr.cell? ⟨wx.heap.size + 1, lo k * 4 + m * 4 + j, none⟩ = some x := by
              intro j x hx
              rw [hBi.cell (p := ⟨wx.heap.size + 1, _, none⟩) hX3, ht3.cell]
              have := flatten_get (m := 4) tblRows (lo k + m) j x tblRows_len (by rw [rowAt_cells hrow]; exact hx)
              rw [show lo k * 4 + m * 4 + j = (lo k + m) * 4 + j from by omega]
              simpa [tblCells] using this
            have c0 : wr.cell? ⟨wx.heap.size + 1, lo k * 4 + m * 4, none⟩ = some (.string (rowAt (lo k + m)).1) := hcell 0 _ rfl
            have c1 : wr.cell? ⟨wx.heap.size + 1, lo k * 4 + m * 4 + 1, none⟩ = some (.string (rowAt (lo k + m)).2.1) := hcell 1 _ rfl
            have c2 : wr.cell? ⟨wx.heap.size + 1, lo k * 4 + m * 4 + 2, none⟩ = some (.bool (rowAt (lo k + m)).2.2.1) := hcell 2 _ rfl
            have c3 : wr.cell? ⟨wx.heap.size + 1, lo k * 4 + m * 4 + 3, none⟩ = some (.string (rowAt (lo k + m)).2.2.2) := hcell 3 _ rfl
            clear hcell
            go_wp2_with (at_builtin; refine wpList_append_str rfl _ _ 42 9 rfl w3.heap.size Tryz.underlying42 infoStr _ _ (rowAt (lo k + m)).1 rfl (((hown.alloc _).alloc _)) (wr.heap.size + 1) rfl (by simp) (by rw [Hl.out]; omega) (by simp; omega) ?_; intro v' w4 hown' hgrow hne)
            have hBi1 := ((hBi.alloc hsi (.cells (rowAt (lo k + m)).cells.toArray 39)).alloc (by simp; omega) (.cells #[.string (rowAt (lo k + m)).1] 9)).grown hgrow (by simp; omega) (fun j e => (hown.lt j e).1)
            go_roundw
            case rel => exact ⟨m + 1, by omega, by go_num, by rw [upto_succ]; exact hown', hBi1⟩
            case measure => simp [intOf]; omega
          · obtain rfl : m = hi k + 1 - lo k := by omega
            go_wp2_with fail
            go_ret
            have hl : longsOf s = upto (fun i => (rowAt (lo k + i)).1) (hi k + 1 - lo k) := longs_some hlt hno He.out
            rw [hl]
            refine ⟨_, rfl, (Strs.of_owns hown rfl).base (by have := hB3.size; omega), fun e => ?_, hB3.trans (hBi.mono hB3.size)⟩
            have := congrArg List.length e
            rw [upto_length] at this
            simp at this
            omega
      · have he' : ((shortAt k).1.toList == s.toList) = false := by rw [← beq_toListBytes]; simpa using he
        have He : ((shortAt k).1 == s) = false := by simpa using he
        clear he
        go_wp2_with fail
        go_roundw
        case rel => exact ⟨k + 1, by omega, by go_num, hno.succ He, hB.alloc hsz _⟩
        case measure => simp [intOf]; omega
    · obtain rfl : k = 6 := by omega
      go_wp2_with fail
      go_ret
      rw [longs_none hno]
      exact ⟨_, rfl, Rws.nil _ _ _, fun _ => rfl, hB⟩
end Go.Proofs.YtpadcjcoafidgaaGreatDoor
