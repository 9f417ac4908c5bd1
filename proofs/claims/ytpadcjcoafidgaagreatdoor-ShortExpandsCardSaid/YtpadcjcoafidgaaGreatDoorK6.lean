/- Texts of this seat, laid together: All, Longs, Split, Forms, Bar, Refs, Refs2, RefLongs, RefForms. -/
import Derived.Test.YtpadcjcoafidgaaGreatDoorShelf
import Derived.Test.YtpadcjcoafidgaaGreatDoorRows
import Derived.Test.YtpadcjcoafidgaaGreatDoorK1
import Derived.Deep.RegionHeld3
import Derived.Deep.LoopGhost
import Derived.Lib.Hide
import Derived.Lib.SmallJoins
import Derived.BigQuiet
import Derived.Deep.QuietTactic
/-! prop.All. -/
namespace Go.Proofs.YtpadcjcoafidgaaGreatDoor
open Go.RowKit

theorem infoRow : (Tryz.prog.info? 39).map (fun i => (i.zero, i.size, i.bytes)) = some (some (.agg #[.string ⟨#[]⟩, .string ⟨#[]⟩, .bool false, .string ⟨#[]⟩]), 4, 56) := by kernel_rfl
theorem row_oneCell (r : Row) : ∀ u ∈ r.cells, u.oneCell' = true := by
  intro u hu
  simp only [Row.cells, List.mem_cons, List.mem_nil_iff, or_false] at hu
  rcases hu with rfl | rfl | rfl | rfl <;> rfl
def rUpto (k : Nat) : List (List Value) := tblRows.take k
theorem rUpto_succ {k : Nat} (h : k < 48) : rUpto (k + 1) = rUpto k ++ [(rowAt k).cells] := by
  have hk : k < tblRows.length := by simp [tblRows, tbl_length]; exact h
  unfold rUpto
  rw [List.take_succ_eq_append_getElem hk]
  have := rowAt_cells h
  rw [List.getElem?_eq_getElem hk] at this
  simp only [Option.getD_some] at this
  rw [this]
theorem rUpto_len {k : Nat} (h : k ≤ 48) : (rUpto k).length = k := by
  simp [rUpto, tblRows, tbl_length, h]
theorem rUpto_flat {k : Nat} (h : k < 48) : (rUpto (k + 1)).flatten = (rUpto k).flatten ++ (rowAt k).cells := by
  rw [rUpto_succ h]
  simp

set_option maxRecDepth 100000 in
set_option maxHeartbeats 2000000 in
/-- prop.All. -/
theorem All_any (w : World) :
    Calls Tryz.prog 17 #[] w fun e w' => ∃ v, e = .returned v ∧ Rws w.heap.size w' 4 v tblRows ∧ Below w.heap.size w w' := by
  obtain ⟨i0, hi, hz0, hz1, hz2⟩ := info_parts infoRow
  have Hi := Lib.hid hi
  clear hi
  have Hz0 := Lib.hid hz0
  clear hz0
  have Hz1 := Lib.hid hz1
  clear hz1
  have Hz2 := Lib.hid hz2
  clear hz2
  go_enter Tryz.func17, Tryz.ntmps17
  go_wp2_with fail
  refine (table_below _).mono ?_
  rintro e w1 ⟨rfl, hb1⟩
  go_wp2_with (refine wpList_make_own _ rfl _ _ 36 rfl w.heap.size 39 i0 _ 4 Tryz.underlying36 Hi.out Hz0.out Hz1.out .i64 .i64 48 48 rfl rfl rfl (by rw [Hz2.out]; omega) (by unfold maxLen; omega) hb1.size ?_; intro w2 hown hg2)
  refine (table_below _).mono ?_
  rintro e w3 ⟨rfl, hb3⟩
  have hB2 : Below w.heap.size w w2 := hb1.grown hg2 hb1.size (fun k e => by cases e)
  have hown3 := ownsRow_below hown hb3 (Nat.le_refl _)
  have hB3 : Below w.heap.size w w3 := hB2.trans (hb3.mono hB2.size)
  go_wp2_with fail
  go_loopw [1, 3, 8] (fun v _ i wr => ∃ k : Nat, k ≤ 48 ∧ i = .int .i64 k ∧ wr.ownsRow w.heap.size 39 4 v k (rUpto k).flatten ∧ Below w.heap.size w wr)
    (fun _ _ i _ => 48 - (intOf i).toNat)
  case atStart => exact ⟨0, by omega, rfl, hown3, hB3⟩
  case round =>
    obtain ⟨k, hk, rfl, hownr, hB⟩ := hrel
    by_cases hlt : k < 48
    · have hix := fun wx => run_index_tbl hlt wx
      have hsz := hB.size
      have H1 := rUpto_flat hlt
      have Hflat := Lib.hid H1
      clear H1
      go_wp2_with (at_builtin; refine wpList_append_own _ rfl _ _ 36 rfl w.heap.size 39 i0 (.agg #[.string ⟨#[]⟩, .string ⟨#[]⟩, .bool false, .string ⟨#[]⟩]) 4 56 Tryz.underlying36 Hi.out Hz0.out Hz1.out Hz2.out rfl (by decide) _ k _ rfl ((hownr.alloc _).alloc _) ⟨wr.heap.size + 1, 0, none⟩ 1 1 (rowAt k).cells rfl rfl (cells_new2 wr _ (rowAt k).cells _) (row_oneCell _) (by unfold maxLen; omega) (by omega) (by simp; omega) ?_; intro v' w4 hown' hgrow hne)
      have hB4 : Below w.heap.size w w4 := ((hB.alloc hsz _).alloc (by simp; omega) _).grown hgrow (by simp; omega) (fun j e => (hownr.lt j e).1)
      go_roundw
      case rel => exact ⟨k + 1, by omega, by go_num, by rw [Hflat.out]; exact hown', hB4⟩
      case measure => simp [intOf]; omega
    · obtain rfl : k = 48 := by omega
      go_wp2_with fail
      go_ret
      have h48 : rUpto 48 = tblRows := List.take_of_length_le (by simp [tblRows, tbl_length])
      rw [h48] at hownr
      exact ⟨_, rfl, Rws.of_owns hownr rfl (by simp [tblRows, tbl_length]) tblRows_len, hB⟩
end Go.Proofs.YtpadcjcoafidgaaGreatDoor
/-! prop.tableAll, prop.Longs, prop.All. -/
namespace Go.Proofs.YtpadcjcoafidgaaGreatDoor
open Go.RowKit

theorem zero46 (w : World) : (zeroValue 95).run Tryz.prog w = .ok (.agg zeros) w := by kernel_rfl

set_option maxRecDepth 100000 in
theorem run_alloc46 (w : World) : (Instr.alloc 95 true (.tuple #[])).run Tryz.prog w = .ok (.pointer (some ⟨w.heap.size, 0, none⟩)) (w.alloc (.cells zeros 95)) := by kernel_rfl
theorem wpList_alloc46 {ops : Array Oper} {Q : Exit → Act → World → Prop} {w : World} {rest : List Oper} {o : Oper} {a : Act} (hg : o.guard = none) (ho : o.op = .alloc 95)
    (k : wpList Tryz.prog ops Q rest (a.put o.dst (.pointer (some ⟨w.heap.size, 0, none⟩))) (w.alloc (.cells zeros 95))) : wpList Tryz.prog ops Q (o :: rest) a w := by
  refine wpList_exec1 hg ?_ k
  unfold execOp
  simp only [ho, Sem.run_bind, run_alloc46, Result.andThen_ok]
  rfl

set_option maxRecDepth 100000 in
set_option maxHeartbeats 400000 in
/-- prop.tableAll: a new array's slice. -/
theorem tableAll_any (w : World) :
    Calls Tryz.prog 62 #[] w fun e w' => e = .returned (.slice (some ⟨w.heap.size + 1, 0, none⟩) 48 48) ∧ w' = (w.alloc (.cells tblCells 95)).alloc (.cells tblCells 95) := by
  go_enter Tryz.func62, Tryz.ntmps62
  go_wp2_with (first
    | (go_at_call 54; refine (table_any _).mono ?_; rintro e w1 ⟨rfl, rfl⟩)
    | (with_reducible refine wpList_alloc46 rfl rfl ?_)
    | (refine wpList_store_row rfl 95 _ _ rfl _ tblCells rfl rfl 95 zeros (heap_alloc_new _ _) (by kernel_rfl) (by kernel_rfl) (by kernel_rfl) ?_; rw [setRow_alloc_new]))
  go_ret
  exact ⟨rfl, rfl⟩

theorem tableAll_held (w : World) :
    Calls Tryz.prog 62 #[] w fun e w' => e = .returned (.slice (some ⟨w.heap.size + 1, 0, none⟩) 48 48) ∧ Holds4 w' (w.heap.size + 1) 95 tblCells ∧ Below w.heap.size w w' :=
  (tableAll_any w).mono fun _ _ ⟨he, hw⟩ => by
    subst hw
    exact ⟨he, heap_alloc2_new _ _ _, ((Below.refl _ w).alloc (Nat.le_refl _) _).alloc (by simp) _⟩
theorem Place_yes {s : ByteArray} {k : Nat} (h : placeN s = some k) (w : World) :
    Calls Tryz.prog 63 #[.string s] w fun e w' => e = .returned (.int .i64 (k : Int)) ∧ Below w.heap.size w w' := by
  have := Place_any s w
  unfold place at this
  rw [h] at this
  exact this

/-- The longhands of the k-th shorthand: from its first to its last. -/
def lo (k : Nat) : Nat := (placeN (shortAt k).2.1).getD 0
def hi (k : Nat) : Nat := (placeN (shortAt k).2.2).getD 0
theorem lohi : ∀ k, k < 6 → placeN (shortAt k).2.1 = some (lo k) ∧ placeN (shortAt k).2.2 = some (hi k) ∧ lo k ≤ hi k ∧ hi k < 48 := by
  decide +kernel
def longsAt (k : Nat) : List ByteArray := (List.range (hi k + 1 - lo k)).map fun i => (rowAt (lo k + i)).1
def shortN (s : ByteArray) : Option Nat := shortsTbl.findIdx? fun r => r.1 == s
/-- WHAT prop.Longs ANSWERS. -/
def longsOf (s : ByteArray) : List ByteArray := match shortN s with | some k => longsAt k | none => []

/-- None of the first k shorthands has the name s. -/
def NoShort (s : ByteArray) (k : Nat) : Prop := ∀ j, j < k → ((shortAt j).1 == s) = false
theorem NoShort.succ {s : ByteArray} {k : Nat} (h : NoShort s k) (hk : ((shortAt k).1 == s) = false) : NoShort s (k + 1) := by
  intro j hj
  by_cases e : j = k
  · subst e; exact hk
  · exact h j (by omega)
theorem shortAt_getElem {k : Nat} (h : k < shortsTbl.length) : shortAt k = shortsTbl[k] := by simp [shortAt, h]
theorem longs_none {s : ByteArray} (h : NoShort s 6) : longsOf s = [] := by
  have : shortN s = none := by
    unfold shortN
    rw [List.findIdx?_eq_none_iff]
    intro r hr
    obtain ⟨k, hk, rfl⟩ := List.getElem_of_mem hr
    rw [← shortAt_getElem hk]
    exact h k (by rw [shortsTbl_length] at hk; exact hk)
  unfold longsOf
  rw [this]
theorem longs_some {s : ByteArray} {k : Nat} (hk : k < 6) (h : NoShort s k) (he : ((shortAt k).1 == s) = true) : longsOf s = longsAt k := by
  have hlt : k < shortsTbl.length := by rw [shortsTbl_length]; exact hk
  have : shortN s = some k := by
    unfold shortN
    rw [List.findIdx?_eq_some_iff_getElem]
    refine ⟨hlt, by rw [← shortAt_getElem hlt]; exact he, fun j hj => ?_⟩
    have hjl : j < shortsTbl.length := by omega
    rw [← shortAt_getElem hjl]
    simp [h j hj]
  unfold longsOf
  rw [this]

set_option maxRecDepth 100000 in
set_option maxHeartbeats 2000000 in
/-- prop.Longs. -/
theorem Longs_any (s : ByteArray) (w : World) (hS : ShortsIn w) :
    Calls Tryz.prog 27 #[.string s] w fun e w' => ∃ v, e = .returned v ∧ Strs w.heap.size w' v (longsOf s) ∧ (longsOf s = [] → v = .slice none 0 0) ∧ Below w.heap.size w w' := by
  obtain ⟨ty, fr, hg⟩ := hS
  have Hg := Lib.hid hg
  clear hg
  go_enter Tryz.func27, Tryz.ntmps27
  go_wp2_with (with_reducible refine wpList_load_row rfl 107 _ rfl 2 rfl _ shortsCells _ _ Hg.out Tryz.underlying107 rfl (by kernel_rfl) ?_)
  go_loopw [4, 5, 7, 9, 26] (fun _ _ _ i _ wr => ∃ k : Nat, k ≤ 6 ∧ i = .int .i64 k ∧ NoShort s k ∧ Below w.heap.size w wr)
    (fun _ _ _ i _ _ => 6 - (intOf i).toNat)
  case atStart => exact ⟨0, by omega, rfl, fun _ h => (by omega), Below.refl _ _⟩
  case round =>
    obtain ⟨k, hk, rfl, hno, hB⟩ := hrel
    by_cases hlt : k < 6
    · have hix := fun wx => run_index_short hlt wx
      have hsz := hB.size
      by_cases he : ((shortAt k).1 == s) = true
      · have he' : ((shortAt k).1.toList == s.toList) = true := by rw [← beq_toListBytes]; exact he
        have He := Lib.hid he
        clear he
        obtain ⟨hlo, hhi, hle, h48⟩ := lohi k hlt
        have Hlo := Lib.hid hlo
        have Hhi := Lib.hid hhi
        clear hlo hhi
        go_wp2_with fail
        have f1 : (wr.alloc (.cells #[.string (shortAt k).1, .string (shortAt k).2.1, .string (shortAt k).2.2] 106)).cell? ⟨wr.heap.size, 1, none⟩ = some (.string (shortAt k).2.1) := by simp
        have f2 : (wr.alloc (.cells #[.string (shortAt k).1, .string (shortAt k).2.1, .string (shortAt k).2.2] 106)).cell? ⟨wr.heap.size, 2, none⟩ = some (.string (shortAt k).2.2) := by simp
        have hB1 := hB.alloc hsz (.cells #[.string (shortAt k).1, .string (shortAt k).2.1, .string (shortAt k).2.2] 106)
        have hsx : wr.heap.size < (wr.alloc (.cells #[.string (shortAt k).1, .string (shortAt k).2.1, .string (shortAt k).2.2] 106)).heap.size := by simp
        generalize wr.alloc (.cells #[.string (shortAt k).1, .string (shortAt k).2.1, .string (shortAt k).2.2] 106) = wx at f1 f2 hB1 hsx ⊢
        have q1 : (0 : Int) ≤ (lo k : Int) := by omega
        have q2 : (lo k : Int) ≤ (hi k : Int) + 1 := by omega
        have q3 : (0 : Int) ≤ (hi k : Int) + 1 := by omega
        have q4 : (hi k : Int) + 1 ≤ 48 := by omega
        have q5 : IntKind.i64.wrap ((hi k : Int) + 1) = (hi k : Int) + 1 := IntWalk.i64_in _ (by omega)
        have q6 : ¬ (48 = lo k) := by omega
        go_region_held3 (fun w' => w'.cell? ⟨wr.heap.size, 1, none⟩ = some (.string (shortAt k).2.1) ∧ w'.cell? ⟨wr.heap.size, 2, none⟩ = some (.string (shortAt k).2.2)) (go_keep)
          (first
            | (go_at_call 62; refine (tableAll_held _).mono ?_; rintro e w1 ⟨rfl, ht1, hb1⟩; have g1 := (hb1.cell (p := ⟨wr.heap.size, 1, none⟩) (by simp; omega)).trans (by assumption); have g2 := (hb1.cell (p := ⟨wr.heap.size, 2, none⟩) (by simp; omega)).trans (by assumption))
            | (go_at_call 63; ((with_reducible refine (Place_yes Hlo.out _).mono ?_); rintro e w2 ⟨rfl, hb2⟩; have g3 := (hb2.cell (p := ⟨wr.heap.size, 1, none⟩) (by have := hb1.size; simp at this ⊢; omega)).trans g1; have g4 := (hb2.cell (p := ⟨wr.heap.size, 2, none⟩) (by have := hb1.size; simp at this ⊢; omega)).trans g2))
            | (go_at_call 63; ((with_reducible refine (Place_yes Hhi.out _).mono ?_); rintro e w3 ⟨rfl, hb3⟩; have g5 := (hb3.cell (p := ⟨wr.heap.size, 1, none⟩) (by have := hb1.size; have := hb2.size; simp at *; omega)).trans g3; have g6 := (hb3.cell (p := ⟨wr.heap.size, 2, none⟩) (by have := hb1.size; have := hb2.size; simp at *; omega)).trans g4)))
        clear q5 q4 q3 q2 q1 q6
        have hX : wx.heap.size + 1 < w1.heap.size := (Array.getElem?_eq_some_iff.1 ht1).1
        have ht3 : Holds4 w3 (wx.heap.size + 1) 95 tblCells := ((hb2.trans (hb3.mono hb2.size)).block _ hX).trans ht1
        have hX3 : wx.heap.size + 1 < w3.heap.size := (Array.getElem?_eq_some_iff.1 ht3).1
        have hB3 : Below w.heap.size w w3 := ((hB1.drew.trans (hb1.mono hB1.drew.size)).trans (hb2.mono (by have := hB1.size; have := hb1.size; simp at this ⊢; omega))).trans (hb3.mono (by have := hB1.size; have := hb1.size; have := hb2.size; simp at *; omega))
        clear ht1 hb1 hb2 hb3 g1 g2 g3 g4 g5 g6 f1 f2
        obtain ⟨wo, rfl⟩ : ∃ wo : World, wo = wr := ⟨_, rfl⟩
        go_wp2_with fail
        go_loopw [5, 7, 26] (fun v _ i wi => ∃ m : Nat, m ≤ hi k + 1 - lo k ∧ i = .int .i64 m ∧ wi.ownsRow w3.heap.size 9 1 v (upto (fun i => (rowAt (lo k + i)).1) m).length ((upto (fun i => (rowAt (lo k + i)).1) m).map Value.string) ∧ Below w3.heap.size w3 wi)
          (fun _ _ i _ => hi k + 1 - lo k - (intOf i).toNat)
        case atStart => exact ⟨0, by omega, rfl, World.ownsRow_nil _ _ _ _, Below.refl _ _⟩
        case round =>
          obtain ⟨m, hm, rfl, hown, hBi⟩ := hrel
          have hsi := hBi.size
          have Hl : Hid ((upto (fun i => (rowAt (lo k + i)).1) m).length = m) := Lib.hid (upto_length _ _)
          by_cases hlm : m < hi k + 1 - lo k
          · have hrow : lo k + m < 48 := by omega
            have hcell : ∀ (j : Nat) (x : Value), (rowAt (lo k + m)).cells[j]? = some x → wr.cell? ⟨wx.heap.size + 1, lo k * 4 + m * 4 + j, none⟩ = some x := by
              intro j x hx
              rw [hBi.cell (p := ⟨wx.heap.size + 1, _, none⟩) hX3, ht3.cell]
              have := flatten_get (m := 4) tblRows (lo k + m) j x tblRows_len (by rw [rowAt_cells hrow]; exact hx)
              rw [show lo k * 4 + m * 4 + j = (lo k + m) * 4 + j from by omega]
              simpa [tblCells] using this
            have c0 : wr.cell? ⟨wx.heap.size + 1, lo k * 4 + m * 4, none⟩ = some (.string (rowAt (lo k + m)).1) := hcell 0 _ rfl
            have c1 : wr.cell? ⟨wx.heap.size + 1, lo k * 4 + m * 4 + 1, none⟩ = some (.string (rowAt (lo k + m)).2.1) := hcell 1 _ rfl
            have c2 : wr.cell? ⟨wx.heap.size + 1, lo k * 4 + m * 4 + 2, none⟩ = some (.bool (rowAt (lo k + m)).2.2.1) := hcell 2 _ rfl
            have c3 : wr.cell? ⟨wx.heap.size + 1, lo k * 4 + m * 4 + 3, none⟩ = some (.string (rowAt (lo k + m)).2.2.2) := hcell 3 _ rfl
            clear hcell
            go_wp2_with (at_builtin; refine wpList_append_str rfl _ _ 42 9 rfl w3.heap.size Tryz.underlying42 infoStr _ _ (rowAt (lo k + m)).1 rfl (((hown.alloc _).alloc _)) (wr.heap.size + 1) rfl (by simp) (by rw [Hl.out]; omega) (by simp; omega) ?_; intro v' w4 hown' hgrow hne)
            have hBi1 := ((hBi.alloc hsi (.cells (rowAt (lo k + m)).cells.toArray 39)).alloc (by simp; omega) (.cells #[.string (rowAt (lo k + m)).1] 9)).grown hgrow (by simp; omega) (fun j e => (hown.lt j e).1)
            go_roundw
            case rel => exact ⟨m + 1, by omega, by go_num, by rw [upto_succ]; exact hown', hBi1⟩
            case measure => simp [intOf]; omega
          · obtain rfl : m = hi k + 1 - lo k := by omega
            go_wp2_with fail
            go_ret
            have hl : longsOf s = upto (fun i => (rowAt (lo k + i)).1) (hi k + 1 - lo k) := longs_some hlt hno He.out
            rw [hl]
            refine ⟨_, rfl, (Strs.of_owns hown rfl).base (by have := hB3.size; omega), fun e => ?_, hB3.trans (hBi.mono hB3.size)⟩
            have := congrArg List.length e
            rw [upto_length] at this
            simp at this
            omega
      · have he' : ((shortAt k).1.toList == s.toList) = false := by rw [← beq_toListBytes]; simpa using he
        have He : ((shortAt k).1 == s) = false := by simpa using he
        clear he
        go_wp2_with fail
        go_roundw
        case rel => exact ⟨k + 1, by omega, by go_num, hno.succ He, hB.alloc hsz _⟩
        case measure => simp [intOf]; omega
    · obtain rfl : k = 6 := by omega
      go_wp2_with fail
      go_ret
      rw [longs_none hno]
      exact ⟨_, rfl, Rws.nil _ _ _, fun _ => rfl, hB⟩
end Go.Proofs.YtpadcjcoafidgaaGreatDoor
/-! strings.SplitSeq at the sign of one byte: the parts of a text between the signs, in order. -/
namespace Go.Proofs.YtpadcjcoafidgaaGreatDoor
open Go.RowKit Go.Shelf

attribute [local go_sem] Oper.semAt_some

/-- THE PARTS OF A TEXT BETWEEN THE SIGNS 124. -/
def splitBar : List UInt8 → List (List UInt8)
  | [] => [[]]
  | c :: l => if c == 124 then [] :: splitBar l else (c :: (splitBar l).headD []) :: (splitBar l).tail
def bts (l : List UInt8) : ByteArray := ⟨l.toArray⟩
def parts (s : ByteArray) : List ByteArray := (splitBar s.data.toList).map bts

theorem splitBar_none : ∀ {l : List UInt8}, Lib.indexByte l 124 = -1 → splitBar l = [l]
  | [], _ => rfl
  | c :: l, h => by
    simp only [Lib.indexByte] at h
    split at h
    · cases h
    · rename_i hc
      split at h
      · rename_i h2
        have := splitBar_none (by simpa using h2)
        simp [splitBar, hc, this]
      · rename_i h2
        have h3 := Lib.indexByte_ge l 124
        simp at h2
        omega
theorem splitBar_some : ∀ {l : List UInt8} {i : Nat}, Lib.indexByte l 124 = (i : Int) → i < l.length ∧ splitBar l = l.take i :: splitBar (l.drop (i + 1))
  | [], i, h => by simp [Lib.indexByte] at h
  | c :: l, i, h => by
    simp only [Lib.indexByte] at h
    split at h
    · rename_i hc
      obtain rfl : i = 0 := by omega
      simp [splitBar, hc]
    · rename_i hc
      split at h
      · omega
      · rename_i h2
        have h3 := Lib.indexByte_ge l 124
        cases i with
        | zero => simp at h2; omega
        | succ i =>
          obtain ⟨h4, h5⟩ := splitBar_some (l := l) (i := i) (by omega)
          refine ⟨by simp; omega, ?_⟩
          simp [splitBar, hc, h5]
theorem parts_none {s : ByteArray} (h : Lib.indexByte s.data.toList 124 = -1) : parts s = [s] := by
  unfold parts
  rw [splitBar_none h]
  simp [bts]
theorem parts_some {s : ByteArray} {i : Nat} (h : Lib.indexByte s.data.toList 124 = (i : Int)) : i < s.size ∧ parts s = s.extract 0 i :: parts (s.extract (i + 1) s.size) := by
  obtain ⟨h1, h2⟩ := splitBar_some h
  refine ⟨by simpa using h1, ?_⟩
  unfold parts
  rw [h2]
  have e1 : bts (s.data.toList.take i) = s.extract 0 i := by
    rw [← Joins.bytes_eta (s.extract 0 i), Lib.extract_data]
    simp [bts]
  have e2 : (s.extract (i + 1) s.size).data.toList = s.data.toList.drop (i + 1) := by
    rw [Lib.extract_data]
    exact List.take_of_length_le (by simp)
  rw [e2, List.map_cons, e1]

theorem splitBar_length : ∀ (l : List UInt8), (splitBar l).length ≤ l.length + 1
  | [] => by simp [splitBar]
  | c :: l => by
    have := splitBar_length l
    simp only [splitBar]
    split
    · simp; omega
    · simp; omega
theorem parts_length (s : ByteArray) : (parts s).length ≤ s.size + 1 := by
  have := splitBar_length s.data.toList
  simpa [parts] using this

/-- What the iterator's two other cells hold, and the first. -/
structure SplitAt (W : World) (b : Nat) (t : ByteArray) : Prop where
  text : Boxed W b 9 (.string t)
  sep : Boxed W (b + 1) 9 (.string ⟨#[124]⟩)
  save : Boxed W (b + 2) 3 (.int .i64 0)
theorem SplitAt.kept {A B : World} {b : Nat} {t : ByteArray} (h : SplitAt A b t) (hk : ∀ j, b ≤ j → j < b + 3 → B.heap[j]? = A.heap[j]?) : SplitAt B b t :=
  ⟨(hk _ (by omega) (by omega)).trans h.text, (hk _ (by omega) (by omega)).trans h.sep, (hk _ (by omega) (by omega)).trans h.save⟩
theorem SplitAt.set {W : World} {b : Nat} {t : ByteArray} (h : SplitAt W b t) (u : ByteArray) : SplitAt (W.setCell ⟨b, 0, none⟩ (.string u)) b u :=
  ⟨h.text.set _, h.sep.other (by omega) _, h.save.other (by omega) _⟩
def textLeft (b : Nat) (W : World) : Nat := match W.cell? ⟨b, 0, none⟩ with | some (.string t) => t.size | _ => 0
theorem textLeft_eq {W : World} {b : Nat} {t : ByteArray} (h : SplitAt W b t) : textLeft b W = t.size := by
  unfold textLeft
  rw [h.text.cell]

set_option maxRecDepth 100000 in
set_option maxHeartbeats 2000000 in
/-- strings.splitSeq$1: the parts, in order; it writes the cell of its text alone. -/
theorem split1_stops (n b : Nat) (s : ByteArray) (hs : s.size ≤ maxLen) (w : World) (h : SplitAt w b s) :
    SeqT n Tryz.prog 159 #[.pointer (some ⟨b + 1, 0, none⟩), .pointer (some ⟨b, 0, none⟩), .pointer (some ⟨b + 2, 0, none⟩)] (fun x : ByteArray => #[Value.string x])
      (fun A B => ∃ u, B = A.setCell ⟨b, 0, none⟩ u) (fun A B => ∀ j, b ≤ j → j < b + 3 → B.heap[j]? = A.heap[j]?) (fun xs => xs = parts s) (fun pre => pre <+: parts s) (parts s).length w := fun l J Jx W hW hJ hJx hY h0 => by
  have hW0 : SplitAt W b s := h.kept fun j h1 h2 => hW.block j (by have := h.save.lt; omega)
  unfold maxLen at hs
  refine callsIn_of_wp Tryz.func159 rfl trivial ?_ rfl
  simp only [Tryz.ntmps159, List.size_toArray, List.length_cons, List.length_nil, Nat.reduceAdd, Nat.reduceSub, Array.replicate_succ, Array.replicate_zero, List.push_toArray, List.append_toArray, List.nil_append, List.cons_append]
  have c1 := hW0.sep.cell
  gi_wp2_with fail
  gi_loopw [7, 8] (fun _ _ wr => ∃ (pre : List ByteArray) (t : ByteArray), SplitAt wr b t ∧ J pre wr ∧ pre ++ parts t = parts s ∧ t.size ≤ 9223372036854775807)
    (fun _ _ wr => textLeft b wr)
  case atStart => exact ⟨[], s, hW0, h0, rfl, hs⟩
  case round =>
    obtain ⟨pre, t, hA, hJs, hp, ht⟩ := hrel
    have d1 := hA.text.cell
    have d2 := hA.sep.cell
    have d3 := hA.save.cell
    have f1 := hA.text.frozen
    gi_wp2_with fail
    refine ⟨trivial, fun h => (by cases h), callsIn_wide.2 ((Tryz.strings_Index_one _ _ _).mono ?_)⟩
    rintro e w' ⟨rfl, rfl⟩
    have hge := Lib.indexByte_ge t.data.toList 124
    by_cases hneg : Lib.indexByte t.data.toList 124 = -1
    · rw [hneg]
      obtain ⟨fn, tmps, assign, body, hy, hR⟩ := hY pre t w' hJs (by rw [← hp, parts_none hneg]; simp)
      gi_wp2_with fail
      have hpt : pre ++ [t] = parts s := by rw [← hp, parts_none hneg]
      refine ⟨fun h => (by cases h), hR.mono ?_⟩
      rintro e W3 (⟨rfl, hJ3, _⟩ | ⟨rfl, hJx3⟩)
      · gi_wp2_with fail
        go_end0
        exact ⟨⟨_, rfl⟩, .inl ⟨_, hpt, hJ3⟩⟩
      · gi_wp2_with fail
        go_end0
        exact ⟨⟨_, rfl⟩, .inr ⟨_, by rw [hpt]; exact List.prefix_rfl, hJx3⟩⟩
    · obtain ⟨i, hi⟩ : ∃ i : Nat, Lib.indexByte t.data.toList 124 = (i : Int) := ⟨(Lib.indexByte t.data.toList 124).toNat, by omega⟩
      rw [hi]
      obtain ⟨hlt, hcut⟩ := parts_some hi
      have Hcut := Lib.hid hcut
      clear hcut hi hneg hge
      have hi0 : ¬ (i : Int) < 0 := by omega
      obtain ⟨fn, tmps, assign, body, hy, hR⟩ := hY pre (t.extract 0 i) w' hJs (by rw [← hp, Hcut.out]; simp)
      gi_wp2_with fail
      refine ⟨fun h => (by cases h), hR.mono ?_⟩
      rintro e W3 (⟨rfl, hJ3, hk3⟩ | ⟨rfl, hJx3⟩)
      · have hA3 := hA.kept hk3
        have d1 := hA3.text.cell
        have d2 := hA3.sep.cell
        have f1 := hA3.text.frozen
        gi_wp2_with fail
        go_roundw
        case rel => exact ⟨pre ++ [t.extract 0 i], t.extract (i + 1) t.size, hA3.set _, hJ _ _ _ hJ3 ⟨_, rfl⟩, by rw [← hp, Hcut.out]; simp, by simp; omega⟩
        case measure => rw [textLeft_eq (hA3.set _), textLeft_eq hA]; simp; omega
      · gi_wp2_with fail
        refine bodyPost_ret (results_none rfl _ _ _) rfl ?_
        refine ⟨⟨_, rfl⟩, .inr ⟨_, ?_, hJx3⟩⟩
        rw [← hp, Hcut.out]
        exact ⟨parts (t.extract (i + 1) t.size), by simp⟩
end Go.Proofs.YtpadcjcoafidgaaGreatDoor
/-! prop.Forms: the parts of a form between the signs. -/
namespace Go.Proofs.YtpadcjcoafidgaaGreatDoor
open Go.RowKit Go.Shelf

attribute [local go_sem] Oper.semAt_some

/-- 'l = append(l, s)', one string, within a fence. -/
theorem wpListIn_append_str {F : Fence} {n : Nat} {P : Program} {w : World} {ops : Array Oper} {rest : List Oper} {o : Oper} {a : Act} {Q : Exit → Act → World → Prop} (hgd : o.guard = none) (s x : Operand) (t e : TypeId)
    (ho : o.op = .call { callee := .builtin .append, args := #[s, x], argTypes := #[t, t] })
    (base : Nat) (ht : P.underlying t = some (.slice e)) (hinfo : (P.info? e).map (fun i => (i.zero, i.size, i.bytes)) = some (some (.string ⟨#[]⟩), 1, 16))
    (v : Value) (l : List ByteArray) (z : ByteArray) (hs : a.eval s = v) (hown : w.ownsRow base e 1 v l.length (l.map Value.string))
    (g : Nat) (hx : a.eval x = .slice (some ⟨g, 0, none⟩) 1 1) (hcell : w.cell? ⟨g, 0, none⟩ = some (.string z))
    (hlen : l.length ≤ 4294967295) (hbase : base ≤ w.heap.size)
    (h : ∀ v' w', w'.ownsRow base e 1 v' (l ++ [z]).length ((l ++ [z]).map Value.string) → w.grownBy w' v.ownBlock → v' ≠ .slice none 0 0 → wpListIn F n P ops Q rest (a.put o.dst v') w') : wpListIn F n P ops Q (o :: rest) a w := by
  obtain ⟨i0, hi, hz0, hz1, hz2⟩ := info_parts hinfo
  refine wpListIn_append_own w hgd s x t ho base e i0 (.string ⟨#[]⟩) 1 16 ht hi hz0 hz1 hz2 rfl (by decide) v l.length _ hs hown ⟨g, 0, none⟩ 1 1 [.string z] hx rfl ?_ ?_ ?_ ?_ hbase ?_
  · intro j u hj
    cases j with
    | zero => simp only [List.getElem?_cons_zero, Option.some.injEq] at hj; subst hj; exact hcell
    | succ j => simp at hj
  · intro u hu; simp only [List.mem_singleton] at hu; subst hu; rfl
  · unfold maxLen; omega
  · omega
  · intro v' w' h1 h2 h3
    refine h v' w' (by simpa using h1) h2 (fun e => ?_)
    have := h3.1 e
    omega

theorem infoStr' : (Tryz.prog.info? 9).map (fun i => (i.zero, i.size, i.bytes)) = some (some (.string ⟨#[]⟩), 1, 16) := by kernel_rfl

/-- strings.SplitSeq at the sign: three boxes, and the function value over them. -/
theorem SplitSeq_bar (s : ByteArray) (w : World) :
    Calls Tryz.prog 92 #[.string s, .string ⟨#[124]⟩] w fun e w' => e = .returned (.func (.func 159) #[] #[.pointer (some ⟨w.heap.size + 1, 0, none⟩), .pointer (some ⟨w.heap.size, 0, none⟩), .pointer (some ⟨w.heap.size + 2, 0, none⟩)]) ∧
      w' = ((w.alloc (.cells #[.string s] 9)).alloc (.cells #[.string ⟨#[124]⟩] 9)).alloc (.cells #[.int .i64 0] 3) := by
  go_enter Tryz.func92, Tryz.ntmps92
  go_wp2
  go_ret
  exact ⟨rfl, rfl⟩

/-- The list that grows, in its box: in rows from n₀ on. -/
def GrowsIn (n₀ B : Nat) (t e : TypeId) (pre : List ByteArray) (W : World) : Prop := ∃ v, Boxed W B t v ∧ W.ownsRow n₀ e 1 v pre.length (pre.map Value.string) ∧ True
theorem growsIn_own (n₀ B : Nat) (t e : TypeId) : Own (GrowsIn n₀ B t e) := holdsRow_own n₀ B t e 1 (fun pre : List ByteArray => pre.length) (fun pre => pre.map Value.string) (fun _ _ => True)
theorem GrowsIn.set {n₀ B : Nat} {t e : TypeId} {pre : List ByteArray} {A : World} (h : GrowsIn n₀ B t e pre A) {b : Nat} (hb : B ≠ b) (hn : b < n₀) (u : Value) : GrowsIn n₀ B t e pre (A.setCell ⟨b, 0, none⟩ u) := by
  obtain ⟨v, h1, h2, h3⟩ := h
  exact ⟨v, h1.other hb u, ownsRow_setCell_below h2 hn u, h3⟩
theorem keepsFrom_below {B : Nat} {A C : World} (h : Below A.heap.size A C) : KeepsFrom B A C := ⟨h.size, fun k _ _ hk _ => (h.block k (Array.getElem?_eq_some_iff.1 hk).1).trans hk⟩

set_option maxRecDepth 100000 in
set_option maxHeartbeats 2000000 in
theorem Forms_any (x y f : ByteArray) (i : Bool) (hf : f.size ≤ 4294967290) (w : World) :
    Calls Tryz.prog 53 #[.agg #[.string x, .string y, .bool i, .string f]] w fun e w' => ∃ v, e = .returned v ∧ Strs w.heap.size w' v (parts f) ∧ Below w.heap.size w w' := by
  have hN := parts_length f
  refine (callsIn_wide (n := 9)).1 ?_
  refine callsIn_of_wp_marks Tryz.func53 rfl trivial ?_ rfl
  simp only [Tryz.ntmps53, List.size_toArray, List.length_cons, List.length_nil, Nat.reduceAdd, Nat.reduceSub, Array.replicate_succ, Array.replicate_zero, List.push_toArray, List.append_toArray, List.nil_append, List.cons_append]
  gi_wp2_with fail
  refine ⟨trivial, callsIn_wide.2 ((SplitSeq_bar _ _).mono ?_)⟩
  rintro e w' ⟨rfl, rfl⟩
  obtain ⟨W0, hW0⟩ : ∃ W0, ((((w.alloc (.cells #[.string x, .string y, .bool i, .string f] 39)).alloc (.cells #[.slice none 0 0] 42)).alloc (.cells #[.string f] 9)).alloc (.cells #[.string ⟨#[124]⟩] 9)).alloc (.cells #[.int .i64 0] 3) = W0 := ⟨_, rfl⟩
  have bL : Boxed W0 (w.heap.size + 1) 42 (.slice none 0 0) := by
    rw [← hW0]
    have := (((Boxed.new (w.alloc (.cells #[.string x, .string y, .bool i, .string f] 39)) 42 (.slice none 0 0)).alloc (.cells #[.string f] 9)).alloc (.cells #[.string ⟨#[124]⟩] 9)).alloc (.cells #[.int .i64 0] 3)
    simpa using this
  have bS : SplitAt W0 (w.heap.size + 1 + 1) f := by
    rw [← hW0]
    refine ⟨?_, ?_, ?_⟩
    · have := ((Boxed.new ((w.alloc (.cells #[.string x, .string y, .bool i, .string f] 39)).alloc (.cells #[.slice none 0 0] 42)) 9 (.string f)).alloc (.cells #[.string ⟨#[124]⟩] 9)).alloc (.cells #[.int .i64 0] 3)
      simpa using this
    · have := (Boxed.new (((w.alloc (.cells #[.string x, .string y, .bool i, .string f] 39)).alloc (.cells #[.slice none 0 0] 42)).alloc (.cells #[.string f] 9)) 9 (.string ⟨#[124]⟩)).alloc (.cells #[.int .i64 0] 3)
      simpa using this
    · have := Boxed.new ((((w.alloc (.cells #[.string x, .string y, .bool i, .string f] 39)).alloc (.cells #[.slice none 0 0] 42)).alloc (.cells #[.string f] 9)).alloc (.cells #[.string ⟨#[124]⟩] 9)) 3 (.int .i64 0)
      simpa using this
  have hB0 : Below w.heap.size w W0 := by
    rw [← hW0]
    exact (((((Below.refl _ w).alloc (Nat.le_refl _) _).alloc (by simp) _).alloc (by simp; omega) _).alloc (by simp; omega) _).alloc (by simp; omega) _
  have hsz : W0.heap.size = w.heap.size + 5 := by rw [← hW0]; simp
  rw [hW0]
  clear hW0
  gi_wp2_with fail
  refine wpIn_rangeT (by omega) (gf := 159) (lb := #[.pointer (some ⟨w.heap.size + 1 + 1 + 1, 0, none⟩), .pointer (some ⟨w.heap.size + 1 + 1, 0, none⟩), .pointer (some ⟨w.heap.size + 1 + 1 + 2, 0, none⟩)]) rfl (enters_of Tryz.func159 (by kernel_rfl) rfl)
    (fun _ => rfl) (split1_stops 8 (w.heap.size + 1 + 1) f (by unfold maxLen; omega) W0 bS) (Below.refl _ _)
    (fun A B k o ⟨u, hu⟩ hk ho _ => by rw [hu]; exact (KeepsOthers.setCell A _ u).same k o hk ho)
    (fun h k j h1 h2 => (k j h1 h2).trans (h j h1 h2)) (fun W l o o' hl _ _ _ j _ hj => World.putObj_heap_other (by omega))
    (fun pre W => GrowsIn W0.heap.size (w.heap.size + 1) 42 9 pre W ∧ Below w.heap.size w W ∧ W0.heap.size ≤ W.heap.size)
    (fun _ _ _ => False)
    ?hI (fun _ _ _ _ _ hs _ _ => hs) ?hIT (fun _ _ _ _ hs _ => hs)
    ⟨⟨_, bL, World.ownsRow_nil _ _ _ _, trivial⟩, hB0, Nat.le_refl _⟩
    (fun s a' _ => a' = { tmps := #[.agg #[.string x, .string y, .bool i, .string f], .pointer (some ⟨w.heap.size, 0, none⟩), .slice none 0 0, .pointer (some ⟨w.heap.size + 1, 0, none⟩), .string s, .pointer (some ⟨w.heap.size, 3, none⟩), .string f,
      .func (.func 159) #[] #[.pointer (some ⟨w.heap.size + 1 + 1 + 1, 0, none⟩), .pointer (some ⟨w.heap.size + 1 + 1, 0, none⟩), .pointer (some ⟨w.heap.size + 1 + 1 + 2, 0, none⟩)], .string s, undef, undef, undef, undef, undef], defers := [] })
    (fun _ _ _ _ _ _ hs _ _ => hs) ?assign ?body ?done ?stop
  case hI => exact OwnFrom.and (Own.from (growsIn_own _ _ _ _) _) (OwnFrom.and (ownFrom_below (Nat.le_refl _) (by omega)) (fun _ _ _ _ hs hg _ => Nat.le_trans hs hg.size))
  case hIT =>
    rintro pre A B ⟨h1, h2, h3⟩ ⟨u, rfl⟩
    exact ⟨h1.set (by omega) (by omega) u, h2.setCell (p := ⟨w.heap.size + 1 + 1, 0, none⟩) (by simp; omega) u, by simpa [World.setCell] using h3⟩
  case assign =>
    rintro l pre s W K hi hK
    gi_wp2_with fail
    exact hK _ _ (KeepsFrom.refl _ _) (fun _ _ _ => rfl) hi rfl
  case body =>
    rintro l pre s a' W ⟨⟨v, h1, h2, _⟩, h3, h4⟩ rfl hlen
    have c1 := h1.cell
    have f1 := h1.frozen
    gi_wp2_with (gi_at_builtin; refine wpListIn_append_str rfl _ _ 42 9 rfl W0.heap.size Tryz.underlying42 infoStr' _ pre s rfl (h2.alloc _) W.heap.size rfl (by simp) (by omega) (by simp; omega) ?_; intro v' w1 hown' hgrow0 hne; have hgrow : (W.alloc (.cells #[.string s] 9)).grownBy w1 v.ownBlock := hgrow0; rw [List.length_append, List.length_singleton] at hown'; obtain ⟨g', cap', rfl⟩ := ownsRow_shape hown' hne; have hv1 := (h1.alloc (.cells #[.string s] 9)).kept hgrow (ownsRow_other h2 (by omega)); have hc1 := hv1.cell; have hf1 := hv1.frozen)
    have hB1 : Below W0.heap.size W w1 := ((Below.refl _ W).alloc h4 _).grown hgrow (by simp; omega) (fun j e => (h2.lt j e).1)
    have hK1 : KeepsFrom W0.heap.size W w1 := by
      refine ((KeepsOthers.alloc W (.cells #[.string s] 9)).trans (KeepsOthers.of_grownBy hgrow fun j o ej hj => ?_)).from _
      rcases (h2.alloc (.cells #[.string s] 9)).2 with ⟨rfl, _⟩ | ⟨g, cap, cur, rfl, _, hgb, _⟩
      · simp [Value.ownBlock] at ej
      · obtain rfl : g = j := by simpa [Value.ownBlock] using ej
        rw [hgb] at hj; cases hj; rfl
    refine ⟨hK1.trans ((KeepsOthers.setCell _ _ _).from _), fun j j1 j2 => ?_, ⟨_, hv1.set _, by rw [List.length_append, List.length_singleton]; exact ownsRow_setCell_below hown' (a := ⟨w.heap.size + 1, 0, none⟩) (by simp; omega) _, trivial⟩, ?_, ?_⟩
    · rw [Below.heap_setCell _ _ _ _ (by simp; omega), hB1.block j (by omega)]
    · exact (h3.trans (hB1.mono hB0.size)).setCell (p := ⟨w.heap.size + 1, 0, none⟩) (by simp) _
    · have := hB1.size
      simp [World.setCell]
      omega
  case done =>
    rintro D xs W hD rfl ⟨⟨v, h1, h2, _⟩, h3, _⟩ hK
    have c1 := h1.cell
    gi_wp2_with fail
    refine ⟨by simp, .inl ⟨_, _, rfl, run_takeDeferred hK, ?_⟩⟩
    refine ⟨_, results_tmp rfl _ _ _, v, rfl, ?_, h3.trans (belowK_b (w := w) (Nat.le_refl _) _ D _ _ (by omega) hK rfl rfl)⟩
    have hrow := h2.kept (grownBy_putObj' W D (.deferred none)) (by
      rcases h2.2 with ⟨rfl, _⟩ | ⟨g, cap, cur, rfl, _, hgb, _⟩
      · exact .inl rfl
      · refine .inr fun e' => ?_
        obtain rfl : g = D := by simpa [Value.ownBlock] using e'
        rw [hgb] at hK; cases hK)
    exact (Strs.of_owns hrow rfl).base (by omega)
  case stop =>
    rintro D c pre W _ _ h _
    exact h.elim
end Go.Proofs.YtpadcjcoafidgaaGreatDoor
/-! Plain laws on the parts of a text between the signs 124: put together again they are the text; none has the sign. -/
namespace Go.Proofs.YtpadcjcoafidgaaGreatDoor

/-- Parts with the sign between. -/
def joinBar : List (List UInt8) → List UInt8
  | [] => []
  | [x] => x
  | x :: y :: r => x ++ 124 :: joinBar (y :: r)
theorem splitBar_ne (l : List UInt8) : splitBar l ≠ [] := by
  cases l with
  | nil => simp [splitBar]
  | cons c l => simp only [splitBar]; split <;> simp
theorem joinBar_cons {x : List UInt8} {r : List (List UInt8)} (h : r ≠ []) : joinBar (x :: r) = x ++ 124 :: joinBar r := by
  cases r with
  | nil => exact absurd rfl h
  | cons y r => rfl
theorem join_split : ∀ l : List UInt8, joinBar (splitBar l) = l
  | [] => rfl
  | c :: l => by
    have ih := join_split l
    simp only [splitBar]
    split
    · rename_i hc
      rw [joinBar_cons (splitBar_ne l), ih]
      simp at hc
      simp [hc]
    · cases h : splitBar l with
      | nil => exact absurd h (splitBar_ne l)
      | cons y r =>
        rw [h] at ih
        cases r with
        | nil => simp only [List.headD_cons, List.tail_cons, joinBar] at ih ⊢; rw [ih]
        | cons z r => simp only [List.headD_cons, List.tail_cons, joinBar, List.cons_append] at ih ⊢; rw [ih]
theorem split_noBar : ∀ (l : List UInt8), ∀ p ∈ splitBar l, ∀ c ∈ p, c ≠ 124
  | [], p, hp, c, hc => by simp [splitBar] at hp; subst hp; simp at hc
  | d :: l, p, hp, c, hc => by
    have ih := split_noBar l
    simp only [splitBar] at hp
    split at hp
    · rcases List.mem_cons.1 hp with rfl | hp
      · simp at hc
      · exact ih p hp c hc
    · rename_i hd
      cases h : splitBar l with
      | nil => exact absurd h (splitBar_ne l)
      | cons y r =>
        rw [h] at hp ih
        simp only [List.headD_cons, List.tail_cons] at hp
        rcases List.mem_cons.1 hp with rfl | hp
        · rcases List.mem_cons.1 hc with rfl | hc
          · simpa using hd
          · exact ih y (by simp) c hc
        · exact ih p (by simp [hp]) c hc
theorem joinBar_snoc : ∀ (L : List (List UInt8)) (x : List UInt8), joinBar (L ++ [x]) = (if L = [] then [] else joinBar L ++ [124]) ++ x
  | [], x => by simp [joinBar]
  | [y], x => by simp [joinBar]
  | y :: z :: r, x => by
    have ih := joinBar_snoc (z :: r) x
    rw [show y :: z :: r ++ [x] = y :: (z :: r ++ [x]) from rfl, joinBar_cons (r := z :: r ++ [x]) (by simp), ih, if_neg (by simp), if_neg (by simp), joinBar_cons (x := y) (r := z :: r) (by simp)]
    simp
theorem joinBar_prefix : ∀ (L M : List (List UInt8)), (joinBar L).length ≤ (joinBar (L ++ M)).length
  | [], M => by simp [joinBar]
  | [y], M => by
    cases M with
    | nil => simp
    | cons m M => simp [joinBar]
  | y :: z :: r, M => by
    have ih := joinBar_prefix (z :: r) M
    rw [show y :: z :: r ++ M = y :: (z :: r ++ M) from rfl, joinBar_cons (r := z :: r ++ M) (by simp), joinBar_cons (x := y) (r := z :: r) (by simp)]
    simp only [List.length_append, List.length_cons]
    exact Nat.add_le_add_left (Nat.succ_le_succ ih) _

/-- What the first k parts come to, with the sign between. -/
def acc (f : ByteArray) (k : Nat) : ByteArray := bts (joinBar ((splitBar f.data.toList).take k))
theorem parts_len (f : ByteArray) : (parts f).length = (splitBar f.data.toList).length := by simp [parts]
theorem bts_append (a b : List UInt8) : bts a ++ bts b = bts (a ++ b) := by
  rw [← Joins.bytes_eta (bts a ++ bts b), Joins.data_append]
  simp [bts]
theorem acc_zero (f : ByteArray) : acc f 0 = ⟨#[]⟩ := by simp [acc, joinBar, bts]
theorem acc_one (f : ByteArray) (h : 0 < (parts f).length) : acc f 0 ++ (parts f)[0] = acc f 1 := by
  rw [parts_len] at h
  have e1 : (parts f)[0]'(by rw [parts_len]; exact h) = bts (splitBar f.data.toList)[0] := by simp [parts]
  rw [e1]
  unfold acc
  rw [bts_append, List.take_succ_eq_append_getElem h]
  simp [joinBar]
theorem acc_succ (f : ByteArray) (k : Nat) (h0 : 0 < k) (h : k < (parts f).length) : acc f k ++ ⟨#[124]⟩ ++ (parts f)[k] = acc f (k + 1) := by
  have h' := h
  rw [parts_len] at h'
  have e1 : (parts f)[k] = bts (splitBar f.data.toList)[k] := by simp [parts]
  have e2 : (⟨#[124]⟩ : ByteArray) = bts [124] := rfl
  rw [e1, e2]
  unfold acc
  rw [bts_append, bts_append, List.take_succ_eq_append_getElem h', joinBar_snoc, if_neg]
  intro e
  have h3 : ((splitBar f.data.toList).take k).length = k := by rw [List.length_take]; omega
  rw [e] at h3
  simp at h3
  omega
theorem acc_all (f : ByteArray) : acc f (parts f).length = f := by
  unfold acc
  rw [parts_len, List.take_length, join_split]
  exact Joins.bytes_eta f
theorem acc_size (f : ByteArray) (k : Nat) : (acc f k).size ≤ f.size := by
  have h1 := joinBar_prefix ((splitBar f.data.toList).take k) ((splitBar f.data.toList).drop k)
  rw [List.take_append_drop, join_split] at h1
  have e1 : (acc f k).size = (joinBar ((splitBar f.data.toList).take k)).length := List.size_toArray
  have e2 : f.size = f.data.toList.length := Array.length_toList.symm
  omega
theorem parts_size (f : ByteArray) (k : Nat) (h : k < (parts f).length) : (parts f)[k].size ≤ f.size := by
  have h1 := acc_size f (k + 1)
  by_cases h0 : k = 0
  · subst h0
    rw [← acc_one f h] at h1
    simp at h1
    omega
  · rw [← acc_succ f k (by omega) h] at h1
    simp at h1
    omega
theorem parts_noBar (f : ByteArray) (k : Nat) (h : k < (parts f).length) (j : Nat) (hj : j < (parts f)[k].size) : ((parts f)[k])[j] ≠ 124 := by
  have hm : (splitBar f.data.toList)[k]'(by rw [← parts_len]; exact h) ∈ splitBar f.data.toList := List.getElem_mem _
  refine split_noBar f.data.toList _ hm _ ?_
  have e1 : (parts f)[k] = bts ((splitBar f.data.toList)[k]'(by rw [← parts_len]; exact h)) := by simp [parts]
  have e2 : ∀ (x : ByteArray) (l : List UInt8) (e : x = bts l) (j : Nat) (hj : j < x.size), x[j] ∈ l := by
    intro x l e j hj
    subst e
    have : (bts l)[j] = l[j]'(by simpa [bts, ByteArray.size] using hj) := rfl
    rw [this]
    exact List.getElem_mem _
  exact e2 _ _ e1 j hj
theorem parts_pos (f : ByteArray) : 1 ≤ (parts f).length := by
  rw [parts_len]
  have := splitBar_ne f.data.toList
  cases h : splitBar f.data.toList with
  | nil => exact absurd h this
  | cons _ _ => simp
end Go.Proofs.YtpadcjcoafidgaaGreatDoor
/-! gouacheref14: All, Place, Find, Shorts. -/
namespace Go.Proofs.YtpadcjcoafidgaaGreatDoor
open Go.RowKit

def refAct : Act := { tmps := (Value.slice none 0 0 :: (tbl.map fun r => Value.agg r.cells.toArray)).toArray.push undef, defers := [] }

set_option maxHeartbeats 400000 in
set_option maxRecDepth 100000 in
/-- gouacheref14.All. -/
theorem refAll_any (w : World) :
    Calls Tryz.prog 110 #[] w fun e w' => e = .returned (.slice (some ⟨w.heap.size, 0, none⟩) 48 48) ∧ w' = w.alloc (.cells tblCells 116) := by
  refine calls_of_wp Tryz.func110 rfl ?_
  apply wp_seq_k
  intro K1 hK1
  apply wp_region_lit
  refine wpList_exec1 (v := .slice none 0 0) (w' := w) rfl (by kernel_rfl) ?_
  refine wpList_nil (hK1 _ _ ?_)
  clear hK1 K1
  apply wp_seq_k
  intro K1 hK1
  apply wp_region_lit
  refine wpList_builds_at 48 (a' := refAct) (by kernel_rfl) ?_
  refine wpList_exec1 (v := .slice (some ⟨w.heap.size, 0, none⟩) 48 48) (w' := w.alloc (.cells tblCells 116)) rfl (by kernel_rfl) ?_
  refine wpList_exec1 (v := .slice (some ⟨w.heap.size, 0, none⟩) 48 48) (w' := w.alloc (.cells tblCells 116)) rfl (by kernel_rfl) ?_
  refine wpList_nil (hK1 _ _ ?_)
  clear hK1 K1
  apply wp_ret
  exact bodyPost_ret (v := .slice (some ⟨w.heap.size, 0, none⟩) 48 48) (by kernel_rfl) rfl ⟨rfl, rfl⟩

theorem refAll_rows (w : World) :
    Calls Tryz.prog 110 #[] w fun e w' => e = .returned (.slice (some ⟨w.heap.size, 0, none⟩) 48 48) ∧ Holds4 w' w.heap.size 116 tblCells ∧ Below w.heap.size w w' :=
  (refAll_any w).mono fun _ _ ⟨he, hw⟩ => by
    subst hw
    exact ⟨he, heap_alloc_new _ _, below_alloc_new _ _⟩

/-- The cells of the k-th row of a block that holds the table. -/
theorem tbl_cells {W : World} {B : Nat} {t : TypeId} (h : Holds4 W B t tblCells) {k : Nat} (hk : k < 48) :
    W.cell? ⟨B, k * 4, none⟩ = some (.string (rowAt k).1) ∧ W.cell? ⟨B, k * 4 + 1, none⟩ = some (.string (rowAt k).2.1) ∧ W.cell? ⟨B, k * 4 + 2, none⟩ = some (.bool (rowAt k).2.2.1) ∧ W.cell? ⟨B, k * 4 + 3, none⟩ = some (.string (rowAt k).2.2.2) := by
  have hc : ∀ (j : Nat) (x : Value), (rowAt k).cells[j]? = some x → W.cell? ⟨B, k * 4 + j, none⟩ = some x := by
    intro j x hx
    rw [h.cell]
    have := flatten_get (m := 4) tblRows k j x tblRows_len (by rw [rowAt_cells hk]; exact hx)
    simpa [tblCells] using this
  exact ⟨hc 0 _ rfl, hc 1 _ rfl, hc 2 _ rfl, hc 3 _ rfl⟩

theorem noneIs_succ {s : ByteArray} {k : Nat} (h : NoneIs s (upto irAt k)) (hk : ((rowAt k).1 == s) = false) : NoneIs s (upto irAt (k + 1)) := by
  rw [upto_succ]
  exact h.snoc hk
theorem lastIs_at {s : ByteArray} {k : Nat} (h : NoneIs s (upto irAt k)) (hk : ((rowAt k).1 == s) = true) : LastIs s (upto irAt (k + 1)) k :=
  ⟨upto irAt k, irAt k, upto_succ _ _, h, hk, rfl⟩

set_option maxRecDepth 100000 in
set_option maxHeartbeats 1000000 in
/-- gouacheref14.Place: as prop.Place. -/
theorem refPlace_any (s : ByteArray) (w : World) :
    Calls Tryz.prog 109 #[.string s] w fun e w' => e = .returned (.int .i64 (place s)) ∧ Below w.heap.size w w' := by
  go_enter Tryz.func109, Tryz.ntmps109
  go_wp2_with fail
  refine (refAll_rows _).mono ?_
  rintro e w1 ⟨rfl, ht, hb⟩
  have hlt1 : w.heap.size < w1.heap.size := (Array.getElem?_eq_some_iff.1 ht).1
  go_wp2_with fail
  go_loopw [3, 4, 7] (fun _ _ p wr => ∃ k : Nat, k ≤ 48 ∧ p = .int .i64 k ∧ NoneIs s (upto irAt k) ∧ Below w1.heap.size w1 wr)
    (fun _ _ p _ => 48 - (intOf p).toNat)
  case atStart => exact ⟨0, by omega, rfl, fun _ h => (by simp [upto] at h), Below.refl _ _⟩
  case round =>
    obtain ⟨k, hk, rfl, hno, hB⟩ := hrel
    have hbw : Below w.heap.size w wr := hb.trans (hB.mono hb.size)
    have hszw := hbw.size
    by_cases hlt : k < 48
    · obtain ⟨c0, c1, c2, c3⟩ := tbl_cells (W := wr) ((hB.block _ hlt1).trans ht) hlt
      by_cases he : ((rowAt k).1 == s) = true
      · have he' : ((rowAt k).1.toList == s.toList) = true := by rw [← beq_toListBytes]; exact he
        have hp := place_last (k := k + 1) (by omega) (lastIs_at hno he)
        have Hp := Lib.hid hp
        clear he hp
        go_wp2_with fail
        go_ret
        rw [Hp.out]
        exact ⟨rfl, hbw.alloc hszw _⟩
      · have he' : ((rowAt k).1.toList == s.toList) = false := by rw [← beq_toListBytes]; simpa using he
        have He : ((rowAt k).1 == s) = false := by simpa using he
        have HE := Lib.hid He
        clear he He
        go_wp2_with fail
        go_roundw
        case rel => exact ⟨k + 1, by omega, by go_num, noneIs_succ hno HE.out, hB.alloc hB.size _⟩
        case measure => simp [intOf]; omega
    · obtain rfl : k = 48 := by omega
      go_wp2_with fail
      go_ret
      rw [place_none hno]
      exact ⟨rfl, hbw⟩
end Go.Proofs.YtpadcjcoafidgaaGreatDoor
/-! gouacheref14: Find, Shorts, Forms, Longs. -/
namespace Go.Proofs.YtpadcjcoafidgaaGreatDoor
open Go.RowKit

set_option maxHeartbeats 400000 in
theorem refFind_no (s : ByteArray) (h : placeN s = none) (w : World) :
    Calls Tryz.prog 72 #[.string s] w fun e w' => e = .returned (.tuple #[noRow.val, .bool false]) ∧ Below w.heap.size w w' := by
  have hp : place s = -1 := by unfold place; rw [h]
  have Hp := Lib.hid hp
  clear h hp
  go_enter Tryz.func72, Tryz.ntmps72
  go_wp2_with fail
  refine (refPlace_any s _).mono ?_
  rintro e w1 ⟨rfl, hb⟩
  rw [Hp.out]
  obtain ⟨hc, hf⟩ := bcell hb
  have hz := hb.size
  simp only [World.size_alloc] at hz hc hf
  go_wp2_with fail
  have hB1 : Below w.heap.size w w1 := ((Below.refl _ w).alloc (Nat.le_refl _) _).trans (hb.mono (by simp))
  refine bodyPost_ret (v := .tuple #[noRow.val, .bool false]) ?_ rfl ⟨rfl, (((hB1.setCell (p := ⟨w.heap.size, 0, none⟩) (Nat.le_refl _) _).setCell (p := ⟨w.heap.size, 1, none⟩) (Nat.le_refl _) _).setCell (p := ⟨w.heap.size, 2, none⟩) (Nat.le_refl _) _).setCell (p := ⟨w.heap.size, 3, none⟩) (Nat.le_refl _) _⟩
  simp [results, Tryz.results72, go_sem, hc, noRow]

set_option maxHeartbeats 400000 in
theorem refFind_yes (s : ByteArray) (k : Nat) (h : placeN s = some k) (w : World) :
    Calls Tryz.prog 72 #[.string s] w fun e w' => e = .returned (.tuple #[(rowAt k).val, .bool true]) ∧ Below w.heap.size w w' := by
  have hp : place s = k := by unfold place; rw [h]
  have hk := placeN_lt h
  have Hp := Lib.hid hp
  clear h hp
  go_enter Tryz.func72, Tryz.ntmps72
  go_wp2_with fail
  refine (refPlace_any s _).mono ?_
  rintro e w1 ⟨rfl, hb⟩
  rw [Hp.out]
  have hk0 : ¬ (k : Int) < 0 := by omega
  go_wp2_with fail
  refine (refAll_rows _).mono ?_
  rintro e w2 ⟨rfl, ht, hb'⟩
  obtain ⟨c0, c1, c2, c3⟩ := tbl_cells ht hk
  have hb2 := hb.trans (hb'.mono hb.size)
  clear hb' hb ht
  obtain ⟨hc, hf⟩ := bcell hb2
  have hz := hb2.size
  simp only [World.size_alloc] at hz hc hf
  have hB1 : Below w.heap.size w w2 := ((Below.refl _ w).alloc (Nat.le_refl _) _).trans (hb2.mono (by simp))
  go_wp2_with fail
  refine bodyPost_ret (v := .tuple #[(rowAt k).val, .bool true]) ?_ rfl ⟨rfl, (((hB1.setCell (p := ⟨w.heap.size, 0, none⟩) (Nat.le_refl _) _).setCell (p := ⟨w.heap.size, 1, none⟩) (Nat.le_refl _) _).setCell (p := ⟨w.heap.size, 2, none⟩) (Nat.le_refl _) _).setCell (p := ⟨w.heap.size, 3, none⟩) (Nat.le_refl _) _⟩
  simp [results, Tryz.results72, go_sem, hc]

theorem refFind_any (s : ByteArray) (w : World) :
    Calls Tryz.prog 72 #[.string s] w fun e w' => e = .returned (.tuple #[(findRow s).val, .bool (placeN s).isSome]) ∧ Below w.heap.size w w' := by
  unfold findRow
  cases h : placeN s with
  | none => exact refFind_no s h w
  | some k => exact refFind_yes s k h w
end Go.Proofs.YtpadcjcoafidgaaGreatDoor
/-! gouacheref14.Longs. -/
namespace Go.Proofs.YtpadcjcoafidgaaGreatDoor
open Go.RowKit

def sides4 : List ByteArray := [⟨#[116, 111, 112]⟩, ⟨#[114, 105, 103, 104, 116]⟩, ⟨#[98, 111, 116, 116, 111, 109]⟩, ⟨#[108, 101, 102, 116]⟩]
def sideNm (k : Nat) : ByteArray := sides4[k]?.getD ⟨#[]⟩

theorem sides_cells {W : World} {B : Nat} {t : TypeId} (h : Holds4 W B t #[.string ⟨#[116, 111, 112]⟩, .string ⟨#[114, 105, 103, 104, 116]⟩, .string ⟨#[98, 111, 116, 116, 111, 109]⟩, .string ⟨#[108, 101, 102, 116]⟩]) {k : Nat} (hk : k < 4) :
    W.cell? ⟨B, k, none⟩ = some (.string (sideNm k)) := by
  rw [h.cell]
  have : k = 0 ∨ k = 1 ∨ k = 2 ∨ k = 3 := by omega
  rcases this with rfl | rfl | rfl | rfl <;> rfl
theorem sides_size : ∀ k, k < 4 → (sideNm k).size ≤ 10 := by decide +kernel
def longNm (j k : Nat) : ByteArray := (longsAt j)[k]?.getD ⟨#[]⟩
theorem longNm_all : ∀ j, j < 6 → j ≠ 4 → upto (longNm j) 4 = longsAt j := by decide +kernel

theorem longNm_margin : ∀ k, k < 4 → (⟨#[109, 97, 114, 103, 105, 110]⟩ : ByteArray) ++ ⟨#[45]⟩ ++ sideNm k ++ ⟨#[]⟩ = longNm 3 k := by decide +kernel
set_option maxRecDepth 100000 in
set_option maxHeartbeats 1000000 in
theorem refLongs_margin (w : World) :
    Calls Tryz.prog 58 #[.string ⟨#[109, 97, 114, 103, 105, 110]⟩] w fun e w' => ∃ v, e = .returned v ∧ Strs w.heap.size w' v (longsAt 3) ∧ Below w.heap.size w w' := by
  go_enter Tryz.func58, Tryz.ntmps58
  go_wp2_with fail
  have ht : Holds4 ((w).alloc (.cells #[.string ⟨#[116, 111, 112]⟩, .string ⟨#[114, 105, 103, 104, 116]⟩, .string ⟨#[98, 111, 116, 116, 111, 109]⟩, .string ⟨#[108, 101, 102, 116]⟩] 9)) w.heap.size 9 _ := heap_alloc_new (w) _
  have hb : Below w.heap.size w ((w).alloc (.cells #[.string ⟨#[116, 111, 112]⟩, .string ⟨#[114, 105, 103, 104, 116]⟩, .string ⟨#[98, 111, 116, 116, 111, 109]⟩, .string ⟨#[108, 101, 102, 116]⟩] 9)) := (Below.refl _ w).alloc (Nat.le_refl _) _
  have hsz : ((w).alloc (.cells #[.string ⟨#[116, 111, 112]⟩, .string ⟨#[114, 105, 103, 104, 116]⟩, .string ⟨#[98, 111, 116, 116, 111, 109]⟩, .string ⟨#[108, 101, 102, 116]⟩] 9)).heap.size = w.heap.size + 1 := by simp
  generalize (w).alloc (.cells #[.string ⟨#[116, 111, 112]⟩, .string ⟨#[114, 105, 103, 104, 116]⟩, .string ⟨#[98, 111, 116, 116, 111, 109]⟩, .string ⟨#[108, 101, 102, 116]⟩] 9) = w1 at ht hb hsz ⊢
  have hlt1 : w.heap.size < w1.heap.size := by omega
  clear hsz
  go_loopw [3, 7, 24] (fun v _ p wr => ∃ k : Nat, k ≤ 4 ∧ p = .int .i64 k ∧ wr.ownsRow w1.heap.size 9 1 v (upto (longNm 3) k).length ((upto (longNm 3) k).map Value.string) ∧ Below w1.heap.size w1 wr)
    (fun _ _ p _ => 4 - (intOf p).toNat)
  case atStart => exact ⟨0, by omega, rfl, World.ownsRow_nil _ _ _ _, Below.refl _ _⟩
  case round =>
    obtain ⟨k, hk, rfl, hown, hB⟩ := hrel
    have hszr := hB.size
    have Hl : Hid ((upto (longNm 3) k).length = k) := Lib.hid (upto_length _ _)
    by_cases hlt : k < 4
    · have c := sides_cells (W := wr) ((hB.block _ hlt1).trans ht) hlt
      have hss := sides_size k hlt
      go_wp2_with (at_builtin; refine wpList_append_str rfl _ _ 42 9 rfl w1.heap.size Tryz.underlying42 infoStr _ _ _ rfl (hown.alloc _) wr.heap.size rfl (World.cell?_alloc_new _ _ _ _) (by rw [Hl.out]; omega) (by simp; omega) ?_; intro v' w4 hown' hgrow hne)
      rw [longNm_margin k hlt] at hown'
      go_roundw
      case rel => exact ⟨k + 1, by omega, by go_num, by rw [upto_succ]; exact hown', (hB.alloc hszr _).grown hgrow (by simp; omega) (fun i e => (hown.lt i e).1)⟩
      case measure => simp [intOf]; omega
    · obtain rfl : k = 4 := by omega
      rw [longNm_all 3 (by decide) (by decide)] at hown
      go_wp2_with fail
      go_ret
      exact ⟨_, rfl, (Strs.of_owns hown rfl).base hb.size, hb.trans (hB.mono hb.size)⟩

theorem longNm_padding : ∀ k, k < 4 → (⟨#[112, 97, 100, 100, 105, 110, 103]⟩ : ByteArray) ++ ⟨#[45]⟩ ++ sideNm k ++ ⟨#[]⟩ = longNm 5 k := by decide +kernel
set_option maxRecDepth 100000 in
set_option maxHeartbeats 1000000 in
theorem refLongs_padding (w : World) :
    Calls Tryz.prog 58 #[.string ⟨#[112, 97, 100, 100, 105, 110, 103]⟩] w fun e w' => ∃ v, e = .returned v ∧ Strs w.heap.size w' v (longsAt 5) ∧ Below w.heap.size w w' := by
  go_enter Tryz.func58, Tryz.ntmps58
  go_wp2_with fail
  have ht : Holds4 ((w).alloc (.cells #[.string ⟨#[116, 111, 112]⟩, .string ⟨#[114, 105, 103, 104, 116]⟩, .string ⟨#[98, 111, 116, 116, 111, 109]⟩, .string ⟨#[108, 101, 102, 116]⟩] 9)) w.heap.size 9 _ := heap_alloc_new (w) _
  have hb : Below w.heap.size w ((w).alloc (.cells #[.string ⟨#[116, 111, 112]⟩, .string ⟨#[114, 105, 103, 104, 116]⟩, .string ⟨#[98, 111, 116, 116, 111, 109]⟩, .string ⟨#[108, 101, 102, 116]⟩] 9)) := (Below.refl _ w).alloc (Nat.le_refl _) _
  have hsz : ((w).alloc (.cells #[.string ⟨#[116, 111, 112]⟩, .string ⟨#[114, 105, 103, 104, 116]⟩, .string ⟨#[98, 111, 116, 116, 111, 109]⟩, .string ⟨#[108, 101, 102, 116]⟩] 9)).heap.size = w.heap.size + 1 := by simp
  generalize (w).alloc (.cells #[.string ⟨#[116, 111, 112]⟩, .string ⟨#[114, 105, 103, 104, 116]⟩, .string ⟨#[98, 111, 116, 116, 111, 109]⟩, .string ⟨#[108, 101, 102, 116]⟩] 9) = w1 at ht hb hsz ⊢
  have hlt1 : w.heap.size < w1.heap.size := by omega
  clear hsz
  go_loopw [3, 7, 24] (fun v _ p wr => ∃ k : Nat, k ≤ 4 ∧ p = .int .i64 k ∧ wr.ownsRow w1.heap.size 9 1 v (upto (longNm 5) k).length ((upto (longNm 5) k).map Value.string) ∧ Below w1.heap.size w1 wr)
    (fun _ _ p _ => 4 - (intOf p).toNat)
  case atStart => exact ⟨0, by omega, rfl, World.ownsRow_nil _ _ _ _, Below.refl _ _⟩
  case round =>
    obtain ⟨k, hk, rfl, hown, hB⟩ := hrel
    have hszr := hB.size
    have Hl : Hid ((upto (longNm 5) k).length = k) := Lib.hid (upto_length _ _)
    by_cases hlt : k < 4
    · have c := sides_cells (W := wr) ((hB.block _ hlt1).trans ht) hlt
      have hss := sides_size k hlt
      go_wp2_with (at_builtin; refine wpList_append_str rfl _ _ 42 9 rfl w1.heap.size Tryz.underlying42 infoStr _ _ _ rfl (hown.alloc _) wr.heap.size rfl (World.cell?_alloc_new _ _ _ _) (by rw [Hl.out]; omega) (by simp; omega) ?_; intro v' w4 hown' hgrow hne)
      rw [longNm_padding k hlt] at hown'
      go_roundw
      case rel => exact ⟨k + 1, by omega, by go_num, by rw [upto_succ]; exact hown', (hB.alloc hszr _).grown hgrow (by simp; omega) (fun i e => (hown.lt i e).1)⟩
      case measure => simp [intOf]; omega
    · obtain rfl : k = 4 := by omega
      rw [longNm_all 5 (by decide) (by decide)] at hown
      go_wp2_with fail
      go_ret
      exact ⟨_, rfl, (Strs.of_owns hown rfl).base hb.size, hb.trans (hB.mono hb.size)⟩

theorem longNm_width : ∀ k, k < 4 → (⟨#[98, 111, 114, 100, 101, 114]⟩ : ByteArray) ++ ⟨#[45]⟩ ++ sideNm k ++ (⟨#[98, 111, 114, 100, 101, 114, 45, 119, 105, 100, 116, 104]⟩ : ByteArray).extract 6 12 = longNm 2 k := by decide +kernel
set_option maxRecDepth 100000 in
set_option maxHeartbeats 1000000 in
theorem refLongs_width (w : World) :
    Calls Tryz.prog 58 #[.string ⟨#[98, 111, 114, 100, 101, 114, 45, 119, 105, 100, 116, 104]⟩] w fun e w' => ∃ v, e = .returned v ∧ Strs w.heap.size w' v (longsAt 2) ∧ Below w.heap.size w w' := by
  go_enter Tryz.func58, Tryz.ntmps58
  go_wp2_with fail
  go_quiet (fail)
  go_wp2_with fail
  have ht : Holds4 ((w.drewN nq).alloc (.cells #[.string ⟨#[116, 111, 112]⟩, .string ⟨#[114, 105, 103, 104, 116]⟩, .string ⟨#[98, 111, 116, 116, 111, 109]⟩, .string ⟨#[108, 101, 102, 116]⟩] 9)) w.heap.size 9 _ := heap_alloc_new (w.drewN nq) _
  have hb : Below w.heap.size w ((w.drewN nq).alloc (.cells #[.string ⟨#[116, 111, 112]⟩, .string ⟨#[114, 105, 103, 104, 116]⟩, .string ⟨#[98, 111, 116, 116, 111, 109]⟩, .string ⟨#[108, 101, 102, 116]⟩] 9)) := (bDrew (Below.refl _ w) nq).alloc (Nat.le_refl _) _
  have hsz : ((w.drewN nq).alloc (.cells #[.string ⟨#[116, 111, 112]⟩, .string ⟨#[114, 105, 103, 104, 116]⟩, .string ⟨#[98, 111, 116, 116, 111, 109]⟩, .string ⟨#[108, 101, 102, 116]⟩] 9)).heap.size = w.heap.size + 1 := by simp
  generalize (w.drewN nq).alloc (.cells #[.string ⟨#[116, 111, 112]⟩, .string ⟨#[114, 105, 103, 104, 116]⟩, .string ⟨#[98, 111, 116, 116, 111, 109]⟩, .string ⟨#[108, 101, 102, 116]⟩] 9) = w1 at ht hb hsz ⊢
  have hlt1 : w.heap.size < w1.heap.size := by omega
  clear hsz
  go_loopw [3, 7, 24] (fun v _ p wr => ∃ k : Nat, k ≤ 4 ∧ p = .int .i64 k ∧ wr.ownsRow w1.heap.size 9 1 v (upto (longNm 2) k).length ((upto (longNm 2) k).map Value.string) ∧ Below w1.heap.size w1 wr)
    (fun _ _ p _ => 4 - (intOf p).toNat)
  case atStart => exact ⟨0, by omega, rfl, World.ownsRow_nil _ _ _ _, Below.refl _ _⟩
  case round =>
    obtain ⟨k, hk, rfl, hown, hB⟩ := hrel
    have hszr := hB.size
    have Hl : Hid ((upto (longNm 2) k).length = k) := Lib.hid (upto_length _ _)
    by_cases hlt : k < 4
    · have c := sides_cells (W := wr) ((hB.block _ hlt1).trans ht) hlt
      have hss := sides_size k hlt
      go_wp2_with (at_builtin; refine wpList_append_str rfl _ _ 42 9 rfl w1.heap.size Tryz.underlying42 infoStr _ _ _ rfl (hown.alloc _) wr.heap.size rfl (World.cell?_alloc_new _ _ _ _) (by rw [Hl.out]; omega) (by simp; omega) ?_; intro v' w4 hown' hgrow hne)
      rw [longNm_width k hlt] at hown'
      go_roundw
      case rel => exact ⟨k + 1, by omega, by go_num, by rw [upto_succ]; exact hown', (hB.alloc hszr _).grown hgrow (by simp; omega) (fun i e => (hown.lt i e).1)⟩
      case measure => simp [intOf]; omega
    · obtain rfl : k = 4 := by omega
      rw [longNm_all 2 (by decide) (by decide)] at hown
      go_wp2_with fail
      go_ret
      exact ⟨_, rfl, (Strs.of_owns hown rfl).base hb.size, hb.trans (hB.mono hb.size)⟩

theorem longNm_style : ∀ k, k < 4 → (⟨#[98, 111, 114, 100, 101, 114]⟩ : ByteArray) ++ ⟨#[45]⟩ ++ sideNm k ++ (⟨#[98, 111, 114, 100, 101, 114, 45, 115, 116, 121, 108, 101]⟩ : ByteArray).extract 6 12 = longNm 1 k := by decide +kernel
set_option maxRecDepth 100000 in
set_option maxHeartbeats 1000000 in
theorem refLongs_style (w : World) :
    Calls Tryz.prog 58 #[.string ⟨#[98, 111, 114, 100, 101, 114, 45, 115, 116, 121, 108, 101]⟩] w fun e w' => ∃ v, e = .returned v ∧ Strs w.heap.size w' v (longsAt 1) ∧ Below w.heap.size w w' := by
  go_enter Tryz.func58, Tryz.ntmps58
  go_wp2_with fail
  go_quiet (fail)
  go_wp2_with fail
  have ht : Holds4 ((w.drewN nq).alloc (.cells #[.string ⟨#[116, 111, 112]⟩, .string ⟨#[114, 105, 103, 104, 116]⟩, .string ⟨#[98, 111, 116, 116, 111, 109]⟩, .string ⟨#[108, 101, 102, 116]⟩] 9)) w.heap.size 9 _ := heap_alloc_new (w.drewN nq) _
  have hb : Below w.heap.size w ((w.drewN nq).alloc (.cells #[.string ⟨#[116, 111, 112]⟩, .string ⟨#[114, 105, 103, 104, 116]⟩, .string ⟨#[98, 111, 116, 116, 111, 109]⟩, .string ⟨#[108, 101, 102, 116]⟩] 9)) := (bDrew (Below.refl _ w) nq).alloc (Nat.le_refl _) _
  have hsz : ((w.drewN nq).alloc (.cells #[.string ⟨#[116, 111, 112]⟩, .string ⟨#[114, 105, 103, 104, 116]⟩, .string ⟨#[98, 111, 116, 116, 111, 109]⟩, .string ⟨#[108, 101, 102, 116]⟩] 9)).heap.size = w.heap.size + 1 := by simp
  generalize (w.drewN nq).alloc (.cells #[.string ⟨#[116, 111, 112]⟩, .string ⟨#[114, 105, 103, 104, 116]⟩, .string ⟨#[98, 111, 116, 116, 111, 109]⟩, .string ⟨#[108, 101, 102, 116]⟩] 9) = w1 at ht hb hsz ⊢
  have hlt1 : w.heap.size < w1.heap.size := by omega
  clear hsz
  go_loopw [3, 7, 24] (fun v _ p wr => ∃ k : Nat, k ≤ 4 ∧ p = .int .i64 k ∧ wr.ownsRow w1.heap.size 9 1 v (upto (longNm 1) k).length ((upto (longNm 1) k).map Value.string) ∧ Below w1.heap.size w1 wr)
    (fun _ _ p _ => 4 - (intOf p).toNat)
  case atStart => exact ⟨0, by omega, rfl, World.ownsRow_nil _ _ _ _, Below.refl _ _⟩
  case round =>
    obtain ⟨k, hk, rfl, hown, hB⟩ := hrel
    have hszr := hB.size
    have Hl : Hid ((upto (longNm 1) k).length = k) := Lib.hid (upto_length _ _)
    by_cases hlt : k < 4
    · have c := sides_cells (W := wr) ((hB.block _ hlt1).trans ht) hlt
      have hss := sides_size k hlt
      go_wp2_with (at_builtin; refine wpList_append_str rfl _ _ 42 9 rfl w1.heap.size Tryz.underlying42 infoStr _ _ _ rfl (hown.alloc _) wr.heap.size rfl (World.cell?_alloc_new _ _ _ _) (by rw [Hl.out]; omega) (by simp; omega) ?_; intro v' w4 hown' hgrow hne)
      rw [longNm_style k hlt] at hown'
      go_roundw
      case rel => exact ⟨k + 1, by omega, by go_num, by rw [upto_succ]; exact hown', (hB.alloc hszr _).grown hgrow (by simp; omega) (fun i e => (hown.lt i e).1)⟩
      case measure => simp [intOf]; omega
    · obtain rfl : k = 4 := by omega
      rw [longNm_all 1 (by decide) (by decide)] at hown
      go_wp2_with fail
      go_ret
      exact ⟨_, rfl, (Strs.of_owns hown rfl).base hb.size, hb.trans (hB.mono hb.size)⟩

theorem longNm_color : ∀ k, k < 4 → (⟨#[98, 111, 114, 100, 101, 114]⟩ : ByteArray) ++ ⟨#[45]⟩ ++ sideNm k ++ (⟨#[98, 111, 114, 100, 101, 114, 45, 99, 111, 108, 111, 114]⟩ : ByteArray).extract 6 12 = longNm 0 k := by decide +kernel
set_option maxRecDepth 100000 in
set_option maxHeartbeats 1000000 in
theorem refLongs_color (w : World) :
    Calls Tryz.prog 58 #[.string ⟨#[98, 111, 114, 100, 101, 114, 45, 99, 111, 108, 111, 114]⟩] w fun e w' => ∃ v, e = .returned v ∧ Strs w.heap.size w' v (longsAt 0) ∧ Below w.heap.size w w' := by
  go_enter Tryz.func58, Tryz.ntmps58
  go_wp2_with fail
  go_quiet (fail)
  go_wp2_with fail
  have ht : Holds4 ((w.drewN nq).alloc (.cells #[.string ⟨#[116, 111, 112]⟩, .string ⟨#[114, 105, 103, 104, 116]⟩, .string ⟨#[98, 111, 116, 116, 111, 109]⟩, .string ⟨#[108, 101, 102, 116]⟩] 9)) w.heap.size 9 _ := heap_alloc_new (w.drewN nq) _
  have hb : Below w.heap.size w ((w.drewN nq).alloc (.cells #[.string ⟨#[116, 111, 112]⟩, .string ⟨#[114, 105, 103, 104, 116]⟩, .string ⟨#[98, 111, 116, 116, 111, 109]⟩, .string ⟨#[108, 101, 102, 116]⟩] 9)) := (bDrew (Below.refl _ w) nq).alloc (Nat.le_refl _) _
  have hsz : ((w.drewN nq).alloc (.cells #[.string ⟨#[116, 111, 112]⟩, .string ⟨#[114, 105, 103, 104, 116]⟩, .string ⟨#[98, 111, 116, 116, 111, 109]⟩, .string ⟨#[108, 101, 102, 116]⟩] 9)).heap.size = w.heap.size + 1 := by simp
  generalize (w.drewN nq).alloc (.cells #[.string ⟨#[116, 111, 112]⟩, .string ⟨#[114, 105, 103, 104, 116]⟩, .string ⟨#[98, 111, 116, 116, 111, 109]⟩, .string ⟨#[108, 101, 102, 116]⟩] 9) = w1 at ht hb hsz ⊢
  have hlt1 : w.heap.size < w1.heap.size := by omega
  clear hsz
  go_loopw [3, 7, 24] (fun v _ p wr => ∃ k : Nat, k ≤ 4 ∧ p = .int .i64 k ∧ wr.ownsRow w1.heap.size 9 1 v (upto (longNm 0) k).length ((upto (longNm 0) k).map Value.string) ∧ Below w1.heap.size w1 wr)
    (fun _ _ p _ => 4 - (intOf p).toNat)
  case atStart => exact ⟨0, by omega, rfl, World.ownsRow_nil _ _ _ _, Below.refl _ _⟩
  case round =>
    obtain ⟨k, hk, rfl, hown, hB⟩ := hrel
    have hszr := hB.size
    have Hl : Hid ((upto (longNm 0) k).length = k) := Lib.hid (upto_length _ _)
    by_cases hlt : k < 4
    · have c := sides_cells (W := wr) ((hB.block _ hlt1).trans ht) hlt
      have hss := sides_size k hlt
      go_wp2_with (at_builtin; refine wpList_append_str rfl _ _ 42 9 rfl w1.heap.size Tryz.underlying42 infoStr _ _ _ rfl (hown.alloc _) wr.heap.size rfl (World.cell?_alloc_new _ _ _ _) (by rw [Hl.out]; omega) (by simp; omega) ?_; intro v' w4 hown' hgrow hne)
      rw [longNm_color k hlt] at hown'
      go_roundw
      case rel => exact ⟨k + 1, by omega, by go_num, by rw [upto_succ]; exact hown', (hB.alloc hszr _).grown hgrow (by simp; omega) (fun i e => (hown.lt i e).1)⟩
      case measure => simp [intOf]; omega
    · obtain rfl : k = 4 := by omega
      rw [longNm_all 0 (by decide) (by decide)] at hown
      go_wp2_with fail
      go_ret
      exact ⟨_, rfl, (Strs.of_owns hown rfl).base hb.size, hb.trans (hB.mono hb.size)⟩

theorem longs_overF : longsAt 4 = [⟨#[111, 118, 101, 114, 102, 108, 111, 119, 45, 120]⟩, ⟨#[111, 118, 101, 114, 102, 108, 111, 119, 45, 121]⟩] := by decide +kernel
set_option maxHeartbeats 400000 in
theorem refLongs_overflow (w : World) :
    Calls Tryz.prog 58 #[.string ⟨#[111, 118, 101, 114, 102, 108, 111, 119]⟩] w fun e w' => ∃ v, e = .returned v ∧ Strs w.heap.size w' v (longsAt 4) ∧ Below w.heap.size w w' := by
  have h : Calls Tryz.prog 58 #[.string ⟨#[111, 118, 101, 114, 102, 108, 111, 119]⟩] w fun e w' => e = .returned (.slice (some ⟨w.heap.size, 0, none⟩) 2 2) ∧ w' = w.alloc (.cells (([⟨#[111, 118, 101, 114, 102, 108, 111, 119, 45, 120]⟩, ⟨#[111, 118, 101, 114, 102, 108, 111, 119, 45, 121]⟩] : List ByteArray).map Value.string).toArray 9) := by
    go_enter Tryz.func58, Tryz.ntmps58
    go_wp2_with fail
    go_ret
    exact ⟨rfl, rfl⟩
  refine h.mono fun e w' ⟨he, hw⟩ => ?_
  subst hw
  rw [longs_overF]
  exact ⟨_, he, Strs.new w _ 9 (by unfold maxLen; decide), below_alloc_new _ _⟩
set_option maxHeartbeats 400000 in
theorem refLongs_none (s : ByteArray) (w : World) (h0 : (s.toList == [98, 111, 114, 100, 101, 114, 45, 99, 111, 108, 111, 114]) = false) (h1 : (s.toList == [98, 111, 114, 100, 101, 114, 45, 115, 116, 121, 108, 101]) = false) (h2 : (s.toList == [98, 111, 114, 100, 101, 114, 45, 119, 105, 100, 116, 104]) = false) (h3 : (s.toList == [109, 97, 114, 103, 105, 110]) = false) (h4 : (s.toList == [111, 118, 101, 114, 102, 108, 111, 119]) = false) (h5 : (s.toList == [112, 97, 100, 100, 105, 110, 103]) = false) :
    Calls Tryz.prog 58 #[.string s] w fun e w' => e = .returned (.slice none 0 0) ∧ w = w' := by
  go_enter Tryz.func58, Tryz.ntmps58
  go_wp2_with fail
  go_ret
  exact ⟨rfl, rfl⟩
theorem shortN_some {s : ByteArray} {k : Nat} (h : shortN s = some k) : k < 6 ∧ (shortAt k).1 = s := by
  unfold shortN at h
  rw [List.findIdx?_eq_some_iff_getElem] at h
  obtain ⟨hlt, he, _⟩ := h
  refine ⟨by rw [shortsTbl_length] at hlt; exact hlt, ?_⟩
  rw [shortAt_getElem hlt]
  exact bytes_ext (eq_of_beq (by rw [← beq_toListBytes]; exact he))
theorem shortN_none {s : ByteArray} (h : shortN s = none) {k : Nat} (hk : k < 6) : ((shortAt k).1.toList == s.toList) = false := by
  have hlt : k < shortsTbl.length := by rw [shortsTbl_length]; exact hk
  unfold shortN at h
  rw [List.findIdx?_eq_none_iff] at h
  rw [← beq_toListBytes, shortAt_getElem hlt]
  exact h _ (List.getElem_mem hlt)
theorem shortN_none' {s : ByteArray} (h : shortN s = none) {k : Nat} (hk : k < 6) : (s.toList == (shortAt k).1.toList) = false := by
  have := shortN_none h hk
  rw [beq_eq_false_iff_ne] at this ⊢
  exact fun e => this e.symm
/-- gouacheref14.Longs: as prop.Longs. -/
theorem refLongs_any (s : ByteArray) (w : World) :
    Calls Tryz.prog 58 #[.string s] w fun e w' => ∃ v, e = .returned v ∧ Strs w.heap.size w' v (longsOf s) ∧ Below w.heap.size w w' := by
  unfold longsOf
  cases h : shortN s with
  | none =>
    refine (refLongs_none s w ?_ ?_ ?_ ?_ ?_ ?_).mono fun e w' ⟨he, hw⟩ => ⟨_, he, Rws.nil _ _ _, hw ▸ Below.refl _ _⟩
    · simpa [shortAt, shortsTbl] using shortN_none' h (k := 0) (by decide)
    · simpa [shortAt, shortsTbl] using shortN_none' h (k := 1) (by decide)
    · simpa [shortAt, shortsTbl] using shortN_none' h (k := 2) (by decide)
    · simpa [shortAt, shortsTbl] using shortN_none' h (k := 3) (by decide)
    · simpa [shortAt, shortsTbl] using shortN_none' h (k := 4) (by decide)
    · simpa [shortAt, shortsTbl] using shortN_none' h (k := 5) (by decide)
  | some k =>
    obtain ⟨hk, rfl⟩ := shortN_some h
    have : k = 0 ∨ k = 1 ∨ k = 2 ∨ k = 3 ∨ k = 4 ∨ k = 5 := by omega
    rcases this with rfl | rfl | rfl | rfl | rfl | rfl
    · exact refLongs_color w
    · exact refLongs_style w
    · exact refLongs_width w
    · exact refLongs_margin w
    · exact refLongs_overflow w
    · exact refLongs_padding w
end Go.Proofs.YtpadcjcoafidgaaGreatDoor
/-! gouacheref14.Forms: the parts of a form, letter by letter. -/
namespace Go.Proofs.YtpadcjcoafidgaaGreatDoor
open Go.RowKit

/-- c ahead of the first part. -/
def prep (c : List UInt8) (L : List (List UInt8)) : List (List UInt8) := (c ++ L.headD []) :: L.tail
theorem prep_nil {L : List (List UInt8)} (h : L ≠ []) : prep [] L = L := by
  cases L with
  | nil => exact absurd rfl h
  | cons x r => rfl
theorem prep_bar (c r : List UInt8) : prep c (splitBar (124 :: r)) = c :: prep [] (splitBar r) := by
  rw [prep_nil (splitBar_ne r)]
  simp [prep, splitBar]
theorem prep_other (c r : List UInt8) (b : UInt8) (hb : b ≠ 124) : prep c (splitBar (b :: r)) = prep (c ++ [b]) (splitBar r) := by
  have : (b == 124) = false := by simpa using hb
  simp [prep, splitBar, this]
theorem drop_get (f : ByteArray) (i : Nat) (h : i < f.size) : f.data.toList.drop i = f[i] :: f.data.toList.drop (i + 1) := by
  have hl : i < f.data.toList.length := by simpa using h
  rw [List.drop_eq_getElem_cons hl]
  rfl
theorem extract_one (f : ByteArray) (i : Nat) (h : i < f.size) : f.extract i (i + 1) = bts [f[i]] := by
  rw [← Joins.bytes_eta (f.extract i (i + 1)), Lib.extract_data, drop_get f i h]
  simp [bts]

theorem byte_no {c : UInt8} (h : c ≠ 124) : ((c.toNat : Int) == 124) = false := by
  rw [beq_eq_false_iff_ne]
  intro e
  apply h
  apply UInt8.toNat_inj.1
  have : c.toNat = 124 := by omega
  rw [this]
  rfl
theorem byte_yes {c : UInt8} (h : c = 124) : ((c.toNat : Int) == 124) = true := by subst h; rfl
theorem bts_size (c : List UInt8) : (bts c).size = c.length := List.size_toArray

set_option maxRecDepth 100000 in
set_option maxHeartbeats 2000000 in
theorem refForms_any (x y f : ByteArray) (i : Bool) (hf : f.size ≤ 8000000) (w : World) :
    Calls Tryz.prog 113 #[.agg #[.string x, .string y, .bool i, .string f]] w fun e w' => ∃ v, e = .returned v ∧ Strs w.heap.size w' v (parts f) ∧ Below w.heap.size w w' := by
  go_enter Tryz.func113, Tryz.ntmps113
  go_wp2_with fail
  have k3 : (w.alloc (.cells #[.string x, .string y, .bool i, .string f] 116)).cell? ⟨w.heap.size, 3, none⟩ = some (.string f) := by simp
  have hA := below_alloc_new w (.cells #[.string x, .string y, .bool i, .string f] 116)
  have hsz : (w.alloc (.cells #[.string x, .string y, .bool i, .string f] 116)).heap.size = w.heap.size + 1 := by simp
  generalize w.alloc (.cells #[.string x, .string y, .bool i, .string f] 116) = w1 at k3 hA hsz ⊢
  have hlt1 : w.heap.size < w1.heap.size := by omega
  clear hsz
  go_loopw [3, 4, 5] (fun v s p wr => ∃ (k : Nat) (D : List (List UInt8)) (c : List UInt8), k ≤ f.size ∧ p = .int .i64 k ∧ s = .string (bts c) ∧ Hid (splitBar f.data.toList = D ++ prep c (splitBar (f.data.toList.drop k))) ∧ D.length ≤ k ∧ c.length ≤ k ∧
      wr.ownsRow w1.heap.size 9 1 v (D.map bts).length ((D.map bts).map Value.string) ∧ Below w1.heap.size w1 wr)
    (fun _ _ p _ => f.size - (intOf p).toNat)
  case atStart => exact ⟨0, [], [], by omega, rfl, rfl, Lib.hid (by rw [List.drop_zero, prep_nil (splitBar_ne _)]; rfl), by simp, by simp, World.ownsRow_nil _ _ _ _, Below.refl _ _⟩
  case round =>
    obtain ⟨k, D, c, hk, rfl, rfl, HS, hD, hc, hown, hB⟩ := hrel
    have kr : wr.cell? ⟨w.heap.size, 3, none⟩ = some (.string f) := (hB.cell (p := ⟨w.heap.size, 3, none⟩) hlt1).trans k3
    have hszr := hB.size
    by_cases hlt : k < f.size
    · by_cases hb : f[k] = 124
      · have hb' := byte_yes hb
        have e1 : splitBar f.data.toList = (D ++ [c]) ++ prep [] (splitBar (f.data.toList.drop (k + 1))) := by
          rw [HS.out, drop_get f k hlt, hb, prep_bar]
          simp
        have H1 := Lib.hid e1
        clear hb e1
        go_wp2_with (at_builtin; refine wpList_append_str rfl _ _ 42 9 rfl w1.heap.size Tryz.underlying42 infoStr _ _ _ rfl (hown.alloc _) wr.heap.size rfl (World.cell?_alloc_new _ _ _ _) (by rw [List.length_map]; omega) (by simp; omega) ?_; intro v' w4 hown' hgrow hne)
        have hB4 := (hB.alloc hszr (.cells #[.string (bts c)] 9)).grown hgrow (by simp; omega) (fun i e => (hown.lt i e).1)
        go_roundw
        case rel =>
          refine ⟨k + 1, D ++ [c], [], by omega, by go_num, rfl, H1, by simp; omega, by simp, ?_, hB4⟩
          have hm : (D ++ [c]).map bts = D.map bts ++ [bts c] := by simp
          rw [hm]
          exact hown'
        case measure => simp [intOf]; omega
      · have hb' := byte_no hb
        have e1 : splitBar f.data.toList = D ++ prep (c ++ [f[k]]) (splitBar (f.data.toList.drop (k + 1))) := by
          rw [HS.out, drop_get f k hlt, prep_other _ _ _ hb]
        have H1 := Lib.hid e1
        have e2 : bts c ++ f.extract k (k + 1) = bts (c ++ [f[k]]) := by rw [extract_one f k hlt, bts_append]
        have H2 := Lib.hid e2
        have z1 : ((bts c).size : Int) ≤ 8388608 := by rw [bts_size]; omega
        have z2 : ((f.extract k (k + 1)).size : Int) ≤ 8388608 := by rw [extract_one f k hlt, bts_size]; simp
        clear hb e1 e2
        go_wp2_with fail
        rw [H2.out]
        go_roundw
        case rel => exact ⟨k + 1, D, c ++ [f[k]], by omega, by go_num, rfl, H1, by omega, by simp; omega, hown, hB⟩
        case measure => simp [intOf]; omega
    · obtain rfl : k = f.size := by omega
      have e1 : parts f = D.map bts ++ [bts c] := by
        have h1 := HS.out
        rw [List.drop_eq_nil_of_le (by simp)] at h1
        unfold parts
        rw [h1]
        simp [prep, splitBar]
      have H1 := Lib.hid e1
      clear e1
      go_wp2_with (at_builtin; refine wpList_append_str rfl _ _ 42 9 rfl w1.heap.size Tryz.underlying42 infoStr _ _ _ rfl (hown.alloc _) wr.heap.size rfl (World.cell?_alloc_new _ _ _ _) (by rw [List.length_map]; omega) (by simp; omega) ?_; intro v' w4 hown' hgrow hne)
      have hB4 := (hB.alloc hszr (.cells #[.string (bts c)] 9)).grown hgrow (by simp; omega) (fun i e => (hown.lt i e).1)
      go_ret
      refine ⟨_, rfl, ?_, hA.trans (hB4.mono hA.size)⟩
      rw [H1.out]
      exact (Strs.of_owns hown' rfl).base hA.size
end Go.Proofs.YtpadcjcoafidgaaGreatDoor
