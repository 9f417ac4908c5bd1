/- short.Expand of a shorthand where no value for all stands. -/
import Derived.Test.YtpadcjcoafidgaaGreatDoorSpread
import Derived.Deep.RegionHeld3
import Derived.Deep.AppendLies
namespace Go.Proofs.YtpadcjcoafidgaaGreatDoor
open Go.RowKit

abbrev LongT := ByteArray × ByteArray × Bool
def LongT.row (x : LongT) : List Value := [.string x.1, .string x.2.1, .bool x.2.2]
theorem LongT.row_one (x : LongT) : ∀ u ∈ x.row, u.oneCell' = true := by
  intro u hu
  simp only [LongT.row, List.mem_cons, List.not_mem_nil, or_false] at hu
  rcases hu with rfl | rfl | rfl <;> rfl
theorem longRows_len (l : List LongT) : ∀ r ∈ l.map LongT.row, r.length = 3 := by
  intro r hr
  obtain ⟨t, _, rfl⟩ := List.mem_map.1 hr
  rfl
theorem infoLong : (Tryz.prog.info? 52).map (fun i => (i.zero, i.size, i.bytes)) = some (some (.agg #[.string ⟨#[]⟩, .string ⟨#[]⟩, .bool false]), 3, 40) := by kernel_rfl
def longRows (longs vals : List ByteArray) (imp : Bool) : List LongT := (longs.zip vals).map fun x => (x.1, x.2, imp)
def expandS (name : ByteArray) (l : List Val) (imp : Bool) : List LongT := longRows (longsOf name) (spreadS name (longsOf name) l) imp
theorem longRows_len2 (longs vals : List ByteArray) (imp : Bool) (h : vals.length ≤ longs.length) : (longRows longs vals imp).length = vals.length := by
  unfold longRows
  rw [List.length_map, List.length_zip]
  omega
theorem longRows_at (longs vals : List ByteArray) (imp : Bool) (k : Nat) (h1 : k < longs.length) (h2 : k < vals.length) (h : k < (longRows longs vals imp).length) : (longRows longs vals imp)[k] = (longs[k], vals[k], imp) := by
  simp [longRows]
theorem spreadF_len (name : ByteArray) (all : List Val) (n : Int) : ∀ (r : List ByteArray) (i : Nat) (acc : List ByteArray), spreadF name all n r i acc = [] ∨ (spreadF name all n r i acc).length = acc.length + r.length
  | [], i, acc => .inr (by simp [spreadF])
  | long :: r, i, acc => by
    unfold spreadF
    split
    · exact .inl rfl
    · split
      · exact .inl rfl
      · split
        · exact .inl rfl
        · rename_i s _
          rcases spreadF_len name all n r (i + 1) (acc ++ [s]) with h | h
          · exact .inl h
          · exact .inr (by rw [h]; simp; omega)
theorem spreadS_len (name : ByteArray) (longs : List ByteArray) (l : List Val) : (spreadS name longs l).length ≤ longs.length := by
  unfold spreadS
  split
  · simp
  · rename_i all _
    rcases spreadF_len name all all.length longs 0 [] with h | h
    · rw [h]; simp
    · rw [h]; simp
theorem longs_four : ∀ k : Fin 6, (longsAt k.val).length ≤ 4 ∧ (eqB (shortAt k.val).1 aOverflow = true → (longsAt k.val).length ≤ 2) := by decide +kernel
theorem longsOf_len (name : ByteArray) : (longsOf name).length ≤ 4 ∧ (eqB name aOverflow = true → (longsOf name).length ≤ 2) := by
  unfold longsOf
  split
  · rename_i k hk
    unfold shortN at hk
    rw [List.findIdx?_eq_some_iff_getElem] at hk
    obtain ⟨h6, hn, -⟩ := hk
    have := longs_four ⟨k, h6⟩
    refine ⟨this.1, fun h => this.2 ?_⟩
    have hs : shortAt k = shortsTbl[k]'h6 := by unfold shortAt; rw [List.getElem?_eq_getElem h6]; rfl
    have he : (shortAt k).1 = name := by rw [hs]; exact bytes_ext (eq_of_beq (by rw [← beq_toListBytes]; exact hn))
    show eqB (shortAt k).1 aOverflow = true
    rw [he]
    exact h
  · exact ⟨by simp, fun _ => by simp⟩
theorem sides_lt : ∀ (a : Fin 4) (b : Fin 4), sideAt a.val b.val < (a.val : Int) + 1 := by decide +kernel
theorem which_lt (name : ByteArray) (n i : Nat) (hi : i < (longsOf name).length) : whichS name n i < n := by
  obtain ⟨h4, h2⟩ := longsOf_len name
  unfold whichS
  split
  · rename_i ho
    have := h2 ho
    unfold overS
    split
    · omega
    · split <;> omega
  · unfold sidesS
    split
    · omega
    · rename_i hc
      have := sides_lt ⟨((n : Int) - 1).toNat, by omega⟩ ⟨(i : Int).toNat, by omega⟩
      simp only at this
      omega
set_option maxRecDepth 100000 in
set_option maxHeartbeats 8000000 in
theorem Expand_short (w : World) (hB : Base16 w) (name : ByteArray) (v : Value) (l : List Val) (imp : Bool) (h : Vs w v l) (hf : ∀ x ∈ l, x.fits) (hw : wideS l = noStr) (hn : placeN name = none) :
    ∀ a n c, v = .slice a n c → Calls Tryz.prog 25 #[.agg #[.string name, .slice a n c, .bool imp]] w fun e w' => ∃ V, e = .returned V ∧ Rws w.heap.size w' 3 V ((expandS name l imp).map LongT.row) ∧ Below w.heap.size w w' := by
  intro a n c hv
  subst hv
  have HB := Lib.hid hB
  have hrow : findRow name = noRow := by unfold findRow; rw [hn]
  obtain ⟨i0, hi, hz0, hz1, hz2⟩ := info_parts infoLong
  have Hi := Lib.hid hi
  have Hz0 := Lib.hid hz0
  have Hz1 := Lib.hid hz1
  have Hz2 := Lib.hid hz2
  have hO := Own.new w #[.string name, .slice a n c, .bool imp] 48
  have hb0 := bAlloc1 w (.cells #[.string name, .slice a n c, .bool imp] 48)
  have h0 := h.next hb0
  clear hB hi hz0 hz1 hz2 h
  go_enter Tryz.func25, Tryz.ntmps25
  go_wp2_with fail
  refine (Find_any name _).mono ?_
  rintro e w1 ⟨rfl, hb1⟩
  rw [hn, hrow]
  simp only [Option.isSome_none, noRow]
  have hB1 := bNext hb0 hb1
  have hO2 := (hO.next hb1).next (bAlloc1 w1 (.cells #[.string ⟨#[]⟩, .string ⟨#[]⟩, .bool false, .string ⟨#[]⟩] 39))
  have h2 := (h0.next hb1).next (bAlloc1 w1 (.cells #[.string ⟨#[]⟩, .string ⟨#[]⟩, .bool false, .string ⟨#[]⟩] 39))
  have hB2 := bNext hB1 (bAlloc1 w1 (.cells #[.string ⟨#[]⟩, .string ⟨#[]⟩, .bool false, .string ⟨#[]⟩] 39))
  have HB2 := Lib.hid (HB.out.next hB2)
  have m2 := hO2.m
  clear hO hb0 hb1 h0 hB1 hrow
  go_wp2_with fail
  refine (Longs_any name _ HB2.out.sh).mono ?_
  rintro e w3 ⟨lv, rfl, hl3, -, hb3⟩
  have hB3 := bNext hB2 hb3
  have HB3 := Lib.hid (HB2.out.next hb3)
  have hO3 := hO2.next hb3
  have h3 := h2.next hb3
  have m3 := hO3.m
  have HL := Lib.hid hl3
  obtain ⟨la, lc, rfl, _⟩ := hl3.val
  clear m2 hO2 h2 HB2 hB2 hb3
  go_wp2_with fail
  refine (spread_plain w3 HB3.out name (longsOf name) _ _ l _ HL.out (by have := (longsOf_len name).1; omega) h3 hf hw (fun n i hi => which_lt name n i hi)).mono ?_
  rintro e w4 ⟨sv, rfl, hs4, hb4⟩
  have hB4 := bNext hB3 hb4
  have hO4 := Lib.hid (hO3.next hb4)
  have HS := Lib.hid hs4
  have HL4 := Lib.hid (HL.out.below hb4 (Nat.le_refl _))
  have hsl := spreadS_len name (longsOf name) l
  have hl4 := (longsOf_len name).1
  obtain ⟨sa, sc, rfl, _⟩ := hs4.val
  obtain ⟨vals, hvals⟩ : ∃ x, spreadS name (longsOf name) l = x := ⟨_, rfl⟩
  have HE : Hid (expandS name l imp = longRows (longsOf name) vals imp) := Lib.hid (by unfold expandS; rw [hvals])
  rw [hvals] at HS hsl ⊢
  obtain ⟨longs, hlongs⟩ : ∃ x, longsOf name = x := ⟨_, rfl⟩
  rw [hlongs] at HL4 hsl hl4 HE ⊢
  have hDw : w.heap.size < w4.heap.size := hO4.out.lt
  clear m3 hO3 h3 HL HB3 hB3 hb4 hvals hlongs hs4 hl3 hf hw
  have hL := longRows_len2 longs vals imp hsl
  obtain ⟨L, hLL⟩ : ∃ L, L = longRows longs vals imp := ⟨_, rfl⟩
  have hAt : ∀ (k : Nat) (h1 : k < longs.length) (h2 : k < vals.length) (h : k < L.length), L[k] = (longs[k], vals[k], imp) := by
    subst hLL
    exact fun k h1 h2 h => longRows_at longs vals imp k h1 h2 h
  rw [← hLL] at HE hL
  have HAt := Lib.hid hAt
  clear hLL hAt
  go_wp2_with fail
  go_loopw [8, 9, 10, 45] (fun out _ _ iv wr => ∃ k : Nat, k ≤ vals.length ∧ iv = .int .i64 k ∧ wr.ownsRow w4.heap.size 52 3 out k ((L.take k).map LongT.row).flatten ∧ Below w4.heap.size w4 wr)
    (fun _ _ _ iv _ => vals.length - (intOf iv).toNat)
  case atStart => exact ⟨0, by omega, rfl, ⟨by simp, .inl ⟨rfl, rfl⟩⟩, Below.refl _ _⟩
  case round =>
    obtain ⟨k, hk, rfl, hown, hb⟩ := hrel
    by_cases hlt : k < vals.length
    · have hvne : vals ≠ [] := by intro e; rw [e] at hlt; simp at hlt
      have hlne : longs ≠ [] := by
        intro e
        rw [e] at hsl
        have h0 : vals.length ≤ 0 := hsl
        omega
      obtain ⟨b1, o1, c1', e1, _, hbb1, hc1⟩ := HS.out.at hvne
      simp only [Value.slice.injEq] at e1
      obtain ⟨rfl, -, -⟩ := e1
      obtain ⟨b2, o2, c2', e2, _, hbb2, hc2⟩ := Strs.at HL4.out hlne
      simp only [Value.slice.injEq] at e2
      obtain ⟨rfl, -, -⟩ := e2
      have f1 : wr.cell? ⟨b1, o1 + k, none⟩ = some (.string vals[k]) := (hb.cell (p := ⟨b1, _, none⟩) hbb1).trans (hc1 k hlt)
      have f2 : wr.cell? ⟨b2, o2 + k, none⟩ = some (.string longs[k]) := (hb.cell (p := ⟨b2, _, none⟩) hbb2).trans (hc2 k (by omega))
      have dm : wr.cell? ⟨w.heap.size, 0 + 2, none⟩ = some (.bool imp) := (hb.cell (p := ⟨w.heap.size, 0 + 2, none⟩) hDw).trans (hO4.out.m 2)
      have hLk := HAt.out k (by omega) hlt (by omega)
      obtain ⟨x, hx⟩ : ∃ x, vals[k] = x := ⟨_, rfl⟩
      obtain ⟨y, hy⟩ : ∃ x, longs[k] = x := ⟨_, rfl⟩
      rw [hx] at f1
      rw [hy] at f2
      rw [hx, hy] at hLk
      have HT : Hid (((L.take (k + 1)).map LongT.row).flatten = ((L.take k).map LongT.row).flatten ++ [Value.string y, Value.string x, Value.bool imp]) := Lib.hid (by
        rw [List.take_succ_eq_append_getElem (by omega), hLk]; simp [LongT.row])
      have p0 : (0 : Int) ≤ (k : Int) := by omega
      have p1 : (k : Int) < (vals.length : Int) := by omega
      have p2 : (k : Int) < (longs.length : Int) := by omega
      have hsz := hb.size
      clear hc1 hc2 hx hy hLk
      go_wp2_with fail
      go_region_held3 (fun w' => w'.cell? ⟨b2, o2 + k, none⟩ = some (.string y) ∧ w'.cell? ⟨w.heap.size, 0 + 2, none⟩ = some (.bool imp)) (go_keep)
        (first
          | ((refine step_append_lies _ (by rfl) _ _ 49 (by rfl) w4.heap.size 52 i0 (.agg #[.string ⟨#[]⟩, .string ⟨#[]⟩, .bool false]) 3 40 Tryz.underlying49 Hi.out Hz0.out Hz1.out Hz2.out rfl (by decide) _ k _ (by rfl) (World.ownsRow.alloc (w := wr.drew) hown _) ⟨wr.heap.size, 0, none⟩ 1 1 [Value.string y, Value.string x, Value.bool imp] (by rfl) rfl (cells_new1 wr.drew _ _ _ rfl) (LongT.row_one (y, x, imp)) (by decide) (by unfold maxLen; omega) (by omega) (by simp; omega) (wr.heap.size + 1) (by simp) ?_); intro g cap w7 hown7 hgrow hat hlt7; have hb7 := (((Below.refl w4.heap.size wr).drew).alloc hsz _).grown hgrow (by simp; omega) (fun j e => (hown.lt j e).1); have f27 := (hb7.cell (p := ⟨b2, o2 + k, none⟩) hbb2).trans f2; have dm7 := (hb7.cell (p := ⟨w.heap.size, 0 + 2, none⟩) hDw).trans dm))
      go_wp2_with fail
      go_roundw
      case rel => exact ⟨k + 1, by omega, by go_num, by rw [HT.out]; exact hown7, hb.trans (hb7.mono (Nat.le_refl _))⟩
      case measure => simp [intOf]; omega
    · have hke : k = vals.length := by omega
      have q1 : ¬ (k : Int) < (vals.length : Int) := by omega
      rw [List.take_of_length_le (by omega)] at hown
      have hkl : k = (L.map LongT.row).length := by rw [List.length_map, hL]; exact hke
      clear hke
      go_wp2_with fail
      go_ret
      refine ⟨_, rfl, ?_, bNext hB4 hb⟩
      rw [HE.out]
      exact (Rws.of_owns hown rfl hkl.symm (longRows_len L)).base hB4.size
end Go.Proofs.YtpadcjcoafidgaaGreatDoor
