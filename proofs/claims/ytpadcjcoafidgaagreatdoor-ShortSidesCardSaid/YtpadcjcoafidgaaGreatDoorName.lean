/- reader.name over runes without a backslash. -/
import Derived.Test.YtpadcjcoafidgaaGreatDoorReader
import Derived.Test.YtpadcjcoafidgaaGreatDoorWriter
namespace Go.Proofs.YtpadcjcoafidgaaGreatDoor
open Go.RowKit

/-- The text of runes that are all below 128. -/
def byteOf (c : Int) : UInt8 := UInt8.ofNat c.toNat
def strOf (l : List Int) : ByteArray := ⟨(l.map byteOf).toArray⟩
def asc (c : Int) : Prop := 0 ≤ c ∧ c ≤ 127
theorem byteCells_strOf (l : List Int) (h : ∀ c ∈ l, asc c) : Lib.byteCells (l.map byteOf) = l.map fun c => Value.int .u8 c := by
  unfold Lib.byteCells
  rw [List.map_map]
  refine List.map_congr_left fun c hc => ?_
  obtain ⟨h0, h1⟩ := h c hc
  have : (byteOf c).toNat = c.toNat := by unfold byteOf; simp; omega
  simp only [Function.comp, this]
  rw [Int.toNat_of_nonneg h0]
theorem runeCells_asc (c : Int) (h : asc c) : Lib.runeCells c = [Value.int .u8 c] := by simp [Lib.runeCells, Lib.encodeRuneZ_one h.1 h.2]
/-- All runes that stand here lie below 128, and none is a backslash. -/
def Asc (rs : List Int) : Prop := ∀ c ∈ rs, asc c
def nameLen (s : List Int) : Nat := (s.takeWhile isPart).length
theorem takeWhile_take (p : Int → Bool) : ∀ (l : List Int) (k : Nat), (∀ j, j < k → ∃ hl : j < l.length, p l[j] = true) → (∀ hl : k < l.length, p l[k] = false) → l.takeWhile p = l.take k
  | [], k, h, _ => by
    cases k with
    | zero => rfl
    | succ k => obtain ⟨hl, _⟩ := h 0 (by omega); simp at hl
  | a :: l, 0, _, hn => by
    have := hn (by simp)
    simp at this
    simp [this]
  | a :: l, k + 1, h, hn => by
    obtain ⟨_, ha⟩ := h 0 (by omega)
    simp at ha
    rw [List.takeWhile_cons_of_pos (by simpa using ha), List.take_succ_cons]
    congr 1
    exact takeWhile_take p l k (fun j hj => by obtain ⟨hl, hp⟩ := h (j + 1) (by omega); simp at hl hp; exact ⟨by omega, hp⟩) (fun hl => by have := hn (by simpa using hl); simpa using this)

theorem isB_keep {T e : TypeId} {B b : Nat} {bs : List Value} {w w' : World} (h : Lib.IsBuilderF T e B b bs w) (hk : ∀ k, B ≤ k → k < w.heap.size → w'.heap[k]? = w.heap[k]?) : Lib.IsBuilderF T e B b bs w' := by
  have lt : ∀ {k : Nat} {o : Obj}, w.heap[k]? = some o → k < w.heap.size := fun hh => (Array.getElem?_eq_some_iff.1 hh).1
  have key : ∀ p, Lib.BuilderAtF T e B b p bs w → Lib.BuilderAtF T e B b p bs w' := by
    rintro p ⟨h1, v, hbk, ⟨hl, hown⟩, hne⟩
    refine ⟨h1, v, (hk b h1 (lt hbk)).trans hbk, ⟨hl, ?_⟩, hne⟩
    rcases hown with hn | ⟨g, cap, cur, fz, hv, hg, hgg, rest⟩
    · exact .inl hn
    · exact .inr ⟨g, cap, cur, fz, hv, hg, (hk g hg (lt hgg)).trans hgg, rest⟩
  exact h.elim (fun x => .inl (key _ x)) (fun x => .inr (key _ x))
theorem isB_below {T e : TypeId} {B b : Nat} {bs : List Value} {w w' : World} (h : Lib.IsBuilderF T e B b bs w) (hb : Below w.heap.size w w') : Lib.IsBuilderF T e B b bs w' :=
  isB_keep h fun k _ hlt => hb.block k hlt
theorem isB_set {T e : TypeId} {B b : Nat} {bs : List Value} {w : World} (h : Lib.IsBuilderF T e B b bs w) (c k : Nat) (x : Value) (hc : c < B) : Lib.IsBuilderF T e B b bs (w.setCell ⟨c, k, none⟩ x) :=
  isB_keep h fun k hB _ => Below.heap_setCell _ _ _ _ (by simp; omega)
theorem rd_below {w w' : World} {b B : Nat} {rv : Value} {rs : List Int} {i : Nat} (h : Rd w b rv rs i) (hb : Below B w w') (hC : b < B) : Rd w' b rv rs i := by
  obtain ⟨p, off, cap, hv, hc, hp, hcell⟩ := h.rn
  exact ⟨(hb.cell (p := ⟨b, _, none⟩) hC).trans h.c0, (hb.cell (p := ⟨b, _, none⟩) hC).trans h.c1, (hb.frozen (p := ⟨b, _, none⟩) hC).trans h.f1, h.le, h.big, p, off, cap, hv, hc, hp, fun k hk => (hb.cell (p := ⟨p, _, none⟩) (Nat.lt_trans hp hC)).trans (hcell k hk)⟩

set_option maxHeartbeats 4000000 in
theorem name_any (w : World) (b : Nat) (rv : Value) (rs : List Int) (i : Nat) (h : Rd w b rv rs i) (ht : Tame rs) (ha : Asc rs) :
    Calls Tryz.prog 155 #[.pointer (some ⟨b, 0, none⟩)] w fun e w' => (e = .returned (.string (strOf ((rs.drop i).takeWhile isPart)))) ∧ But w.heap.size b w w' ∧ Rd w' b rv rs (i + nameLen (rs.drop i)) := by
  have H := Lib.hid h
  have T := Lib.hid ht
  have A := Lib.hid ha
  have hbw : b < w.heap.size := World.block_lt_of_cell? w _ h.c0
  have hbig := h.big
  have hle := h.le
  clear h ht ha
  go_enter Tryz.func155, Tryz.ntmps155
  go_wp2_with fail
  go_loopw [4, 8, 24] (fun _ _ _ wr => ∃ j : Nat, i ≤ j ∧ Hid (Rd wr b rv rs j) ∧ Hid (∀ m, m < j - i → ∃ hl : m < (rs.drop i).length, isPart (rs.drop i)[m] = true) ∧ Hid (Lib.IsBuilderF 125 5 w.heap.size w.heap.size (((rs.drop i).take (j - i)).map fun c => Value.int .u8 c) wr) ∧ But w.heap.size b w wr)
    (fun _ _ _ wr => rs.length - (intOf ((wr.cell? ⟨b, 0 + 1, none⟩).getD undef)).toNat)
  case atStart =>
    refine ⟨i, Nat.le_refl _, Lib.hid (H.out.next (bAlloc1 _ _)), Lib.hid (fun m hm => by omega), Lib.hid ?_, But.of (bAlloc1 _ _)⟩
    rw [Nat.sub_self]
    exact Lib.IsBuilderF.of (Lib.fresh_isBuilder _ _ w)
  case round =>
    obtain ⟨j, hij, HR, HP, HB, hbut⟩ := hrel
    obtain ⟨c, hc⟩ : ∃ c, at_ rs j = c := ⟨_, rfl⟩
    go_wp2_with fail
    refine (peek_any wr b rv rs j 0 HR.out (by omega)).mono ?_
    rintro e w1 ⟨rfl, hb1⟩
    rw [show at_ rs (j + 0) = c from hc]
    have HR1 := Lib.hid (HR.out.next hb1)
    have HB1 := Lib.hid (isB_below HB.out hb1)
    have hbut1 := hbut.trans ((But.of hb1).mono hbut.size)
    by_cases hp : c ≠ -1 ∧ isPart c = true
    · obtain ⟨hne, hpt⟩ := hp
      have hj : j < rs.length := by
        rcases Nat.lt_or_ge j rs.length with h' | h'
        · exact h'
        · exact absurd (hc.symm.trans (at_end h')) hne
      have hca : asc c := by rw [← hc, at_of hj]; exact A.out _ (List.getElem_mem _)
      obtain ⟨ha0, ha1⟩ := hca
      have hcx := Lib.hid hc
      clear hc hb1 hbut
      go_wp2_with fail
      refine (Part_any _ _).mono ?_
      rintro e w2 ⟨rfl, hb2⟩
      have HR2 := Lib.hid (HR1.out.next hb2)
      have HB2 := Lib.hid (isB_below HB1.out hb2)
      have hbut2 := hbut1.trans ((But.of hb2).mono hbut1.size)
      clear hb2
      go_wp2_with fail
      refine (WriteRune_f w.heap.size w.heap.size _ c (by omega) (by omega) w2 HB2.out (by simp; omega) hbut2.size).mono ?_
      rintro e w3 ⟨rfl, hB3, hb3⟩
      have HB3 := Lib.hid hB3
      have HR3 := Lib.hid (rd_below HR2.out hb3 hbw)
      have hbut3 := hbut2.trans (But.of hb3)
      clear hB3 hb3
      have c1 := HR3.out.c1
      have f1 := HR3.out.f1
      have hwj : IntKind.i64.wrap ((j : Int) + 1) = ((j + 1 : Nat) : Int) := by rw [Go.IntWalk.i64_in _ (by omega)]; omega
      go_wp2_with fail
      go_roundw
      case rel =>
        refine ⟨j + 1, by omega, Lib.hid (HR3.out.store (j + 1) _ (by omega) (by omega)), Lib.hid fun m hm => ?_, Lib.hid ?_, hbut3.set _ _⟩
        · by_cases hm2 : m < j - i
          · exact HP.out m hm2
          · obtain rfl : m = j - i := by omega
            refine ⟨by simp; omega, ?_⟩
            rw [List.getElem_drop]
            have : rs[i + (j - i)]'(by omega) = c := by rw [← hcx.out, at_of hj]; congr 1; omega
            rw [this]; exact hpt
        · refine isB_set ?_ b _ _ hbw
          rw [show j + 1 - i = (j - i) + 1 by omega, List.take_add_one, List.map_append]
          have : (rs.drop i)[j - i]? = some c := by
            rw [List.getElem?_drop, show i + (j - i) = j by omega, List.getElem?_eq_getElem hj, ← at_of hj, hcx.out]
          rw [this]
          have hB := HB3.out
          rw [runeCells_asc c ⟨ha0, ha1⟩] at hB
          exact .inr hB
      case measure =>
        have e1 := HR.out.c1
        have e2 := (HR3.out.store (j + 1) ((j : Int) + 1) (by omega) (by omega)).c1
        rw [e1, e2]
        simp [intOf]; omega
    · have HT : Hid ((rs.drop i).takeWhile isPart = (rs.drop i).take (j - i)) := Lib.hid (takeWhile_take _ _ _ HP.out (fun hl => by
        rw [List.length_drop] at hl
        rw [List.getElem_drop]
        have e : rs[i + (j - i)]'(by omega) = c := by rw [← hc, at_of (by omega)]; congr 1; omega
        rw [e]
        have hne : c ≠ -1 := by
          have := A.out _ (List.getElem_mem (l := rs) (n := i + (j - i)) (by omega))
          rw [e] at this; unfold asc at this; omega
        cases hq : isPart c
        · rfl
        · exact absurd ⟨hne, hq⟩ hp))
      clear hb1 hbut
      by_cases hne : c = -1
      · subst hne
        clear hp
        have hcx := Lib.hid hc
        clear hc
        have HR2 := HR1
        have HB2 := HB1
        have hbut2 := hbut1
        clear HR1 HB1 hbut1
        go_wp2_with fail
        refine (escape_no _ b rv rs j 0 HR2.out (by omega) T.out).mono ?_
        rintro e w3 ⟨rfl, hb3⟩
        have HR3 := Lib.hid (HR2.out.next hb3)
        have HB3 := Lib.hid (isB_below HB2.out hb3)
        have hbut3 := hbut2.trans ((But.of hb3).mono hbut2.size)
        go_wp2_with fail
        refine (Tryz.Builder_String_any_f w.heap.size w.heap.size (((rs.drop i).take (j - i)).map byteOf) w3 (by rw [byteCells_strOf _ (fun x hx => A.out x (List.mem_of_mem_drop (List.mem_of_mem_take hx)))]; exact HB3.out) hbut3.size).mono ?_
        rintro e w4 ⟨rfl, _, hb4⟩
        go_wp2_with fail
        go_ret
        refine ⟨?_, hbut3.trans (But.of hb4), ?_⟩
        · rw [HT.out]; unfold strOf; rw [List.map_take, List.map_drop]; rfl
        · have := rd_below HR3.out hb4 hbw
          unfold nameLen
          rw [HT.out, List.length_take, List.length_drop, show i + min (j - i) (rs.length - i) = j by have := HR.out.le; omega]
          exact this
      · have hq : isPart c = false := by
          cases hq : isPart c
          · rfl
          · exact absurd ⟨hne, hq⟩ hp
        clear hp
        have hcx := Lib.hid hc
        clear hc
        go_wp2_with fail
        refine (Part_any _ _).mono ?_
        rintro e w2 ⟨rfl, hb2⟩
        have HR2 := Lib.hid (HR1.out.next hb2)
        have HB2 := Lib.hid (isB_below HB1.out hb2)
        have hbut2 := hbut1.trans ((But.of hb2).mono hbut1.size)
        clear hb2
        go_wp2_with fail
        refine (escape_no _ b rv rs j 0 HR2.out (by omega) T.out).mono ?_
        rintro e w3 ⟨rfl, hb3⟩
        have HR3 := Lib.hid (HR2.out.next hb3)
        have HB3 := Lib.hid (isB_below HB2.out hb3)
        have hbut3 := hbut2.trans ((But.of hb3).mono hbut2.size)
        go_wp2_with fail
        refine (Tryz.Builder_String_any_f w.heap.size w.heap.size (((rs.drop i).take (j - i)).map byteOf) w3 (by rw [byteCells_strOf _ (fun x hx => A.out x (List.mem_of_mem_drop (List.mem_of_mem_take hx)))]; exact HB3.out) hbut3.size).mono ?_
        rintro e w4 ⟨rfl, _, hb4⟩
        go_wp2_with fail
        go_ret
        refine ⟨?_, hbut3.trans (But.of hb4), ?_⟩
        · rw [HT.out]; unfold strOf; rw [List.map_take, List.map_drop]; rfl
        · have := rd_below HR3.out hb4 hbw
          unfold nameLen
          rw [HT.out, List.length_take, List.length_drop, show i + min (j - i) (rs.length - i) = j by have := HR.out.le; omega]
          exact this
end Go.Proofs.YtpadcjcoafidgaaGreatDoor
