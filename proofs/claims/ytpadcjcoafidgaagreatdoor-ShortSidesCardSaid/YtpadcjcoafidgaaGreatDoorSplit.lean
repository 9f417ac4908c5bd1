/- strings.SplitSeq at the sign of one byte: the parts of a text between the signs, in order. -/
import Derived.Test.YtpadcjcoafidgaaGreatDoorRangeT
import Derived.Test.YtpadcjcoafidgaaGreatDoorShelf
import Derived.Test.YtpadcjcoafidgaaGreatDoorRows
import Derived.Lib.Hide
import Derived.Lib.SmallJoins
namespace Go.Proofs.YtpadcjcoafidgaaGreatDoor
open Go.RowKit Go.Shelf

attribute [local go_sem] Oper.semAt_some

/-- THE PARTS OF A TEXT BETWEEN THE SIGNS 124. -/
def splitBar : List UInt8 → List (List UInt8)
  | [] => [[]]
  | c :: l => if c == 124 then [] :: splitBar l else (c :: (splitBar l).headD []) :: (splitBar l).tail
def bts (l : List UInt8) : ByteArray := ⟨l.toArray⟩
def parts (s : ByteArray) : List ByteArray := (splitBar s.data.toList).map bts

theorem splitBar_none : ∀ {l : List UInt8}, Lib.indexByte l 124 = -1 → splitBar l = [l]
  | [], _ => rfl
  | c :: l, h => by
    simp only [Lib.indexByte] at h
    split at h
    · cases h
    · rename_i hc
      split at h
      · rename_i h2
        have := splitBar_none (by simpa using h2)
        simp [splitBar, hc, this]
      · rename_i h2
        have h3 := Lib.indexByte_ge l 124
        simp at h2
        omega
theorem splitBar_some : ∀ {l : List UInt8} {i : Nat}, Lib.indexByte l 124 = (i : Int) → i < l.length ∧ splitBar l = l.take i :: splitBar (l.drop (i + 1))
  | [], i, h => by simp [Lib.indexByte] at h
  | c :: l, i, h => by
    simp only [Lib.indexByte] at h
    split at h
    · rename_i hc
      obtain rfl : i = 0 := by omega
      simp [splitBar, hc]
    · rename_i hc
      split at h
      · omega
      · rename_i h2
        have h3 := Lib.indexByte_ge l 124
        cases i with
        | zero => simp at h2; omega
        | succ i =>
          obtain ⟨h4, h5⟩ := splitBar_some (l := l) (i := i) (by omega)
          refine ⟨by simp; omega, ?_⟩
          simp [splitBar, hc, h5]
theorem parts_none {s : ByteArray} (h : Lib.indexByte s.data.toList 124 = -1) : parts s = [s] := by
  unfold parts
  rw [splitBar_none h]
  simp [bts]
theorem parts_some {s : ByteArray} {i : Nat} (h : Lib.indexByte s.data.toList 124 = (i : Int)) : i < s.size ∧ parts s = s.extract 0 i :: parts (s.extract (i + 1) s.size) := by
  obtain ⟨h1, h2⟩ := splitBar_some h
  refine ⟨by simpa using h1, ?_⟩
  unfold parts
  rw [h2]
  have e1 : bts (s.data.toList.take i) = s.extract 0 i := by
    rw [← Joins.bytes_eta (s.extract 0 i), Lib.extract_data]
    simp [bts]
  have e2 : (s.extract (i + 1) s.size).data.toList = s.data.toList.drop (i + 1) := by
    rw [Lib.extract_data]
    exact List.take_of_length_le (by simp)
  rw [e2, List.map_cons, e1]

theorem splitBar_length : ∀ (l : List UInt8), (splitBar l).length ≤ l.length + 1
  | [] => by simp [splitBar]
  | c :: l => by
    have := splitBar_length l
    simp only [splitBar]
    split
    · simp; omega
    · simp; omega
theorem parts_length (s : ByteArray) : (parts s).length ≤ s.size + 1 := by
  have := splitBar_length s.data.toList
  simpa [parts] using this

/-- What the iterator's two other cells hold, and the first. -/
structure SplitAt (W : World) (b : Nat) (t : ByteArray) : Prop where
  text : Boxed W b 9 (.string t)
  sep : Boxed W (b + 1) 9 (.string ⟨#[124]⟩)
  save : Boxed W (b + 2) 3 (.int .i64 0)
theorem SplitAt.kept {A B : World} {b : Nat} {t : ByteArray} (h : SplitAt A b t) (hk : ∀ j, b ≤ j → j < b + 3 → B.heap[j]? = A.heap[j]?) : SplitAt B b t :=
  ⟨(hk _ (by omega) (by omega)).trans h.text, (hk _ (by omega) (by omega)).trans h.sep, (hk _ (by omega) (by omega)).trans h.save⟩
theorem SplitAt.set {W : World} {b : Nat} {t : ByteArray} (h : SplitAt W b t) (u : ByteArray) : SplitAt (W.setCell ⟨b, 0, none⟩ (.string u)) b u :=
  ⟨h.text.set _, h.sep.other (by omega) _, h.save.other (by omega) _⟩
def textLeft (b : Nat) (W : World) : Nat := match W.cell? ⟨b, 0, none⟩ with | some (.string t) => t.size | _ => 0
theorem textLeft_eq {W : World} {b : Nat} {t : ByteArray} (h : SplitAt W b t) : textLeft b W = t.size := by
  unfold textLeft
  rw [h.text.cell]

set_option maxRecDepth 100000 in
set_option maxHeartbeats 2000000 in
/-- strings.splitSeq$1: the parts, in order; it writes the cell of its text alone. -/
theorem split1_stops (n b : Nat) (s : ByteArray) (hs : s.size ≤ maxLen) (w : World) (h : SplitAt w b s) :
    SeqT n Tryz.prog 159 #[.pointer (some ⟨b + 1, 0, none⟩), .pointer (some ⟨b, 0, none⟩), .pointer (some ⟨b + 2, 0, none⟩)] (fun x : ByteArray => #[Value.string x])
      (fun A B => ∃ u, B = A.setCell ⟨b, 0, none⟩ u) (fun A B => ∀ j, b ≤ j → j < b + 3 → B.heap[j]? = A.heap[j]?) (fun xs => xs = parts s) (fun pre => pre <+: parts s) (parts s).length w := fun l J Jx W hW hJ hJx hY h0 => by
  have hW0 : SplitAt W b s := h.kept fun j h1 h2 => hW.block j (by have := h.save.lt; omega)
  unfold maxLen at hs
  refine callsIn_of_wp Tryz.func159 rfl trivial ?_ rfl
  simp only [Tryz.ntmps159, List.size_toArray, List.length_cons, List.length_nil, Nat.reduceAdd, Nat.reduceSub, Array.replicate_succ, Array.replicate_zero, List.push_toArray, List.append_toArray, List.nil_append, List.cons_append]
  have c1 := hW0.sep.cell
  gi_wp2_with fail
  gi_loopw [7, 8] (fun _ _ wr => ∃ (pre : List ByteArray) (t : ByteArray), SplitAt wr b t ∧ J pre wr ∧ pre ++ parts t = parts s ∧ t.size ≤ 9223372036854775807)
    (fun _ _ wr => textLeft b wr)
  case atStart => exact ⟨[], s, hW0, h0, rfl, hs⟩
  case round =>
    obtain ⟨pre, t, hA, hJs, hp, ht⟩ := hrel
    have d1 := hA.text.cell
    have d2 := hA.sep.cell
    have d3 := hA.save.cell
    have f1 := hA.text.frozen
    gi_wp2_with fail
    refine ⟨trivial, fun h => (by cases h), callsIn_wide.2 ((Tryz.strings_Index_one _ _ _).mono ?_)⟩
    rintro e w' ⟨rfl, rfl⟩
    have hge := Lib.indexByte_ge t.data.toList 124
    by_cases hneg : Lib.indexByte t.data.toList 124 = -1
    · rw [hneg]
      obtain ⟨fn, tmps, assign, body, hy, hR⟩ := hY pre t w' hJs (by rw [← hp, parts_none hneg]; simp)
      gi_wp2_with fail
      have hpt : pre ++ [t] = parts s := by rw [← hp, parts_none hneg]
      refine ⟨fun h => (by cases h), hR.mono ?_⟩
      rintro e W3 (⟨rfl, hJ3, _⟩ | ⟨rfl, hJx3⟩)
      · gi_wp2_with fail
        go_end0
        exact ⟨⟨_, rfl⟩, .inl ⟨_, hpt, hJ3⟩⟩
      · gi_wp2_with fail
        go_end0
        exact ⟨⟨_, rfl⟩, .inr ⟨_, by rw [hpt]; exact List.prefix_rfl, hJx3⟩⟩
    · obtain ⟨i, hi⟩ : ∃ i : Nat, Lib.indexByte t.data.toList 124 = (i : Int) := ⟨(Lib.indexByte t.data.toList 124).toNat, by omega⟩
      rw [hi]
      obtain ⟨hlt, hcut⟩ := parts_some hi
      have Hcut := Lib.hid hcut
      clear hcut hi hneg hge
      have hi0 : ¬ (i : Int) < 0 := by omega
      obtain ⟨fn, tmps, assign, body, hy, hR⟩ := hY pre (t.extract 0 i) w' hJs (by rw [← hp, Hcut.out]; simp)
      gi_wp2_with fail
      refine ⟨fun h => (by cases h), hR.mono ?_⟩
      rintro e W3 (⟨rfl, hJ3, hk3⟩ | ⟨rfl, hJx3⟩)
      · have hA3 := hA.kept hk3
        have d1 := hA3.text.cell
        have d2 := hA3.sep.cell
        have f1 := hA3.text.frozen
        gi_wp2_with fail
        go_roundw
        case rel => exact ⟨pre ++ [t.extract 0 i], t.extract (i + 1) t.size, hA3.set _, hJ _ _ _ hJ3 ⟨_, rfl⟩, by rw [← hp, Hcut.out]; simp, by simp; omega⟩
        case measure => rw [textLeft_eq (hA3.set _), textLeft_eq hA]; simp; omega
      · gi_wp2_with fail
        refine bodyPost_ret (results_none rfl _ _ _) rfl ?_
        refine ⟨⟨_, rfl⟩, .inr ⟨_, ?_, hJx3⟩⟩
        rw [← hp, Hcut.out]
        exact ⟨parts (t.extract (i + 1) t.size), by simp⟩
end Go.Proofs.YtpadcjcoafidgaaGreatDoor
