/- reader.sees where the text does not stand. -/
import Derived.Test.YtpadcjcoafidgaaGreatDoorReader
import Derived.Lib.OthersKept
import Derived.WalkSmall
namespace Go.Proofs.YtpadcjcoafidgaaGreatDoor
open Go.RowKit

set_option maxRecDepth 100000 in
set_option maxHeartbeats 2000000 in
theorem sees_no (w : World) (b : Nat) (rv : Value) (rs : List Int) (i : Nat) (h : Rd w b rv rs i) (lit : ByteArray) (hl : lit.size ≤ 100) (ha : ∀ k (h : k < lit.size), (lit[k]'h).toNat < 128)
    (hno : ∃ k, ∃ h : k < lit.size, at_ rs (i + k) ≠ ((lit[k]'h).toNat : Int)) :
    Calls Tryz.prog 87 #[.pointer (some ⟨b, 0, none⟩), .string lit] w fun e w' => (e = .returned (.bool false)) ∧ Below w.heap.size w w' := by
  have HR := Lib.hid h
  have HN := Lib.hid hno
  have HA := Lib.hid ha
  have hk0 := World.iter_heap w lit 0
  have hb0 : Below w.heap.size w (w.iter lit 0) := bAlloc1 w _
  clear h hno ha
  go_enter Tryz.func87, Tryz.ntmps87
  go_wp2_with fail
  go_loopw [5, 7] (fun n _ wr => ∃ pos : Nat, pos ≤ lit.size ∧ n = .int .i64 pos ∧ wr.heap[w.heap.size]? = some (.stringIter lit pos) ∧ Hid (∀ k (h : k < lit.size), k < pos → at_ rs (i + k) = ((lit[k]'h).toNat : Int)) ∧ Below w.heap.size w wr)
    (fun _ _ wr => lit.size - wr.iterPos w.heap.size)
  case atStart => exact ⟨0, Nat.zero_le _, rfl, hk0, Lib.hid (fun k _ hk => by omega), hb0⟩
  case round =>
    obtain ⟨pos, hps, rfl, hk, HP, hb⟩ := hrel
    clear hk0 hb0
    by_cases hp : pos < lit.size
    · have hnext : ∀ ty, (Instr.next (.pointer (some ⟨w.heap.size, 0, none⟩)) true ty).run Tryz.prog wr = _ := fun ty => Lib.run_next_ascii_at wr w.heap.size lit pos ty hk hp (HA.out pos hp)
      have hk1 := Lib.iterAt_heap wr w.heap.size lit pos (pos + 1) hk
      have hb1 : Below w.heap.size w (wr.iterAt w.heap.size lit (pos + 1)) := Lib.below_iterAt hb (Nat.le_refl _) lit (pos + 1)
      have hmu : wr.iterPos w.heap.size = pos := by simp [World.iterPos, hk]
      generalize wr.iterAt w.heap.size lit (pos + 1) = W1 at hnext hk1 hb1
      have HM := Lib.hid hmu
      clear hk hmu
      obtain ⟨c, hc⟩ : ∃ c : Int, ((lit[pos]'hp).toNat : Int) = c := ⟨_, rfl⟩
      rw [hc] at hnext
      go_wp2_with fail
      refine (peek_any W1 b rv rs i pos (HR.out.below hb1 (Nat.le_refl _)) (by omega)).mono ?_
      rintro e w2 ⟨rfl, hb2⟩
      have hlt2 : w.heap.size < W1.heap.size := (Array.getElem?_eq_some_iff.1 hk1).1
      have hk2 := (hb2.block w.heap.size hlt2).trans hk1
      have hbb := hb1.trans (hb2.mono hb1.size)
      clear hb1 hb2
      by_cases he : at_ rs (i + pos) = c
      · rw [he]
        go_wp2_with fail
        go_roundw
        case rel =>
          refine ⟨pos + 1, by omega, by go_num, hk2, Lib.hid (fun k hk hkp => ?_), hbb⟩
          by_cases hkk : k < pos
          · exact HP.out k hk hkk
          · obtain rfl : k = pos := by omega
            rw [he, hc]
        case measure =>
          have hmu2 : w2.iterPos w.heap.size = pos + 1 := by simp [World.iterPos, hk2]
          rw [HM.out, hmu2]; omega
      · obtain ⟨d, hd⟩ : ∃ d, at_ rs (i + pos) = d := ⟨_, rfl⟩
        rw [hd] at he ⊢
        have hne : (d != c) = true := by simpa using he
        go_wp2_with fail
        go_ret
        exact ⟨rfl, hbb⟩
    · exfalso
      obtain ⟨k, hk', hne⟩ := HN.out
      exact hne (HP.out k hk' (by omega))
end Go.Proofs.YtpadcjcoafidgaaGreatDoor
