/- reader.word where no bracket stands. -/
import Derived.Test.YtpadcjcoafidgaaGreatDoorToks
namespace Go.Proofs.YtpadcjcoafidgaaGreatDoor
open Go.RowKit

set_option maxRecDepth 100000 in
set_option maxHeartbeats 4000000 in
theorem word_any (w : World) (b : Nat) (rv : Value) (rs : List Int) (i : Nat) (h : Rd w b rv rs i) (ht : Tame rs) (ha : Asc rs) :
    Calls Tryz.prog 134 #[.pointer (some ⟨b, 0, none⟩)] w fun e w' => (e = .returned (tokV 1 (strOf ((rs.drop i).takeWhile isPart)) noStr false false)) ∧ But w.heap.size b w w' ∧ Rd w' b rv rs (i + nameLen (rs.drop i)) := by
  have H := Lib.hid h
  have T := Lib.hid ht
  have hbw : b < w.heap.size := World.block_lt_of_cell? w _ h.c0
  obtain ⟨z, hz⟩ : ∃ z, strOf ((rs.drop i).takeWhile isPart) = z := ⟨_, rfl⟩
  obtain ⟨j, hj⟩ : ∃ j, i + nameLen (rs.drop i) = j := ⟨_, rfl⟩
  have hd : at_ rs (j + 0) ≠ 40 := by have := ht.or (j + 0); unfold tm at this; omega
  have hN := fun w' h' => name_any w' b rv rs i h' ht ha
  rw [hz, hj] at hN
  rw [hz, hj]
  have HN := Lib.hid hN
  clear h ht hN hz hj
  go_enter Tryz.func134, Tryz.ntmps134
  go_wp2_with fail
  refine (HN.out _ (H.out.next (bAlloc1 _ _))).mono ?_
  rintro e w1 ⟨rfl, hbut, hrd⟩
  have hb1 : But w.heap.size b w w1 := (But.of (bAlloc1 _ _)).trans (hbut.mono (by simp))
  have HR := Lib.hid hrd
  obtain ⟨hc, hf⟩ := hbut.cells (by simp; omega) (k := w.heap.size) (by simp)
  have hs1 := hbut.size
  clear hbut hrd
  have hbw1 : b < w1.heap.size := Nat.lt_of_lt_of_le hbw hb1.size
  simp only [World.size_alloc] at hs1
  have hne : ¬ (w.heap.size = w1.heap.size) := by omega
  have hlt : w.heap.size < w1.heap.size := by omega
  go_wp2_with fail
  refine (peek_any _ b rv rs j 0 ?_ (by decide)).mono ?_
  · repeat' first | exact HR.out | refine rd_own ?_ hbw1 _ _ | refine Rd.next ?_ (bAlloc1 _ _)
  rintro e w2 ⟨rfl, hb2⟩
  obtain ⟨c, hcc⟩ : ∃ c, at_ rs (j + 0) = c := ⟨_, rfl⟩
  rw [hcc] at hd ⊢
  have hdb : (c != 40) = true := by simpa using hd
  obtain ⟨hc2, hf2⟩ := bcell hb2
  have hz2 := hb2.size
  simp only [World.size_alloc] at hz2 hc2 hf2
  have HR2 : Hid (Rd w2 b rv rs j) := Lib.hid (Rd.next (by repeat' first | exact HR.out | refine rd_own ?_ hbw1 _ _ | refine Rd.next ?_ (bAlloc1 _ _)) hb2)
  have hb12 : But w.heap.size b w w2 := (hb1.trans ((But.of (bAlloc1 _ _)).mono hb1.size)).trans ((But.of hb2).mono (by simp; omega))
  clear hb2
  have hw0 : w.heap.size ≤ w.heap.size := Nat.le_refl _
  have g : ∀ o, w2.cell? ⟨w.heap.size, o, none⟩ = (w.alloc _).cell? ⟨w.heap.size, o, none⟩ := fun o => (hc2 _ o (by omega)).trans ((World.cell?_alloc_lt _ _ _ hlt).trans (hc o))
  go_wp2_with fail
  refine bodyPost_ret (v := tokV 1 z noStr false false) ?_ rfl ⟨rfl, ?_, ?_⟩
  · simp [results, Tryz.results134, go_sem, g, tokV, noStr]
  · exact ((((hb12.own hw0 0 _).own hw0 1 _).own hw0 2 _).own hw0 3 _).own hw0 4 _
  · exact rd_own (rd_own (rd_own (rd_own (rd_own HR2.out hbw 0 _) hbw 1 _) hbw 2 _) hbw 3 _) hbw 4 _
end Go.Proofs.YtpadcjcoafidgaaGreatDoor
