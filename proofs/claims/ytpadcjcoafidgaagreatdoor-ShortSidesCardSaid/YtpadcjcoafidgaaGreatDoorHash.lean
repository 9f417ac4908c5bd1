/- reader.hash. -/
import Derived.Test.YtpadcjcoafidgaaGreatDoorToks
namespace Go.Proofs.YtpadcjcoafidgaaGreatDoor
open Go.RowKit
theorem frozen_alloc_lt (w : World) (o : Obj) (a : Addr) (h : a.block < w.heap.size) : (w.alloc o).frozen? a = w.frozen? a := World.frozen?_of_block (Below.heap_alloc w o a.block h)
/-- A hash with a name behind it. -/
def hashTok (s : List Int) : Value := tokV 4 (strOf ((s.drop 1).takeWhile isPart)) noStr false (begins (s.drop 1))
set_option maxRecDepth 100000 in
set_option maxHeartbeats 4000000 in
theorem hash_any (w : World) (b : Nat) (rv : Value) (rs : List Int) (i : Nat) (h : Rd w b rv rs i) (ht : Tame rs) (ha : Asc rs) (hi : i < rs.length) :
    Calls Tryz.prog 128 #[.pointer (some ⟨b, 0, none⟩)] w fun e w' => (e = .returned (hashTok (rs.drop i))) ∧ But w.heap.size b w w' ∧ Rd w' b rv rs (i + 1 + nameLen (rs.drop (i + 1))) := by
  have H := Lib.hid h
  have hbw : b < w.heap.size := World.block_lt_of_cell? w _ h.c0
  have hbig := h.big
  have HZ : Hid (hashTok (rs.drop i) = tokV 4 (strOf ((rs.drop (i + 1)).takeWhile isPart)) noStr false (begins (rs.drop (i + 1)))) := Lib.hid (by unfold hashTok; rw [List.drop_drop])
  obtain ⟨z, hz⟩ : ∃ z, strOf ((rs.drop (i + 1)).takeWhile isPart) = z := ⟨_, rfl⟩
  obtain ⟨j, hj⟩ : ∃ j, i + 1 + nameLen (rs.drop (i + 1)) = j := ⟨_, rfl⟩
  obtain ⟨fl, hfl⟩ : ∃ j, begins (rs.drop (i + 1)) = j := ⟨_, rfl⟩
  have hN := fun w' h' => name_any w' b rv rs (i + 1) h' ht ha
  have hG := fun w' h' => begins_any w' b rv rs (i + 1) 0 h' (by decide) ht
  rw [Nat.add_zero, hfl] at hG
  rw [hz, hj] at hN
  rw [hz, hfl] at HZ
  rw [HZ.out, hj]
  have HN := Lib.hid hN
  have HG := Lib.hid hG
  have hC := h.c1
  have c1 : (w.alloc (.cells #[.int .i64 0, .string ⟨#[]⟩, .string ⟨#[]⟩, .bool false, .bool false] 23)).cell? ⟨b, 0 + 1, none⟩ = some (.int .i64 (i : Int)) := (h.next (bAlloc1 w _)).c1
  have f1 : (w.alloc (.cells #[.int .i64 0, .string ⟨#[]⟩, .string ⟨#[]⟩, .bool false, .bool false] 23)).frozen? ⟨b, 0 + 1, none⟩ = false := (h.next (bAlloc1 w _)).f1
  have hwj : IntKind.i64.wrap ((i : Int) + 1) = ((i + 1 : Nat) : Int) := by rw [Go.IntWalk.i64_in _ (by omega)]; omega
  obtain ⟨u, hu⟩ : ∃ u, w.setCell ⟨b, 1, none⟩ (.int .i64 ((i : Int) + 1)) = u := ⟨_, rfl⟩
  have hRu := h.store (i + 1) ((i : Int) + 1) (by omega) (by omega)
  have hbu : But w.heap.size b w u := hu ▸ (But.of (Below.refl _ _)).set 1 (.int .i64 ((i : Int) + 1))
  have hus : u.heap.size = w.heap.size := by rw [← hu]; simp [World.setCell]
  rw [hu] at hRu
  have HR0 := Lib.hid hRu
  clear h ht hN hz hj hG hfl hRu
  go_enter Tryz.func128, Tryz.ntmps128
  go_wp2_with fail
  clear c1 f1 hC hu
  refine (HG.out _ (HR0.out.next (bAlloc1 _ _))).mono ?_
  rintro e w1 ⟨rfl, hb1⟩
  have HR := Lib.hid ((HR0.out.next (bAlloc1 _ _)).next hb1)
  have hb1' : But w.heap.size b w w1 := (hbu.trans ((But.of (bAlloc1 _ _)).mono (by omega))).trans ((But.of hb1).mono (by simp; omega))
  obtain ⟨hc, hf⟩ := bcell hb1
  have hz1 := hb1.size
  simp only [World.size_alloc] at hz1 hc hf
  clear hb1
  have hbw1 : b < w1.heap.size := Nat.lt_of_lt_of_le hbw hb1'.size
  have hne : ¬ (u.heap.size = w1.heap.size) := by omega
  have hlt : u.heap.size < w1.heap.size := by omega
  go_wp2_with fail
  refine (HN.out _ ?_).mono ?_
  · repeat' first | exact HR.out | refine rd_own ?_ hbw1 _ _ | refine Rd.next ?_ (bAlloc1 _ _)
  rintro e w2 ⟨rfl, hb2, hrd2⟩
  have HR2 := Lib.hid hrd2
  have hb12 : But w.heap.size b w w2 := (hb1'.trans ((But.of (bAlloc1 _ _)).mono hb1'.size)).trans (hb2.mono (by simp; omega))
  obtain ⟨hc2, hf2⟩ := hb2.cells (k := w1.heap.size) (by omega) (by simp)
  obtain ⟨hc3, hf3⟩ := hb2.cells (k := u.heap.size) (by omega) (by simp; omega)
  have hz2 := hb2.size
  simp only [World.size_alloc] at hz2
  clear hb2 hrd2
  have g : ∀ o, w2.cell? ⟨w.heap.size, o, none⟩ = (u.alloc (.cells #[.int .i64 0, .string ⟨#[]⟩, .string ⟨#[]⟩, .bool false, .bool false] 23)).cell? ⟨u.heap.size, o, none⟩ := fun o => by rw [← hus]; exact (hc3 o).trans ((World.cell?_alloc_lt _ _ _ hlt).trans (hc _ o (by omega)))
  have gf : ∀ o, w2.frozen? ⟨w.heap.size, o, none⟩ = (u.alloc (.cells #[.int .i64 0, .string ⟨#[]⟩, .string ⟨#[]⟩, .bool false, .bool false] 23)).frozen? ⟨u.heap.size, o, none⟩ := fun o => by rw [← hus]; exact (hf3 o).trans ((frozen_alloc_lt _ _ _ hlt).trans (hf _ o (by omega)))
  have hw0 : w.heap.size ≤ w.heap.size := Nat.le_refl _
  have hw1 : w.heap.size ≤ w1.heap.size := by omega
  have hneW : ¬ (w.heap.size = w1.heap.size) := by omega
  have hneW' : ¬ (w1.heap.size = w.heap.size) := by omega
  clear hus
  go_wp2_with fail
  refine bodyPost_ret (v := tokV 4 z noStr false fl) ?_ rfl ⟨rfl, ?_, ?_⟩
  · simp [results, Tryz.results128, go_sem, g, tokV, noStr]
  · exact (((((hb12.own hw1 1 _).own hw0 0 _).own hw0 1 _).own hw0 2 _).own hw0 3 _).own hw0 4 _
  · exact rd_own (rd_own (rd_own (rd_own (rd_own (rd_own HR2.out hbw1 1 _) hbw 0 _) hbw 1 _) hbw 2 _) hbw 3 _) hbw 4 _
end Go.Proofs.YtpadcjcoafidgaaGreatDoor
