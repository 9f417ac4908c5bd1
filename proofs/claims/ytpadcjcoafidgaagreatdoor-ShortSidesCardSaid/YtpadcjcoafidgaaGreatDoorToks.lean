/- The readers of one token: space, hash, word. -/
import Derived.Test.YtpadcjcoafidgaaGreatDoorWhile
import Derived.Test.YtpadcjcoafidgaaGreatDoorCounts
import Derived.Test.YtpadcjcoafidgaaGreatDoorFind
namespace Go.Proofs.YtpadcjcoafidgaaGreatDoor
open Go.RowKit

def noStr : ByteArray := ⟨#[]⟩
/-- A token's value. -/
def tokV (k : Int) (t u : ByteArray) (wh fl : Bool) : Value := .agg #[.int .i64 k, .string t, .string u, .bool wh, .bool fl]
theorem But.cells {b k : Nat} {w w' : World} (h : But w.heap.size b w w') (hb : k ≠ b) (hk : k < w.heap.size) : (∀ o, w'.cell? ⟨k, o, none⟩ = w.cell? ⟨k, o, none⟩) ∧ (∀ o, w'.frozen? ⟨k, o, none⟩ = w.frozen? ⟨k, o, none⟩) :=
  ⟨fun o => World.cell?_of_block (w := w) (a := ⟨k, o, none⟩) (h.block k hk hb), fun o => World.frozen?_of_block (w := w) (a := ⟨k, o, none⟩) (h.block k hk hb)⟩
theorem But.own {B b : Nat} {w u : World} (h : But B b w u) {c : Nat} (hc : B ≤ c) (k : Nat) (x : Value) : But B b w (u.setCell ⟨c, k, none⟩ x) :=
  h.trans ⟨rfl, rfl, rfl, by simp [World.setCell], fun i hi _ => Below.heap_setCell _ _ _ _ (by simp; omega)⟩
/-- A store into another block than the reader's and the runes'. -/
theorem rd_own {w : World} {b : Nat} {rv : Value} {rs : List Int} {i : Nat} (h : Rd w b rv rs i) {c : Nat} (hc : b < c) (k : Nat) (x : Value) : Rd (w.setCell ⟨c, k, none⟩ x) b rv rs i :=
  rd_below h ((Below.refl c w).setCell (p := ⟨c, k, none⟩) (Nat.le_refl _) x) hc
set_option maxRecDepth 100000 in
set_option maxHeartbeats 1000000 in
theorem space_any (w : World) (b : Nat) (rv : Value) (rs : List Int) (i : Nat) (h : Rd w b rv rs i) :
    Calls Tryz.prog 124 #[.pointer (some ⟨b, 0, none⟩)] w fun e w' => (e = .returned (tokV 13 noStr noStr false false)) ∧ But w.heap.size b w w' ∧ Rd w' b rv rs (i + ((rs.drop i).takeWhile isBlank).length) := by
  have H := Lib.hid h
  have hbw : b < w.heap.size := World.block_lt_of_cell? w _ h.c0
  clear h
  go_enter Tryz.func124, Tryz.ntmps124
  go_wp2_with fail
  refine (while_blank _ b rv rs i (H.out.next (bAlloc1 _ _))).mono ?_
  rintro e w1 ⟨⟨v, rfl⟩, hbut, hrd⟩
  have hb1 : But w.heap.size b w w1 := (But.of (bAlloc1 _ _)).trans (hbut.mono (by simp))
  have HR := Lib.hid hrd
  obtain ⟨hc, hf⟩ := hbut.cells (by simp; omega) (k := w.heap.size) (by simp)
  clear hbut hrd
  have hw0 : w.heap.size ≤ w.heap.size := Nat.le_refl _
  go_wp2_with fail
  refine bodyPost_ret (v := tokV 13 noStr noStr false false) ?_ rfl ⟨rfl, ?_, ?_⟩
  · simp [results, Tryz.results124, go_sem, hc, tokV, noStr]
  · exact ((((hb1.own hw0 0 _).own hw0 1 _).own hw0 2 _).own hw0 3 _).own hw0 4 _
  · exact rd_own (rd_own (rd_own (rd_own (rd_own HR.out hbw 0 _) hbw 1 _) hbw 2 _) hbw 3 _) hbw 4 _
end Go.Proofs.YtpadcjcoafidgaaGreatDoor
