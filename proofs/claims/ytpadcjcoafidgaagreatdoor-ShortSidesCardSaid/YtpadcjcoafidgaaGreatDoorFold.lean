/- text.Fold. -/
import Derived.Test.YtpadcjcoafidgaaGreatDoorValText
namespace Go.Proofs.YtpadcjcoafidgaaGreatDoor
open Go.RowKit

def foldN (n : Nat) : Nat := if 65 ≤ n ∧ n ≤ 90 then n + 32 else n
def foldB (b : UInt8) : UInt8 := UInt8.ofNat (foldN b.toNat)
def fold (s : ByteArray) : ByteArray := ⟨(s.data.toList.map foldB).toArray⟩
theorem foldB_nat (b : UInt8) : (foldB b).toNat = foldN b.toNat := by
  have h := b.toNat_lt
  have : foldN b.toNat < 256 := by unfold foldN; split <;> omega
  unfold foldB
  simp [UInt8.toNat_ofNat', Nat.mod_eq_of_lt this]
theorem fold_tab : ∀ n : Fin 256, (((n.val : Int) - 65) % 256 < 26 ↔ 65 ≤ n.val ∧ n.val ≤ 90) ∧ (65 ≤ n.val ∧ n.val ≤ 90 → bits .or .u8 (n.val : Int) 32 = (n.val : Int) + 32) := by decide +kernel
theorem fold_size (s : ByteArray) : (fold s).size = s.size := by
  show (s.data.toList.map foldB).toArray.size = _
  simp
set_option maxRecDepth 100000 in
set_option maxHeartbeats 2000000 in
theorem Fold_any (w : World) (s : ByteArray) (hs : s.size ≤ 4294967295) :
    Calls Tryz.prog 43 #[.string s] w fun e w' => e = .returned (.string (fold s)) ∧ Below w.heap.size w w' := by
  have hcv := Lib.run_convert_string_bytes w 9 90 5 s Tryz.underlying9 Tryz.underlying90 Tryz.underlying5
  have hb0 := bytes_below w s 5
  have HC0 : Hid (∀ (j : Nat) (h : j < s.data.toList.length), (Lib.bytesWorld w 5 s).cell? ⟨w.heap.size, j, none⟩ = some (.int .u8 (s.data.toList[j].toNat : Int)) ∧ (Lib.bytesWorld w 5 s).frozen? ⟨w.heap.size, j, none⟩ = false) := Lib.hid (fun j hj => by
    have hs' : j < s.size := by rw [Array.length_toList] at hj; exact hj
    refine ⟨?_, ?_⟩
    · rw [Lib.bytesWorld_cell w _ s j hs']
      simp [List.getD, List.getElem?_eq_getElem hj]
    · have hsz : s.size ≤ (Lib.bytesCells w 5 s).size := by unfold Lib.bytesCells; rw [Array.size_append, Array.size_map]; exact Nat.le_add_right _ _
      simp only [World.frozen?, Lib.bytesWorld_at_new]
      rw [decide_eq_false (by omega)]
      rfl)
  have hsl : s.data.toList.length = s.size := by rw [Array.length_toList]; rfl
  go_enter Tryz.func43, Tryz.ntmps43
  go_wp2_with fail
  obtain ⟨k, hk⟩ : ∃ k, w.heap.size = k := ⟨_, rfl⟩
  obtain ⟨cap, hcp⟩ : ∃ c, grownCap w s.size 0 5 = c := ⟨_, rfl⟩
  obtain ⟨w1, hw1⟩ : ∃ w1, Lib.bytesWorld w 5 s = w1 := ⟨_, rfl⟩
  rw [hw1] at HC0 hb0 ⊢
  rw [hk] at HC0 hb0 ⊢
  rw [hcp]
  clear hcv hw1 hcp
  go_loopw [4, 9] (fun _ iv wr => ∃ i : Nat, i ≤ s.size ∧ iv = .int .i64 i ∧ Hid (∀ (j : Nat) (h : j < s.data.toList.length), wr.cell? ⟨k, j, none⟩ = some (.int .u8 ((if j < i then foldB s.data.toList[j] else s.data.toList[j]).toNat : Int)) ∧ wr.frozen? ⟨k, j, none⟩ = false) ∧ Below k w wr)
    (fun _ iv _ => s.size - (intOf iv).toNat)
  case atStart => exact ⟨0, Nat.zero_le _, rfl, Lib.hid (fun j hj => by simpa using HC0.out j hj), hb0⟩
  case round =>
    obtain ⟨i, hi, rfl, HC, hb⟩ := hrel
    clear HC0 hb0
    by_cases hlt : i < s.size
    · have hlt' : i < s.data.toList.length := by omega
      obtain ⟨c0, f0⟩ := HC.out i hlt'
      rw [if_neg (Nat.lt_irrefl i)] at c0
      obtain ⟨y, hy⟩ : ∃ y, s.data.toList[i] = y := ⟨_, rfl⟩
      rw [hy] at c0
      obtain ⟨t1, t2⟩ := fold_tab ⟨y.toNat, y.toNat_lt⟩
      simp only at t1 t2
      have q0 : (0 : Int) ≤ (i : Int) := by omega
      have q1 : (i : Int) < (s.size : Int) := by omega
      obtain ⟨n, hn⟩ : ∃ n, y.toNat = n := ⟨_, rfl⟩
      have hfn : (foldB y).toNat = foldN n := by rw [foldB_nat, hn]
      rw [hn] at c0 t1 t2
      by_cases hup : 65 ≤ n ∧ n ≤ 90
      · have t1' := t1.2 hup
        have t2' := t2 hup
        have HF : Hid (((foldB y).toNat : Int) = (n : Int) + 32) := Lib.hid (by rw [hfn]; unfold foldN; rw [if_pos hup]; rfl)
        clear t1 t2 hup hfn hn
        go_wp2_with fail
        go_roundw
        case rel =>
          refine ⟨i + 1, by omega, by go_num, Lib.hid (fun j hj => ?_), hb.setCell (p := ⟨k, i, none⟩) (Nat.le_refl _) _⟩
          refine ⟨?_, by simp [(HC.out j hj).2]⟩
          by_cases he : j = i
          · subst he
            rw [World.cell?_setCell_same _ _ _ c0, if_pos (by omega), hy, HF.out]
          · rw [World.cell?_setCell_other _ _ _ _ (by simp <;> omega), (HC.out j hj).1]
            by_cases hji : j < i
            · rw [if_pos hji, if_pos (by omega)]
            · rw [if_neg hji, if_neg (by omega)]
        case measure => simp [intOf]; omega
      · have t1' : ¬ (((n : Int) - 65) % 256 < 26) := fun h => hup (t1.1 h)
        have HF : Hid ((foldB y).toNat = n) := Lib.hid (by rw [hfn]; unfold foldN; rw [if_neg hup])
        have HN := Lib.hid hn
        clear t1 t2 hup hfn hn
        go_wp2_with fail
        go_roundw
        case rel =>
          refine ⟨i + 1, by omega, by go_num, Lib.hid (fun j hj => ?_), hb⟩
          refine ⟨?_, (HC.out j hj).2⟩
          rw [(HC.out j hj).1]
          by_cases he : j = i
          · subst he
            rw [if_neg (by omega), if_pos (by omega), hy, HF.out, HN.out]
          · by_cases hji : j < i
            · rw [if_pos hji, if_pos (by omega)]
            · rw [if_neg hji, if_neg (by omega)]
        case measure => simp [intOf]; omega
    · obtain rfl : i = s.size := by omega
      have hcv : (convert 90 9 (.slice (some ⟨k, 0, none⟩) s.size cap)).run Tryz.prog wr = .ok (.string (fold s)) wr := by
        have hsz : s.size = (s.data.toList.map foldB).length := by rw [List.length_map, hsl]
        rw [hsz, run_convert_bytes_back wr 90 9 5 ⟨k, 0, none⟩ cap (s.data.toList.map foldB) Tryz.underlying90 Tryz.underlying5 Tryz.underlying9 (fun j hj => by
          have hadd : (⟨k, 0, none⟩ : Addr).add j = ⟨k, j, none⟩ := by unfold Addr.add; split <;> simp only [*, Nat.zero_add]
          rw [List.length_map] at hj
          rw [hadd, (HC.out j hj).1, if_pos (by omega)]
          simp)]
        rfl
      go_wp2_with fail
      go_ret
      exact ⟨rfl, by rw [hk]; exact hb⟩
end Go.Proofs.YtpadcjcoafidgaaGreatDoor
