/- gouachelaw16.digits. -/
import Derived.Test.YtpadcjcoafidgaaGreatDoorTold
namespace Go.Proofs.YtpadcjcoafidgaaGreatDoor
open Go.RowKit

def tenS : ByteArray := ⟨#[48, 49, 50, 51, 52, 53, 54, 55, 56, 57]⟩
def minusS : ByteArray := ⟨#[45]⟩
/-- The text of a number from 0 on. -/
def digS (n : Int) : ByteArray := if n < 0 then minusS else ⟨(decC 20 n.toNat).toArray⟩
def bt (l : List UInt8) : ByteArray := ⟨l.toArray⟩
theorem bt_size (l : List UInt8) : (bt l).size = l.length := rfl
theorem bt_app (a b : List UInt8) : bt a ++ bt b = bt (a ++ b) := by
  apply ByteArray.ext
  apply Array.toList_inj.1
  simp [bt]
theorem ten_piece : ∀ k : Fin 10, (tenS.data.toList.drop k.val).take (k.val + 1 - k.val) = [UInt8.ofNat (48 + k.val)] := by decide +kernel
theorem ten_extract (k : Nat) (hk : k < 10) : tenS.extract k (k + 1) = bt [UInt8.ofNat (48 + k)] := by
  apply bytes_ext
  rw [Lib.extract_toList, ten_piece ⟨k, hk⟩, ByteArray.toList_eq]
  rfl
set_option maxRecDepth 100000 in
set_option maxHeartbeats 2000000 in
theorem digits16_any (n : Int) (h1 : n ≤ 9223372036854775807) (w : World) :
    Calls Tryz.prog 29 #[.int .i64 n] w fun e w' => e = .returned (.string (digS n)) ∧ w' = w := by
  by_cases hn : n < 0
  · have HV : Hid (digS n = minusS) := Lib.hid (if_pos hn)
    go_enter Tryz.func29, Tryz.ntmps29
    go_wp2_with fail
    go_ret
    exact ⟨by rw [HV.out]; rfl, rfl⟩
  · obtain ⟨u0, rfl⟩ : ∃ u : Nat, n = (u : Int) := ⟨n.toNat, by omega⟩
    have HV : Hid (digS (u0 : Int) = bt (decC 20 u0)) := Lib.hid (by unfold digS; rw [if_neg hn, Int.toNat_natCast]; rfl)
    have hu0 : u0 < 10 ^ 20 := by omega
    go_enter Tryz.func29, Tryz.ntmps29
    go_wp2_with fail
    go_loopw [0, 3] (fun nv sv wr => ∃ (u f : Nat) (acc : List UInt8), nv = .int .i64 (u : Int) ∧ sv = .string (bt acc) ∧ (u : Int) ≤ 9223372036854775807 ∧ Hid (decC (f + 1) u ++ acc = decC 20 u0) ∧ u < 10 ^ (f + 1) ∧ acc.length ≤ 20 - f ∧ f ≤ 19 ∧ wr = w)
      (fun nv _ _ => (intOf nv).toNat)
    case atStart => exact ⟨u0, 19, [], rfl, rfl, h1, Lib.hid (by simp), hu0, by simp, by omega, rfl⟩
    case round =>
      obtain ⟨u, f, acc, rfl, rfl, hu, HD, hlt, hal, hf, hwr⟩ := hrel
      subst hwr
      obtain ⟨k, hk⟩ : ∃ k : Nat, u % 10 = k := ⟨_, rfl⟩
      have hk10 : k < 10 := by omega
      have hte : (⟨#[48, 49, 50, 51, 52, 53, 54, 55, 56, 57]⟩ : ByteArray).extract k (k + 1) ++ bt acc = bt (UInt8.ofNat (48 + k) :: acc) := by
        rw [show (⟨#[48, 49, 50, 51, 52, 53, 54, 55, 56, 57]⟩ : ByteArray).extract k (k + 1) = bt [UInt8.ofNat (48 + k)] from ten_extract k hk10, bt_app]
        rfl
      have HTE := Lib.hid hte
      clear hte
      have r3 : Int.tmod (u : Int) 10 = (k : Int) := by rw [Int.tmod_eq_emod_of_nonneg (by omega)]; omega
      have r4 : Int.tdiv (u : Int) 10 = ((u / 10 : Nat) : Int) := by rw [Int.tdiv_eq_ediv_of_nonneg (by omega)]; omega
      have r5 : IntKind.i64.wrap (Int.tdiv (u : Int) 10) = ((u / 10 : Nat) : Int) := by rw [r4]; exact Go.IntWalk.i64_in _ (by omega)
      have r6 : IntKind.i64.wrap ((u : Int) / 10) = ((u / 10 : Nat) : Int) := by rw [show (u : Int) / 10 = ((u / 10 : Nat) : Int) by omega]; exact Go.IntWalk.i64_in _ (by omega)
      have hbs := bt_size acc
      have z1 : (bt acc).size ≤ 100 := by omega
      clear hbs
      by_cases hd : u / 10 = 0
      · have hfin : Hid (digS (u0 : Int) = bt (UInt8.ofNat (48 + k) :: acc)) := Lib.hid (by
          rw [HV.out, ← HD.out, decC, if_pos (by omega), show u = k by omega]; rfl)
        rw [hd] at r4 r5 r6
        clear hd
        go_wp2_with fail
        go_ret
        exact ⟨by rw [hfin.out, ← HTE.out]; rfl, rfl⟩
      · obtain ⟨g, rfl⟩ : ∃ g, f = g + 1 := ⟨f - 1, by
          cases f with
          | zero => simp at hlt; omega
          | succ f => omega⟩
        have hnx : Hid (decC (g + 1) (u / 10) ++ UInt8.ofNat (48 + k) :: acc = decC 20 u0) := Lib.hid (by
          have e : decC (g + 1 + 1) u = decC (g + 1) (u / 10) ++ [UInt8.ofNat (48 + k)] := by rw [decC, if_neg (by omega), hk]
          rw [← HD.out, e, List.append_assoc]; rfl)
        have hl2 : u / 10 < 10 ^ (g + 1) := by
          rw [Nat.pow_succ] at hlt
          omega
        obtain ⟨m, hm⟩ : ∃ m, u / 10 = m := ⟨_, rfl⟩
        have hmu : m < u := by omega
        rw [hm] at r4 r5 r6 hd hnx hl2
        have hd' : ¬ ((m : Nat) : Int) = 0 := by omega
        clear hm hlt
        go_wp2_with fail
        go_roundw
        case rel => exact ⟨m, g, UInt8.ofNat (48 + k) :: acc, rfl, by rw [← HTE.out], by omega, hnx, hl2, by simp; omega, by omega, trivial⟩
        case measure => simp [intOf]; omega
end Go.Proofs.YtpadcjcoafidgaaGreatDoor
