/- gouachelaw15.ValueBack: whatever the name, the values and the number, it returns true and changes nothing. Condition: the listed tables hold what the program's text lays (the card ties that). -/
import Derived.Test.YtpadcjcoafidgaaGreatDoorCards
import Derived.Test.YtpadcjcoafidgaaGreatDoorTie
import Derived.Test.YtpadcjcoafidgaaGreatDoorK1
import Derived.Test.YtpadcjcoafidgaaGreatDoorK3
import Derived.Test.YtpadcjcoafidgaaGreatDoorK5
import Derived.Test.YtpadcjcoafidgaaGreatDoorK7
import Derived.Test.YtpadcjcoafidgaaGreatDoorK8
import Derived.Deep.RegionHeld3
import Derived.ProofKit
import Derived.OpenShut
import Derived.Deep.Slices
import Derived.Carry
import Derived.SizedLaws
import Derived.Deep.DeepHandedRow
import Derived.SevenTiedAt
import Derived.Lib.SmallJoins
import Derived.WideKeyPair
/-! gouachelaw16.digits. -/
namespace Go.Proofs.YtpadcjcoafidgaaGreatDoor
open Go.RowKit

def tenS : ByteArray := ⟨#[48, 49, 50, 51, 52, 53, 54, 55, 56, 57]⟩
def minusS : ByteArray := ⟨#[45]⟩
/-- The text of a number from 0 on. -/
def digS (n : Int) : ByteArray := if n < 0 then minusS else ⟨(decC 20 n.toNat).toArray⟩
def bt (l : List UInt8) : ByteArray := ⟨l.toArray⟩
theorem bt_size (l : List UInt8) : (bt l).size = l.length := rfl
theorem bt_app (a b : List UInt8) : bt a ++ bt b = bt (a ++ b) := by
  apply ByteArray.ext
  apply Array.toList_inj.1
  simp [bt]
theorem ten_piece : ∀ k : Fin 10, (tenS.data.toList.drop k.val).take (k.val + 1 - k.val) = [UInt8.ofNat (48 + k.val)] := by decide +kernel
theorem ten_extract (k : Nat) (hk : k < 10) : tenS.extract k (k + 1) = bt [UInt8.ofNat (48 + k)] := by
  apply bytes_ext
  rw [Lib.extract_toList, ten_piece ⟨k, hk⟩, ByteArray.toList_eq]
  rfl
set_option maxRecDepth 100000 in
set_option maxHeartbeats 2000000 in
theorem digits16_any (n : Int) (h1 : n ≤ 9223372036854775807) (w : World) :
    Calls Tryz.prog 29 #[.int .i64 n] w fun e w' => e = .returned (.string (digS n)) ∧ w' = w := by
  by_cases hn : n < 0
  · have HV : Hid (digS n = minusS) := Lib.hid (if_pos hn)
    go_enter Tryz.func29, Tryz.ntmps29
    go_wp2_with fail
    go_ret
    exact ⟨by rw [HV.out]; rfl, rfl⟩
  · obtain ⟨u0, rfl⟩ : ∃ u : Nat, n = (u : Int) := ⟨n.toNat, by omega⟩
    have HV : Hid (digS (u0 : Int) = bt (decC 20 u0)) := Lib.hid (by unfold digS; rw [if_neg hn, Int.toNat_natCast]; rfl)
    have hu0 : u0 < 10 ^ 20 := by omega
    go_enter Tryz.func29, Tryz.ntmps29
    go_wp2_with fail
    go_loopw [0, 3] (fun nv sv wr => ∃ (u f : Nat) (acc : List UInt8), nv = .int .i64 (u : Int) ∧ sv = .string (bt acc) ∧ (u : Int) ≤ 9223372036854775807 ∧ Hid (decC (f + 1) u ++ acc = decC 20 u0) ∧ u < 10 ^ (f + 1) ∧ acc.length ≤ 20 - f ∧ f ≤ 19 ∧ wr = w)
      (fun nv _ _ => (intOf nv).toNat)
    case atStart => exact ⟨u0, 19, [], rfl, rfl, h1, Lib.hid (by simp), hu0, by simp, by omega, rfl⟩
    case round =>
      obtain ⟨u, f, acc, rfl, rfl, hu, HD, hlt, hal, hf, hwr⟩ := hrel
      subst hwr
      obtain ⟨k, hk⟩ : ∃ k : Nat, u % 10 = k := ⟨_, rfl⟩
      have hk10 : k < 10 := by omega
      have hte : (⟨#[48, 49, 50, 51, 52, 53, 54, 55, 56, 57]⟩ : ByteArray).extract k (k + 1) ++ bt acc = bt (UInt8.ofNat (48 + k) :: acc) := by
        rw [show (⟨#[48, 49, 50, 51, 52, 53, 54, 55, 56, 57]⟩ : ByteArray).extract k (k + 1) = bt [UInt8.ofNat (48 + k)] from ten_extract k hk10, bt_app]
        rfl
      have HTE := Lib.hid hte
      clear hte
      have r3 : Int.tmod (u : Int) 10 = (k : Int) := by rw [Int.tmod_eq_emod_of_nonneg (by omega)]; omega
      have r4 : Int.tdiv (u : Int) 10 = ((u / 10 : Nat) : Int) := by rw [Int.tdiv_eq_ediv_of_nonneg (by omega)]; omega
      have r5 : IntKind.i64.wrap (Int.tdiv (u : Int) 10) = ((u / 10 : Nat) : Int) := by rw [r4]; exact Go.IntWalk.i64_in _ (by omega)
      have r6 : IntKind.i64.wrap ((u : Int) / 10) = ((u / 10 : Nat) : Int) := by rw [show (u : Int) / 10 = ((u / 10 : Nat) : Int) by omega]; exact Go.IntWalk.i64_in _ (by omega)
      have hbs := bt_size acc
      have z1 : (bt acc).size ≤ 100 := by omega
      clear hbs
      by_cases hd : u / 10 = 0
      · have hfin : Hid (digS (u0 : Int) = bt (UInt8.ofNat (48 + k) :: acc)) := Lib.hid (by
          rw [HV.out, ← HD.out, decC, if_pos (by omega), show u = k by omega]; rfl)
        rw [hd] at r4 r5 r6
        clear hd
        go_wp2_with fail
        go_ret
        exact ⟨by rw [hfin.out, ← HTE.out]; rfl, rfl⟩
      · obtain ⟨g, rfl⟩ : ∃ g, f = g + 1 := ⟨f - 1, by
          cases f with
          | zero => simp at hlt; omega
          | succ f => omega⟩
        have hnx : Hid (decC (g + 1) (u / 10) ++ UInt8.ofNat (48 + k) :: acc = decC 20 u0) := Lib.hid (by
          have e : decC (g + 1 + 1) u = decC (g + 1) (u / 10) ++ [UInt8.ofNat (48 + k)] := by rw [decC, if_neg (by omega), hk]
          rw [← HD.out, e, List.append_assoc]; rfl)
        have hl2 : u / 10 < 10 ^ (g + 1) := by
          rw [Nat.pow_succ] at hlt
          omega
        obtain ⟨m, hm⟩ : ∃ m, u / 10 = m := ⟨_, rfl⟩
        have hmu : m < u := by omega
        rw [hm] at r4 r5 r6 hd hnx hl2
        have hd' : ¬ ((m : Nat) : Int) = 0 := by omega
        clear hm hlt
        go_wp2_with fail
        go_roundw
        case rel => exact ⟨m, g, UInt8.ofNat (48 + k) :: acc, rfl, by rw [← HTE.out], by omega, hnx, hl2, by simp; omega, by omega, trivial⟩
        case measure => simp [intOf]; omega
end Go.Proofs.YtpadcjcoafidgaaGreatDoor
/-! Colours as texts: what a colour is read as has seven characters and is read as itself; three digits are six. -/
namespace Go.Proofs.YtpadcjcoafidgaaGreatDoor
open Go.RowKit

/-- A small digit to base 16. -/
def isLow (b : UInt8) : Bool := isIn 48 57 (b.toNat : Int) || isIn 97 102 (b.toNat : Int)
def lowAll (l : List UInt8) : Bool := l.all isLow
def rn (l : List UInt8) : List Int := l.map fun b => (b.toNat : Int)
/-- A colour's text. -/
def colB (l : List UInt8) : ByteArray := bt (35 :: l)
def colT (l : List UInt8) : Tok := ⟨4, bt l, noStr, false, begins (rn l)⟩
theorem low_tab : ∀ n : Fin 256, isLow (UInt8.ofNat n.val) = true → isPart ((n.val : Nat) : Int) = true ∧ tm ((n.val : Nat) : Int) ∧ foldB (UInt8.ofNat n.val) = UInt8.ofNat n.val ∧ notHex n.val = false := by decide +kernel
theorem low_facts (b : UInt8) (h : isLow b = true) : isPart (b.toNat : Int) = true ∧ tm (b.toNat : Int) ∧ foldB b = b ∧ notHex b.toNat = false := by
  have hb : UInt8.ofNat b.toNat = b := UInt8.ofNat_toNat
  have := low_tab ⟨b.toNat, b.toNat_lt⟩
  simp only [hb] at this
  exact this h
theorem fold_tab2 : ∀ n : Fin 256, notHex (foldB (UInt8.ofNat n.val)).toNat = false → isLow (foldB (UInt8.ofNat n.val)) = true := by decide +kernel
theorem fold_low (b : UInt8) (h : notHex (foldB b).toNat = false) : isLow (foldB b) = true := by
  have hb : UInt8.ofNat b.toNat = b := UInt8.ofNat_toNat
  have := fold_tab2 ⟨b.toNat, b.toNat_lt⟩
  simp only [hb] at this
  exact this h
theorem strOf_rn (l : List UInt8) : strOf (rn l) = bt l := by
  unfold strOf rn bt
  rw [List.map_map]
  have : ∀ b : UInt8, (byteOf ∘ fun b : UInt8 => (b.toNat : Int)) b = b := fun b => by
    show UInt8.ofNat ((b.toNat : Int)).toNat = b
    rw [Int.toNat_natCast]
    exact UInt8.ofNat_toNat
  rw [List.map_congr_left (fun b _ => this b), List.map_id']
theorem runes_bt (l : List UInt8) : runesOf (bt l) = rn l := rfl
theorem lowAll_iff {l : List UInt8} : lowAll l = true ↔ ∀ b ∈ l, isLow b = true := List.all_eq_true
theorem rn_part {l : List UInt8} (h : lowAll l = true) : ∀ c ∈ rn l, isPart c = true := by
  intro c hc
  obtain ⟨b, hb, rfl⟩ := List.mem_map.1 hc
  exact (low_facts b (lowAll_iff.1 h b hb)).1
theorem step_col (l : List UInt8) (hne : l ≠ []) (h : lowAll l = true) : step (35 :: rn l) = some (colT l, 1 + l.length) := by
  cases l with
  | nil => exact absurd rfl hne
  | cons a l =>
    have hp := rn_part h
    have ha := low_facts a (lowAll_iff.1 h a (List.mem_cons_self ..))
    have htw : (rn (a :: l)).takeWhile isPart = rn (a :: l) := by
      have := takeWhile_stop (rn (a :: l)) [] hp (.inl rfl)
      rwa [List.append_nil] at this
    unfold step
    rw [show at_ (35 :: rn (a :: l)) 0 = 35 from rfl, if_neg (by decide), if_pos rfl, show at_ (35 :: rn (a :: l)) 1 = (a.toNat : Int) from rfl, if_pos ⟨by omega, ha.1⟩]
    unfold hashT nameLen colT
    rw [List.drop_succ_cons, List.drop_zero, htw, strOf_rn]
    simp [rn]
theorem lexes_col (l : List UInt8) (hne : l ≠ []) (h : lowAll l = true) (hl : l.length ≤ 100) : Lexes (colB l) [colT l] := by
  have hr : runesOf (colB l) = 35 :: rn l := rfl
  refine ⟨?_, ?_, ?_, by simp⟩
  · rw [hr]
    intro c hc
    rcases List.mem_cons.1 hc with rfl | hc
    · decide
    · obtain ⟨b, hb, rfl⟩ := List.mem_map.1 hc
      exact (low_facts b (lowAll_iff.1 h b hb)).2.1
  · unfold Go.Proofs.YtpadcjcoafidgaaGreatDoor.lex
    rw [hr]
    refine lexF_step _ _ (colT l) (1 + l.length) [] (by simp) (step_col l hne h) ?_
    rw [List.drop_eq_nil_of_le (by simp [rn]; omega)]
    cases (rn l).length <;> rfl
  · show (35 :: l).length ≤ 10000
    simp
    omega
theorem fold_bt {l : List UInt8} (h : lowAll l = true) : fold (bt l) = bt l := by
  unfold fold bt
  congr 2
  rw [List.map_congr_left (g := id) (fun b hb => (low_facts b (lowAll_iff.1 h b hb)).2.2.1), List.map_id]
theorem badHex_bt {l : List UInt8} (h : lowAll l = true) : badHex (bt l) = false := by
  unfold badHex
  rw [List.any_eq_false]
  intro b hb
  rw [(low_facts b (lowAll_iff.1 h b hb)).2.2.2]
  decide
theorem color_six (l : List UInt8) (h : lowAll l = true) (hl : l.length = 6) : colorS (colT l) = some (colB l) := by
  unfold colorS
  rw [if_neg (by show ¬ (4 : Int) = 1; decide), if_neg (by show ¬ ((4 : Int) ≠ 4); decide), show fold (colT l).t = bt l from fold_bt h, badHex_bt h, if_neg (by decide), bt_size, hl, if_neg (by decide), if_pos rfl]
  rfl
theorem color_three (a b c : UInt8) (h : lowAll [a, b, c] = true) : colorS (colT [a, b, c]) = some (colB [a, a, b, b, c, c]) := by
  unfold colorS
  rw [if_neg (by show ¬ (4 : Int) = 1; decide), if_neg (by show ¬ ((4 : Int) ≠ 4); decide), show fold (colT [a, b, c]).t = bt [a, b, c] from fold_bt h, badHex_bt h, if_neg (by decide), bt_size, if_pos (show [a, b, c].length = 3 from rfl)]
  rfl
theorem colours_low : ∀ i : Fin 8, (colourAt i.val).2.data.toList.take 1 = [35] ∧ lowAll ((colourAt i.val).2.data.toList.drop 1) = true ∧ ((colourAt i.val).2.data.toList.drop 1).length = 6 := by decide +kernel
theorem repeat_two (a : UInt8) : Lib.repeatL [a] 2 = [a, a] := rfl
/-- WHAT A COLOUR IS READ AS. -/
theorem color_shape {t : Tok} {s : ByteArray} (h : colorS t = some s) : ∃ l, s = colB l ∧ lowAll l = true ∧ l.length = 6 := by
  unfold colorS at h
  split at h
  · split at h
    · rename_i n hn
      have h8 := colIx_lt hn
      obtain ⟨h1, h2, h3⟩ := colours_low ⟨n, h8⟩
      simp only [Option.some.injEq] at h
      refine ⟨(colourAt n).2.data.toList.drop 1, ?_, h2, h3⟩
      rw [← h]
      apply ByteArray.ext
      apply Array.toList_inj.1
      show _ = 35 :: (colourAt n).2.data.toList.drop 1
      rw [← List.take_append_drop 1 (colourAt n).2.data.toList, h1]
      simp
    · cases h
  · split at h
    · cases h
    · split at h
      · cases h
      · rename_i hb
        have hb' : badHex (fold t.t) = false := by simpa using hb
        have hlow : lowAll (fold t.t).data.toList = true := by
          rw [lowAll_iff]
          intro b hb2
          unfold badHex at hb'
          rw [List.any_eq_false] at hb'
          have := hb' b hb2
          obtain ⟨a, -, rfl⟩ := List.mem_map.1 (show b ∈ t.t.data.toList.map foldB from hb2)
          exact fold_low a (by simpa using this)
        have hsz : (fold t.t).size = (fold t.t).data.toList.length := by rw [Array.length_toList]; rfl
        split at h
        · rename_i h3
          rw [hsz] at h3
          simp only [Option.some.injEq] at h
          obtain ⟨a, b, c, hl⟩ : ∃ a b c, (fold t.t).data.toList = [a, b, c] := by
            generalize (fold t.t).data.toList = l at h3
            match l, h3 with
            | [a, b, c], _ => exact ⟨a, b, c, rfl⟩
          rw [hl] at hlow
          refine ⟨[a, a, b, b, c, c], ?_, ?_, rfl⟩
          · rw [← h]
            unfold hash6
            rw [hl]
            rfl
          · rw [lowAll_iff] at hlow ⊢
            intro x hx
            apply hlow
            simp only [List.mem_cons, List.not_mem_nil, or_false] at hx ⊢
            rcases hx with h | h | h | h | h | h <;> simp [h]
        · split at h
          · rename_i h6
            rw [hsz] at h6
            simp only [Option.some.injEq] at h
            exact ⟨_, h.symm, hlow, h6⟩
          · cases h
/-! ### As the value of the property color -/
theorem color_forms : (placeN aColor).isSome = true ∧ parts (findRow aColor).2.2.2 = [fCol] := by
  have h : (placeN aColor).isSome = true ∧ (parts (findRow aColor).2.2.2).length = 1 ∧ (parts (findRow aColor).2.2.2).all (fun s => eqB s fCol) = true := by decide +kernel
  refine ⟨h.1, ?_⟩
  obtain ⟨x, hx⟩ := List.length_eq_one_iff.1 h.2.1
  rw [hx] at h ⊢
  have := List.all_eq_true.1 h.2.2 x (List.mem_singleton.2 rfl)
  rw [(eqB_iff _ _).1 this]
theorem trim_single {x : Val} (h : isSp x = false) : trim [x] = [x] := by
  unfold trim
  simp [h]
theorem part_col (l : List UInt8) : partS fCol (Val.of (colT l)) = colorS (colT l) := by
  unfold partS
  rw [if_neg (show ¬ 0 < (Val.of (colT l)).kn from Nat.lt_irrefl 0), if_neg (by decide), if_neg (by decide), if_neg (by decide), if_pos (by decide)]
  rfl
theorem parse_col (l : List UInt8) : parseS aColor [Val.of (colT l)] = colorS (colT l) := by
  rw [parseS_one (trim_single (x := Val.of (colT l)) rfl), if_pos color_forms.1, color_forms.2]
  unfold firstPart
  rw [part_col]
  cases colorS (colT l) <;> rfl
theorem col_fits (l : List UInt8) (hl : l.length ≤ 100) : ∀ x ∈ [Val.of (colT l)], x.fits := by
  intro x hx
  rw [List.mem_singleton.1 hx]
  exact ⟨by show l.length ≤ _; omega, by show 0 ≤ _; omega⟩
/-! ### Digits -/
def hexC (k : Nat) : UInt8 := UInt8.ofNat (if k < 10 then 48 + k else 87 + k)
theorem hexC_low : ∀ k : Fin 16, isLow (hexC k.val) = true := by decide +kernel
def sixteenS : ByteArray := ⟨#[48, 49, 50, 51, 52, 53, 54, 55, 56, 57, 97, 98, 99, 100, 101, 102]⟩
theorem sixteen_piece : ∀ k : Fin 16, (sixteenS.data.toList.drop k.val).take (k.val + 1 - k.val) = [hexC k.val] := by decide +kernel
theorem sixteen_extract (k : Nat) (hk : k < 16) : sixteenS.extract k (k + 1) = bt [hexC k] := by
  apply bytes_ext
  rw [Lib.extract_toList, sixteen_piece ⟨k, hk⟩, ByteArray.toList_eq]
  rfl
set_option maxRecDepth 100000 in
theorem hex_any (n : Int) (h0 : 0 ≤ n) (w : World) :
    Calls Tryz.prog 15 #[.int .u64 n] w fun e w' => e = .returned (.string (bt [hexC (n % 16).toNat])) ∧ w' = w := by
  obtain ⟨k, hk⟩ : ∃ k : Nat, n % 16 = k := ⟨(n % 16).toNat, by omega⟩
  have hk16 : k < 16 := by omega
  have hte : (⟨#[48, 49, 50, 51, 52, 53, 54, 55, 56, 57, 97, 98, 99, 100, 101, 102]⟩ : ByteArray).extract k (k + 1) = bt [hexC k] := sixteen_extract k hk16
  have HTE := Lib.hid hte
  rw [hk, Int.toNat_natCast]
  clear hte
  go_enter Tryz.func15, Tryz.ntmps15
  go_wp2_with fail
  go_ret
  exact ⟨by rw [← HTE.out]; rfl, rfl⟩
end Go.Proofs.YtpadcjcoafidgaaGreatDoor
/-! Texts of lengths with spaces between: their tokens; what they are read as. -/
namespace Go.Proofs.YtpadcjcoafidgaaGreatDoor
open Go.RowKit

theorem decC_more (u : Nat) (h : u ≤ 1000000) : decC 20 u = decC 8 u := by
  rw [decC_eq 20 u (by omega), decC_eq 8 u (by omega)]
  rfl
theorem digS_itoa (n : Int) (h0 : 0 ≤ n) (h1 : n ≤ 1000000) : digS n = itoaS n := by
  unfold digS itoaS itoaC
  rw [if_neg (by omega), if_neg (by omega), decC_more _ (by omega)]
theorem decC_digit : ∀ (f u : Nat) (b : UInt8), b ∈ decC f u → 48 ≤ b.toNat ∧ b.toNat ≤ 57
  | 0, u, b, h => by cases h
  | f + 1, u, b, h => by
    have key : ∀ k, k < 10 → 48 ≤ (UInt8.ofNat (48 + k)).toNat ∧ (UInt8.ofNat (48 + k)).toNat ≤ 57 := by
      intro k hk
      rw [UInt8.toNat_ofNat']
      omega
    rw [decC] at h
    split at h
    · rw [List.mem_singleton.1 h]; exact key u (by omega)
    · rcases List.mem_append.1 h with h | h
      · exact decC_digit f _ b h
      · rw [List.mem_singleton.1 h]; exact key _ (by omega)
theorem decC_ne (f u : Nat) : decC (f + 1) u ≠ [] := by
  rw [decC]
  split <;> simp
theorem decC_len : ∀ (f u : Nat), (decC f u).length ≤ f
  | 0, u => Nat.le_refl _
  | f + 1, u => by
    rw [decC]
    split
    · simp
    · have := decC_len f (u / 10)
      simp
      omega
theorem decN_decC : ∀ (f u : Nat), u < 10 ^ f → u ≤ 1000000 → decN (decC f u) = (u : Int)
  | 0, u, h, _ => by
    simp at h
    subst h
    rfl
  | f + 1, u, h, h2 => by
    have key : ∀ k, k < 10 → (((UInt8.ofNat (48 + k)).toNat : Nat) : Int) = 48 + (k : Int) := by
      intro k hk
      rw [UInt8.toNat_ofNat']
      omega
    rw [decC]
    split
    · rename_i hu
      show decStep 0 _ = _
      unfold decStep
      rw [key u hu]
      omega
    · have ih := decN_decC f (u / 10) (by rw [Nat.pow_succ] at h; omega) (by omega)
      unfold decN at ih ⊢
      rw [List.foldl_append, ih]
      show decStep _ _ = _
      unfold decStep
      rw [key _ (Nat.mod_lt _ (by omega))]
      omega
/-- A length's token. -/
def dimT (n : Int) : Tok := ⟨12, itoaS n, pxS, true, false⟩
theorem itoaS_pos (n : Int) (h0 : 0 ≤ n) : (itoaS n).data.toList = decC 8 n.toNat := by
  show (itoaC n).toArray.toList = _
  unfold itoaC
  rw [if_neg (by omega)]
theorem head_digit (n : Int) (h0 : 0 ≤ n) (c : UInt8) (hc : c.toNat < 48) : tp (itoaS n) c = itoaS n := by
  have hl := itoaS_pos n h0
  unfold tp Lib.trimPrefix Lib.hasPrefix
  rw [hl]
  cases hd : decC 8 n.toNat with
  | nil => exact absurd hd (decC_ne 7 _)
  | cons a l =>
    have ha := decC_digit 8 n.toNat a (by rw [hd]; exact List.mem_cons_self ..)
    have hne : (c == a) = false := by
      rw [beq_eq_false_iff_ne]
      intro e
      rw [e] at hc
      omega
    have hp : List.isPrefixOf [c] (a :: l) = false := by simp [List.isPrefixOf, hne]
    rw [hp, if_neg (by decide), ← hd, ← hl]
theorem intDigs_dim (n : Int) (h0 : 0 ≤ n) : intDigs (itoaS n) = itoaS n ∧ tp (itoaS n) 43 = itoaS n := by
  have h1 := head_digit n h0 43 (by decide)
  have h2 := head_digit n h0 45 (by decide)
  refine ⟨?_, h1⟩
  unfold intDigs
  rw [h1, if_neg (Nat.lt_irrefl _), h2]
theorem dim_int (n : Int) (h0 : 0 ≤ n) (h1 : n ≤ 1000000) : intOk (dimT n) = true ∧ intN (dimT n) = n := by
  obtain ⟨e1, e2⟩ := intDigs_dim n h0
  have hl := itoaS_pos n h0
  have hne : eqB (itoaS n) noStr = false := by
    cases hq : eqB (itoaS n) noStr with
    | false => rfl
    | true =>
      have := (eqB_iff _ _).1 hq
      rw [this] at hl
      exact absurd hl.symm (decC_ne 7 _)
  have hbad : anyBad (itoaS n) = false := by
    unfold anyBad
    rw [hl, List.any_eq_false]
    intro b hb
    have := decC_digit 8 _ b hb
    unfold notDig isIn
    rw [decide_eq_true (by omega), decide_eq_true (by omega)]
    decide
  have hok : intOk (dimT n) = true := by
    unfold intOk dimT
    simp only [e1, hne, hbad]
    rfl
  refine ⟨hok, ?_⟩
  unfold intN
  rw [if_pos hok]
  show intVal (itoaS n) = n
  unfold intVal
  rw [e1, e2, if_pos (eqB_self _), hl, decN_decC 8 _ (by omega) (by omega)]
  omega
theorem part_dim (n : Int) (h0 : 0 ≤ n) (h1 : n ≤ 1000000) : partS fLenP (Val.of (dimT n)) = some (itoaS n ++ pxS) := by
  obtain ⟨e1, e2⟩ := dim_int n h0 h1
  unfold partS
  rw [if_neg (show ¬ 0 < (Val.of (dimT n)).kn from Nat.lt_irrefl 0), if_pos (by decide)]
  show toldS (intN (dimT n)) (intOk (dimT n)) fLenP pxS (lengthS (dimT n) (intN (dimT n))) = _
  have hlen : lengthS (dimT n) (intN (dimT n)) = true := by
    unfold lengthS dimT
    rw [if_pos rfl]
    show eqB (fold pxS) pxS = true
    decide +kernel
  rw [hlen, e1, e2]
  unfold toldS
  rw [decide_eq_false (by omega), if_pos (by decide)]
/-! ### The tokens -/
def dR (n : Int) : List Int := (decC 8 n.toNat).map fun b => (b.toNat : Int)
theorem dR_ne (n : Int) : dR n ≠ [] := by
  intro e
  exact decC_ne 7 n.toNat (List.map_eq_nil_iff.1 e)
theorem dR_digit (n : Int) : ∀ c ∈ dR n, isIn 48 57 c = true := by
  intro c hc
  obtain ⟨b, hb, rfl⟩ := List.mem_map.1 hc
  have := decC_digit 8 _ b hb
  unfold isIn
  rw [decide_eq_true (by omega), decide_eq_true (by omega)]
  rfl
theorem strOf_dR (n : Int) (h0 : 0 ≤ n) : strOf (dR n) = itoaS n := by
  have hl := itoaS_pos n h0
  apply ByteArray.ext
  apply Array.toList_inj.1
  rw [hl]
  unfold strOf dR
  rw [List.map_map]
  show (decC 8 n.toNat).map _ = _
  have : ∀ b : UInt8, (byteOf ∘ fun b : UInt8 => (b.toNat : Int)) b = b := fun b => by
    show UInt8.ofNat ((b.toNat : Int)).toNat = b
    rw [Int.toNat_natCast]
    simp
  rw [List.map_congr_left (fun b _ => this b), List.map_id']
def pxR : List Int := [112, 120]
/-- A length's runes, and what stands behind. -/
theorem step_dim (n : Int) (h0 : 0 ≤ n) (r : List Int) (hr : r = [] ∨ isPart (at_ r 0) = false) : step (dR n ++ 112 :: 120 :: r) = some (dimT n, (dR n).length + 2) := by
  have := step_px [] (dR n) r (.inl rfl) (dR_ne n) (dR_digit n) hr
  rw [List.nil_append] at this
  rw [this, List.nil_append, strOf_dR n h0]
  rfl
theorem drop_dim (n : Int) (r : List Int) : (dR n ++ 112 :: 120 :: r).drop ((dR n).length + 2) = r := by
  rw [← List.drop_drop, List.drop_left]
  rfl
theorem lex_dim (n : Int) (h0 : 0 ≤ n) (r : List Int) (hr : r = [] ∨ isPart (at_ r 0) = false) (f : Nat) (l : List Tok) (h : lexF f r = some l) : lexF (f + 1) (dR n ++ 112 :: 120 :: r) = some (dimT n :: l) :=
  lexF_step f _ _ _ l (by simp) (step_dim n h0 r hr) (by rw [drop_dim]; exact h)
theorem lex_sp (r : List Int) (hr : r = [] ∨ isBlank (at_ r 0) = false) (f : Nat) (l : List Tok) (h : lexF f r = some l) : lexF (f + 1) (32 :: r) = some (spaceT :: l) :=
  lexF_step f _ _ _ l (by simp) (step_blank r hr) h
theorem dR_at (n : Int) (r : List Int) : isBlank (at_ (dR n ++ r) 0) = false := by
  have hne := dR_ne n
  cases hd : dR n with
  | nil => exact absurd hd hne
  | cons a l =>
    have := dR_digit n a (by rw [hd]; exact List.mem_cons_self ..)
    show isBlank a = false
    have hb : 48 ≤ a ∧ a ≤ 57 := by simpa [isIn] using this
    simp [isBlank]
    omega
theorem lexF_nil (f : Nat) : lexF f [] = some [] := by cases f <;> rfl
theorem lex_two (a b : Int) (ha : 0 ≤ a) (hb : 0 ≤ b) (f : Nat) : lexF (f + 3) (dR a ++ 112 :: 120 :: 32 :: (dR b ++ [112, 120])) = some [dimT a, spaceT, dimT b] :=
  lex_dim a ha (32 :: _) (.inr rfl) _ _ (lex_sp _ (.inr (dR_at b _)) _ _ (lex_dim b hb [] (.inl rfl) _ _ (lexF_nil _)))
theorem lex_three (a b c : Int) (ha : 0 ≤ a) (hb : 0 ≤ b) (hc : 0 ≤ c) (f : Nat) : lexF (f + 5) (dR a ++ 112 :: 120 :: 32 :: (dR b ++ 112 :: 120 :: 32 :: (dR c ++ [112, 120]))) = some [dimT a, spaceT, dimT b, spaceT, dimT c] :=
  lex_dim a ha (32 :: _) (.inr rfl) _ _ (lex_sp _ (.inr (dR_at b _)) _ _ (lex_dim b hb (32 :: _) (.inr rfl) _ _ (lex_sp _ (.inr (dR_at c _)) _ _ (lex_dim c hc [] (.inl rfl) _ _ (lexF_nil _)))))
theorem dR_tame (n : Int) : ∀ c ∈ dR n, tm c := by
  intro c hc
  have := dR_digit n c hc
  have hb : 48 ≤ c ∧ c ≤ 57 := by simpa [isIn] using this
  exact .inl hb
theorem runes_app (a b : ByteArray) : runesOf (a ++ b) = runesOf a ++ runesOf b := by unfold runesOf; simp
theorem runes_itoa (n : Int) (h0 : 0 ≤ n) : runesOf (itoaS n) = dR n := by
  unfold runesOf dR
  rw [itoaS_pos n h0]
def spS : ByteArray := ⟨#[32]⟩
def pxOf (n : Int) : ByteArray := itoaS n ++ pxS
def twoS (a b : Int) : ByteArray := pxOf a ++ spS ++ pxOf b
def threeS (a b c : Int) : ByteArray := pxOf a ++ spS ++ pxOf b ++ spS ++ pxOf c
theorem runes_two (a b : Int) (ha : 0 ≤ a) (hb : 0 ≤ b) : runesOf (twoS a b) = dR a ++ 112 :: 120 :: 32 :: (dR b ++ [112, 120]) := by
  unfold twoS pxOf
  simp only [runes_app, runes_itoa a ha, runes_itoa b hb]
  rw [show runesOf pxS = [112, 120] by rfl, show runesOf spS = [32] by rfl]
  simp
theorem runes_three (a b c : Int) (ha : 0 ≤ a) (hb : 0 ≤ b) (hc : 0 ≤ c) : runesOf (threeS a b c) = dR a ++ 112 :: 120 :: 32 :: (dR b ++ 112 :: 120 :: 32 :: (dR c ++ [112, 120])) := by
  unfold threeS pxOf
  simp only [runes_app, runes_itoa a ha, runes_itoa b hb, runes_itoa c hc]
  rw [show runesOf pxS = [112, 120] by rfl, show runesOf spS = [32] by rfl]
  simp
theorem dR_len (n : Int) : (dR n).length ≤ 8 := by unfold dR; rw [List.length_map]; exact decC_len 8 _
theorem lexes_two (a b : Int) (ha : 0 ≤ a) (hb : 0 ≤ b) : Lexes (twoS a b) [dimT a, spaceT, dimT b] := by
  have hr := runes_two a b ha hb
  have l1 := dR_len a
  have l2 := dR_len b
  have hlen : (runesOf (twoS a b)).length = (dR a).length + 5 + (dR b).length := by rw [hr]; simp; omega
  refine ⟨?_, ?_, by rw [← runesOf_len, hlen]; omega, by simp⟩
  · rw [hr]
    intro c hc
    simp only [List.mem_append, List.mem_cons, List.not_mem_nil, or_false] at hc
    rcases hc with h | h | h | h | h | h | h
    · exact dR_tame a c h
    · subst h; decide
    · subst h; decide
    · subst h; decide
    · exact dR_tame b c h
    · subst h; decide
    · subst h; decide
  · unfold Go.Proofs.YtpadcjcoafidgaaGreatDoor.lex
    rw [hlen, show (dR a).length + 5 + (dR b).length = ((dR a).length + 2 + (dR b).length) + 3 by omega, hr]
    exact lex_two a b ha hb _
theorem lexes_three (a b c : Int) (ha : 0 ≤ a) (hb : 0 ≤ b) (hc : 0 ≤ c) : Lexes (threeS a b c) [dimT a, spaceT, dimT b, spaceT, dimT c] := by
  have hr := runes_three a b c ha hb hc
  have l1 := dR_len a
  have l2 := dR_len b
  have l3 := dR_len c
  have hlen : (runesOf (threeS a b c)).length = (dR a).length + 8 + (dR b).length + (dR c).length := by rw [hr]; simp; omega
  refine ⟨?_, ?_, by rw [← runesOf_len, hlen]; omega, by simp⟩
  · rw [hr]
    intro x hx
    simp only [List.mem_append, List.mem_cons, List.not_mem_nil, or_false] at hx
    rcases hx with h | h | h | h | h | h | h | h | h | h | h
    · exact dR_tame a x h
    · subst h; decide
    · subst h; decide
    · subst h; decide
    · exact dR_tame b x h
    · subst h; decide
    · subst h; decide
    · subst h; decide
    · exact dR_tame c x h
    · subst h; decide
    · subst h; decide
  · unfold Go.Proofs.YtpadcjcoafidgaaGreatDoor.lex
    rw [hlen, show (dR a).length + 8 + (dR b).length + (dR c).length = ((dR a).length + 3 + (dR b).length + (dR c).length) + 5 by omega, hr]
    exact lex_three a b c ha hb hc _
/-! ### What they are expanded to -/
def aPadding : ByteArray := ⟨#[112, 97, 100, 100, 105, 110, 103]⟩
def dimV (n : Int) : Val := Val.of (dimT n)
def spV : Val := Val.of spaceT
theorem isSp_dim (n : Int) : isSp (dimV n) = false := rfl
theorem isSp_sp : isSp spV = true := rfl
theorem trim_two (a b : Int) : trim [dimV a, spV, dimV b] = [dimV a, spV, dimV b] := by
  unfold trim
  rw [List.dropWhile_cons, isSp_dim, if_neg (by decide)]
  show ((dimV b :: spV :: dimV a :: []).dropWhile isSp).reverse = _
  rw [List.dropWhile_cons, isSp_dim, if_neg (by decide)]
  rfl
theorem trim_three (a b c : Int) : trim [dimV a, spV, dimV b, spV, dimV c] = [dimV a, spV, dimV b, spV, dimV c] := by
  unfold trim
  rw [List.dropWhile_cons, isSp_dim, if_neg (by decide)]
  show ((dimV c :: spV :: dimV b :: spV :: dimV a :: []).dropWhile isSp).reverse = _
  rw [List.dropWhile_cons, isSp_dim, if_neg (by decide)]
  rfl
theorem trim_one (n : Int) : trim [dimV n] = [dimV n] := by
  unfold trim
  rw [List.dropWhile_cons, isSp_dim, if_neg (by decide)]
  show ((dimV n :: []).dropWhile isSp).reverse = _
  rw [List.dropWhile_cons, isSp_dim, if_neg (by decide)]
  rfl
theorem parts_two (a b : Int) : partsS [dimV a, spV, dimV b] = some [dimV a, dimV b] := by
  unfold partsS
  rw [trim_two]
  simp [partsF, isSp_dim, isSp_sp]
theorem parts_three (a b c : Int) : partsS [dimV a, spV, dimV b, spV, dimV c] = some [dimV a, dimV b, dimV c] := by
  unfold partsS
  rw [trim_three]
  simp [partsF, isSp_dim, isSp_sp]
def padLongs : List ByteArray := longsOf aPadding
theorem pad_facts : padLongs.length = 4 ∧ (placeN aPadding).isNone = true ∧ eqB aPadding aOverflow = false ∧ padLongs.all (fun s => (placeN s).isSome && memB fLenP ((parts (findRow s).2.2.2).take 1)) = true := by decide +kernel
theorem parse_pad (s : ByteArray) (hs : s ∈ padLongs) (n : Int) (h0 : 0 ≤ n) (h1 : n ≤ 1000000) : parseS s [dimV n] = some (pxOf n) := by
  have h := List.all_eq_true.1 pad_facts.2.2.2 s hs
  rw [Bool.and_eq_true] at h
  rw [parseS_one (trim_one n), if_pos h.1]
  cases hp : parts (findRow s).2.2.2 with
  | nil =>
    rw [hp] at h
    have := h.2
    cases this
  | cons f fs =>
    rw [hp] at h
    have hf : f = fLenP := by
      have h2 := h.2
      unfold memB at h2
      simp only [List.take_succ_cons, List.take_zero, List.any_cons, List.any_nil, Bool.or_false] at h2
      exact ((eqB_iff _ _).1 h2).symm
    subst hf
    unfold firstPart
    rw [show partS fLenP (dimV n) = some (pxOf n) from part_dim n h0 h1]
theorem four_list {α : Type} (l : List α) (h : l.length = 4) : ∃ a b c d, l = [a, b, c, d] := by
  match l, h with
  | [a, b, c, d], _ => exact ⟨a, b, c, d, rfl⟩
theorem which_pad (n i : Int) : whichS aPadding n i = sidesS n i := by
  unfold whichS
  rw [pad_facts.2.2.1, if_neg (by decide)]
theorem spread_two (a b : Int) (ha : 0 ≤ a) (ha2 : a ≤ 1000000) (hb : 0 ≤ b) (hb2 : b ≤ 1000000) : spreadS aPadding padLongs [dimV a, spV, dimV b] = [pxOf a, pxOf b, pxOf a, pxOf b] := by
  obtain ⟨w, x, y, z, hl⟩ := four_list padLongs pad_facts.1
  unfold spreadS
  rw [parts_two]
  have hw := parse_pad w (by rw [hl]; simp) a ha ha2
  have hx := parse_pad x (by rw [hl]; simp) b hb hb2
  have hy := parse_pad y (by rw [hl]; simp) a ha ha2
  have hz := parse_pad z (by rw [hl]; simp) b hb hb2
  rw [hl]
  simp only [List.length_cons, List.length_nil, spreadF, which_pad]
  rw [show sidesS ((0 + 1 + 1 : Nat) : Int) ((0 : Nat) : Int) = 0 by decide, show sidesS ((0 + 1 + 1 : Nat) : Int) ((0 + 1 : Nat) : Int) = 1 by decide, show sidesS ((0 + 1 + 1 : Nat) : Int) ((0 + 1 + 1 : Nat) : Int) = 0 by decide, show sidesS ((0 + 1 + 1 : Nat) : Int) ((0 + 1 + 1 + 1 : Nat) : Int) = 1 by decide]
  simp [hw, hx, hy, hz]
theorem spread_three (a b c : Int) (ha : 0 ≤ a) (ha2 : a ≤ 1000000) (hb : 0 ≤ b) (hb2 : b ≤ 1000000) (hc : 0 ≤ c) (hc2 : c ≤ 1000000) : spreadS aPadding padLongs [dimV a, spV, dimV b, spV, dimV c] = [pxOf a, pxOf b, pxOf c, pxOf b] := by
  obtain ⟨w, x, y, z, hl⟩ := four_list padLongs pad_facts.1
  unfold spreadS
  rw [parts_three]
  have hw := parse_pad w (by rw [hl]; simp) a ha ha2
  have hx := parse_pad x (by rw [hl]; simp) b hb hb2
  have hy := parse_pad y (by rw [hl]; simp) c hc hc2
  have hz := parse_pad z (by rw [hl]; simp) b hb hb2
  rw [hl]
  simp only [List.length_cons, List.length_nil, spreadF, which_pad]
  rw [show sidesS ((0 + 1 + 1 + 1 : Nat) : Int) ((0 : Nat) : Int) = 0 by decide, show sidesS ((0 + 1 + 1 + 1 : Nat) : Int) ((0 + 1 : Nat) : Int) = 1 by decide, show sidesS ((0 + 1 + 1 + 1 : Nat) : Int) ((0 + 1 + 1 : Nat) : Int) = 2 by decide, show sidesS ((0 + 1 + 1 + 1 : Nat) : Int) ((0 + 1 + 1 + 1 : Nat) : Int) = 1 by decide]
  simp [hw, hx, hy, hz]
theorem wide_two (a b : Int) : wideS [dimV a, spV, dimV b] = noStr := wideS_not (by rw [trim_two]; simp)
theorem wide_three (a b c : Int) : wideS [dimV a, spV, dimV b, spV, dimV c] = noStr := wideS_not (by rw [trim_three]; simp)
theorem dim_fits (n : Int) (h0 : 0 ≤ n) : (dimV n).fits := by
  refine ⟨?_, show pxS.size ≤ 4294967295 by decide⟩
  show (itoaS n).size ≤ 4294967295
  have h := itoaS_pos n h0
  have h2 : (itoaS n).size = (itoaS n).data.toList.length := by rw [Array.length_toList]; rfl
  have := decC_len 8 n.toNat
  rw [h2, h]
  omega
theorem sp_fits : spV.fits := ⟨by decide, by decide⟩
end Go.Proofs.YtpadcjcoafidgaaGreatDoor
/-! What a value was read as is read as itself (plain). -/
namespace Go.Proofs.YtpadcjcoafidgaaGreatDoor
open Go.RowKit

/-! ### Whole numbers as texts -/
def absI (n : Int) : Int := (n.natAbs : Int)
def sgR (n : Int) : List Int := if n < 0 then [45] else []
theorem itoaS_neg {n : Int} (h : n < 0) : (itoaS n).data.toList = 45 :: decC 8 n.natAbs := by
  show (itoaC n).toArray.toList = _
  unfold itoaC
  rw [if_pos h]
theorem itoaS_abs (n : Int) : (itoaS (absI n)).data.toList = decC 8 n.natAbs := by
  rw [itoaS_pos _ (by unfold absI; omega)]
  unfold absI
  rw [Int.toNat_natCast]
theorem runes_all (n : Int) : runesOf (itoaS n) = sgR n ++ dR (absI n) := by
  unfold sgR
  by_cases h : n < 0
  · rw [if_pos h]
    unfold runesOf dR absI
    rw [itoaS_neg h, Int.toNat_natCast]
    rfl
  · rw [if_neg h, List.nil_append, show absI n = n by unfold absI; omega]
    exact runes_itoa n (by omega)
theorem sgR_or (n : Int) : sgR n = [] ∨ sgR n = [45] := by
  unfold sgR
  split
  · exact .inr rfl
  · exact .inl rfl
theorem strOf_runes (s : ByteArray) : strOf (runesOf s) = s := by
  unfold strOf runesOf
  rw [List.map_map]
  have : ∀ b : UInt8, (byteOf ∘ fun b : UInt8 => (b.toNat : Int)) b = b := fun b => by
    show UInt8.ofNat ((b.toNat : Int)).toNat = b
    rw [Int.toNat_natCast]
    exact UInt8.ofNat_toNat
  rw [List.map_congr_left (fun b _ => this b), List.map_id']
theorem int_any_tok (k : Int) (u : ByteArray) (hk : 10 ≤ k) (hk2 : k ≤ 12) (n : Int) (h0 : -1000000 ≤ n) (h1 : n ≤ 1000000) : intOk ⟨k, itoaS n, u, true, false⟩ = true ∧ intN ⟨k, itoaS n, u, true, false⟩ = n := by
  by_cases h : n < 0
  · have hl := itoaS_neg h
    have ha := itoaS_abs n
    have e43 : tp (itoaS n) 43 = itoaS n := by
      unfold tp Lib.trimPrefix Lib.hasPrefix
      rw [hl]
      show (⟨(45 :: decC 8 n.natAbs).toArray⟩ : ByteArray) = _
      rw [← hl]
    have e45 : tp (itoaS n) 45 = itoaS (absI n) := by
      unfold tp Lib.trimPrefix Lib.hasPrefix
      rw [hl]
      show (⟨(decC 8 n.natAbs).toArray⟩ : ByteArray) = _
      rw [← ha]
    have ed : intDigs (itoaS n) = itoaS (absI n) := by
      unfold intDigs
      rw [e43, if_neg (Nat.lt_irrefl _), e45]
    have hne : eqB (itoaS (absI n)) noStr = false := by
      cases hq : eqB (itoaS (absI n)) noStr with
      | false => rfl
      | true =>
        have := (eqB_iff _ _).1 hq
        rw [this] at ha
        exact absurd ha.symm (decC_ne 7 _)
    have hbad : anyBad (itoaS (absI n)) = false := by
      unfold anyBad
      rw [ha, List.any_eq_false]
      intro b hb
      have := decC_digit 8 _ b hb
      unfold notDig isIn
      rw [decide_eq_true (by omega), decide_eq_true (by omega)]
      decide
    have hok : intOk ⟨k, itoaS n, u, true, false⟩ = true := by
      unfold intOk
      simp only [ed, hne, hbad, decide_eq_true hk, decide_eq_true hk2]
      rfl
    refine ⟨hok, ?_⟩
    unfold intN
    rw [if_pos hok]
    show intVal (itoaS n) = n
    unfold intVal
    have hx : eqB (itoaS (absI n)) (itoaS n) = false := by
      cases hq : eqB (itoaS (absI n)) (itoaS n) with
      | false => rfl
      | true =>
        have := (eqB_iff _ _).1 hq
        have e2 := congrArg (fun s : ByteArray => s.data.toList.length) this
        simp only [ha, hl, List.length_cons] at e2
        omega
    rw [ed, e43, hx, if_neg (by decide), ha, decN_decC 8 _ (by omega) (by omega)]
    omega
  · obtain ⟨e1, e2⟩ := intDigs_dim n (by omega)
    have hl := itoaS_pos n (by omega)
    have hne : eqB (itoaS n) noStr = false := by
      cases hq : eqB (itoaS n) noStr with
      | false => rfl
      | true =>
        have := (eqB_iff _ _).1 hq
        rw [this] at hl
        exact absurd hl.symm (decC_ne 7 _)
    have hbad : anyBad (itoaS n) = false := by
      unfold anyBad
      rw [hl, List.any_eq_false]
      intro b hb
      have := decC_digit 8 _ b hb
      unfold notDig isIn
      rw [decide_eq_true (by omega), decide_eq_true (by omega)]
      decide
    have hok : intOk ⟨k, itoaS n, u, true, false⟩ = true := by
      unfold intOk
      simp only [e1, hne, hbad, decide_eq_true hk, decide_eq_true hk2]
      rfl
    refine ⟨hok, ?_⟩
    unfold intN
    rw [if_pos hok]
    show intVal (itoaS n) = n
    unfold intVal
    rw [e1, e2, if_pos (eqB_self _), hl, decN_decC 8 _ (by omega) (by omega)]
    omega
/-! ### What can come out of a form -/
inductive Out where
  | dim (n : Int)
  | pct (n : Int)
  | num (n : Int)
  | col (l : List UInt8)
  | kw (f : ByteArray)
def Out.text : Out → ByteArray
  | .dim n => itoaS n ++ pxS
  | .pct n => itoaS n ++ pcS
  | .num n => itoaS n
  | .col l => colB l
  | .kw f => f
def Out.tok : Out → Tok
  | .dim n => ⟨12, itoaS n, pxS, true, false⟩
  | .pct n => ⟨11, itoaS n, noStr, true, false⟩
  | .num n => ⟨10, itoaS n, noStr, true, false⟩
  | .col l => colT l
  | .kw f => ⟨1, f, noStr, false, false⟩
/-- A word of small letters and hyphens, a letter first, that is no colour and no value for all. -/
def isLet (b : UInt8) : Bool := isIn 97 122 (b.toNat : Int)
def kwOk (f : ByteArray) : Bool := (f.data.toList.take 1).any isLet && f.data.toList.all (fun b => isLet b || b == 45) && decide (f.size ≤ 100) && (colIx f).isNone && !memB f wides
def Out.ok : Out → Prop
  | .dim n => -1000000 ≤ n ∧ n ≤ 1000000
  | .pct n => -1000000 ≤ n ∧ n ≤ 1000000
  | .num n => -1000000 ≤ n ∧ n ≤ 1000000
  | .col l => lowAll l = true ∧ l.length = 6
  | .kw f => kwOk f = true
def isForm (f : ByteArray) : Bool := eqB f fLen || eqB f fLenP || eqB f fPct || eqB f fPctP || eqB f fInt || eqB f fIntP || eqB f fCol
theorem forms_ok : ∀ n : Fin 48, (parts (rowAt n.val).2.2.2).all (fun f => isForm f || kwOk f) = true := by decide +kernel
theorem let_tab : ∀ n : Fin 256, (isLet (UInt8.ofNat n.val) = true → isStart ((n.val : Nat) : Int) = true ∧ isBlank ((n.val : Nat) : Int) = false ∧ isIn 48 57 ((n.val : Nat) : Int) = false ∧ ((n.val : Nat) : Int) ≠ 45 ∧ ((n.val : Nat) : Int) ≠ 35) ∧
    ((isLet (UInt8.ofNat n.val) || UInt8.ofNat n.val == 45) = true → isPart ((n.val : Nat) : Int) = true ∧ tm ((n.val : Nat) : Int) ∧ foldB (UInt8.ofNat n.val) = UInt8.ofNat n.val) := by decide +kernel
theorem let_facts (b : UInt8) (h : isLet b = true) : isStart (b.toNat : Int) = true ∧ isBlank (b.toNat : Int) = false ∧ isIn 48 57 (b.toNat : Int) = false ∧ (b.toNat : Int) ≠ 45 ∧ (b.toNat : Int) ≠ 35 := by
  have hb : UInt8.ofNat b.toNat = b := UInt8.ofNat_toNat
  have := (let_tab ⟨b.toNat, b.toNat_lt⟩).1
  simp only [hb] at this
  exact this h
theorem kwc_facts (b : UInt8) (h : (isLet b || b == 45) = true) : isPart (b.toNat : Int) = true ∧ tm (b.toNat : Int) ∧ foldB b = b := by
  have hb : UInt8.ofNat b.toNat = b := UInt8.ofNat_toNat
  have := (let_tab ⟨b.toNat, b.toNat_lt⟩).2
  simp only [hb] at this
  exact this h
structure Kw (f : ByteArray) : Prop where
  first : ∃ a l, f.data.toList = a :: l ∧ isLet a = true
  all : ∀ b ∈ f.data.toList, (isLet b || b == 45) = true
  small : f.size ≤ 100
  col : colIx f = none
  wide : memB f wides = false
theorem kw_of {f : ByteArray} (h : kwOk f = true) : Kw f := by
  unfold kwOk at h
  simp only [Bool.and_eq_true, decide_eq_true_eq, Bool.not_eq_true', Option.isNone_iff_eq_none] at h
  obtain ⟨⟨⟨⟨h1, h2⟩, h3⟩, h4⟩, h5⟩ := h
  refine ⟨?_, List.all_eq_true.1 h2, h3, h4, h5⟩
  cases hl : f.data.toList with
  | nil => rw [hl] at h1; simp at h1
  | cons a l =>
    rw [hl] at h1
    exact ⟨a, l, rfl, by simpa using h1⟩
theorem fold_kw {f : ByteArray} (h : Kw f) : fold f = f := by
  unfold fold
  rw [List.map_congr_left (g := id) (fun b hb => (kwc_facts b (h.all b hb)).2.2), List.map_id]
/-! ### Its token -/
theorem step_out (o : Out) (ho : o.ok) (r : List Int) (hr : r = [] ∨ at_ r 0 = 32) : step (runesOf o.text ++ r) = some (o.tok, o.text.size) := by
  have hp : r = [] ∨ isPart (at_ r 0) = false := hr.imp id (fun e => by rw [e]; decide)
  cases o with
  | dim n =>
    show step (runesOf (itoaS n ++ pxS) ++ r) = _
    have hs := step_px (sgR n) (dR (absI n)) r (sgR_or n) (dR_ne _) (dR_digit _) hp
    rw [runes_app, runes_all, show runesOf pxS = [112, 120] from rfl]
    rw [show sgR n ++ dR (absI n) ++ [112, 120] ++ r = sgR n ++ (dR (absI n) ++ 112 :: 120 :: r) by simp, hs, ← runes_all, strOf_runes]
    rw [runesOf_len]
    show _ = some (_, (itoaS n ++ pxS).size)
    rw [ByteArray.size_append]
    rfl
  | pct n =>
    show step (runesOf (itoaS n ++ pcS) ++ r) = _
    have hs := step_pct (sgR n) (dR (absI n)) r (sgR_or n) (dR_ne _) (dR_digit _)
    rw [runes_app, runes_all, show runesOf pcS = [37] from rfl]
    rw [show sgR n ++ dR (absI n) ++ [37] ++ r = sgR n ++ (dR (absI n) ++ 37 :: r) by simp, hs, ← runes_all, strOf_runes]
    rw [runesOf_len]
    show _ = some (_, (itoaS n ++ pcS).size)
    rw [ByteArray.size_append]
    rfl
  | num n =>
    show step (runesOf (itoaS n) ++ r) = _
    have hs := step_int (sgR n) (dR (absI n)) r (sgR_or n) (dR_ne _) (dR_digit _) hr
    rw [runes_all, List.append_assoc, hs, ← runes_all, strOf_runes, runesOf_len]
    rfl
  | col l =>
    obtain ⟨h1, h2⟩ := ho
    have hne : l ≠ [] := by intro e; rw [e] at h2; simp at h2
    have hl := rn_part h1
    show step (35 :: (rn l ++ r)) = _
    cases l with
    | nil => exact absurd rfl hne
    | cons a l =>
      have ha := low_facts a (lowAll_iff.1 h1 a (List.mem_cons_self ..))
      have htw := takeWhile_stop (rn (a :: l)) r hl hp
      unfold step
      rw [show at_ (35 :: (rn (a :: l) ++ r)) 0 = 35 from rfl, if_neg (by decide), if_pos rfl, show at_ (35 :: (rn (a :: l) ++ r)) 1 = (a.toNat : Int) from rfl, if_pos ⟨by omega, ha.1⟩]
      unfold hashT nameLen
      rw [List.drop_succ_cons, List.drop_zero, htw, strOf_rn]
      have hb : begins (rn (a :: l) ++ r) = begins (rn (a :: l)) := by
        unfold begins
        have hl6 : 2 ≤ (rn (a :: l)).length := by unfold rn; rw [List.length_map]; omega
        rw [show at_ (rn (a :: l) ++ r) 0 = at_ (rn (a :: l)) 0 by unfold at_; rw [List.getElem?_append_left (by omega)], show at_ (rn (a :: l) ++ r) 1 = at_ (rn (a :: l)) 1 by unfold at_; rw [List.getElem?_append_left (by omega)]]
      rw [hb]
      show _ = some (colT (a :: l), (35 :: a :: l).length)
      simp [rn, colT]
      omega
  | kw f =>
    have hk := kw_of ho
    obtain ⟨a, l, hl, ha⟩ := hk.first
    obtain ⟨a1, a2, a3, a4, a5⟩ := let_facts a ha
    have hall : ∀ c ∈ runesOf f, isPart c = true := by
      intro c hc
      obtain ⟨b, hb, rfl⟩ := List.mem_map.1 hc
      exact (kwc_facts b (hk.all b hb)).1
    have htw := takeWhile_stop (runesOf f) r hall hp
    have hrf : runesOf f = (a.toNat : Int) :: runesOf ⟨l.toArray⟩ := by unfold runesOf; rw [hl]; rfl
    have h0 : at_ (runesOf f ++ r) 0 = (a.toNat : Int) := by rw [hrf]; rfl
    show step (runesOf f ++ r) = some (⟨1, f, noStr, false, false⟩, f.size)
    have hc : counts (runesOf f ++ r) = false := by
      unfold counts
      rw [h0, if_neg a4]
      exact a3
    have hb : begins (runesOf f ++ r) = true := by
      unfold begins
      rw [h0, if_neg a4, a1, decide_eq_true (by omega)]
      rfl
    unfold step
    rw [h0, a2, if_neg (by decide), if_neg a5, hc, if_neg (by decide), hb, if_pos rfl]
    unfold wordT nameLen
    rw [htw, strOf_runes, runesOf_len]
theorem out_tame (o : Out) (ho : o.ok) : ∀ c ∈ runesOf o.text, tm c := by
  have hd : ∀ (n : Int) (c : Int), c ∈ runesOf (itoaS n) → tm c := by
    intro n c hc
    rw [runes_all] at hc
    rcases List.mem_append.1 hc with h | h
    · rcases sgR_or n with e | e <;> rw [e] at h
      · cases h
      · rw [List.mem_singleton.1 h]; decide
    · exact dR_tame _ c h
  cases o with
  | dim n =>
    intro c hc
    rw [show (Out.dim n).text = itoaS n ++ pxS from rfl, runes_app] at hc
    rcases List.mem_append.1 hc with h | h
    · exact hd n c h
    · have : c = 112 ∨ c = 120 := by simpa [pxS, runesOf] using h
      rcases this with rfl | rfl <;> decide
  | pct n =>
    intro c hc
    rw [show (Out.pct n).text = itoaS n ++ pcS from rfl, runes_app] at hc
    rcases List.mem_append.1 hc with h | h
    · exact hd n c h
    · have : c = 37 := by simpa [pcS, runesOf] using h
      subst this; decide
  | num n => exact hd n
  | col l =>
    intro c hc
    rcases List.mem_cons.1 (show c ∈ 35 :: rn l from hc) with rfl | hc
    · decide
    · obtain ⟨b, hb, rfl⟩ := List.mem_map.1 hc
      exact (low_facts b (lowAll_iff.1 ho.1 b hb)).2.1
  | kw f =>
    intro c hc
    obtain ⟨b, hb, rfl⟩ := List.mem_map.1 hc
    exact (kwc_facts b ((kw_of ho).all b hb)).2.1
theorem itoaS_size (n : Int) : 1 ≤ (itoaS n).size ∧ (itoaS n).size ≤ 9 := by
  rw [← runesOf_len, runes_all, List.length_append]
  have h1 := dR_len (absI n)
  have h2 : 1 ≤ (dR (absI n)).length := by
    rcases Nat.eq_zero_or_pos (dR (absI n)).length with h | h
    · exact absurd (List.eq_nil_of_length_eq_zero h) (dR_ne _)
    · exact h
  rcases sgR_or n with e | e <;> rw [e] <;> simp <;> omega
theorem out_size (o : Out) (ho : o.ok) : 1 ≤ o.text.size ∧ o.text.size ≤ 100 := by
  cases o with
  | dim n =>
    have := itoaS_size n
    show 1 ≤ (itoaS n ++ pxS).size ∧ (itoaS n ++ pxS).size ≤ 100
    rw [ByteArray.size_append, show pxS.size = 2 from rfl]
    omega
  | pct n =>
    have := itoaS_size n
    show 1 ≤ (itoaS n ++ pcS).size ∧ (itoaS n ++ pcS).size ≤ 100
    rw [ByteArray.size_append, show pcS.size = 1 from rfl]
    omega
  | num n =>
    have := itoaS_size n
    show 1 ≤ (itoaS n).size ∧ (itoaS n).size ≤ 100
    omega
  | col l =>
    show 1 ≤ (35 :: l).length ∧ (35 :: l).length ≤ 100
    rw [List.length_cons, ho.2]
    omega
  | kw f =>
    obtain ⟨a, l, hl, -⟩ := (kw_of ho).first
    refine ⟨?_, (kw_of ho).small⟩
    show 1 ≤ f.size
    have : f.size = f.data.toList.length := by rw [Array.length_toList]; rfl
    rw [this, hl]
    simp
theorem lexes_out (o : Out) (ho : o.ok) : Lexes o.text [o.tok] := by
  have hs := step_out o ho [] (.inl rfl)
  have hz := out_size o ho
  rw [List.append_nil] at hs
  have hl : (runesOf o.text).length = o.text.size := runesOf_len _
  refine ⟨out_tame o ho, ?_, by omega, by simp⟩
  unfold Go.Proofs.YtpadcjcoafidgaaGreatDoor.lex
  obtain ⟨m, hm⟩ : ∃ m, (runesOf o.text).length = m + 1 := ⟨(runesOf o.text).length - 1, by omega⟩
  rw [hm]
  refine lexF_step _ _ o.tok o.text.size [] (by intro e; rw [e] at hm; simp at hm) hs ?_
  rw [List.drop_eq_nil_of_le (by omega)]
  exact lexF_nil _
theorem out_fits (o : Out) (ho : o.ok) : (Val.of o.tok).fits := by
  have hz := out_size o ho
  cases o with
  | dim n => exact ⟨by have := itoaS_size n; show (itoaS n).size ≤ _; omega, by show 2 ≤ _; omega⟩
  | pct n => exact ⟨by have := itoaS_size n; show (itoaS n).size ≤ _; omega, by show 0 ≤ _; omega⟩
  | num n => exact ⟨by have := itoaS_size n; show (itoaS n).size ≤ _; omega, by show 0 ≤ _; omega⟩
  | col l => exact ⟨by show l.length ≤ _; rw [ho.2]; omega, by show 0 ≤ _; omega⟩
  | kw f => exact ⟨by show f.size ≤ _; exact Nat.le_trans (kw_of ho).small (by omega), by show 0 ≤ _; omega⟩
end Go.Proofs.YtpadcjcoafidgaaGreatDoor
/-! What value.Parse reads is read as itself (plain). -/
namespace Go.Proofs.YtpadcjcoafidgaaGreatDoor
open Go.RowKit

theorem told_some {n : Int} {wh : Bool} {f u : ByteArray} {is : Bool} {s : ByteArray} (h : toldS n wh f u is = some s) : is = true ∧ wh = true ∧ s = itoaS n ++ u ∧ toldS n true f u true = some s := by
  unfold toldS at h
  split at h
  · rename_i hc
    simp only [Bool.and_eq_true] at hc
    obtain ⟨⟨h1, h2⟩, h3⟩ := hc
    subst h1 h2
    refine ⟨rfl, rfl, (Option.some.inj h).symm, ?_⟩
    unfold toldS
    rw [h3]
    exact h
  · cases h
theorem told_two (n : Int) (g u : ByteArray) : toldS n true g u true = none ∨ toldS n true g u true = some (itoaS n ++ u) := by
  unfold toldS
  split
  · exact .inr rfl
  · exact .inl rfl
theorem told_false (n : Int) (wh : Bool) (g u : ByteArray) : toldS n wh g u false = none := rfl
def lenF (g : ByteArray) : Bool := eqB g fLen || eqB g fLenP
def pctF (g : ByteArray) : Bool := eqB g fPct || eqB g fPctP
def intF (g : ByteArray) : Bool := eqB g fInt || eqB g fIntP
theorem part_eq (g : ByteArray) (x : Val) (h : ¬ 0 < x.kn) : partS g x = if lenF g = true then toldS (intN x.tok) (intOk x.tok) g pxS (lengthS x.tok (intN x.tok)) else if pctF g = true then toldS (intN x.tok) (intOk x.tok) g pcS (x.tok.k == 11)
    else if intF g = true then toldS (intN x.tok) (intOk x.tok) g noStr (x.tok.k == 10) else if eqB g fCol = true then colorS x.tok else if (decide (x.tok.k = 1) && eqB (identS x) g) = true then some g else none := by
  unfold partS
  rw [if_neg h]
  rfl
theorem kn_of (t : Tok) : ¬ 0 < (Val.of t).kn := Nat.lt_irrefl 0
theorem app_no (z : ByteArray) : z ++ noStr = z := by
  apply ByteArray.ext
  apply Array.toList_inj.1
  simp [noStr]
theorem part_dimO (g : ByteArray) (n : Int) (h0 : -1000000 ≤ n) (h1 : n ≤ 1000000) : partS g (Val.of (Out.dim n).tok) = if lenF g = true then toldS n true g pxS true else none := by
  obtain ⟨e1, e2⟩ := int_any_tok 12 pxS (by decide) (by decide) n h0 h1
  rw [part_eq g _ (kn_of _)]
  show (if lenF g = true then toldS (intN ⟨12, itoaS n, pxS, true, false⟩) (intOk ⟨12, itoaS n, pxS, true, false⟩) g pxS (lengthS ⟨12, itoaS n, pxS, true, false⟩ (intN ⟨12, itoaS n, pxS, true, false⟩)) else _) = _
  rw [e1, e2]
  have hlen : lengthS ⟨12, itoaS n, pxS, true, false⟩ n = true := by
    unfold lengthS
    rw [if_pos rfl]
    show eqB (fold pxS) pxS = true
    decide +kernel
  rw [hlen]
  split
  · rfl
  · split
    · rfl
    · split
      · rfl
      · split
        · rfl
        · rfl
theorem part_pctO (g : ByteArray) (n : Int) (h0 : -1000000 ≤ n) (h1 : n ≤ 1000000) : partS g (Val.of (Out.pct n).tok) = if lenF g = true then none else if pctF g = true then toldS n true g pcS true else none := by
  obtain ⟨e1, e2⟩ := int_any_tok 11 noStr (by decide) (by decide) n h0 h1
  rw [part_eq g _ (kn_of _)]
  show (if lenF g = true then toldS (intN ⟨11, itoaS n, noStr, true, false⟩) (intOk ⟨11, itoaS n, noStr, true, false⟩) g pxS (lengthS ⟨11, itoaS n, noStr, true, false⟩ (intN ⟨11, itoaS n, noStr, true, false⟩)) else if pctF g = true then toldS (intN ⟨11, itoaS n, noStr, true, false⟩) (intOk ⟨11, itoaS n, noStr, true, false⟩) g pcS true else _) = _
  rw [e1, e2]
  have hlen : lengthS ⟨11, itoaS n, noStr, true, false⟩ n = false := by
    unfold lengthS
    rw [if_neg (by show ¬ ((11 : Int) = 12); decide)]
    rfl
  rw [hlen]
  split
  · rfl
  · split
    · rfl
    · split
      · rfl
      · split
        · rfl
        · rfl
theorem part_numO (g : ByteArray) (n : Int) (h0 : -1000000 ≤ n) (h1 : n ≤ 1000000) : partS g (Val.of (Out.num n).tok) = if lenF g = true then toldS n true g pxS (decide (n = 0)) else if pctF g = true then none else if intF g = true then toldS n true g noStr true else none := by
  obtain ⟨e1, e2⟩ := int_any_tok 10 noStr (by decide) (by decide) n h0 h1
  rw [part_eq g _ (kn_of _)]
  show (if lenF g = true then toldS (intN ⟨10, itoaS n, noStr, true, false⟩) (intOk ⟨10, itoaS n, noStr, true, false⟩) g pxS (lengthS ⟨10, itoaS n, noStr, true, false⟩ (intN ⟨10, itoaS n, noStr, true, false⟩)) else if pctF g = true then toldS (intN ⟨10, itoaS n, noStr, true, false⟩) (intOk ⟨10, itoaS n, noStr, true, false⟩) g pcS false else if intF g = true then toldS (intN ⟨10, itoaS n, noStr, true, false⟩) (intOk ⟨10, itoaS n, noStr, true, false⟩) g noStr true else _) = _
  rw [e1, e2]
  have hlen : lengthS ⟨10, itoaS n, noStr, true, false⟩ n = decide (n = 0) := by
    unfold lengthS
    rw [if_neg (by show ¬ ((10 : Int) = 12); decide)]
    rfl
  rw [hlen]
  split
  · rfl
  · split
    · rfl
    · split
      · rfl
      · split
        · rfl
        · rfl
theorem part_colO (g : ByteArray) (l : List UInt8) (h : lowAll l = true) (hl : l.length = 6) : partS g (Val.of (Out.col l).tok) = if lenF g = true then none else if pctF g = true then none else if intF g = true then none else if eqB g fCol = true then some (colB l) else none := by
  rw [part_eq g _ (kn_of _)]
  show (if lenF g = true then toldS _ _ g pxS (lengthS (colT l) (intN (colT l))) else if pctF g = true then _ else if intF g = true then _ else if eqB g fCol = true then colorS (colT l) else _) = _
  rw [color_six l h hl]
  have hlen : lengthS (colT l) (intN (colT l)) = false := by
    unfold lengthS
    rw [if_neg (by show ¬ (4 : Int) = 12; decide)]
    rfl
  rw [hlen]
  split
  · rfl
  · split
    · rfl
    · split
      · rfl
      · split
        · rfl
        · rfl
theorem part_kwO (g f : ByteArray) (h : Kw f) : partS g (Val.of (Out.kw f).tok) = if lenF g = true then none else if pctF g = true then none else if intF g = true then none else if eqB g fCol = true then none else if eqB f g = true then some g else none := by
  rw [part_eq g _ (kn_of _)]
  have hc : colorS ⟨1, f, noStr, false, false⟩ = none := by
    unfold colorS
    rw [if_pos rfl]
    show (match colIx (fold f) with | some n => some (colourAt n).2 | none => none) = none
    rw [fold_kw h, h.col]
  have hi : identS (Val.of ⟨1, f, noStr, false, false⟩) = f := by
    unfold identS
    rw [if_pos (show (Val.of ⟨1, f, noStr, false, false⟩).tok.k = 1 from rfl)]
    exact fold_kw h
  show (if lenF g = true then toldS _ _ g pxS (lengthS ⟨1, f, noStr, false, false⟩ _) else if pctF g = true then _ else if intF g = true then _ else if eqB g fCol = true then colorS ⟨1, f, noStr, false, false⟩ else if (decide ((1 : Int) = 1) && eqB (identS (Val.of ⟨1, f, noStr, false, false⟩)) g) = true then some g else none) = _
  rw [hc, hi]
  have hlen : ∀ n, lengthS ⟨1, f, noStr, false, false⟩ n = false := by
    intro n
    unfold lengthS
    rw [if_neg (by show ¬ ((1 : Int) = 12); decide)]
    rfl
  rw [hlen]
  split
  · rfl
  · split
    · rfl
    · split
      · rfl
      · split
        · rfl
        · rfl
/-- What a form reads, with its token: no other form that did not read the first value reads that token otherwise. -/
def Back (x : Val) (s : ByteArray) (o : Out) : Prop := o.ok ∧ s = o.text ∧ ∀ g, partS g x = none → partS g (Val.of o.tok) = none ∨ partS g (Val.of o.tok) = some s
theorem part_out {f : ByteArray} {x : Val} {s : ByteArray} (hf : isForm f = true ∨ kwOk f = true) (h : partS f x = some s) : ∃ o, Back x s o ∧ partS f (Val.of o.tok) = some s := by
  have hk : ¬ 0 < x.kn := by
    intro hk
    unfold partS at h
    rw [if_pos hk] at h
    cases h
  rw [part_eq f x hk] at h
  have hr := intN_range x.tok
  split at h
  · rename_i hl
    obtain ⟨h1, h2, h3, h4⟩ := told_some h
    refine ⟨.dim (intN x.tok), ⟨hr, h3, fun g _ => ?_⟩, ?_⟩
    · rw [part_dimO g _ hr.1 hr.2]
      split
      · rw [h3]; exact told_two _ _ _
      · exact .inl rfl
    · rw [part_dimO f _ hr.1 hr.2, if_pos hl]
      exact h4
  · rename_i hl
    split at h
    · rename_i hp
      obtain ⟨h1, h2, h3, h4⟩ := told_some h
      refine ⟨.pct (intN x.tok), ⟨hr, h3, fun g _ => ?_⟩, ?_⟩
      · rw [part_pctO g _ hr.1 hr.2]
        split
        · exact .inl rfl
        · split
          · rw [h3]; exact told_two _ _ _
          · exact .inl rfl
      · rw [part_pctO f _ hr.1 hr.2, if_neg hl, if_pos hp]
        exact h4
    · rename_i hp
      split at h
      · rename_i hi
        obtain ⟨h1, h2, h3, h4⟩ := told_some h
        have h3' : s = itoaS (intN x.tok) := by rw [h3, app_no]
        have hk10 : x.tok.k = 10 := by simpa using h1
        refine ⟨.num (intN x.tok), ⟨hr, h3', fun g hg => ?_⟩, ?_⟩
        · rw [part_numO g _ hr.1 hr.2]
          rw [part_eq g x hk] at hg
          split
          · rename_i hgl
            rw [if_pos hgl] at hg
            have hlen : lengthS x.tok (intN x.tok) = decide (intN x.tok = 0) := by
              unfold lengthS
              rw [if_neg (by rw [hk10]; decide), hk10]
              rfl
            rw [hlen, h2] at hg
            exact .inl hg
          · split
            · exact .inl rfl
            · split
              · rw [h3]; exact told_two _ _ _
              · exact .inl rfl
        · rw [part_numO f _ hr.1 hr.2, if_neg hl, if_neg hp, if_pos hi]
          exact h4
      · rename_i hi
        split at h
        · rename_i hc
          obtain ⟨l, rfl, hlow, hlen⟩ := color_shape h
          refine ⟨.col l, ⟨⟨hlow, hlen⟩, rfl, fun g _ => ?_⟩, ?_⟩
          · rw [part_colO g l hlow hlen]
            split
            · exact .inl rfl
            · split
              · exact .inl rfl
              · split
                · exact .inl rfl
                · split
                  · exact .inr rfl
                  · exact .inl rfl
          · rw [part_colO f l hlow hlen, if_neg hl, if_neg hp, if_neg hi, if_pos hc]
        · rename_i hc
          split at h
          · rename_i hid
            obtain rfl : f = s := Option.some.inj h
            have hkw : kwOk f = true := by
              rcases hf with hf | hf
              · exfalso
                unfold isForm at hf
                unfold lenF at hl
                unfold pctF at hp
                unfold intF at hi
                simp only [Bool.or_eq_true] at hf hl hp hi
                simp only [not_or] at hl hp hi
                rcases hf with (((((h | h) | h) | h) | h) | h) | h
                · exact hl.1 h
                · exact hl.2 h
                · exact hp.1 h
                · exact hp.2 h
                · exact hi.1 h
                · exact hi.2 h
                · exact hc h
              · exact hf
            refine ⟨.kw f, ⟨hkw, rfl, fun g _ => ?_⟩, ?_⟩
            · rw [part_kwO g f (kw_of hkw)]
              split
              · exact .inl rfl
              · split
                · exact .inl rfl
                · split
                  · exact .inl rfl
                  · split
                    · exact .inl rfl
                    · split
                      · rename_i he
                        rw [(eqB_iff _ _).1 he]
                        exact .inr rfl
                      · exact .inl rfl
            · rw [part_kwO f f (kw_of hkw), if_neg hl, if_neg hp, if_neg hi, if_neg hc, if_pos (eqB_self f)]
          · cases h
theorem first_out {x : Val} {s : ByteArray} : ∀ {fs : List ByteArray}, (∀ f ∈ fs, isForm f = true ∨ kwOk f = true) → firstPart fs x = some s → ∃ o, Back x s o ∧ firstPart fs (Val.of o.tok) = some s
  | [], _, h => by cases h
  | f :: fs, hf, h => by
    unfold firstPart at h
    split at h
    · rename_i s' hp
      obtain rfl : s' = s := Option.some.inj h
      obtain ⟨o, ho, h2⟩ := part_out (hf f (List.mem_cons_self ..)) hp
      refine ⟨o, ho, ?_⟩
      unfold firstPart
      rw [h2]
    · rename_i hp
      obtain ⟨o, ho, h2⟩ := first_out (fun g hg => hf g (List.mem_cons_of_mem _ hg)) h
      refine ⟨o, ho, ?_⟩
      unfold firstPart
      rcases ho.2.2 f hp with e | e <;> rw [e]
      exact h2
theorem isSp_out (o : Out) : isSp (Val.of o.tok) = false := by cases o <;> rfl
theorem row_forms (name : ByteArray) (h : (placeN name).isSome = true) : ∀ f ∈ parts (findRow name).2.2.2, isForm f = true ∨ kwOk f = true := by
  intro f hf
  obtain ⟨k, hk⟩ := Option.isSome_iff_exists.1 h
  have hk48 := placeN_lt hk
  unfold findRow at hf
  rw [hk] at hf
  have := List.all_eq_true.1 (forms_ok ⟨k, hk48⟩) f hf
  simpa using this
/-- WHAT IS READ IS READ AS ITSELF. -/
theorem parse_out {name : ByteArray} {l : List Val} {s : ByteArray} (h : parseS name l = some s) : ∃ o : Out, o.ok ∧ s = o.text ∧ parseS name [Val.of o.tok] = some s := by
  unfold parseS at h
  split at h
  · rename_i x _
    split at h
    · rename_i hp
      obtain ⟨o, ⟨h1, h2, -⟩, h3⟩ := first_out (row_forms name hp) h
      refine ⟨o, h1, h2, ?_⟩
      rw [parseS_one (trim_single (isSp_out o)), if_pos hp]
      exact h3
    · cases h
  · cases h
end Go.Proofs.YtpadcjcoafidgaaGreatDoor
/-! gouachelaw15.digits; value.Number of a length. -/
namespace Go.Proofs.YtpadcjcoafidgaaGreatDoor
open Go.RowKit

set_option maxRecDepth 100000 in
set_option maxHeartbeats 2000000 in
theorem digits15_pos (u0 : Nat) (h1 : u0 ≤ 1000000) (w : World) :
    Calls Tryz.prog 30 #[.int .i64 (u0 : Int)] w fun e w' => e = .returned (.string (itoaS (u0 : Int))) ∧ w' = w := by
  have hn : ¬ (u0 : Int) < 0 := by omega
  have HV : Hid (itoaS (u0 : Int) = bt (decC 20 u0)) := Lib.hid (by
    apply ByteArray.ext
    apply Array.toList_inj.1
    rw [itoaS_pos _ (by omega), decC_more u0 h1, Int.toNat_natCast]
    rfl)
  have hu0 : u0 < 10 ^ 20 := by omega
  go_enter Tryz.func30, Tryz.ntmps30
  go_wp2_with fail
  go_loopw [0, 4] (fun nv sv wr => ∃ (u f : Nat) (acc : List UInt8), nv = .int .i64 (u : Int) ∧ sv = .string (bt acc) ∧ (u : Int) ≤ 1000000 ∧ Hid (decC (f + 1) u ++ acc = decC 20 u0) ∧ u < 10 ^ (f + 1) ∧ acc.length ≤ 20 - f ∧ f ≤ 19 ∧ wr = w)
    (fun nv _ _ => (intOf nv).toNat)
  case atStart => exact ⟨u0, 19, [], rfl, rfl, by omega, Lib.hid (by simp), hu0, by simp, by omega, rfl⟩
  case round =>
    obtain ⟨u, f, acc, rfl, rfl, hu, HD, hlt, hal, hf, hwr⟩ := hrel
    subst hwr
    obtain ⟨k, hk⟩ : ∃ k : Nat, u % 10 = k := ⟨_, rfl⟩
    have hk10 : k < 10 := by omega
    have hte : (⟨#[48, 49, 50, 51, 52, 53, 54, 55, 56, 57]⟩ : ByteArray).extract k (k + 1) ++ bt acc = bt (UInt8.ofNat (48 + k) :: acc) := by
      rw [show (⟨#[48, 49, 50, 51, 52, 53, 54, 55, 56, 57]⟩ : ByteArray).extract k (k + 1) = bt [UInt8.ofNat (48 + k)] from ten_extract k hk10, bt_app]
      rfl
    have HTE := Lib.hid hte
    clear hte
    have r3 : Int.tmod (u : Int) 10 = (k : Int) := by rw [Int.tmod_eq_emod_of_nonneg (by omega)]; omega
    have r4 : Int.tdiv (u : Int) 10 = ((u / 10 : Nat) : Int) := by rw [Int.tdiv_eq_ediv_of_nonneg (by omega)]; omega
    have r5 : IntKind.i64.wrap (Int.tdiv (u : Int) 10) = ((u / 10 : Nat) : Int) := by rw [r4]; exact Go.IntWalk.i64_in _ (by omega)
    have r6 : IntKind.i64.wrap ((u : Int) / 10) = ((u / 10 : Nat) : Int) := by rw [show (u : Int) / 10 = ((u / 10 : Nat) : Int) by omega]; exact Go.IntWalk.i64_in _ (by omega)
    have hbs := bt_size acc
    have z1 : (bt acc).size ≤ 100 := by omega
    clear hbs
    by_cases hd : u / 10 = 0
    · have hfin : Hid (itoaS (u0 : Int) = bt (UInt8.ofNat (48 + k) :: acc)) := Lib.hid (by
        rw [HV.out, ← HD.out, decC, if_pos (by omega), show u = k by omega]; rfl)
      rw [hd] at r4 r5 r6
      clear hd
      go_wp2_with fail
      go_ret
      exact ⟨by rw [hfin.out, ← HTE.out]; rfl, rfl⟩
    · obtain ⟨g, rfl⟩ : ∃ g, f = g + 1 := ⟨f - 1, by
        cases f with
        | zero => simp at hlt; omega
        | succ f => omega⟩
      have hnx : Hid (decC (g + 1) (u / 10) ++ UInt8.ofNat (48 + k) :: acc = decC 20 u0) := Lib.hid (by
        have e : decC (g + 1 + 1) u = decC (g + 1) (u / 10) ++ [UInt8.ofNat (48 + k)] := by rw [decC, if_neg (by omega), hk]
        rw [← HD.out, e, List.append_assoc]; rfl)
      have hl2 : u / 10 < 10 ^ (g + 1) := by
        rw [Nat.pow_succ] at hlt
        omega
      obtain ⟨m, hm⟩ : ∃ m, u / 10 = m := ⟨_, rfl⟩
      have hmu : m < u := by omega
      rw [hm] at r4 r5 r6 hd hnx hl2
      have hd' : ¬ ((m : Nat) : Int) = 0 := by omega
      clear hm hlt
      go_wp2_with fail
      go_roundw
      case rel => exact ⟨m, g, UInt8.ofNat (48 + k) :: acc, rfl, by rw [← HTE.out], by omega, hnx, hl2, by simp; omega, by omega, trivial⟩
      case measure => simp [intOf]; omega
set_option maxRecDepth 100000 in
set_option maxHeartbeats 2000000 in
theorem digits15_neg (u0 : Nat) (h1 : u0 ≤ 1000000) (h0 : 1 ≤ u0) (w : World) :
    Calls Tryz.prog 30 #[.int .i64 (-(u0 : Int))] w fun e w' => e = .returned (.string (itoaS (-(u0 : Int)))) ∧ w' = w := by
  have hn : -(u0 : Int) < 0 := by omega
  have HV : Hid (itoaS (-(u0 : Int)) = (⟨#[45]⟩ : ByteArray) ++ bt (decC 20 u0)) := Lib.hid (by
    apply ByteArray.ext
    apply Array.toList_inj.1
    rw [itoaS_neg hn, decC_more u0 h1, Int.natAbs_neg, Int.natAbs_natCast]
    simp [bt])
  have hu0 : u0 < 10 ^ 20 := by omega
  go_enter Tryz.func30, Tryz.ntmps30
  go_wp2_with fail
  go_loopw [0, 4] (fun nv sv wr => ∃ (u f : Nat) (acc : List UInt8), nv = .int .i64 (u : Int) ∧ sv = .string (bt acc) ∧ (u : Int) ≤ 1000000 ∧ Hid (decC (f + 1) u ++ acc = decC 20 u0) ∧ u < 10 ^ (f + 1) ∧ acc.length ≤ 20 - f ∧ f ≤ 19 ∧ wr = w)
    (fun nv _ _ => (intOf nv).toNat)
  case atStart => exact ⟨u0, 19, [], rfl, rfl, by omega, Lib.hid (by simp), hu0, by simp, by omega, rfl⟩
  case round =>
    obtain ⟨u, f, acc, rfl, rfl, hu, HD, hlt, hal, hf, hwr⟩ := hrel
    subst hwr
    obtain ⟨k, hk⟩ : ∃ k : Nat, u % 10 = k := ⟨_, rfl⟩
    have hk10 : k < 10 := by omega
    have hte : (⟨#[48, 49, 50, 51, 52, 53, 54, 55, 56, 57]⟩ : ByteArray).extract k (k + 1) ++ bt acc = bt (UInt8.ofNat (48 + k) :: acc) := by
      rw [show (⟨#[48, 49, 50, 51, 52, 53, 54, 55, 56, 57]⟩ : ByteArray).extract k (k + 1) = bt [UInt8.ofNat (48 + k)] from ten_extract k hk10, bt_app]
      rfl
    have HTE := Lib.hid hte
    clear hte
    have r3 : Int.tmod (u : Int) 10 = (k : Int) := by rw [Int.tmod_eq_emod_of_nonneg (by omega)]; omega
    have r4 : Int.tdiv (u : Int) 10 = ((u / 10 : Nat) : Int) := by rw [Int.tdiv_eq_ediv_of_nonneg (by omega)]; omega
    have r5 : IntKind.i64.wrap (Int.tdiv (u : Int) 10) = ((u / 10 : Nat) : Int) := by rw [r4]; exact Go.IntWalk.i64_in _ (by omega)
    have r6 : IntKind.i64.wrap ((u : Int) / 10) = ((u / 10 : Nat) : Int) := by rw [show (u : Int) / 10 = ((u / 10 : Nat) : Int) by omega]; exact Go.IntWalk.i64_in _ (by omega)
    have hbs := bt_size acc
    have z1 : (bt acc).size ≤ 100 := by omega
    clear hbs
    by_cases hd : u / 10 = 0
    · have hfin : Hid (itoaS (-(u0 : Int)) = (⟨#[45]⟩ : ByteArray) ++ bt (UInt8.ofNat (48 + k) :: acc)) := Lib.hid (by
        rw [HV.out, ← HD.out, decC, if_pos (by omega), show u = k by omega]; rfl)
      rw [hd] at r4 r5 r6
      clear hd
      go_wp2_with fail
      go_ret
      exact ⟨by rw [hfin.out, ← HTE.out]; rfl, rfl⟩
    · obtain ⟨g, rfl⟩ : ∃ g, f = g + 1 := ⟨f - 1, by
        cases f with
        | zero => simp at hlt; omega
        | succ f => omega⟩
      have hnx : Hid (decC (g + 1) (u / 10) ++ UInt8.ofNat (48 + k) :: acc = decC 20 u0) := Lib.hid (by
        have e : decC (g + 1 + 1) u = decC (g + 1) (u / 10) ++ [UInt8.ofNat (48 + k)] := by rw [decC, if_neg (by omega), hk]
        rw [← HD.out, e, List.append_assoc]; rfl)
      have hl2 : u / 10 < 10 ^ (g + 1) := by
        rw [Nat.pow_succ] at hlt
        omega
      obtain ⟨m, hm⟩ : ∃ m, u / 10 = m := ⟨_, rfl⟩
      have hmu : m < u := by omega
      rw [hm] at r4 r5 r6 hd hnx hl2
      have hd' : ¬ ((m : Nat) : Int) = 0 := by omega
      clear hm hlt
      go_wp2_with fail
      go_roundw
      case rel => exact ⟨m, g, UInt8.ofNat (48 + k) :: acc, rfl, by rw [← HTE.out], by omega, hnx, hl2, by simp; omega, by omega, trivial⟩
      case measure => simp [intOf]; omega
theorem digits15_any (n : Int) (h0 : -1000000 ≤ n) (h1 : n ≤ 1000000) (w : World) :
    Calls Tryz.prog 30 #[.int .i64 n] w fun e w' => e = .returned (.string (itoaS n)) ∧ w' = w := by
  by_cases hn : n < 0
  · obtain ⟨u, rfl⟩ : ∃ u : Nat, n = -(u : Int) := ⟨n.natAbs, by omega⟩
    exact digits15_neg u (by omega) (by omega) w
  · obtain ⟨u, rfl⟩ : ∃ u : Nat, n = (u : Int) := ⟨n.toNat, by omega⟩
    exact digits15_pos u (by omega) w
theorem str_ne2 {s : ByteArray} (h : eqB s noStr = false) : s.toList.isEmpty = false ∧ ¬ (s.toList = []) := by
  have hn : ¬ (s.toList = []) := by
    intro e
    rw [ByteArray.toList_eq] at e
    have : eqB s noStr = true := (eqB_iff _ _).2 (bytes_ext (by rw [ByteArray.toList_eq, ByteArray.toList_eq, e]; rfl))
    rw [this] at h
    cases h
  refine ⟨?_, hn⟩
  cases hs : s.toList with
  | nil => exact absurd hs hn
  | cons a l => rfl
/-- The bytes of a whole number: digits, a hyphen ahead. -/
theorem itoaS_bytes (n : Int) : ∀ b ∈ (itoaS n).data.toList, b = 45 ∨ (48 ≤ b.toNat ∧ b.toNat ≤ 57) := by
  intro b hb
  by_cases h : n < 0
  · rw [itoaS_neg h] at hb
    rcases List.mem_cons.1 hb with h | h
    · exact .inl h
    · exact .inr (decC_digit 8 _ b h)
  · rw [itoaS_pos n (by omega)] at hb
    exact .inr (decC_digit 8 _ b hb)
theorem itoaS_no (n : Int) (c : UInt8) (h : c.toNat < 45) : ∀ b ∈ (itoaS n).data.toList, b ≠ c := by
  intro b hb e
  subst e
  rcases itoaS_bytes n b hb with h1 | h1
  · rw [h1] at h; exact absurd h (by decide)
  · omega
theorem drop_no {l : List UInt8} {c : UInt8} (h : ∀ b ∈ l, b ≠ c) : l.dropWhile (· == c) = l := by
  cases l with
  | nil => rfl
  | cons a l =>
    have := h a (List.mem_cons_self ..)
    rw [List.dropWhile_cons, if_neg (by simpa using this)]
theorem trimRight_itoa (n : Int) : (⟨(Lib.trimRightB (itoaS n).data.toList 37).toArray⟩ : ByteArray) = itoaS n := by
  unfold Lib.trimRightB
  rw [drop_no (fun b hb => itoaS_no n 37 (by decide) b (List.mem_reverse.1 hb)), List.reverse_reverse]
theorem trimSuffix_px (z : ByteArray) : (⟨(Lib.trimSuffix (z ++ pxS).data.toList pxS.data.toList).toArray⟩ : ByteArray) = z := by
  have h : (z ++ pxS).data.toList = z.data.toList ++ [112, 120] := by simp [pxS]
  unfold Lib.trimSuffix Lib.hasSuffix
  rw [h, show pxS.data.toList = [112, 120] from rfl, if_pos (List.isSuffixOf_iff_suffix.2 (List.suffix_append _ _))]
  rw [List.length_append, Nat.add_sub_cancel, List.take_left]
theorem noPlus_itoa (n : Int) : Lib.hasPrefix (itoaS n).data.toList [43] = false := by
  unfold Lib.hasPrefix
  cases hl : (itoaS n).data.toList with
  | nil => rfl
  | cons a l =>
    have := itoaS_no n 43 (by decide) a (by rw [hl]; exact List.mem_cons_self ..)
    simp [List.isPrefixOf, Ne.symm this]
theorem extract_px (z : ByteArray) : (z ++ pxS).extract z.size (z ++ pxS).size = pxS := by
  apply bytes_ext
  rw [Lib.extract_toList]
  have h : (z ++ pxS).data.toList = z.data.toList ++ [112, 120] := by simp [pxS]
  have hz : z.size = z.data.toList.length := by rw [Array.length_toList]; rfl
  rw [h, ByteArray.size_append, show pxS.size = 2 from rfl, hz, List.drop_left, show z.data.toList.length + 2 - z.data.toList.length = 2 by omega, ByteArray.toList_eq]
  rfl
set_option maxRecDepth 100000 in
set_option maxHeartbeats 2000000 in
theorem Number_px (n : Int) (h0 : -1000000 ≤ n) (h1 : n ≤ 1000000) (w : World) :
    Calls Tryz.prog 32 #[.string (itoaS n ++ pxS)] w fun e w' => e = .returned (.tuple #[.int .i64 n, .string pxS, .bool true]) ∧ Below w.heap.size w w' := by
  obtain ⟨e1, e2⟩ := int_any_tok 10 noStr (by decide) (by decide) n h0 h1
  have hz := itoaS_size n
  have hI := fun W => Int_any ⟨10, itoaS n, noStr, true, false⟩ (by show (itoaS n).size ≤ _; omega) W
  have hT := fun W => Tryz.strings_TrimSuffix (itoaS n ++ pxS) pxS W (by rw [ByteArray.size_append, show pxS.size = 2 from rfl]; omega)
  have hR := fun W => Tryz.strings_TrimRight_one (itoaS n) 37 (by decide) W (by omega)
  have hP := fun W => Tryz.strings_HasPrefix (itoaS n) ⟨#[43]⟩ W
  rw [intRes_eq, e1, e2] at hI
  rw [trimSuffix_px] at hT
  rw [trimRight_itoa] at hR
  rw [show (⟨#[43]⟩ : ByteArray).data.toList = [43] from rfl, noPlus_itoa] at hP
  have HI := Lib.hid hI
  have HT := Lib.hid hT
  have HR := Lib.hid hR
  have HP := Lib.hid hP
  have HX := Lib.hid (extract_px (itoaS n))
  have hs : (itoaS n ++ pxS).size = (itoaS n).size + 2 := by rw [ByteArray.size_append]; rfl
  obtain ⟨z, hzz⟩ : ∃ z, itoaS n = z := ⟨_, rfl⟩
  obtain ⟨s, hss⟩ : ∃ s, itoaS n ++ pxS = s := ⟨_, rfl⟩
  rw [hss] at HT HX hs ⊢
  rw [hzz] at HI HR HP HT HX hz hs
  have q1 : (z.size : Int) ≤ (s.size : Int) := by omega
  have q2 : z.size ≤ s.size := by omega
  have q3 : s.size ≤ 100 := by omega
  have p1 : ((s.extract z.size s.size).toList == [112, 120]) = true := by
    rw [HX.out]
    exact (toList_lit pxS pxS _ rfl).trans (eqB_self _)
  have p2 : (s.extract z.size s.size).toList.isEmpty = false ∧ ¬ ((s.extract z.size s.size).toList = []) := by
    rw [HX.out]
    exact str_ne2 (by decide)
  have p5 : ((s.extract z.size s.size).toList == [37]) = false := by
    rw [HX.out]
    exact (toList_lit pxS pcS _ rfl).trans (by decide)
  obtain ⟨p3, p4⟩ := p2
  clear hI hT hR hP e1 e2 hzz hss hs
  go_enter Tryz.func32, Tryz.ntmps32
  go_wp2_with fail
  refine (HT.out w).mono ?_
  rintro e w1 ⟨rfl, rfl⟩
  go_wp2_with fail
  refine (HR.out _).mono ?_
  rintro e w2 ⟨rfl, rfl⟩
  go_wp2_with fail
  refine (HP.out _).mono ?_
  rintro e w3 ⟨rfl, rfl⟩
  go_wp2_with fail
  refine (HI.out _).mono ?_
  rintro e w4 ⟨rfl, hb4⟩
  clear p1 p3 p4 p5
  go_wp2_with fail
  exact bodyPost_ret (v := .tuple #[.int .i64 n, .string (s.extract z.size s.size), .bool true]) (by simp [results, Tryz.results32, go_sem]) rfl ⟨by rw [HX.out], hb4⟩
end Go.Proofs.YtpadcjcoafidgaaGreatDoor
/-! gouacheref03.Deep, gouacheref03.Count, gouachelaw15.great, gouachelaw16.great: each returns; what is not great has short tokens. -/
namespace Go.Proofs.YtpadcjcoafidgaaGreatDoor
open Go.RowKit

/-- The kids of a value, as the slice that it holds. -/
def Val.kids (x : Val) : Value := .slice x.ka x.kn x.kc
/-- Values that are nested less than n deep. -/
def VD (w : World) : Nat → Value → List Val → Prop
  | 0, _, _ => False
  | n + 1, v, l => Vs w v l ∧ ∀ x ∈ l, ∃ l', VD w n x.kids l'
theorem VD.below {C : Nat} {w w' : World} (hb : Below C w w') (hC : w.heap.size ≤ C) : ∀ {n : Nat} {v : Value} {l : List Val}, VD w n v l → VD w' n v l
  | 0, _, _, h => h.elim
  | n + 1, v, l, ⟨h1, h2⟩ => ⟨h1.below hb hC, fun x hx => by
    obtain ⟨l', h⟩ := h2 x hx
    exact ⟨l', VD.below hb hC h⟩⟩
theorem VD.next {w w' : World} {n : Nat} {v : Value} {l : List Val} (h : VD w n v l) (hb : Below w.heap.size w w') : VD w' n v l := h.below hb (Nat.le_refl _)
theorem VD.vs {w : World} {n : Nat} {v : Value} {l : List Val} (h : VD w n v l) : Vs w v l := by
  cases n with
  | zero => exact h.elim
  | succ n => exact h.1
/-- A bool is returned. -/
def SomeB (w : World) (e : Ending) (w' : World) : Prop := ∃ b, e = .returned (.bool b) ∧ Below w.heap.size w w'
def SomeI (w : World) (e : Ending) (w' : World) : Prop := ∃ n, e = .returned (.int .i64 n) ∧ Below w.heap.size w w'
set_option maxRecDepth 100000 in
set_option maxHeartbeats 4000000 in
theorem Deep_any : ∀ (n : Nat) (w : World) (v : Value) (l : List Val) (most : Int), VD w n v l →
    Calls Tryz.prog 38 #[v, .int .i64 most] w (SomeB w)
  | 0, _, _, _, _, h => h.elim
  | n + 1, w, v, l, most, h => by
    have IH := Lib.hid (Deep_any n)
    have HD := Lib.hid h
    obtain ⟨a, cap, rfl, hcap, hl, hr⟩ := h.1
    have HR := Lib.hid hr
    clear h hr
    go_enter Tryz.func38, Tryz.ntmps38
    go_wp2_with fail
    go_loopw [6, 9] (fun _ iv wr => ∃ k : Nat, k ≤ l.length ∧ iv = .int .i64 k ∧ Below w.heap.size w wr) (fun _ iv _ => l.length - (intOf iv).toNat)
    case atStart => exact ⟨0, by omega, rfl, Below.refl _ _⟩
    case round =>
      obtain ⟨k, hk, rfl, hb⟩ := hrel
      by_cases hlt : k < l.length
      · have hne : l ≠ [] := by intro e; rw [e] at hlt; simp at hlt
        obtain ⟨bb, off, rfl, hbb, hcc⟩ := HR.out hne
        obtain ⟨x0, x1, x2, x3, x4, x5⟩ := Vs.cells (cellsX hb hbb hcc) k hlt
        obtain ⟨l', hkids⟩ := HD.out.2 _ (List.getElem_mem hlt)
        have HK := Lib.hid ((hkids.next hb).next (bAlloc1 wr (.cells #[.int .i64 l[k].tok.k, .string l[k].tok.t, .string l[k].tok.u, .bool l[k].tok.wh, .bool l[k].tok.fl, .slice l[k].ka l[k].kn l[k].kc] 26)))
        have hb1 := bNext hb (bAlloc1 wr (.cells #[.int .i64 l[k].tok.k, .string l[k].tok.t, .string l[k].tok.u, .bool l[k].tok.wh, .bool l[k].tok.fl, .slice l[k].ka l[k].kn l[k].kc] 26))
        obtain ⟨y, hy⟩ : ∃ y, l[k] = y := ⟨_, rfl⟩
        rw [hy] at x0 x1 x2 x3 x4 x5 HK hb1
        have q0 : (0 : Int) ≤ (k : Int) := by omega
        have q1 : (k : Int) < (l.length : Int) := by omega
        clear hcc hkids hy
        by_cases hkn : 0 < y.kn
        · have p1 : (0 : Int) < (y.kn : Int) := by omega
          by_cases hm : most < 1
          · go_wp2_with fail
            go_ret
            exact ⟨_, rfl, hb1⟩
          · go_wp2_with fail
            refine (IH.out _ _ l' _ HK.out).mono ?_
            rintro e w2 ⟨b, rfl, hb2⟩
            have hB2 := bNext hb1 hb2
            cases b with
            | true =>
              go_wp2_with fail
              go_ret
              exact ⟨_, rfl, hB2⟩
            | false =>
              clear x0 x1 x2 x3 x4 x5
              go_wp2_with fail
              go_roundw
              case rel => exact ⟨k + 1, by omega, by go_num, hB2⟩
              case measure => simp [intOf]; omega
        · have p1 : ¬ (0 : Int) < (y.kn : Int) := by omega
          go_wp2_with fail
          go_roundw
          case rel => exact ⟨k + 1, by omega, by go_num, hb1⟩
          case measure => simp [intOf]; omega
      · have q1 : ¬ (k : Int) < (l.length : Int) := by omega
        go_wp2_with fail
        go_ret
        exact ⟨_, rfl, hb⟩
set_option maxRecDepth 100000 in
set_option maxHeartbeats 4000000 in
theorem Count_any : ∀ (n : Nat) (w : World) (v : Value) (l : List Val), VD w n v l →
    Calls Tryz.prog 39 #[v] w (SomeI w)
  | 0, _, _, _, h => h.elim
  | n + 1, w, v, l, h => by
    have IH := Lib.hid (Count_any n)
    have HD := Lib.hid h
    obtain ⟨a, cap, rfl, hcap, hl, hr⟩ := h.1
    have HR := Lib.hid hr
    clear h hr
    go_enter Tryz.func39, Tryz.ntmps39
    go_wp2_with fail
    go_loopw [3, 5, 8] (fun nv _ iv wr => ∃ (k : Nat) (m : Int), k ≤ l.length ∧ iv = .int .i64 k ∧ nv = .int .i64 m ∧ Below w.heap.size w wr) (fun _ _ iv _ => l.length - (intOf iv).toNat)
    case atStart => exact ⟨0, 0, by omega, rfl, rfl, Below.refl _ _⟩
    case round =>
      obtain ⟨k, m, hk, rfl, rfl, hb⟩ := hrel
      by_cases hlt : k < l.length
      · have hne : l ≠ [] := by intro e; rw [e] at hlt; simp at hlt
        obtain ⟨bb, off, rfl, hbb, hcc⟩ := HR.out hne
        obtain ⟨x0, x1, x2, x3, x4, x5⟩ := Vs.cells (cellsX hb hbb hcc) k hlt
        obtain ⟨l', hkids⟩ := HD.out.2 _ (List.getElem_mem hlt)
        have HK := Lib.hid ((hkids.next hb).next (bAlloc1 wr (.cells #[.int .i64 l[k].tok.k, .string l[k].tok.t, .string l[k].tok.u, .bool l[k].tok.wh, .bool l[k].tok.fl, .slice l[k].ka l[k].kn l[k].kc] 26)))
        have hb1 := bNext hb (bAlloc1 wr (.cells #[.int .i64 l[k].tok.k, .string l[k].tok.t, .string l[k].tok.u, .bool l[k].tok.wh, .bool l[k].tok.fl, .slice l[k].ka l[k].kn l[k].kc] 26))
        obtain ⟨y, hy⟩ : ∃ y, l[k] = y := ⟨_, rfl⟩
        rw [hy] at x0 x1 x2 x3 x4 x5 HK hb1
        have q0 : (0 : Int) ≤ (k : Int) := by omega
        have q1 : (k : Int) < (l.length : Int) := by omega
        clear hcc hkids hy
        go_wp2_with fail
        refine (IH.out _ _ l' HK.out).mono ?_
        rintro e w2 ⟨c, rfl, hb2⟩
        have hB2 := bNext hb1 hb2
        clear x0 x1 x2 x3 x4 x5
        go_wp2_with fail
        go_roundw
        case rel => exact ⟨k + 1, _, by omega, by go_num, rfl, hB2⟩
        case measure => simp [intOf]; omega
      · have q1 : ¬ (k : Int) < (l.length : Int) := by omega
        go_wp2_with fail
        go_ret
        exact ⟨_, rfl, hb⟩
/-- A bool is returned; false: the tokens are short. -/
def GreatB (w : World) (l : List Val) (e : Ending) (w' : World) : Prop := ∃ b, e = .returned (.bool b) ∧ (b = false → ∀ x ∈ l, x.tok.t.size + x.tok.u.size ≤ 500) ∧ Below w.heap.size w w'
theorem GreatB.mk {w : World} {l : List Val} (b : Bool) (h : b = false → ∀ x ∈ l, x.tok.t.size + x.tok.u.size ≤ 500) {w' : World} (hb : Below w.heap.size w w') : GreatB w l (.returned (.bool b)) w' := ⟨b, rfl, h, hb⟩
set_option maxRecDepth 100000 in
set_option maxHeartbeats 4000000 in
theorem great15_any (n : Nat) (w : World) (v : Value) (l : List Val) (h : VD w n v l) (hsz : ∀ x ∈ l, x.tok.t.size ≤ 281474976710656 ∧ x.tok.u.size ≤ 281474976710656) :
    Calls Tryz.prog 11 #[v] w (GreatB w l) := by
  have HD := Lib.hid h
  have HZ := Lib.hid hsz
  obtain ⟨a, cap, rfl, hcap, hl, hr⟩ := h.vs
  have HR := Lib.hid hr
  clear h hr hsz
  go_enter Tryz.func11, Tryz.ntmps11
  go_wp2_with fail
  go_loopw [4, 7] (fun _ iv wr => ∃ k : Nat, k ≤ l.length ∧ iv = .int .i64 k ∧ Hid (∀ x ∈ l.take k, x.tok.t.size + x.tok.u.size ≤ 500) ∧ Below w.heap.size w wr) (fun _ iv _ => l.length - (intOf iv).toNat)
  case atStart => exact ⟨0, by omega, rfl, Lib.hid (fun x hx => by simp at hx), Below.refl _ _⟩
  case round =>
    obtain ⟨k, hk, rfl, HS, hb⟩ := hrel
    by_cases hlt : k < l.length
    · have hne : l ≠ [] := by intro e; rw [e] at hlt; simp at hlt
      obtain ⟨bb, off, rfl, hbb, hcc⟩ := HR.out hne
      obtain ⟨x0, x1, x2, x3, x4, x5⟩ := Vs.cells (cellsX hb hbb hcc) k hlt
      obtain ⟨z1, z2⟩ := HZ.out _ (List.getElem_mem hlt)
      have hb1 := bNext hb (bAlloc1 wr (.cells #[.int .i64 l[k].tok.k, .string l[k].tok.t, .string l[k].tok.u, .bool l[k].tok.wh, .bool l[k].tok.fl, .slice l[k].ka l[k].kn l[k].kc] 26))
      have HT := Lib.hid (List.take_succ_eq_append_getElem hlt)
      obtain ⟨y, hy⟩ : ∃ y, l[k] = y := ⟨_, rfl⟩
      rw [hy] at x0 x1 x2 x3 x4 x5 hb1 z1 z2 HT
      have q0 : (0 : Int) ≤ (k : Int) := by omega
      have q1 : (k : Int) < (l.length : Int) := by omega
      clear hcc hy
      by_cases hs : y.tok.t.size + y.tok.u.size ≤ 500
      · have p1 : ¬ (500 : Int) < (y.tok.t.size : Int) + (y.tok.u.size : Int) := by omega
        have HS2 : Hid (∀ x ∈ l.take (k + 1), x.tok.t.size + x.tok.u.size ≤ 500) := Lib.hid (fun x hx => by
          rw [HT.out] at hx
          rcases List.mem_append.1 hx with hx | hx
          · exact HS.out x hx
          · rw [List.mem_singleton.1 hx]; exact hs)
        clear hs
        go_wp2_with fail
        go_roundw
        case rel => exact ⟨k + 1, by omega, by go_num, HS2, hb1⟩
        case measure => simp [intOf]; omega
      · have p1 : (500 : Int) < (y.tok.t.size : Int) + (y.tok.u.size : Int) := by omega
        clear hs
        go_wp2_with fail
        go_ret
        exact GreatB.mk _ (fun h => by cases h) hb1
    · have hke : k = l.length := by omega
      have q1 : ¬ (k : Int) < (l.length : Int) := by omega
      have HS2 : Hid (∀ x ∈ l, x.tok.t.size + x.tok.u.size ≤ 500) := Lib.hid (fun x hx => HS.out x (by rw [hke, List.take_length]; exact hx))
      clear hke
      go_wp2_with fail
      refine (Deep_any n _ _ l _ (HD.out.next hb)).mono ?_
      rintro e w2 ⟨b, rfl, hb2⟩
      have hB2 := bNext hb hb2
      cases b with
      | true =>
        go_wp2_with fail
        go_ret
        exact GreatB.mk _ (fun _ => HS2.out) hB2
      | false =>
        go_wp2_with fail
        refine (Count_any n _ _ l (HD.out.next hB2)).mono ?_
        rintro e w3 ⟨c, rfl, hb3⟩
        go_wp2_with fail
        go_ret
        exact GreatB.mk _ (fun _ => HS2.out) (bNext hB2 hb3)
set_option maxRecDepth 100000 in
set_option maxHeartbeats 4000000 in
theorem great16_any (n : Nat) (w : World) (v : Value) (l : List Val) (h : VD w n v l) (hsz : ∀ x ∈ l, x.tok.t.size ≤ 281474976710656 ∧ x.tok.u.size ≤ 281474976710656) :
    Calls Tryz.prog 24 #[v] w (GreatB w l) := by
  have HD := Lib.hid h
  have HZ := Lib.hid hsz
  obtain ⟨a, cap, rfl, hcap, hl, hr⟩ := h.vs
  have HR := Lib.hid hr
  clear h hr hsz
  go_enter Tryz.func24, Tryz.ntmps24
  go_wp2_with fail
  go_loopw [4, 7] (fun _ iv wr => ∃ k : Nat, k ≤ l.length ∧ iv = .int .i64 k ∧ Hid (∀ x ∈ l.take k, x.tok.t.size + x.tok.u.size ≤ 500) ∧ Below w.heap.size w wr) (fun _ iv _ => l.length - (intOf iv).toNat)
  case atStart => exact ⟨0, by omega, rfl, Lib.hid (fun x hx => by simp at hx), Below.refl _ _⟩
  case round =>
    obtain ⟨k, hk, rfl, HS, hb⟩ := hrel
    by_cases hlt : k < l.length
    · have hne : l ≠ [] := by intro e; rw [e] at hlt; simp at hlt
      obtain ⟨bb, off, rfl, hbb, hcc⟩ := HR.out hne
      obtain ⟨x0, x1, x2, x3, x4, x5⟩ := Vs.cells (cellsX hb hbb hcc) k hlt
      obtain ⟨z1, z2⟩ := HZ.out _ (List.getElem_mem hlt)
      have hb1 := bNext hb (bAlloc1 wr (.cells #[.int .i64 l[k].tok.k, .string l[k].tok.t, .string l[k].tok.u, .bool l[k].tok.wh, .bool l[k].tok.fl, .slice l[k].ka l[k].kn l[k].kc] 26))
      have HT := Lib.hid (List.take_succ_eq_append_getElem hlt)
      obtain ⟨y, hy⟩ : ∃ y, l[k] = y := ⟨_, rfl⟩
      rw [hy] at x0 x1 x2 x3 x4 x5 hb1 z1 z2 HT
      have q0 : (0 : Int) ≤ (k : Int) := by omega
      have q1 : (k : Int) < (l.length : Int) := by omega
      clear hcc hy
      by_cases hs : y.tok.t.size + y.tok.u.size ≤ 500
      · have p1 : ¬ (500 : Int) < (y.tok.t.size : Int) + (y.tok.u.size : Int) := by omega
        have HS2 : Hid (∀ x ∈ l.take (k + 1), x.tok.t.size + x.tok.u.size ≤ 500) := Lib.hid (fun x hx => by
          rw [HT.out] at hx
          rcases List.mem_append.1 hx with hx | hx
          · exact HS.out x hx
          · rw [List.mem_singleton.1 hx]; exact hs)
        clear hs
        go_wp2_with fail
        go_roundw
        case rel => exact ⟨k + 1, by omega, by go_num, HS2, hb1⟩
        case measure => simp [intOf]; omega
      · have p1 : (500 : Int) < (y.tok.t.size : Int) + (y.tok.u.size : Int) := by omega
        clear hs
        go_wp2_with fail
        go_ret
        exact GreatB.mk _ (fun h => by cases h) hb1
    · have hke : k = l.length := by omega
      have q1 : ¬ (k : Int) < (l.length : Int) := by omega
      have HS2 : Hid (∀ x ∈ l, x.tok.t.size + x.tok.u.size ≤ 500) := Lib.hid (fun x hx => HS.out x (by rw [hke, List.take_length]; exact hx))
      clear hke
      go_wp2_with fail
      refine (Deep_any n _ _ l _ (HD.out.next hb)).mono ?_
      rintro e w2 ⟨b, rfl, hb2⟩
      have hB2 := bNext hb hb2
      cases b with
      | true =>
        go_wp2_with fail
        go_ret
        exact GreatB.mk _ (fun _ => HS2.out) hB2
      | false =>
        go_wp2_with fail
        refine (Count_any n _ _ l (HD.out.next hB2)).mono ?_
        rintro e w3 ⟨c, rfl, hb3⟩
        go_wp2_with fail
        go_ret
        exact GreatB.mk _ (fun _ => HS2.out) (bNext hB2 hb3)
end Go.Proofs.YtpadcjcoafidgaaGreatDoor
/-! The walk of gouachelaw15.ValueBack. -/
namespace Go.Proofs.YtpadcjcoafidgaaGreatDoor
open Go.RowKit

theorem strs_self (a : ByteArray) : (a.toList == a.toList) = true := by simp
theorem part_len (n : Int) (h0 : -1000000 ≤ n) (h1 : n ≤ 1000000) : partS fLen (Val.of (Out.dim n).tok) = some (itoaS n ++ pxS) := by
  rw [part_dimO fLen n h0 h1, if_pos (by decide)]
  unfold toldS
  rw [show Lib.hasSuffix fLen.data.toList plusG.data.toList = false by decide, Bool.and_false]
  rfl
theorem part_lenP (n : Int) (h0 : -1000000 ≤ n) (h1 : n ≤ 1000000) : partS fLenP (Val.of (Out.dim n).tok) = if 0 ≤ n then some (itoaS n ++ pxS) else none := by
  rw [part_dimO fLenP n h0 h1, if_pos (by decide)]
  unfold toldS
  rw [show Lib.hasSuffix fLenP.data.toList plusG.data.toList = true by decide, Bool.and_true]
  by_cases h : 0 ≤ n
  · rw [decide_eq_false (by omega), if_pos h]
    rfl
  · rw [decide_eq_true (by omega), if_neg h]
    rfl
set_option maxRecDepth 100000 in
set_option maxHeartbeats 8000000 in
theorem valueBack_walk (name : ByteArray) (hname : name.size ≤ 281474976710656) (v : Value) (m : Nat) (l : List Val) (n : Int) (w : World) (hl : VD w m v l) (hsz : ∀ x ∈ l, x.tok.t.size ≤ 281474976710656 ∧ x.tok.u.size ≤ 281474976710656) (hB : Base w) :
    Calls Tryz.prog 8 #[.string name, v, .int .i64 n] w fun e w' => e = .returned (.bool true) ∧ Below w.heap.size w w' := by
  have HB := Lib.hid hB
  have HL := Lib.hid hl
  have HZ := Lib.hid hsz
  obtain ⟨va, vc, rfl, -⟩ := hl.vs
  clear hB hl hsz
  by_cases hn : 500 < name.size
  · have q : (500 : Int) < (name.size : Int) := by omega
    go_enter Tryz.func8, Tryz.ntmps8
    go_wp2_with fail
    refine (lives15_any _ HB.out).mono ?_
    rintro e w1 ⟨rfl, hb1⟩
    go_wp2_with fail
    go_ret
    exact ⟨rfl, hb1⟩
  · have q : ¬ (500 : Int) < (name.size : Int) := by omega
    go_enter Tryz.func8, Tryz.ntmps8
    go_wp2_with fail
    refine (great15_any m _ _ l HL.out HZ.out).mono ?_
    rintro e w1 ⟨b, rfl, hs, hb1⟩
    cases b with
    | true =>
      go_wp2_with fail
      refine (lives15_any w1 (HB.out.next hb1)).mono ?_
      rintro e w2 ⟨rfl, hb2⟩
      go_wp2_with fail
      go_ret
      exact ⟨rfl, bNext hb1 hb2⟩
    | false =>
      have hf : ∀ x ∈ l, x.fits := fun x hx => by
        have := hs rfl x hx
        exact ⟨by omega, by omega⟩
      have HFt := Lib.hid hf
      clear hs hf
      go_wp2_with fail
      refine (Parse_any w1 (HB.out.next hb1) name _ l (HL.out.vs.next hb1) HFt.out).mono ?_
      rintro e w2 ⟨rfl, hb2⟩
      have hB2 := bNext hb1 hb2
      cases hp : parseS name l with
      | none =>
        simp only [resS]
        by_cases q8 : n < -1000000
        · go_wp2_with fail
          refine (lives15_any _ (HB.out.next hB2)).mono ?_
          rintro e w20 ⟨rfl, hb20⟩
          go_wp2_with fail
          go_ret
          exact ⟨rfl, bNext hB2 hb20⟩
        · by_cases q9 : 1000000 < n
          · go_wp2_with fail
            refine (lives15_any _ (HB.out.next hB2)).mono ?_
            rintro e w20 ⟨rfl, hb20⟩
            go_wp2_with fail
            go_ret
            exact ⟨rfl, bNext hB2 hb20⟩
          · have n0 : -1000000 ≤ n := by omega
            have n1 : n ≤ 1000000 := by omega
            have HP1 := Lib.hid (part_len n n0 n1)
            have HP2 := Lib.hid (part_lenP n n0 n1)
            have HNm := Lib.hid (fun W => Number_px n n0 n1 W)
            have HF := Lib.hid (out_fits (.dim n) ⟨n0, n1⟩)
            go_wp2_with fail
            refine (digits15_any n n0 n1 _).mono ?_
            rintro e w20 ⟨rfl, rfl⟩
            obtain ⟨z, hz⟩ : ∃ z, itoaS n = z := ⟨_, rfl⟩
            obtain ⟨s9, hs9⟩ : ∃ z, itoaS n ++ pxS = z := ⟨_, rfl⟩
            have hx : (Out.dim n).tok = ⟨12, z, pxS, true, false⟩ := by rw [← hz]; rfl
            rw [hs9] at HP1 HP2 HNm
            rw [hx] at HP1 HP2 HF
            rw [hz]
            clear hz hs9 hx
            go_wp2_with fail
            refine (VPart_any _ (HB.out.next (bNext hB2 (bAlloc1 _ _))) fLen (by decide) (Val.of ⟨12, z, pxS, true, false⟩) HF.out).mono ?_
            rintro e w21 ⟨rfl, hb21⟩
            rw [HP1.out]
            simp only [resS]
            have hB21 := bNext (bNext hB2 (bAlloc1 _ _)) hb21
            have hO21 := ((Own.new w20 #[.int .i64 12, .string z, .string ⟨#[112, 120]⟩, .bool true, .bool false, .slice none 0 0] 26).next hb21).m
            go_wp2_with fail
            refine (VPart_any _ (HB.out.next hB21) fLenP (by decide) (Val.of ⟨12, z, pxS, true, false⟩) HF.out).mono ?_
            rintro e w22 ⟨rfl, hb22⟩
            rw [HP2.out]
            have hB22 := bNext hB21 hb22
            clear hO21
            have p1 : ((pxS : ByteArray).toList == [112, 120]) = true := (toList_lit pxS pxS _ rfl).trans (eqB_self _)
            by_cases hn0 : 0 ≤ n
            · rw [if_pos hn0]
              simp only [resS]
              go_wp2_with fail
              refine (HNm.out _).mono ?_
              rintro e w23 ⟨rfl, hb23⟩
              have hB23 := bNext hB22 hb23
              go_wp2_with fail
              refine (lives15_any w23 (HB.out.next hB23)).mono ?_
              rintro e w24 ⟨rfl, hb24⟩
              go_wp2_with fail
              go_ret
              exact ⟨rfl, bNext hB23 hb24⟩
            · rw [if_neg hn0]
              simp only [resS]
              go_wp2_with fail
              refine (HNm.out _).mono ?_
              rintro e w23 ⟨rfl, hb23⟩
              have hB23 := bNext hB22 hb23
              go_wp2_with fail
              refine (lives15_any w23 (HB.out.next hB23)).mono ?_
              rintro e w24 ⟨rfl, hb24⟩
              go_wp2_with fail
              go_ret
              exact ⟨congrArg (fun b => Ending.returned (Value.bool b)) (show (!decide (0 ≤ n)) = true by rw [decide_eq_false (by omega)]; rfl), bNext hB23 hb24⟩
      | some s =>
        obtain ⟨o, ho, rfl, hpo⟩ := parse_out hp
        have HV := Lib.hid (fun W => values15_any W _ _ (lexes_out o ho))
        have HPo := Lib.hid hpo
        have HFo := Lib.hid (out_fits o ho)
        have hne : eqB o.text noStr = false := by
          cases hq : eqB o.text noStr with
          | false => rfl
          | true =>
            have h1 := (out_size o ho).1
            rw [(eqB_iff _ _).1 hq] at h1
            exact absurd h1 (by decide)
        obtain ⟨z1, z2⟩ := str_ne2 hne
        obtain ⟨s, hs⟩ : ∃ s, o.text = s := ⟨_, rfl⟩
        rw [hs] at HV HPo z1 z2
        simp only [resS, hs]
        have e1 := strs_self s
        clear hp hpo ho hne hs
        go_wp2_with fail
        refine (HV.out _).mono ?_
        rintro e w3 ⟨v3, rfl, hv3, hb3⟩
        obtain ⟨a3, c3, rfl, -⟩ := id hv3
        have hB3 := bNext hB2 hb3
        go_wp2_with fail
        refine (Parse_any w3 (HB.out.next hB3) name _ [Val.of o.tok] hv3 (fun x hx => by rw [List.mem_singleton.1 hx]; exact HFo.out)).mono ?_
        rintro e w4 ⟨rfl, hb4⟩
        rw [HPo.out]
        simp only [resS]
        have hB4 := bNext hB3 hb4
        clear hv3
        by_cases q8 : n < -1000000
        · go_wp2_with fail
          refine (lives15_any _ (HB.out.next hB4)).mono ?_
          rintro e w20 ⟨rfl, hb20⟩
          go_wp2_with fail
          go_ret
          exact ⟨rfl, bNext hB4 hb20⟩
        · by_cases q9 : 1000000 < n
          · go_wp2_with fail
            refine (lives15_any _ (HB.out.next hB4)).mono ?_
            rintro e w20 ⟨rfl, hb20⟩
            go_wp2_with fail
            go_ret
            exact ⟨rfl, bNext hB4 hb20⟩
          · have n0 : -1000000 ≤ n := by omega
            have n1 : n ≤ 1000000 := by omega
            have HP1 := Lib.hid (part_len n n0 n1)
            have HP2 := Lib.hid (part_lenP n n0 n1)
            have HNm := Lib.hid (fun W => Number_px n n0 n1 W)
            have HF := Lib.hid (out_fits (.dim n) ⟨n0, n1⟩)
            go_wp2_with fail
            refine (digits15_any n n0 n1 _).mono ?_
            rintro e w20 ⟨rfl, rfl⟩
            obtain ⟨z, hz⟩ : ∃ z, itoaS n = z := ⟨_, rfl⟩
            obtain ⟨s9, hs9⟩ : ∃ z, itoaS n ++ pxS = z := ⟨_, rfl⟩
            have hx : (Out.dim n).tok = ⟨12, z, pxS, true, false⟩ := by rw [← hz]; rfl
            rw [hs9] at HP1 HP2 HNm
            rw [hx] at HP1 HP2 HF
            rw [hz]
            clear hz hs9 hx
            go_wp2_with fail
            refine (VPart_any _ (HB.out.next (bNext hB4 (bAlloc1 _ _))) fLen (by decide) (Val.of ⟨12, z, pxS, true, false⟩) HF.out).mono ?_
            rintro e w21 ⟨rfl, hb21⟩
            rw [HP1.out]
            simp only [resS]
            have hB21 := bNext (bNext hB4 (bAlloc1 _ _)) hb21
            have hO21 := ((Own.new w20 #[.int .i64 12, .string z, .string ⟨#[112, 120]⟩, .bool true, .bool false, .slice none 0 0] 26).next hb21).m
            go_wp2_with fail
            refine (VPart_any _ (HB.out.next hB21) fLenP (by decide) (Val.of ⟨12, z, pxS, true, false⟩) HF.out).mono ?_
            rintro e w22 ⟨rfl, hb22⟩
            rw [HP2.out]
            have hB22 := bNext hB21 hb22
            clear hO21
            have p1 : ((pxS : ByteArray).toList == [112, 120]) = true := (toList_lit pxS pxS _ rfl).trans (eqB_self _)
            by_cases hn0 : 0 ≤ n
            · rw [if_pos hn0]
              simp only [resS]
              go_wp2_with fail
              refine (HNm.out _).mono ?_
              rintro e w23 ⟨rfl, hb23⟩
              have hB23 := bNext hB22 hb23
              go_wp2_with fail
              refine (lives15_any w23 (HB.out.next hB23)).mono ?_
              rintro e w24 ⟨rfl, hb24⟩
              go_wp2_with fail
              go_ret
              exact ⟨rfl, bNext hB23 hb24⟩
            · rw [if_neg hn0]
              simp only [resS]
              go_wp2_with fail
              refine (HNm.out _).mono ?_
              rintro e w23 ⟨rfl, hb23⟩
              have hB23 := bNext hB22 hb23
              go_wp2_with fail
              refine (lives15_any w23 (HB.out.next hB23)).mono ?_
              rintro e w24 ⟨rfl, hb24⟩
              go_wp2_with fail
              go_ret
              exact ⟨congrArg (fun b => Ending.returned (Value.bool b)) (show (!decide (0 ≤ n)) = true by rw [decide_eq_false (by omega)]; rfl), bNext hB23 hb24⟩
end Go.Proofs.YtpadcjcoafidgaaGreatDoor
/-! What a call's arguments hold: slices and structs of the reader's data, opened into rows of cells; the reach of what was read; arguments that read as they did. Over any program. -/
namespace Go.Proofs.YtpadcjcoafidgaaGreatDoor
open Go.RowKit Go.ChangeShapes Go.WideShapes

section
variable {H : Type} {enc : TypeId × Value → H} {P : Program} {W : World} {base : Nat} {sp : Nat → Bool} {held : Bool}

theorem mapM_get {α β : Type} {f : α → Option β} : ∀ {l : List α} {r : List β}, l.mapM f = some r → ∀ (i : Nat) (a : α), l[i]? = some a → ∃ b, r[i]? = some b ∧ f a = some b
  | [], _, _, i, a, hi => by simp at hi
  | x :: l, r, h, i, a, hi => by
    rw [List.mapM_cons] at h
    simp only [bind, Option.bind_eq_some_iff, pure, Option.some.injEq] at h
    obtain ⟨b, hb, r', hr, rfl⟩ := h
    cases i with
    | zero =>
      simp only [List.getElem?_cons_zero, Option.some.injEq] at hi
      subst hi
      exact ⟨b, rfl, hb⟩
    | succ i => exact mapM_get hr i a (by simpa using hi)
theorem mapM_len {α β : Type} {f : α → Option β} : ∀ {l : List α} {r : List β}, l.mapM f = some r → r.length = l.length
  | [], r, h => by
    simp at h
    subst h
    rfl
  | x :: l, r, h => by
    rw [List.mapM_cons] at h
    simp only [bind, Option.bind_eq_some_iff, pure, Option.some.injEq] at h
    obtain ⟨b, hb, r', hr, rfl⟩ := h
    simp [mapM_len hr]
/-- A struct: its fields, one by one. -/
theorem open_fields {t : TypeId} {fs : Array Field} {fuel : Nat} {cs : List Value} {x : DataW H × List MemPlace} (ht : P.underlying t = some (.struct fs)) (h : DataW.trod enc P W base sp held fuel t cs = some x) :
    ∃ (n : Nat) (ds : List (DataW H)), fuel = n + 1 ∧ cs.length = P.cellsOf t ∧ x.1 = .agg ds ∧ ds.length = fs.toList.length ∧
      ∀ (i : Nat) (f : Field), fs.toList[i]? = some f → ∃ y, ds[i]? = some y.1 ∧ DataW.trod enc P W base sp held n f.type ((cs.drop f.offset).take (P.cellsOf f.type)) = some y := by
  cases fuel with
  | zero => simp [DataW.trod] at h
  | succ n =>
    rw [DataW.trod_step] at h
    unfold DataW.trodStep at h
    simp only [ht] at h
    split at h
    · rename_i hl
      obtain ⟨xs, hx, rfl⟩ := Option.map_eq_some_iff.1 h
      refine ⟨n, xs.map (·.1), rfl, hl, rfl, by rw [List.length_map]; exact mapM_len hx, fun i f hf => ?_⟩
      obtain ⟨y, hy, hr⟩ := mapM_get hx i f hf
      exact ⟨y, by rw [List.getElem?_map, hy]; rfl, hr⟩
    · cases h
/-- A slice: its elements' rows of cells. -/
structure Rows0 (P : Program) (W : World) (e : TypeId) (v : Value) (rows : List (List Value)) : Prop where
  shape : ∃ a cap, v = .slice a rows.length cap ∧ rows.length ≤ cap ∧
    (rows ≠ [] → ∃ b off, a = some ⟨b, off, none⟩ ∧ b < W.heap.size ∧ ∀ (i j : Nat) (u : Value), (rows[i]?.getD [])[j]? = some u → W.cell? ⟨b, off + i * P.cellsOf e + j, none⟩ = some u)
  len : ∀ r ∈ rows, r.length = P.cellsOf e
theorem spot_none {a : Addr} {n : Nat} {u : Value} (h : W.cell? (a.add n) = some u) (hn : n = 0) : a.spot = none := by
  subst hn
  unfold Addr.add at h
  rw [if_pos rfl] at h
  unfold World.cell? at h
  split at h
  · split at h
    · cases h
    · rename_i hs
      simpa using hs
  · cases h
theorem open_elems {t e : TypeId} {fuel : Nat} {cs : List Value} {x : DataW H × List MemPlace} (ht : P.underlying t = some (.slice e)) (hpos : 0 < P.cellsOf e)
    (h : DataW.trod enc P W base sp held fuel t cs = some x) :
    ∃ (n : Nat) (v : Value) (rows : List (List Value)) (ds : List (DataW H)), fuel = n + 1 ∧ cs = [v] ∧ Rows0 P W e v rows ∧ ds.length = rows.length ∧ (x.1 = .nil ∧ rows = [] ∨ ∃ rest, x.1 = .slice ds rest) ∧
      ∀ (i : Nat) (r : List Value), rows[i]? = some r → ∃ y, ds[i]? = some y.1 ∧ DataW.trod enc P W base sp held n e r = some y := by
  rcases DataW.trod_slice ht h with ⟨rfl, rfl⟩ | ⟨a, len, cap, elems, rest, n, rfl, rfl, rfl, hb, hl, hm, hlen, hel, -, -⟩
  · cases fuel with
    | zero => simp [DataW.trod] at h
    | succ n => exact ⟨n, _, [], [], rfl, rfl, ⟨⟨none, 0, rfl, Nat.le_refl _, fun h => absurd rfl h⟩, fun r hr => by cases hr⟩, rfl, .inl ⟨rfl, rfl⟩, fun i r hr => by simp at hr⟩
  · have key : ∀ i, i < len → ∃ r y, W.cells? base (a.add (i * P.cellsOf e)) (P.cellsOf e) = some r ∧ elems[i]? = some y ∧ DataW.trod enc P W base sp held n e r = some y := by
      intro i hi
      have h1 := hel i hi
      rw [List.getElem?_eq_getElem (by omega), Option.bind_eq_some_iff] at h1
      obtain ⟨r, h1, h2⟩ := h1
      exact ⟨r, _, h1, List.getElem?_eq_getElem (by omega), h2⟩
    refine ⟨n, _, (List.range len).map fun i => (W.cells? base (a.add (i * P.cellsOf e)) (P.cellsOf e)).getD [], elems.map (·.1), rfl, rfl, ⟨⟨some a, cap, by simp, by simpa using hl, fun hne => ?_⟩, ?_⟩, by simp [hlen], .inr ⟨_, rfl⟩, ?_⟩
    · have hl0 : 0 < len := by
        rcases Nat.eq_zero_or_pos len with h0 | h0
        · rw [h0] at hne; exact absurd rfl hne
        · exact h0
      obtain ⟨r0, y0, h0, -, -⟩ := key 0 hl0
      obtain ⟨_, hl1, hc⟩ := World.cells?_some h0
      have h2 := hc 0 hpos
      have hlt := World.cells?_block h0 hpos
      obtain ⟨u, hu⟩ : ∃ u, r0[0]? = some u := ⟨_, List.getElem?_eq_getElem (by omega)⟩
      rw [hu, Nat.zero_mul] at h2
      have hs : a.spot = none := by
        have e0 : a.add 0 = a := by unfold Addr.add; rw [if_pos rfl]
        rw [e0] at h2
        exact spot_none (n := 0) h2 rfl
      obtain ⟨b, off, spot⟩ := a
      simp only at hs
      subst hs
      rw [add_plain] at hlt
      refine ⟨b, off, rfl, hlt, fun i j u hu => ?_⟩
      by_cases hi : i < len
      · obtain ⟨r, y, h1, -, -⟩ := key i hi
        rw [List.getElem?_map, List.getElem?_range hi] at hu
        simp only [Option.map_some, Option.getD_some, h1] at hu
        obtain ⟨_, hl1, hc⟩ := World.cells?_some h1
        have hj : j < P.cellsOf e := by rw [← hl1]; exact (List.getElem?_eq_some_iff.1 hu).1
        have h3 := hc j hj
        rw [hu, add_plain, add_plain] at h3
        exact h3
      · rw [List.getElem?_map, List.getElem?_eq_none (show (List.range len).length ≤ i by rw [List.length_range]; omega)] at hu
        simp at hu
    · intro r hr
      obtain ⟨i, hi, rfl⟩ := List.mem_map.1 hr
      obtain ⟨r, y, h1, -, -⟩ := key i (List.mem_range.1 hi)
      rw [h1]
      exact (World.cells?_some h1).2.1
    · intro i r hr
      have hi : i < len := by
        have := (List.getElem?_eq_some_iff.1 hr).1
        simpa using this
      obtain ⟨r', y, h1, h2, h3⟩ := key i hi
      rw [List.getElem?_map, List.getElem?_range hi] at hr
      simp only [Option.map_some, h1, Option.getD_some, Option.some.injEq] at hr
      subst hr
      exact ⟨y, by rw [List.getElem?_map, h2]; rfl, h3⟩
/-- WHAT WAS READ IS WITHIN THE REACH. -/
def Small (P : Program) (t : TypeId) (d : DataW H) : Prop := ∀ n ∈ d.weights P t, n ≤ reachBytes
theorem small_arg {ts : List TypeId} {ds : List (DataW H)} (h : (DataW.weightsEach P ts ds).all (· ≤ reachBytes) = true) {j : Nat} {t : TypeId} {d : DataW H} (ht : ts[j]? = some t) (hd : ds[j]? = some d) : Small P t d := by
  intro n hn
  have := List.all_eq_true.1 h _ (DataW.weights_mem_each ht hd n hn)
  simpa using this
theorem small_field {t : TypeId} {fs : Array Field} {parts : List (DataW H)} (ht : P.underlying t = some (.struct fs)) (h : Small P t (.agg parts)) {i : Nat} {f : Field} {d : DataW H} (hf : fs.toList[i]? = some f) (hd : parts[i]? = some d) : Small P f.type d := by
  intro n hn
  refine h n ?_
  simp only [DataW.weights, ht]
  exact DataW.weights_mem_each (by rw [List.getElem?_map, hf]; rfl) hd n hn
theorem small_mem {e : TypeId} : ∀ {ds : List (DataW H)} {i : Nat} {d : DataW H}, ds[i]? = some d → ∀ n ∈ d.weights P e, n ∈ DataW.weightsAll P e ds
  | [], _, _, hd, _, _ => by simp at hd
  | d0 :: ds, 0, d, hd, n, hn => by
    simp only [List.getElem?_cons_zero, Option.some.injEq] at hd
    subst hd
    simp only [DataW.weightsAll, List.mem_append]
    exact .inl hn
  | d0 :: ds, i + 1, d, hd, n, hn => by
    simp only [DataW.weightsAll, List.mem_append]
    exact .inr (small_mem (by simpa using hd) n hn)
theorem small_elem {t e : TypeId} {elems rest : List (DataW H)} (ht : P.underlying t = some (.slice e)) (h : Small P t (.slice elems rest)) {i : Nat} {d : DataW H} (hd : elems[i]? = some d) : Small P e d := by
  intro n hn
  refine h n ?_
  simp only [DataW.weights, ht, List.mem_cons, List.mem_append]
  exact .inr (.inl (small_mem hd n hn))
theorem small_len {t e : TypeId} {elems rest : List (DataW H)} (ht : P.underlying t = some (.slice e)) (h : Small P t (.slice elems rest)) : elems.length * P.bytesOf e ≤ 140737488351232 := by
  have := h ((elems.length + rest.length) * P.bytesOf e) (by simp [DataW.weights, ht])
  rw [Nat.add_mul] at this
  unfold reachBytes at this
  omega
theorem small_string {t : TypeId} {l : List UInt8} (h : Small P t (.lit (.string l) : DataW H)) : l.length ≤ 140737488351232 := by
  have := h l.length (by simp [DataW.weights])
  unfold reachBytes at this
  omega
/-- ARGUMENTS READ AS THEY DID where nothing old has turned. -/
theorem trodAll_below (hl : laidOutB P = true) {W' : World} (hb : Below W.heap.size W W') : ∀ {ts : List TypeId} {vs : List Value} {ds : List (DataW H)} {ps : List MemPlace},
    (∀ t ∈ ts, P.readableRec t = true ∧ t < P.types.size) → DataW.TrodAll enc P W 0 (fun _ => true) true ts vs ds ps → (∀ x ∈ ps, x.block < W.heap.size) →
    DataW.TrodAll enc P W' 0 (fun b => decide (b < W.heap.size)) true ts vs ds ps
  | [], vs, ds, ps, _, h, _ => by
    obtain ⟨rfl, rfl, rfl⟩ := trodAll_nil h
    exact trodAll_mk0
  | t :: ts, vs, ds, ps, hr, h, hlt => by
    obtain ⟨v, vs, d, ds, p, q, rfl, rfl, rfl, h1, h2⟩ := trodAll_cons h
    obtain ⟨r1, r2⟩ := hr t (List.mem_cons_self ..)
    exact ⟨p, q, Below.trod hl r1 r2 h1 hb (fun x hx => hlt x (List.mem_append_left _ hx)), trodAll_below hl hb (fun t ht => hr t (List.mem_cons_of_mem _ ht)) h2 (fun x hx => hlt x (List.mem_append_right _ hx)), rfl⟩
end
end Go.Proofs.YtpadcjcoafidgaaGreatDoor
/-! What the rows of this seat share: a world in which the listed variables lie as the program's text lays them. -/
namespace Go.Proofs.YtpadcjcoafidgaaGreatDoor
open Go.ChangeShapes Go.WideShapes Go.ChangeAt Go.RowKit

theorem ownKnob_none : ownKnob Tryz.prog.godebug = none := by kernel_rfl
def colourCells : List Value := (colourTbl.map fun p => [Value.string p.1, Value.string p.2]).flatten
theorem colourCells_at : ∀ i : Fin 8, colourCells[i.val * 2]? = some (.string (colourAt i.val).1) ∧ colourCells[i.val * 2 + 1]? = some (.string (colourAt i.val).2)
  | ⟨0, _⟩ => ⟨rfl, rfl⟩
  | ⟨1, _⟩ => ⟨rfl, rfl⟩
  | ⟨2, _⟩ => ⟨rfl, rfl⟩
  | ⟨3, _⟩ => ⟨rfl, rfl⟩
  | ⟨4, _⟩ => ⟨rfl, rfl⟩
  | ⟨5, _⟩ => ⟨rfl, rfl⟩
  | ⟨6, _⟩ => ⟨rfl, rfl⟩
  | ⟨7, _⟩ => ⟨rfl, rfl⟩
theorem coloursIn_of_laid {w : World} {l : List (String × DataW Unit)} (h : laidMet Tryz.prog l w) (hm : ("gouache/value.colours", Rows.laid_gouache_value_colours) ∈ l) : ColoursIn w := by
  obtain ⟨ty, fr, hh⟩ := var_of_laid h hm (g := 0) (t := 78) (by kernel_rfl) (by kernel_rfl) 5 (cs := colourCells) (by kernel_rfl)
  refine ⟨(Array.getElem?_eq_some_iff.1 hh).1, fun i hi => ?_⟩
  have := colourCells_at ⟨i, hi⟩
  simp only [World.cell?, hh]
  exact ⟨by simpa using this.1, by simpa using this.2⟩
theorem powIs_of_laid {w : World} {l : List (String × DataW Unit)} (h : laidMet Tryz.prog l w) (hm : ("internal/strconv.uint64pow10", Rows.laid_internal_strconv_uint64pow10) ∈ l) : Lib.TabIs Tryz.prog w "internal/strconv.uint64pow10" .u64 Lib.pow10Tab := by
  obtain ⟨ty, fr, hh⟩ := var_of_laid h hm (g := 4) (t := 200) (by kernel_rfl) (by kernel_rfl) 5 (cs := Lib.pow10Tab.map fun z => Value.int .u64 z) (by kernel_rfl)
  have hg : Tryz.prog.globalNamed "internal/strconv.uint64pow10" = some 4 := by kernel_rfl
  unfold Lib.TabIs World.var?
  rw [hg]
  simp [hh]
theorem base_of_laid {w : World} {l : List (String × DataW Unit)} (h : laidMet Tryz.prog l w) (hm : ("gouache/value.colours", Rows.laid_gouache_value_colours) ∈ l) (hp : ("internal/strconv.uint64pow10", Rows.laid_internal_strconv_uint64pow10) ∈ l) : Base w :=
  ⟨coloursIn_of_laid h hm, powIs_of_laid h hp⟩

/-- The cells of a variable, of its name, by the datum beside it. -/
noncomputable def cellsAs (g : Nat) (d : DataW Unit) : Array Value := ((plainAt Tryz.prog 8 (((Tryz.prog.globals[g]?).map (·.type)).getD 0) d).getD []).toArray
noncomputable def setVar (g : Nat) (d : DataW Unit) (h : Array Obj) : Array Obj := h.modify g fun
  | .cells _ t frozen => .cells (cellsAs g d) t frozen
  | o => o
/-- A world in which the listed variables lie as the program's text lays them. -/
noncomputable def laidWorld (os : Os) : World :=
  { World.holding Tryz.prog os ⟨#[], #[], []⟩ with heap := setVar 6 Rows.laid_unicode_utf8_acceptRanges (setVar 5 Rows.laid_unicode_utf8_first (setVar 2 Rows.laid_gouache_prop_shorts (setVar 0 Rows.laid_gouache_value_colours (setVar 4 Rows.laid_internal_strconv_uint64pow10 (setVar 7 Rows.laid_math_bits_deBruijn32tab (setVar 8 Rows.laid_math_bits_deBruijn64tab (setVar 1 Rows.laid_gouache_short_sides (World.holding Tryz.prog os ⟨#[], #[], []⟩).heap))))))) }
end Go.Proofs.YtpadcjcoafidgaaGreatDoor
/-! The arguments of this seat's laws, opened: texts, values with their kids, declarations; listed variables. -/
namespace Go.Proofs.YtpadcjcoafidgaaGreatDoor
open Go.RowKit Go.ChangeShapes Go.WideShapes Go.ChangeAt

section
variable {H : Type} {enc : TypeId × Value → H} {W : World} {base : Nat} {sp : Nat → Bool} {held : Bool}

theorem cells_string : Tryz.prog.cellsOf 9 = 1 := by kernel_rfl
theorem cells_val : Tryz.prog.cellsOf 26 = 6 := by kernel_rfl
theorem cells_tok : Tryz.prog.cellsOf 23 = 5 := by kernel_rfl
theorem cells_int : Tryz.prog.cellsOf 3 = 1 := by kernel_rfl
theorem cells_bool : Tryz.prog.cellsOf 4 = 1 := by kernel_rfl
theorem cells_vals : Tryz.prog.cellsOf 24 = 1 := by kernel_rfl
theorem bytes_val : Tryz.prog.bytesOf 26 = 72 := by kernel_rfl
theorem bytes_string : Tryz.prog.bytesOf 9 = 16 := by kernel_rfl
theorem laid_out : laidOutB Tryz.prog = true := by kernel_rfl
theorem trod_str1 {fuel : Nat} {v : Value} {x : DataW H × List MemPlace} (h : DataW.trod enc Tryz.prog W base sp held fuel 9 [v] = some x) : ∃ s : ByteArray, v = .string s ∧ x.1 = .lit (.string s.data.toList) := by
  obtain ⟨s, h1, rfl, -⟩ := DataW.trod_string Tryz.underlying9 h
  exact ⟨s, by simpa using h1, rfl⟩
theorem trod_int1 {fuel : Nat} {v : Value} {x : DataW H × List MemPlace} (h : DataW.trod enc Tryz.prog W base sp held fuel 3 [v] = some x) : ∃ n : Int, v = .int .i64 n := by
  obtain ⟨n, h1, -, -⟩ := DataW.trod_int Tryz.underlying3 h
  exact ⟨n, by simpa using h1⟩
theorem trod_bool1 {fuel : Nat} {v : Value} {x : DataW H × List MemPlace} (h : DataW.trod enc Tryz.prog W base sp held fuel 4 [v] = some x) : ∃ b : Bool, v = .bool b := by
  cases fuel with
  | zero => simp [DataW.trod] at h
  | succ n =>
    rw [DataW.trod_step] at h
    unfold DataW.trodStep at h
    simp only [Tryz.underlying4] at h
    split at h <;> simp_all
theorem size_toList (s : ByteArray) : s.data.toList.length = s.size := by rw [Array.length_toList]; rfl
/-- '[]string'. -/
theorem open_ss {fuel : Nat} {v : Value} {x : DataW H × List MemPlace} (h : DataW.trod enc Tryz.prog W base sp held fuel 42 [v] = some x) (hs : Small Tryz.prog 42 x.1) :
    ∃ l, Ss W v l ∧ l.length ≤ 140737488351232 ∧ ∀ s ∈ l, s.size ≤ 140737488351232 := by
  obtain ⟨n, v', rows, ds, -, e, hr, hl, hd, hx⟩ := open_elems Tryz.underlying42 (by rw [cells_string]; decide) h
  cases e
  have key : ∀ i, i < rows.length → ∃ s : ByteArray, rows[i]? = some [.string s] ∧ s.size ≤ 140737488351232 := by
    intro i hi
    obtain ⟨y, h1, h2⟩ := hx i rows[i] (List.getElem?_eq_getElem hi)
    have hlen := hr.len rows[i] (List.getElem_mem hi)
    rw [cells_string] at hlen
    obtain ⟨u, hu⟩ := List.length_eq_one_iff.1 hlen
    rw [hu] at h2
    obtain ⟨s, rfl, h3⟩ := trod_str1 h2
    refine ⟨s, by rw [List.getElem?_eq_getElem hi, hu], ?_⟩
    rcases hd with ⟨-, h0⟩ | ⟨rest, h0⟩
    · rw [h0] at hi; simp at hi
    · rw [h0] at hs
      have h4 := small_elem Tryz.underlying42 hs h1
      rw [h3] at h4
      have := small_string h4
      rwa [size_toList] at this
  obtain ⟨f, hf⟩ := Classical.axiomOfChoice (r := fun (i : Fin rows.length) (s : ByteArray) => rows[i.val]? = some [.string s] ∧ s.size ≤ 140737488351232) (fun i => key i.val i.isLt)
  have hlen : (List.ofFn f).length = rows.length := List.length_ofFn
  obtain ⟨a, cap, rfl, hcap, hc⟩ := hr.shape
  refine ⟨List.ofFn f, ⟨a, cap, by rw [hlen], by rw [hlen]; exact hcap, fun hne => ?_⟩, ?_, ?_⟩
  · obtain ⟨b, off, rfl, hb, hcell⟩ := hc (by intro e; exact hne (List.eq_nil_of_length_eq_zero (hlen.trans (by rw [e]; rfl))))
    refine ⟨b, off, rfl, hb, fun i hi => ?_⟩
    have hi' : i < rows.length := by rw [← hlen]; exact hi
    have h1 := hcell i 0 (.string (f ⟨i, hi'⟩)) (by rw [(hf ⟨i, hi'⟩).1]; rfl)
    rw [cells_string, Nat.mul_one, Nat.add_zero] at h1
    rw [h1, List.getElem_ofFn]
  · rw [hlen]
    rcases hd with ⟨-, h0⟩ | ⟨rest, h0⟩
    · rw [h0]; exact Nat.zero_le _
    · rw [h0] at hs
      have := small_len Tryz.underlying42 hs
      rw [bytes_string] at this
      omega
  · intro s hs'
    obtain ⟨i, rfl⟩ := List.mem_ofFn.1 hs'
    exact (hf i).2
set_option maxRecDepth 100000 in
theorem ss_of {r : Reach} {b0 : Nat} {v : Value} {d : DataW H} {ps : List MemPlace} (hval : Value.okWide Tryz.prog W r b0 42 v) (h : DataW.Trod enc Tryz.prog W base sp held 42 v d ps) (hs : Small Tryz.prog 42 d) : ∃ l, Ss W v l ∧ l.length ≤ 140737488351232 ∧ ∀ s ∈ l, s.size ≤ 140737488351232 := by
  obtain ⟨n, hn⟩ := h
  obtain ⟨a, len, cap, rfl⟩ := okWide_slice Tryz.underlying42 hval
  exact open_ss hn hs
theorem arr2 : Go.WideMaps.ArrKey Tryz.prog 43 3 2 := ⟨Tryz.underlying43, by kernel_rfl, cells_int, by kernel_rfl⟩
/-- A value's token is short enough. -/
def Val.Sm (x : Val) : Prop := x.tok.t.size ≤ 140737488351232 ∧ x.tok.u.size ≤ 140737488351232
theorem VD.up {w : World} : ∀ {n : Nat} {v : Value} {l : List Val}, VD w n v l → VD w (n + 1) v l
  | 0, _, _, h => h.elim
  | n + 1, v, l, ⟨h1, h2⟩ => ⟨h1, fun x hx => by
    obtain ⟨l', h⟩ := h2 x hx
    exact ⟨l', VD.up h⟩⟩
set_option maxRecDepth 100000 in
/-- A token's cells. -/
theorem open_tok {fuel : Nat} {cs : List Value} {x : DataW H × List MemPlace} (h : DataW.trod enc Tryz.prog W base sp held fuel 23 cs = some x) (hs : Small Tryz.prog 23 x.1) :
    ∃ t : Tok, cs = t.row ∧ t.t.size ≤ 140737488351232 ∧ t.u.size ≤ 140737488351232 := by
  obtain ⟨n, ds, -, hl, hx, -, hf⟩ := open_fields Tryz.underlying23 h
  rw [cells_tok] at hl
  obtain ⟨c0, c1, c2, c3, c4, rfl⟩ : ∃ a b c d e, cs = [a, b, c, d, e] := by
    match cs, hl with
    | [a, b, c, d, e], _ => exact ⟨a, b, c, d, e, rfl⟩
  rw [hx] at hs
  obtain ⟨y0, -, h0⟩ := hf 0 _ rfl
  obtain ⟨y1, d1, h1⟩ := hf 1 _ rfl
  obtain ⟨y2, d2, h2⟩ := hf 2 _ rfl
  obtain ⟨y3, -, h3⟩ := hf 3 _ rfl
  obtain ⟨y4, -, h4⟩ := hf 4 _ rfl
  simp only [cells_int, cells_string, cells_bool, List.drop_zero, List.drop_succ_cons, List.take_succ_cons, List.take_zero] at h0 h1 h2 h3 h4
  obtain ⟨k, rfl⟩ := trod_int1 h0
  obtain ⟨s1, rfl, e1⟩ := trod_str1 h1
  obtain ⟨s2, rfl, e2⟩ := trod_str1 h2
  obtain ⟨b3, rfl⟩ := trod_bool1 h3
  obtain ⟨b4, rfl⟩ := trod_bool1 h4
  have m1 := small_field Tryz.underlying23 hs (i := 1) rfl d1
  have m2 := small_field Tryz.underlying23 hs (i := 2) rfl d2
  rw [e1] at m1
  rw [e2] at m2
  have m1 := small_string m1
  have m2 := small_string m2
  rw [size_toList] at m1 m2
  exact ⟨⟨k, s1, s2, b3, b4⟩, rfl, m1, m2⟩
set_option maxRecDepth 100000 in
/-- A value's cells; '[]api.Value', to whatever depth. -/
theorem open_vals : ∀ (fuel : Nat) (v : Value) (x : DataW H × List MemPlace), DataW.trod enc Tryz.prog W base sp held fuel 24 [v] = some x → Small Tryz.prog 24 x.1 →
    ∃ l, VD W fuel v l ∧ ∀ y ∈ l, y.Sm
  | 0, _, _, h, _ => by simp [DataW.trod] at h
  | 1, v, x, h, hs => by
    obtain ⟨n, v', rows, ds, hn, e, hr, hl, hd, hx⟩ := open_elems Tryz.underlying24 (by rw [cells_val]; decide) h
    obtain rfl : n = 0 := by omega
    cases e
    have h0 : rows = [] := by
      cases rows with
      | nil => rfl
      | cons r rows =>
        obtain ⟨y, -, h2⟩ := hx 0 r rfl
        simp [DataW.trod] at h2
    subst h0
    obtain ⟨a, cap, rfl, hcap, -⟩ := hr.shape
    exact ⟨[], ⟨⟨a, cap, rfl, hcap, Nat.zero_le _, fun h => absurd rfl h⟩, fun x hx => by cases hx⟩, fun y hy => by cases hy⟩
  | fuel + 2, v, x, h, hs => by
    obtain ⟨n, v', rows, ds, hn, e, hr, hl, hd, hx⟩ := open_elems Tryz.underlying24 (by rw [cells_val]; decide) h
    obtain rfl : n = fuel + 1 := by omega
    cases e
    have key : ∀ i, i < rows.length → ∃ y : Val, rows[i]? = some y.row ∧ y.Sm ∧ ∃ l', VD W (fuel + 1) y.kids l' := by
      intro i hi
      obtain ⟨y, h1, h2⟩ := hx i rows[i] (List.getElem?_eq_getElem hi)
      have hsy : Small Tryz.prog 26 y.1 := by
        rcases hd with ⟨-, h0⟩ | ⟨rest, h0⟩
        · rw [h0] at hi; simp at hi
        · rw [h0] at hs
          exact small_elem Tryz.underlying24 hs h1
      obtain ⟨n, ds', hn, hl6, hx', -, hf⟩ := open_fields Tryz.underlying26 h2
      obtain rfl : n = fuel := by omega
      rw [cells_val] at hl6
      rw [hx'] at hsy
      obtain ⟨y0, d0, h0⟩ := hf 0 _ rfl
      obtain ⟨y1, d1, h1'⟩ := hf 1 _ rfl
      have s0 := small_field Tryz.underlying26 hsy (i := 0) rfl d0
      have s1 := small_field Tryz.underlying26 hsy (i := 1) rfl d1
      obtain ⟨c0, c1, c2, c3, c4, c5, hrow⟩ : ∃ a b c d e f, rows[i] = [a, b, c, d, e, f] := by
        generalize rows[i] = r at hl6
        match r, hl6 with
        | [a, b, c, d, e, f], _ => exact ⟨a, b, c, d, e, f, rfl⟩
      simp only [hrow, cells_tok, cells_vals, List.drop_zero, List.drop_succ_cons, List.take_succ_cons, List.take_zero] at h0 h1'
      obtain ⟨t, ht, m1, m2⟩ := open_tok h0 s0
      obtain ⟨l', hV, -⟩ := open_vals n c5 y1 h1' s1
      have hV1 := hV.vs
      obtain ⟨a, cap, e5, -⟩ := hV1
      refine ⟨⟨t, a, l'.length, cap⟩, ?_, ⟨m1, m2⟩, l', ?_⟩
      · rw [List.getElem?_eq_getElem hi, hrow, e5]
        show _ = some (t.row ++ _)
        rw [← ht]
        rfl
      · show VD W (n + 1) (.slice a l'.length cap) l'
        rw [← e5]
        exact hV.up
    obtain ⟨f, hf⟩ := Classical.axiomOfChoice (r := fun (i : Fin rows.length) (y : Val) => rows[i.val]? = some y.row ∧ y.Sm ∧ ∃ l', VD W (fuel + 1) y.kids l') (fun i => key i.val i.isLt)
    have hlen : (List.ofFn f).length = rows.length := List.length_ofFn
    obtain ⟨a, cap, rfl, hcap, hc⟩ := hr.shape
    refine ⟨List.ofFn f, ⟨⟨a, cap, by rw [hlen], by rw [hlen]; exact hcap, ?_, fun hne => ?_⟩, fun y hy => ?_⟩, fun y hy => ?_⟩
    · rw [hlen]
      rcases hd with ⟨-, h0⟩ | ⟨rest, h0⟩
      · rw [h0]; exact Nat.zero_le _
      · rw [h0] at hs
        have := small_len Tryz.underlying24 hs
        rw [bytes_val] at this
        omega
    · obtain ⟨b, off, rfl, hb, hcell⟩ := hc (by intro e; exact hne (List.eq_nil_of_length_eq_zero (hlen.trans (by rw [e]; rfl))))
      refine ⟨b, off, rfl, hb, fun i hi j u hu => ?_⟩
      have hi' : i < rows.length := by rw [← hlen]; exact hi
      rw [List.getElem_ofFn] at hu
      have h1 := hcell i j u (by rw [(hf ⟨i, hi'⟩).1]; exact hu)
      rw [cells_val] at h1
      exact h1
    · obtain ⟨i, rfl⟩ := List.mem_ofFn.1 hy
      exact (hf i).2.2
    · obtain ⟨i, rfl⟩ := List.mem_ofFn.1 hy
      exact (hf i).2.1
set_option maxRecDepth 100000 in
theorem vals_of {r : Reach} {b0 : Nat} {v : Value} {d : DataW H} {ps : List MemPlace} (hval : Value.okWide Tryz.prog W r b0 24 v) (h : DataW.Trod enc Tryz.prog W base sp held 24 v d ps) (hs : Small Tryz.prog 24 d) :
    ∃ m l, VD W m v l ∧ ∀ y ∈ l, y.Sm := by
  obtain ⟨n, hn⟩ := h
  obtain ⟨a, len, cap, rfl⟩ := okWide_slice Tryz.underlying24 hval
  obtain ⟨l, h1, h2⟩ := open_vals n _ _ hn hs
  exact ⟨n, l, h1, h2⟩
set_option maxRecDepth 100000 in
/-- One value's cells. -/
theorem open_val {fuel : Nat} {cs : List Value} {x : DataW H × List MemPlace} (h : DataW.trod enc Tryz.prog W base sp held fuel 26 cs = some x) (hs : Small Tryz.prog 26 x.1) :
    ∃ y : Val, cs = y.row ∧ y.Sm ∧ ∃ m l', VD W m y.kids l' := by
  obtain ⟨n, ds', hn, hl6, hx', -, hf⟩ := open_fields Tryz.underlying26 h
  rw [cells_val] at hl6
  rw [hx'] at hs
  obtain ⟨y0, d0, h0⟩ := hf 0 _ rfl
  obtain ⟨y1, d1, h1'⟩ := hf 1 _ rfl
  have s0 := small_field Tryz.underlying26 hs (i := 0) rfl d0
  have s1 := small_field Tryz.underlying26 hs (i := 1) rfl d1
  obtain ⟨c0, c1, c2, c3, c4, c5, rfl⟩ : ∃ a b c d e f, cs = [a, b, c, d, e, f] := by
    match cs, hl6 with
    | [a, b, c, d, e, f], _ => exact ⟨a, b, c, d, e, f, rfl⟩
  simp only [cells_tok, cells_vals, List.drop_zero, List.drop_succ_cons, List.take_succ_cons, List.take_zero] at h0 h1'
  obtain ⟨t, ht, m1, m2⟩ := open_tok h0 s0
  obtain ⟨l', hV, -⟩ := open_vals n c5 y1 h1' s1
  obtain ⟨a, cap, e5, -⟩ := hV.vs
  refine ⟨⟨t, a, l'.length, cap⟩, ?_, ⟨m1, m2⟩, n, l', ?_⟩
  · rw [e5]
    show _ = t.row ++ _
    rw [← ht]
    rfl
  · show VD W n (.slice a l'.length cap) l'
    rw [← e5]
    exact hV
set_option maxRecDepth 100000 in
theorem val_of {r : Reach} {b0 : Nat} {v : Value} {d : DataW H} {ps : List MemPlace} (hval : Value.okWide Tryz.prog W r b0 26 v) (h : DataW.Trod enc Tryz.prog W base sp held 26 v d ps) (hs : Small Tryz.prog 26 d) :
    ∃ y : Val, v = .agg #[.int .i64 y.tok.k, .string y.tok.t, .string y.tok.u, .bool y.tok.wh, .bool y.tok.fl, .slice y.ka y.kn y.kc] ∧ y.Sm ∧ ∃ m l', VD W m y.kids l' := by
  obtain ⟨n, hn⟩ := h
  have hv : ∃ cs, v = .agg cs := by
    unfold Value.okWide at hval
    rw [Tryz.underlying26] at hval
    obtain ⟨cs, h, -⟩ := hval
    exact ⟨cs, h⟩
  obtain ⟨cs, rfl⟩ := hv
  obtain ⟨y, hy, h1, h2⟩ := open_val hn hs
  refine ⟨y, ?_, h1, h2⟩
  have : cs = y.row.toArray := Array.toList_inj.1 hy
  rw [this]
  rfl
end
theorem sideCells_at : ∀ (a : Fin 4) (b : Fin 4), (sidesTbl.map (Value.int .i64))[a.val * 4 + b.val]? = some (.int .i64 (sideAt a.val b.val)) := by
  intro a b
  have h : a.val * 4 + b.val < sidesTbl.length := by
    have := a.isLt
    have := b.isLt
    show a.val * 4 + b.val < 16
    omega
  unfold sideAt
  rw [List.getElem?_map, List.getElem?_eq_getElem h]
  rfl
theorem sidesIn_of_laid {w : World} {l : List (String × DataW Unit)} (h : laidMet Tryz.prog l w) (hm : ("gouache/short.sides", Rows.laid_gouache_short_sides) ∈ l) : SidesIn w := by
  obtain ⟨ty, fr, hh⟩ := var_of_laid h hm (g := 1) (t := 103) (by kernel_rfl) (by kernel_rfl) 5 (cs := sidesTbl.map (Value.int .i64)) (by kernel_rfl)
  refine ⟨(Array.getElem?_eq_some_iff.1 hh).1, fun a b ha hb => ?_⟩
  have := sideCells_at ⟨a, ha⟩ ⟨b, hb⟩
  simp only [World.cell?, hh]
  simpa using this
end Go.Proofs.YtpadcjcoafidgaaGreatDoor
/-! gouachelaw15.ValueBack: whatever the name, the values and the number, it returns true and changes nothing. Condition: the listed tables hold what the program's text lays (the card ties that). -/
namespace Go.Proofs.YtpadcjcoafidgaaGreatDoor.valueBack
open Go.ChangeShapes Go.WideShapes Go.ChangeAt Go.RowKit

set_option maxRecDepth 100000 in
/-- WHAT THE WALK GIVES, FOR EVERY ARGUMENT. -/
theorem contract (H : Type) (enc : TypeId × Value → H) (W : World) (base : Nat) (args : Array Value) (ds gs : List (DataW H)) (before : List MemPlace)
    (hval : ∀ (j : Nat) t v, Tryz.f8.params[j]? = some t → args[j]? = some v → Value.okWide Tryz.prog W .any base t v)
    (hW : DataW.Whole enc Tryz.prog Tryz.f8.params.toList Rows.valueBackSpec.vars false W args.toList ds gs before)
    (hsz : (DataW.weightsEach Tryz.prog [9, 24, 3] ds).all (· ≤ reachBytes) = true) (hL : laidMetH Tryz.prog Rows.valueBackRow.laid W) :
    Calls Tryz.prog 8 args W fun e W' => ∃ v, e = .returned v ∧ Rows.valueBackSpec.post enc Tryz.prog Tryz.f8 false true false false W args v W' := by
  have hW' := hW
  have hlt := hW.lt
  obtain ⟨p, q, hA0, hV, rfl, hfz, hnd⟩ := hW
  have hA : DataW.TrodAll enc Tryz.prog W 0 (fun _ => true) true Tryz.f8.params.toList args.toList ds p := hA0
  have hA1 := hA0
  rw [Tryz.params8] at hA hval
  obtain ⟨v0, v1, v2, d0, d1, d2, p0, p1, p2, rfl, rfl, rfl, h0, h1, h2⟩ := trodAll_three hA
  obtain ⟨rfl, rfl⟩ := trodVars_none hV
  have s0 : Small Tryz.prog 9 d0 := small_arg hsz (j := 0) rfl rfl
  have s1 : Small Tryz.prog 24 d1 := small_arg hsz (j := 1) rfl rfl
  have s2 : Small Tryz.prog 3 d2 := small_arg hsz (j := 2) rfl rfl
  obtain ⟨s, rfl, rfl, -, -⟩ := Go.ChangeMaps.open_string Tryz.underlying9 (hval 0 9 v0 rfl rfl) h0
  have hs0 := small_string s0
  rw [size_toList] at hs0
  obtain ⟨m, l, hl, hl2⟩ := vals_of (hval 1 24 v1 rfl rfl) h1 s1
  obtain ⟨n, rfl, -, -, -⟩ := open_int Tryz.underlying3 (hval 2 3 v2 rfl rfl) h2
  clear hA0
  simp only [List.append_nil] at hW' hlt
  have hB : Base W := base_of_laid hL (List.Mem.tail _ (List.Mem.tail _ (List.Mem.tail _ (List.Mem.tail _ (List.Mem.head _))))) (List.Mem.tail _ (List.Mem.tail _ (List.Mem.head _)))
  refine (valueBack_walk s (by omega) v1 m l n W hl (fun x hx => ⟨Nat.le_trans (hl2 x hx).1 (by omega), Nat.le_trans (hl2 x hx).2 (by omega)⟩) hB).mono fun e W' ⟨he, hg⟩ => ?_
  subst he
  refine ⟨_, rfl, _, _, _, [], (p0 ++ p1 ++ p2), [], hW', ?_, ?_, ?_, hg.frame _, fun h => by cases h⟩
  · exact trodAll_mk1 (shut_bool Tryz.underlying4 true)
  · refine trodAll_below laid_out hg (fun t ht => ?_) hA1 hlt
    rw [Tryz.params8] at ht
    simp only [List.mem_cons, List.not_mem_nil, or_false] at ht
    rcases ht with rfl | rfl | rfl
    all_goals exact ⟨by kernel_rfl, of_decide_eq_true (by kernel_rfl)⟩
  · rfl

set_option maxRecDepth 100000 in
theorem met (os : Os) (args : Array Value) : laidMet Tryz.prog Rows.valueBackRow.laid ((laidWorld os).forCall (fun _ _ => 0) ⟨#[], args, []⟩).memory :=
  laidMet_of_run' 8 (by kernel_rfl) (by kernel_rfl)
theorem reads (os : Os) {H : Type} (enc : TypeId × Value → H) : ∃ places, DataW.whole enc Tryz.prog ((laidWorld os).forCall (fun _ _ => 0) ⟨#[], #[.string ⟨#[]⟩, .slice none 0 0, .int .i64 0], []⟩).memory Tryz.f8.params.toList Rows.valueBackSpec.vars false (#[.string ⟨#[]⟩, .slice none 0 0, .int .i64 0] : Array Value).toList 8 = some ([.lit (.string []), .nil, .lit (.int .i64 0)], [], places) :=
  ⟨[], by kernel_rfl⟩

set_option maxRecDepth 100000 in
theorem lifted (os : Os) (started : os.Started) (H : Type) (enc : TypeId × Value → H) (F : Stop.Interp) :
    ReturnsInHanded {} Tryz.checked os 8 .any ((OpenSpec.ofChange Rows.valueBackSpec).preRow enc Tryz.prog Tryz.f8 Rows.valueBackRow.domain false Rows.valueBackRow.laid) (((OpenSpec.ofChange Rows.valueBackSpec).at F).post enc Tryz.prog Tryz.f8 false true false false) := by
  obtain ⟨places, hx⟩ := reads os enc
  refine returnsInHanded_of_row (C := Tryz.checked) (s := OpenSpec.ofChange Rows.valueBackSpec) ownKnob_none started (by kernel_rfl) Tryz.func8
    (witness_row_at (enc := enc) (C := Tryz.checked) false (laidWorld os) #[.string ⟨#[]⟩, .slice none 0 0, .int .i64 0] rfl (by kernel_rfl) (by kernel_rfl) (by kernel_rfl)
      (OpenSpec.preRow_of_cond 8 hx (by kernel_rfl) (fun k hk => by cases hk) (by kernel_rfl) (met os _))) ?_
  intro W base args ds gs before hval hW _ _ hsz hL _ _
  have hg : gs = [] := by
    obtain ⟨p, q, _, hV, _⟩ := hW
    exact (trodVars_none hV).1
  subst hg
  have hsz' : (DataW.weightsEach Tryz.prog [9, 24, 3] ds).all (· ≤ reachBytes) = true := by rw [List.append_nil] at hsz; exact hsz
  exact contract H enc W base args ds [] before hval hW hsz' hL

theorem said : Rows.ValueBackSaid :=
  OpenClaim.holds_of_cond 8 Tryz.f8 rfl rfl rfl rfl rfl rfl rfl ⟨rfl, rfl, rfl, rfl, rfl⟩ rfl rfl rfl rfl rfl (by kernel_rfl) Tryz.func8 (by kernel_rfl)
    (of_decide_eq_true (by kernel_rfl)) (by unfold Func.isWrapper; first | (rw [if_pos (by decide +kernel)]; kernel_rfl) | (rw [if_neg (by decide +kernel)]; exact ⟨rfl, rfl⟩))
    (fun os started H enc _ F => by rw [OpenClaim.pre_eq_preRow]; exact lifted os started H enc F)

/-- No parameter wants a stand-in; the program's own looks are off: what the card asks. -/
theorem plain (f : FuncId) (fn : Func) (hf : Tryz.pinned.checked.prog.funcNamed "gouache/gouachelaw15.ValueBack" = some f) (hfn : Tryz.pinned.checked.prog.funcs[f]? = some fn) :
    false = Tryz.pinned.checked.prog.looks [] ∧ ∀ (j : Nat) t, fn.params[j]? = some t → Tryz.pinned.checked.prog.wantsStandIn t = false := by
  obtain rfl : f = 8 := Option.some.inj ((show Tryz.prog.funcNamed "gouache/gouachelaw15.ValueBack" = some 8 by kernel_rfl).symm.trans hf) |>.symm
  obtain rfl : fn = Tryz.f8 := (Option.some.inj (Tryz.func8.symm.trans hfn)).symm
  refine ⟨by kernel_rfl, fun j t ht => ?_⟩
  rw [Tryz.params8] at ht
  have ht' : t = 9 ∨ t = 24 ∨ t = 3 := by simpa using Array.mem_of_getElem? ht
  rcases ht' with rfl | rfl | rfl
  · exact (show Tryz.prog.wantsStandIn 9 = false by kernel_rfl)
  · exact (show Tryz.prog.wantsStandIn 24 = false by kernel_rfl)
  · exact (show Tryz.prog.wantsStandIn 3 = false by kernel_rfl)

/-- THE CARD. -/
theorem card : Rows.ValueBackCardSaid :=
  Claim7.holds_tied_plain_at .later [] _ _ _ _ said (fun _ h => by cases h) (by kernel_rfl) (fun _ h => by cases h) valueBack_row_tie rfl ⟨rfl, rfl⟩ (by kernel_rfl) rfl plain (by kernel_rfl)
end Go.Proofs.YtpadcjcoafidgaaGreatDoor.valueBack
