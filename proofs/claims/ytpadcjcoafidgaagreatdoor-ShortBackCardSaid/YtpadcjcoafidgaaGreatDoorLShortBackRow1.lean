/- Texts of this claim, laid together: Digits, Colours, Px, Back, Back2, Repeat, Wide, Ref16, Back3, Great, ShortJoinsWalk, ShortBackWalk, Open, RowLibZ. -/
import Derived.Test.YtpadcjcoafidgaaGreatDoorCards
import Derived.Test.YtpadcjcoafidgaaGreatDoorTie
import Derived.Test.YtpadcjcoafidgaaGreatDoorK1
import Derived.Test.YtpadcjcoafidgaaGreatDoorK3
import Derived.Test.YtpadcjcoafidgaaGreatDoorK5
import Derived.Test.YtpadcjcoafidgaaGreatDoorK6
import Derived.Test.YtpadcjcoafidgaaGreatDoorK7
import Derived.Test.YtpadcjcoafidgaaGreatDoorK8
import Derived.WalkKit
import Derived.IntWalk
import Derived.Laws.CopyOwn
import Derived.Deep.RegionHeld3
import Derived.Deep.RegionLaw
import Derived.BigQuiet
import Derived.Deep.QuietTactic
import Derived.Deep.AppendLies
import Derived.ProofKit
import Derived.OpenShut
import Derived.Deep.Slices
import Derived.Carry
import Derived.SizedLaws
import Derived.Deep.DeepHandedRow
import Derived.SevenTiedAt
import Derived.Lib.SmallJoins
/-! gouachelaw16.digits. -/
namespace Go.Proofs.YtpadcjcoafidgaaGreatDoor
open Go.RowKit

def tenS : ByteArray := ⟨#[48, 49, 50, 51, 52, 53, 54, 55, 56, 57]⟩
def minusS : ByteArray := ⟨#[45]⟩
/-- The text of a number from 0 on. -/
def digS (n : Int) : ByteArray := if n < 0 then minusS else ⟨(decC 20 n.toNat).toArray⟩
def bt (l : List UInt8) : ByteArray := ⟨l.toArray⟩
theorem bt_size (l : List UInt8) : (bt l).size = l.length := rfl
theorem bt_app (a b : List UInt8) : bt a ++ bt b = bt (a ++ b) := by
  apply ByteArray.ext
  apply Array.toList_inj.1
  simp [bt]
theorem ten_piece : ∀ k : Fin 10, (tenS.data.toList.drop k.val).take (k.val + 1 - k.val) = [UInt8.ofNat (48 + k.val)] := by decide +kernel
theorem ten_extract (k : Nat) (hk : k < 10) : tenS.extract k (k + 1) = bt [UInt8.ofNat (48 + k)] := by
  apply bytes_ext
  rw [Lib.extract_toList, ten_piece ⟨k, hk⟩, ByteArray.toList_eq]
  rfl
set_option maxRecDepth 100000 in
set_option maxHeartbeats 2000000 in
theorem digits16_any (n : Int) (h1 : n ≤ 9223372036854775807) (w : World) :
    Calls Tryz.prog 29 #[.int .i64 n] w fun e w' => e = .returned (.string (digS n)) ∧ w' = w := by
  by_cases hn : n < 0
  · have HV : Hid (digS n = minusS) := Lib.hid (if_pos hn)
    go_enter Tryz.func29, Tryz.ntmps29
    go_wp2_with fail
    go_ret
    exact ⟨by rw [HV.out]; rfl, rfl⟩
  · obtain ⟨u0, rfl⟩ : ∃ u : Nat, n = (u : Int) := ⟨n.toNat, by omega⟩
    have HV : Hid (digS (u0 : Int) = bt (decC 20 u0)) := Lib.hid (by unfold digS; rw [if_neg hn, Int.toNat_natCast]; rfl)
    have hu0 : u0 < 10 ^ 20 := by omega
    go_enter Tryz.func29, Tryz.ntmps29
    go_wp2_with fail
    go_loopw [0, 3] (fun nv sv wr => ∃ (u f : Nat) (acc : List UInt8), nv = .int .i64 (u : Int) ∧ sv = .string (bt acc) ∧ (u : Int) ≤ 9223372036854775807 ∧ Hid (decC (f + 1) u ++ acc = decC 20 u0) ∧ u < 10 ^ (f + 1) ∧ acc.length ≤ 20 - f ∧ f ≤ 19 ∧ wr = w)
      (fun nv _ _ => (intOf nv).toNat)
    case atStart => exact ⟨u0, 19, [], rfl, rfl, h1, Lib.hid (by simp), hu0, by simp, by omega, rfl⟩
    case round =>
      obtain ⟨u, f, acc, rfl, rfl, hu, HD, hlt, hal, hf, hwr⟩ := hrel
      subst hwr
      obtain ⟨k, hk⟩ : ∃ k : Nat, u % 10 = k := ⟨_, rfl⟩
      have hk10 : k < 10 := by omega
      have hte : (⟨#[48, 49, 50, 51, 52, 53, 54, 55, 56, 57]⟩ : ByteArray).extract k (k + 1) ++ bt acc = bt (UInt8.ofNat (48 + k) :: acc) := by
        rw [show (⟨#[48, 49, 50, 51, 52, 53, 54, 55, 56, 57]⟩ : ByteArray).extract k (k + 1) = bt [UInt8.ofNat (48 + k)] from ten_extract k hk10, bt_app]
        rfl
      have HTE := Lib.hid hte
      clear hte
      have r3 : Int.tmod (u : Int) 10 = (k : Int) := by rw [Int.tmod_eq_emod_of_nonneg (by omega)]; omega
      have r4 : Int.tdiv (u : Int) 10 = ((u / 10 : Nat) : Int) := by rw [Int.tdiv_eq_ediv_of_nonneg (by omega)]; omega
      have r5 : IntKind.i64.wrap (Int.tdiv (u : Int) 10) = ((u / 10 : Nat) : Int) := by rw [r4]; exact Go.IntWalk.i64_in _ (by omega)
      have r6 : IntKind.i64.wrap ((u : Int) / 10) = ((u / 10 : Nat) : Int) := by rw [show (u : Int) / 10 = ((u / 10 : Nat) : Int) by omega]; exact Go.IntWalk.i64_in _ (by omega)
      have hbs := bt_size acc
      have z1 : (bt acc).size ≤ 100 := by omega
      clear hbs
      by_cases hd : u / 10 = 0
      · have hfin : Hid (digS (u0 : Int) = bt (UInt8.ofNat (48 + k) :: acc)) := Lib.hid (by
          rw [HV.out, ← HD.out, decC, if_pos (by omega), show u = k by omega]; rfl)
        rw [hd] at r4 r5 r6
        clear hd
        go_wp2_with fail
        go_ret
        exact ⟨by rw [hfin.out, ← HTE.out]; rfl, rfl⟩
      · obtain ⟨g, rfl⟩ : ∃ g, f = g + 1 := ⟨f - 1, by
          cases f with
          | zero => simp at hlt; omega
          | succ f => omega⟩
        have hnx : Hid (decC (g + 1) (u / 10) ++ UInt8.ofNat (48 + k) :: acc = decC 20 u0) := Lib.hid (by
          have e : decC (g + 1 + 1) u = decC (g + 1) (u / 10) ++ [UInt8.ofNat (48 + k)] := by rw [decC, if_neg (by omega), hk]
          rw [← HD.out, e, List.append_assoc]; rfl)
        have hl2 : u / 10 < 10 ^ (g + 1) := by
          rw [Nat.pow_succ] at hlt
          omega
        obtain ⟨m, hm⟩ : ∃ m, u / 10 = m := ⟨_, rfl⟩
        have hmu : m < u := by omega
        rw [hm] at r4 r5 r6 hd hnx hl2
        have hd' : ¬ ((m : Nat) : Int) = 0 := by omega
        clear hm hlt
        go_wp2_with fail
        go_roundw
        case rel => exact ⟨m, g, UInt8.ofNat (48 + k) :: acc, rfl, by rw [← HTE.out], by omega, hnx, hl2, by simp; omega, by omega, trivial⟩
        case measure => simp [intOf]; omega
end Go.Proofs.YtpadcjcoafidgaaGreatDoor
/-! Colours as texts: what a colour is read as has seven characters and is read as itself; three digits are six. -/
namespace Go.Proofs.YtpadcjcoafidgaaGreatDoor
open Go.RowKit

/-- A small digit to base 16. -/
def isLow (b : UInt8) : Bool := isIn 48 57 (b.toNat : Int) || isIn 97 102 (b.toNat : Int)
def lowAll (l : List UInt8) : Bool := l.all isLow
def rn (l : List UInt8) : List Int := l.map fun b => (b.toNat : Int)
/-- A colour's text. -/
def colB (l : List UInt8) : ByteArray := bt (35 :: l)
def colT (l : List UInt8) : Tok := ⟨4, bt l, noStr, false, begins (rn l)⟩
theorem low_tab : ∀ n : Fin 256, isLow (UInt8.ofNat n.val) = true → isPart ((n.val : Nat) : Int) = true ∧ tm ((n.val : Nat) : Int) ∧ foldB (UInt8.ofNat n.val) = UInt8.ofNat n.val ∧ notHex n.val = false := by decide +kernel
theorem low_facts (b : UInt8) (h : isLow b = true) : isPart (b.toNat : Int) = true ∧ tm (b.toNat : Int) ∧ foldB b = b ∧ notHex b.toNat = false := by
  have hb : UInt8.ofNat b.toNat = b := UInt8.ofNat_toNat
  have := low_tab ⟨b.toNat, b.toNat_lt⟩
  simp only [hb] at this
  exact this h
theorem fold_tab2 : ∀ n : Fin 256, notHex (foldB (UInt8.ofNat n.val)).toNat = false → isLow (foldB (UInt8.ofNat n.val)) = true := by decide +kernel
theorem fold_low (b : UInt8) (h : notHex (foldB b).toNat = false) : isLow (foldB b) = true := by
  have hb : UInt8.ofNat b.toNat = b := UInt8.ofNat_toNat
  have := fold_tab2 ⟨b.toNat, b.toNat_lt⟩
  simp only [hb] at this
  exact this h
theorem strOf_rn (l : List UInt8) : strOf (rn l) = bt l := by
  unfold strOf rn bt
  rw [List.map_map]
  have : ∀ b : UInt8, (byteOf ∘ fun b : UInt8 => (b.toNat : Int)) b = b := fun b => by
    show UInt8.ofNat ((b.toNat : Int)).toNat = b
    rw [Int.toNat_natCast]
    exact UInt8.ofNat_toNat
  rw [List.map_congr_left (fun b _ => this b), List.map_id']
theorem runes_bt (l : List UInt8) : runesOf (bt l) = rn l := rfl
theorem lowAll_iff {l : List UInt8} : lowAll l = true ↔ ∀ b ∈ l, isLow b = true := List.all_eq_true
theorem rn_part {l : List UInt8} (h : lowAll l = true) : ∀ c ∈ rn l, isPart c = true := by
  intro c hc
  obtain ⟨b, hb, rfl⟩ := List.mem_map.1 hc
  exact (low_facts b (lowAll_iff.1 h b hb)).1
theorem step_col (l : List UInt8) (hne : l ≠ []) (h : lowAll l = true) : step (35 :: rn l) = some (colT l, 1 + l.length) := by
  cases l with
  | nil => exact absurd rfl hne
  | cons a l =>
    have hp := rn_part h
    have ha := low_facts a (lowAll_iff.1 h a (List.mem_cons_self ..))
    have htw : (rn (a :: l)).takeWhile isPart = rn (a :: l) := by
      have := takeWhile_stop (rn (a :: l)) [] hp (.inl rfl)
      rwa [List.append_nil] at this
    unfold step
    rw [show at_ (35 :: rn (a :: l)) 0 = 35 from rfl, if_neg (by decide), if_pos rfl, show at_ (35 :: rn (a :: l)) 1 = (a.toNat : Int) from rfl, if_pos ⟨by omega, ha.1⟩]
    unfold hashT nameLen colT
    rw [List.drop_succ_cons, List.drop_zero, htw, strOf_rn]
    simp [rn]
theorem lexes_col (l : List UInt8) (hne : l ≠ []) (h : lowAll l = true) (hl : l.length ≤ 100) : Lexes (colB l) [colT l] := by
  have hr : runesOf (colB l) = 35 :: rn l := rfl
  refine ⟨?_, ?_, ?_, by simp⟩
  · rw [hr]
    intro c hc
    rcases List.mem_cons.1 hc with rfl | hc
    · decide
    · obtain ⟨b, hb, rfl⟩ := List.mem_map.1 hc
      exact (low_facts b (lowAll_iff.1 h b hb)).2.1
  · unfold Go.Proofs.YtpadcjcoafidgaaGreatDoor.lex
    rw [hr]
    refine lexF_step _ _ (colT l) (1 + l.length) [] (by simp) (step_col l hne h) ?_
    rw [List.drop_eq_nil_of_le (by simp [rn]; omega)]
    cases (rn l).length <;> rfl
  · show (35 :: l).length ≤ 10000
    simp
    omega
theorem fold_bt {l : List UInt8} (h : lowAll l = true) : fold (bt l) = bt l := by
  unfold fold bt
  congr 2
  rw [List.map_congr_left (g := id) (fun b hb => (low_facts b (lowAll_iff.1 h b hb)).2.2.1), List.map_id]
theorem badHex_bt {l : List UInt8} (h : lowAll l = true) : badHex (bt l) = false := by
  unfold badHex
  rw [List.any_eq_false]
  intro b hb
  rw [(low_facts b (lowAll_iff.1 h b hb)).2.2.2]
  decide
theorem color_six (l : List UInt8) (h : lowAll l = true) (hl : l.length = 6) : colorS (colT l) = some (colB l) := by
  unfold colorS
  rw [if_neg (by show ¬ (4 : Int) = 1; decide), if_neg (by show ¬ ((4 : Int) ≠ 4); decide), show fold (colT l).t = bt l from fold_bt h, badHex_bt h, if_neg (by decide), bt_size, hl, if_neg (by decide), if_pos rfl]
  rfl
theorem color_three (a b c : UInt8) (h : lowAll [a, b, c] = true) : colorS (colT [a, b, c]) = some (colB [a, a, b, b, c, c]) := by
  unfold colorS
  rw [if_neg (by show ¬ (4 : Int) = 1; decide), if_neg (by show ¬ ((4 : Int) ≠ 4); decide), show fold (colT [a, b, c]).t = bt [a, b, c] from fold_bt h, badHex_bt h, if_neg (by decide), bt_size, if_pos (show [a, b, c].length = 3 from rfl)]
  rfl
theorem colours_low : ∀ i : Fin 8, (colourAt i.val).2.data.toList.take 1 = [35] ∧ lowAll ((colourAt i.val).2.data.toList.drop 1) = true ∧ ((colourAt i.val).2.data.toList.drop 1).length = 6 := by decide +kernel
theorem repeat_two (a : UInt8) : Lib.repeatL [a] 2 = [a, a] := rfl
/-- WHAT A COLOUR IS READ AS. -/
theorem color_shape {t : Tok} {s : ByteArray} (h : colorS t = some s) : ∃ l, s = colB l ∧ lowAll l = true ∧ l.length = 6 := by
  unfold colorS at h
  split at h
  · split at h
    · rename_i n hn
      have h8 := colIx_lt hn
      obtain ⟨h1, h2, h3⟩ := colours_low ⟨n, h8⟩
      simp only [Option.some.injEq] at h
      refine ⟨(colourAt n).2.data.toList.drop 1, ?_, h2, h3⟩
      rw [← h]
      apply ByteArray.ext
      apply Array.toList_inj.1
      show _ = 35 :: (colourAt n).2.data.toList.drop 1
      rw [← List.take_append_drop 1 (colourAt n).2.data.toList, h1]
      simp
    · cases h
  · split at h
    · cases h
    · split at h
      · cases h
      · rename_i hb
        have hb' : badHex (fold t.t) = false := by simpa using hb
        have hlow : lowAll (fold t.t).data.toList = true := by
          rw [lowAll_iff]
          intro b hb2
          unfold badHex at hb'
          rw [List.any_eq_false] at hb'
          have := hb' b hb2
          obtain ⟨a, -, rfl⟩ := List.mem_map.1 (show b ∈ t.t.data.toList.map foldB from hb2)
          exact fold_low a (by simpa using this)
        have hsz : (fold t.t).size = (fold t.t).data.toList.length := by rw [Array.length_toList]; rfl
        split at h
        · rename_i h3
          rw [hsz] at h3
          simp only [Option.some.injEq] at h
          obtain ⟨a, b, c, hl⟩ : ∃ a b c, (fold t.t).data.toList = [a, b, c] := by
            generalize (fold t.t).data.toList = l at h3
            match l, h3 with
            | [a, b, c], _ => exact ⟨a, b, c, rfl⟩
          rw [hl] at hlow
          refine ⟨[a, a, b, b, c, c], ?_, ?_, rfl⟩
          · rw [← h]
            unfold hash6
            rw [hl]
            rfl
          · rw [lowAll_iff] at hlow ⊢
            intro x hx
            apply hlow
            simp only [List.mem_cons, List.not_mem_nil, or_false] at hx ⊢
            rcases hx with h | h | h | h | h | h <;> simp [h]
        · split at h
          · rename_i h6
            rw [hsz] at h6
            simp only [Option.some.injEq] at h
            exact ⟨_, h.symm, hlow, h6⟩
          · cases h
/-! ### As the value of the property color -/
theorem color_forms : (placeN aColor).isSome = true ∧ parts (findRow aColor).2.2.2 = [fCol] := by
  have h : (placeN aColor).isSome = true ∧ (parts (findRow aColor).2.2.2).length = 1 ∧ (parts (findRow aColor).2.2.2).all (fun s => eqB s fCol) = true := by decide +kernel
  refine ⟨h.1, ?_⟩
  obtain ⟨x, hx⟩ := List.length_eq_one_iff.1 h.2.1
  rw [hx] at h ⊢
  have := List.all_eq_true.1 h.2.2 x (List.mem_singleton.2 rfl)
  rw [(eqB_iff _ _).1 this]
theorem trim_single {x : Val} (h : isSp x = false) : trim [x] = [x] := by
  unfold trim
  simp [h]
theorem part_col (l : List UInt8) : partS fCol (Val.of (colT l)) = colorS (colT l) := by
  unfold partS
  rw [if_neg (show ¬ 0 < (Val.of (colT l)).kn from Nat.lt_irrefl 0), if_neg (by decide), if_neg (by decide), if_neg (by decide), if_pos (by decide)]
  rfl
theorem parse_col (l : List UInt8) : parseS aColor [Val.of (colT l)] = colorS (colT l) := by
  rw [parseS_one (trim_single (x := Val.of (colT l)) rfl), if_pos color_forms.1, color_forms.2]
  unfold firstPart
  rw [part_col]
  cases colorS (colT l) <;> rfl
theorem col_fits (l : List UInt8) (hl : l.length ≤ 100) : ∀ x ∈ [Val.of (colT l)], x.fits := by
  intro x hx
  rw [List.mem_singleton.1 hx]
  exact ⟨by show l.length ≤ _; omega, by show 0 ≤ _; omega⟩
/-! ### Digits -/
def hexC (k : Nat) : UInt8 := UInt8.ofNat (if k < 10 then 48 + k else 87 + k)
theorem hexC_low : ∀ k : Fin 16, isLow (hexC k.val) = true := by decide +kernel
def sixteenS : ByteArray := ⟨#[48, 49, 50, 51, 52, 53, 54, 55, 56, 57, 97, 98, 99, 100, 101, 102]⟩
theorem sixteen_piece : ∀ k : Fin 16, (sixteenS.data.toList.drop k.val).take (k.val + 1 - k.val) = [hexC k.val] := by decide +kernel
theorem sixteen_extract (k : Nat) (hk : k < 16) : sixteenS.extract k (k + 1) = bt [hexC k] := by
  apply bytes_ext
  rw [Lib.extract_toList, sixteen_piece ⟨k, hk⟩, ByteArray.toList_eq]
  rfl
set_option maxRecDepth 100000 in
theorem hex_any (n : Int) (h0 : 0 ≤ n) (w : World) :
    Calls Tryz.prog 15 #[.int .u64 n] w fun e w' => e = .returned (.string (bt [hexC (n % 16).toNat])) ∧ w' = w := by
  obtain ⟨k, hk⟩ : ∃ k : Nat, n % 16 = k := ⟨(n % 16).toNat, by omega⟩
  have hk16 : k < 16 := by omega
  have hte : (⟨#[48, 49, 50, 51, 52, 53, 54, 55, 56, 57, 97, 98, 99, 100, 101, 102]⟩ : ByteArray).extract k (k + 1) = bt [hexC k] := sixteen_extract k hk16
  have HTE := Lib.hid hte
  rw [hk, Int.toNat_natCast]
  clear hte
  go_enter Tryz.func15, Tryz.ntmps15
  go_wp2_with fail
  go_ret
  exact ⟨by rw [← HTE.out]; rfl, rfl⟩
end Go.Proofs.YtpadcjcoafidgaaGreatDoor
/-! Texts of lengths with spaces between: their tokens; what they are read as. -/
namespace Go.Proofs.YtpadcjcoafidgaaGreatDoor
open Go.RowKit

theorem decC_more (u : Nat) (h : u ≤ 1000000) : decC 20 u = decC 8 u := by
  rw [decC_eq 20 u (by omega), decC_eq 8 u (by omega)]
  rfl
theorem digS_itoa (n : Int) (h0 : 0 ≤ n) (h1 : n ≤ 1000000) : digS n = itoaS n := by
  unfold digS itoaS itoaC
  rw [if_neg (by omega), if_neg (by omega), decC_more _ (by omega)]
theorem decC_digit : ∀ (f u : Nat) (b : UInt8), b ∈ decC f u → 48 ≤ b.toNat ∧ b.toNat ≤ 57
  | 0, u, b, h => by cases h
  | f + 1, u, b, h => by
    have key : ∀ k, k < 10 → 48 ≤ (UInt8.ofNat (48 + k)).toNat ∧ (UInt8.ofNat (48 + k)).toNat ≤ 57 := by
      intro k hk
      rw [UInt8.toNat_ofNat']
      omega
    rw [decC] at h
    split at h
    · rw [List.mem_singleton.1 h]; exact key u (by omega)
    · rcases List.mem_append.1 h with h | h
      · exact decC_digit f _ b h
      · rw [List.mem_singleton.1 h]; exact key _ (by omega)
theorem decC_ne (f u : Nat) : decC (f + 1) u ≠ [] := by
  rw [decC]
  split <;> simp
theorem decC_len : ∀ (f u : Nat), (decC f u).length ≤ f
  | 0, u => Nat.le_refl _
  | f + 1, u => by
    rw [decC]
    split
    · simp
    · have := decC_len f (u / 10)
      simp
      omega
theorem decN_decC : ∀ (f u : Nat), u < 10 ^ f → u ≤ 1000000 → decN (decC f u) = (u : Int)
  | 0, u, h, _ => by
    simp at h
    subst h
    rfl
  | f + 1, u, h, h2 => by
    have key : ∀ k, k < 10 → (((UInt8.ofNat (48 + k)).toNat : Nat) : Int) = 48 + (k : Int) := by
      intro k hk
      rw [UInt8.toNat_ofNat']
      omega
    rw [decC]
    split
    · rename_i hu
      show decStep 0 _ = _
      unfold decStep
      rw [key u hu]
      omega
    · have ih := decN_decC f (u / 10) (by rw [Nat.pow_succ] at h; omega) (by omega)
      unfold decN at ih ⊢
      rw [List.foldl_append, ih]
      show decStep _ _ = _
      unfold decStep
      rw [key _ (Nat.mod_lt _ (by omega))]
      omega
/-- A length's token. -/
def dimT (n : Int) : Tok := ⟨12, itoaS n, pxS, true, false⟩
theorem itoaS_pos (n : Int) (h0 : 0 ≤ n) : (itoaS n).data.toList = decC 8 n.toNat := by
  show (itoaC n).toArray.toList = _
  unfold itoaC
  rw [if_neg (by omega)]
theorem head_digit (n : Int) (h0 : 0 ≤ n) (c : UInt8) (hc : c.toNat < 48) : tp (itoaS n) c = itoaS n := by
  have hl := itoaS_pos n h0
  unfold tp Lib.trimPrefix Lib.hasPrefix
  rw [hl]
  cases hd : decC 8 n.toNat with
  | nil => exact absurd hd (decC_ne 7 _)
  | cons a l =>
    have ha := decC_digit 8 n.toNat a (by rw [hd]; exact List.mem_cons_self ..)
    have hne : (c == a) = false := by
      rw [beq_eq_false_iff_ne]
      intro e
      rw [e] at hc
      omega
    have hp : List.isPrefixOf [c] (a :: l) = false := by simp [List.isPrefixOf, hne]
    rw [hp, if_neg (by decide), ← hd, ← hl]
theorem intDigs_dim (n : Int) (h0 : 0 ≤ n) : intDigs (itoaS n) = itoaS n ∧ tp (itoaS n) 43 = itoaS n := by
  have h1 := head_digit n h0 43 (by decide)
  have h2 := head_digit n h0 45 (by decide)
  refine ⟨?_, h1⟩
  unfold intDigs
  rw [h1, if_neg (Nat.lt_irrefl _), h2]
theorem dim_int (n : Int) (h0 : 0 ≤ n) (h1 : n ≤ 1000000) : intOk (dimT n) = true ∧ intN (dimT n) = n := by
  obtain ⟨e1, e2⟩ := intDigs_dim n h0
  have hl := itoaS_pos n h0
  have hne : eqB (itoaS n) noStr = false := by
    cases hq : eqB (itoaS n) noStr with
    | false => rfl
    | true =>
      have := (eqB_iff _ _).1 hq
      rw [this] at hl
      exact absurd hl.symm (decC_ne 7 _)
  have hbad : anyBad (itoaS n) = false := by
    unfold anyBad
    rw [hl, List.any_eq_false]
    intro b hb
    have := decC_digit 8 _ b hb
    unfold notDig isIn
    rw [decide_eq_true (by omega), decide_eq_true (by omega)]
    decide
  have hok : intOk (dimT n) = true := by
    unfold intOk dimT
    simp only [e1, hne, hbad]
    rfl
  refine ⟨hok, ?_⟩
  unfold intN
  rw [if_pos hok]
  show intVal (itoaS n) = n
  unfold intVal
  rw [e1, e2, if_pos (eqB_self _), hl, decN_decC 8 _ (by omega) (by omega)]
  omega
theorem part_dim (n : Int) (h0 : 0 ≤ n) (h1 : n ≤ 1000000) : partS fLenP (Val.of (dimT n)) = some (itoaS n ++ pxS) := by
  obtain ⟨e1, e2⟩ := dim_int n h0 h1
  unfold partS
  rw [if_neg (show ¬ 0 < (Val.of (dimT n)).kn from Nat.lt_irrefl 0), if_pos (by decide)]
  show toldS (intN (dimT n)) (intOk (dimT n)) fLenP pxS (lengthS (dimT n) (intN (dimT n))) = _
  have hlen : lengthS (dimT n) (intN (dimT n)) = true := by
    unfold lengthS dimT
    rw [if_pos rfl]
    show eqB (fold pxS) pxS = true
    decide +kernel
  rw [hlen, e1, e2]
  unfold toldS
  rw [decide_eq_false (by omega), if_pos (by decide)]
/-! ### The tokens -/
def dR (n : Int) : List Int := (decC 8 n.toNat).map fun b => (b.toNat : Int)
theorem dR_ne (n : Int) : dR n ≠ [] := by
  intro e
  exact decC_ne 7 n.toNat (List.map_eq_nil_iff.1 e)
theorem dR_digit (n : Int) : ∀ c ∈ dR n, isIn 48 57 c = true := by
  intro c hc
  obtain ⟨b, hb, rfl⟩ := List.mem_map.1 hc
  have := decC_digit 8 _ b hb
  unfold isIn
  rw [decide_eq_true (by omega), decide_eq_true (by omega)]
  rfl
theorem strOf_dR (n : Int) (h0 : 0 ≤ n) : strOf (dR n) = itoaS n := by
  have hl := itoaS_pos n h0
  apply ByteArray.ext
  apply Array.toList_inj.1
  rw [hl]
  unfold strOf dR
  rw [List.map_map]
  show (decC 8 n.toNat).map _ = _
  have : ∀ b : UInt8, (byteOf ∘ fun b : UInt8 => (b.toNat : Int)) b = b := fun b => by
    show UInt8.ofNat ((b.toNat : Int)).toNat = b
    rw [Int.toNat_natCast]
    simp
  rw [List.map_congr_left (fun b _ => this b), List.map_id']
def pxR : List Int := [112, 120]
/-- A length's runes, and what stands behind. -/
theorem step_dim (n : Int) (h0 : 0 ≤ n) (r : List Int) (hr : r = [] ∨ isPart (at_ r 0) = false) : step (dR n ++ 112 :: 120 :: r) = some (dimT n, (dR n).length + 2) := by
  have := step_px [] (dR n) r (.inl rfl) (dR_ne n) (dR_digit n) hr
  rw [List.nil_append] at this
  rw [this, List.nil_append, strOf_dR n h0]
  rfl
theorem drop_dim (n : Int) (r : List Int) : (dR n ++ 112 :: 120 :: r).drop ((dR n).length + 2) = r := by
  rw [← List.drop_drop, List.drop_left]
  rfl
theorem lex_dim (n : Int) (h0 : 0 ≤ n) (r : List Int) (hr : r = [] ∨ isPart (at_ r 0) = false) (f : Nat) (l : List Tok) (h : lexF f r = some l) : lexF (f + 1) (dR n ++ 112 :: 120 :: r) = some (dimT n :: l) :=
  lexF_step f _ _ _ l (by simp) (step_dim n h0 r hr) (by rw [drop_dim]; exact h)
theorem lex_sp (r : List Int) (hr : r = [] ∨ isBlank (at_ r 0) = false) (f : Nat) (l : List Tok) (h : lexF f r = some l) : lexF (f + 1) (32 :: r) = some (spaceT :: l) :=
  lexF_step f _ _ _ l (by simp) (step_blank r hr) h
theorem dR_at (n : Int) (r : List Int) : isBlank (at_ (dR n ++ r) 0) = false := by
  have hne := dR_ne n
  cases hd : dR n with
  | nil => exact absurd hd hne
  | cons a l =>
    have := dR_digit n a (by rw [hd]; exact List.mem_cons_self ..)
    show isBlank a = false
    have hb : 48 ≤ a ∧ a ≤ 57 := by simpa [isIn] using this
    simp [isBlank]
    omega
theorem lexF_nil (f : Nat) : lexF f [] = some [] := by cases f <;> rfl
theorem lex_two (a b : Int) (ha : 0 ≤ a) (hb : 0 ≤ b) (f : Nat) : lexF (f + 3) (dR a ++ 112 :: 120 :: 32 :: (dR b ++ [112, 120])) = some [dimT a, spaceT, dimT b] :=
  lex_dim a ha (32 :: _) (.inr rfl) _ _ (lex_sp _ (.inr (dR_at b _)) _ _ (lex_dim b hb [] (.inl rfl) _ _ (lexF_nil _)))
theorem lex_three (a b c : Int) (ha : 0 ≤ a) (hb : 0 ≤ b) (hc : 0 ≤ c) (f : Nat) : lexF (f + 5) (dR a ++ 112 :: 120 :: 32 :: (dR b ++ 112 :: 120 :: 32 :: (dR c ++ [112, 120]))) = some [dimT a, spaceT, dimT b, spaceT, dimT c] :=
  lex_dim a ha (32 :: _) (.inr rfl) _ _ (lex_sp _ (.inr (dR_at b _)) _ _ (lex_dim b hb (32 :: _) (.inr rfl) _ _ (lex_sp _ (.inr (dR_at c _)) _ _ (lex_dim c hc [] (.inl rfl) _ _ (lexF_nil _)))))
theorem dR_tame (n : Int) : ∀ c ∈ dR n, tm c := by
  intro c hc
  have := dR_digit n c hc
  have hb : 48 ≤ c ∧ c ≤ 57 := by simpa [isIn] using this
  exact .inl hb
theorem runes_app (a b : ByteArray) : runesOf (a ++ b) = runesOf a ++ runesOf b := by unfold runesOf; simp
theorem runes_itoa (n : Int) (h0 : 0 ≤ n) : runesOf (itoaS n) = dR n := by
  unfold runesOf dR
  rw [itoaS_pos n h0]
def spS : ByteArray := ⟨#[32]⟩
def pxOf (n : Int) : ByteArray := itoaS n ++ pxS
def twoS (a b : Int) : ByteArray := pxOf a ++ spS ++ pxOf b
def threeS (a b c : Int) : ByteArray := pxOf a ++ spS ++ pxOf b ++ spS ++ pxOf c
theorem runes_two (a b : Int) (ha : 0 ≤ a) (hb : 0 ≤ b) : runesOf (twoS a b) = dR a ++ 112 :: 120 :: 32 :: (dR b ++ [112, 120]) := by
  unfold twoS pxOf
  simp only [runes_app, runes_itoa a ha, runes_itoa b hb]
  rw [show runesOf pxS = [112, 120] by rfl, show runesOf spS = [32] by rfl]
  simp
theorem runes_three (a b c : Int) (ha : 0 ≤ a) (hb : 0 ≤ b) (hc : 0 ≤ c) : runesOf (threeS a b c) = dR a ++ 112 :: 120 :: 32 :: (dR b ++ 112 :: 120 :: 32 :: (dR c ++ [112, 120])) := by
  unfold threeS pxOf
  simp only [runes_app, runes_itoa a ha, runes_itoa b hb, runes_itoa c hc]
  rw [show runesOf pxS = [112, 120] by rfl, show runesOf spS = [32] by rfl]
  simp
theorem dR_len (n : Int) : (dR n).length ≤ 8 := by unfold dR; rw [List.length_map]; exact decC_len 8 _
theorem lexes_two (a b : Int) (ha : 0 ≤ a) (hb : 0 ≤ b) : Lexes (twoS a b) [dimT a, spaceT, dimT b] := by
  have hr := runes_two a b ha hb
  have l1 := dR_len a
  have l2 := dR_len b
  have hlen : (runesOf (twoS a b)).length = (dR a).length + 5 + (dR b).length := by rw [hr]; simp; omega
  refine ⟨?_, ?_, by rw [← runesOf_len, hlen]; omega, by simp⟩
  · rw [hr]
    intro c hc
    simp only [List.mem_append, List.mem_cons, List.not_mem_nil, or_false] at hc
    rcases hc with h | h | h | h | h | h | h
    · exact dR_tame a c h
    · subst h; decide
    · subst h; decide
    · subst h; decide
    · exact dR_tame b c h
    · subst h; decide
    · subst h; decide
  · unfold Go.Proofs.YtpadcjcoafidgaaGreatDoor.lex
    rw [hlen, show (dR a).length + 5 + (dR b).length = ((dR a).length + 2 + (dR b).length) + 3 by omega, hr]
    exact lex_two a b ha hb _
theorem lexes_three (a b c : Int) (ha : 0 ≤ a) (hb : 0 ≤ b) (hc : 0 ≤ c) : Lexes (threeS a b c) [dimT a, spaceT, dimT b, spaceT, dimT c] := by
  have hr := runes_three a b c ha hb hc
  have l1 := dR_len a
  have l2 := dR_len b
  have l3 := dR_len c
  have hlen : (runesOf (threeS a b c)).length = (dR a).length + 8 + (dR b).length + (dR c).length := by rw [hr]; simp; omega
  refine ⟨?_, ?_, by rw [← runesOf_len, hlen]; omega, by simp⟩
  · rw [hr]
    intro x hx
    simp only [List.mem_append, List.mem_cons, List.not_mem_nil, or_false] at hx
    rcases hx with h | h | h | h | h | h | h | h | h | h | h
    · exact dR_tame a x h
    · subst h; decide
    · subst h; decide
    · subst h; decide
    · exact dR_tame b x h
    · subst h; decide
    · subst h; decide
    · subst h; decide
    · exact dR_tame c x h
    · subst h; decide
    · subst h; decide
  · unfold Go.Proofs.YtpadcjcoafidgaaGreatDoor.lex
    rw [hlen, show (dR a).length + 8 + (dR b).length + (dR c).length = ((dR a).length + 3 + (dR b).length + (dR c).length) + 5 by omega, hr]
    exact lex_three a b c ha hb hc _
/-! ### What they are expanded to -/
def aPadding : ByteArray := ⟨#[112, 97, 100, 100, 105, 110, 103]⟩
def dimV (n : Int) : Val := Val.of (dimT n)
def spV : Val := Val.of spaceT
theorem isSp_dim (n : Int) : isSp (dimV n) = false := rfl
theorem isSp_sp : isSp spV = true := rfl
theorem trim_two (a b : Int) : trim [dimV a, spV, dimV b] = [dimV a, spV, dimV b] := by
  unfold trim
  rw [List.dropWhile_cons, isSp_dim, if_neg (by decide)]
  show ((dimV b :: spV :: dimV a :: []).dropWhile isSp).reverse = _
  rw [List.dropWhile_cons, isSp_dim, if_neg (by decide)]
  rfl
theorem trim_three (a b c : Int) : trim [dimV a, spV, dimV b, spV, dimV c] = [dimV a, spV, dimV b, spV, dimV c] := by
  unfold trim
  rw [List.dropWhile_cons, isSp_dim, if_neg (by decide)]
  show ((dimV c :: spV :: dimV b :: spV :: dimV a :: []).dropWhile isSp).reverse = _
  rw [List.dropWhile_cons, isSp_dim, if_neg (by decide)]
  rfl
theorem trim_one (n : Int) : trim [dimV n] = [dimV n] := by
  unfold trim
  rw [List.dropWhile_cons, isSp_dim, if_neg (by decide)]
  show ((dimV n :: []).dropWhile isSp).reverse = _
  rw [List.dropWhile_cons, isSp_dim, if_neg (by decide)]
  rfl
theorem parts_two (a b : Int) : partsS [dimV a, spV, dimV b] = some [dimV a, dimV b] := by
  unfold partsS
  rw [trim_two]
  simp [partsF, isSp_dim, isSp_sp]
theorem parts_three (a b c : Int) : partsS [dimV a, spV, dimV b, spV, dimV c] = some [dimV a, dimV b, dimV c] := by
  unfold partsS
  rw [trim_three]
  simp [partsF, isSp_dim, isSp_sp]
def padLongs : List ByteArray := longsOf aPadding
theorem pad_facts : padLongs.length = 4 ∧ (placeN aPadding).isNone = true ∧ eqB aPadding aOverflow = false ∧ padLongs.all (fun s => (placeN s).isSome && memB fLenP ((parts (findRow s).2.2.2).take 1)) = true := by decide +kernel
theorem parse_pad (s : ByteArray) (hs : s ∈ padLongs) (n : Int) (h0 : 0 ≤ n) (h1 : n ≤ 1000000) : parseS s [dimV n] = some (pxOf n) := by
  have h := List.all_eq_true.1 pad_facts.2.2.2 s hs
  rw [Bool.and_eq_true] at h
  rw [parseS_one (trim_one n), if_pos h.1]
  cases hp : parts (findRow s).2.2.2 with
  | nil =>
    rw [hp] at h
    have := h.2
    cases this
  | cons f fs =>
    rw [hp] at h
    have hf : f = fLenP := by
      have h2 := h.2
      unfold memB at h2
      simp only [List.take_succ_cons, List.take_zero, List.any_cons, List.any_nil, Bool.or_false] at h2
      exact ((eqB_iff _ _).1 h2).symm
    subst hf
    unfold firstPart
    rw [show partS fLenP (dimV n) = some (pxOf n) from part_dim n h0 h1]
theorem four_list {α : Type} (l : List α) (h : l.length = 4) : ∃ a b c d, l = [a, b, c, d] := by
  match l, h with
  | [a, b, c, d], _ => exact ⟨a, b, c, d, rfl⟩
theorem which_pad (n i : Int) : whichS aPadding n i = sidesS n i := by
  unfold whichS
  rw [pad_facts.2.2.1, if_neg (by decide)]
theorem spread_two (a b : Int) (ha : 0 ≤ a) (ha2 : a ≤ 1000000) (hb : 0 ≤ b) (hb2 : b ≤ 1000000) : spreadS aPadding padLongs [dimV a, spV, dimV b] = [pxOf a, pxOf b, pxOf a, pxOf b] := by
  obtain ⟨w, x, y, z, hl⟩ := four_list padLongs pad_facts.1
  unfold spreadS
  rw [parts_two]
  have hw := parse_pad w (by rw [hl]; simp) a ha ha2
  have hx := parse_pad x (by rw [hl]; simp) b hb hb2
  have hy := parse_pad y (by rw [hl]; simp) a ha ha2
  have hz := parse_pad z (by rw [hl]; simp) b hb hb2
  rw [hl]
  simp only [List.length_cons, List.length_nil, spreadF, which_pad]
  rw [show sidesS ((0 + 1 + 1 : Nat) : Int) ((0 : Nat) : Int) = 0 by decide, show sidesS ((0 + 1 + 1 : Nat) : Int) ((0 + 1 : Nat) : Int) = 1 by decide, show sidesS ((0 + 1 + 1 : Nat) : Int) ((0 + 1 + 1 : Nat) : Int) = 0 by decide, show sidesS ((0 + 1 + 1 : Nat) : Int) ((0 + 1 + 1 + 1 : Nat) : Int) = 1 by decide]
  simp [hw, hx, hy, hz]
theorem spread_three (a b c : Int) (ha : 0 ≤ a) (ha2 : a ≤ 1000000) (hb : 0 ≤ b) (hb2 : b ≤ 1000000) (hc : 0 ≤ c) (hc2 : c ≤ 1000000) : spreadS aPadding padLongs [dimV a, spV, dimV b, spV, dimV c] = [pxOf a, pxOf b, pxOf c, pxOf b] := by
  obtain ⟨w, x, y, z, hl⟩ := four_list padLongs pad_facts.1
  unfold spreadS
  rw [parts_three]
  have hw := parse_pad w (by rw [hl]; simp) a ha ha2
  have hx := parse_pad x (by rw [hl]; simp) b hb hb2
  have hy := parse_pad y (by rw [hl]; simp) c hc hc2
  have hz := parse_pad z (by rw [hl]; simp) b hb hb2
  rw [hl]
  simp only [List.length_cons, List.length_nil, spreadF, which_pad]
  rw [show sidesS ((0 + 1 + 1 + 1 : Nat) : Int) ((0 : Nat) : Int) = 0 by decide, show sidesS ((0 + 1 + 1 + 1 : Nat) : Int) ((0 + 1 : Nat) : Int) = 1 by decide, show sidesS ((0 + 1 + 1 + 1 : Nat) : Int) ((0 + 1 + 1 : Nat) : Int) = 2 by decide, show sidesS ((0 + 1 + 1 + 1 : Nat) : Int) ((0 + 1 + 1 + 1 : Nat) : Int) = 1 by decide]
  simp [hw, hx, hy, hz]
theorem wide_two (a b : Int) : wideS [dimV a, spV, dimV b] = noStr := wideS_not (by rw [trim_two]; simp)
theorem wide_three (a b c : Int) : wideS [dimV a, spV, dimV b, spV, dimV c] = noStr := wideS_not (by rw [trim_three]; simp)
theorem dim_fits (n : Int) (h0 : 0 ≤ n) : (dimV n).fits := by
  refine ⟨?_, show pxS.size ≤ 4294967295 by decide⟩
  show (itoaS n).size ≤ 4294967295
  have h := itoaS_pos n h0
  have h2 : (itoaS n).size = (itoaS n).data.toList.length := by rw [Array.length_toList]; rfl
  have := decC_len 8 n.toNat
  rw [h2, h]
  omega
theorem sp_fits : spV.fits := ⟨by decide, by decide⟩
end Go.Proofs.YtpadcjcoafidgaaGreatDoor
/-! What a value was read as is read as itself (plain). -/
namespace Go.Proofs.YtpadcjcoafidgaaGreatDoor
open Go.RowKit

/-! ### Whole numbers as texts -/
def absI (n : Int) : Int := (n.natAbs : Int)
def sgR (n : Int) : List Int := if n < 0 then [45] else []
theorem itoaS_neg {n : Int} (h : n < 0) : (itoaS n).data.toList = 45 :: decC 8 n.natAbs := by
  show (itoaC n).toArray.toList = _
  unfold itoaC
  rw [if_pos h]
theorem itoaS_abs (n : Int) : (itoaS (absI n)).data.toList = decC 8 n.natAbs := by
  rw [itoaS_pos _ (by unfold absI; omega)]
  unfold absI
  rw [Int.toNat_natCast]
theorem runes_all (n : Int) : runesOf (itoaS n) = sgR n ++ dR (absI n) := by
  unfold sgR
  by_cases h : n < 0
  · rw [if_pos h]
    unfold runesOf dR absI
    rw [itoaS_neg h, Int.toNat_natCast]
    rfl
  · rw [if_neg h, List.nil_append, show absI n = n by unfold absI; omega]
    exact runes_itoa n (by omega)
theorem sgR_or (n : Int) : sgR n = [] ∨ sgR n = [45] := by
  unfold sgR
  split
  · exact .inr rfl
  · exact .inl rfl
theorem strOf_runes (s : ByteArray) : strOf (runesOf s) = s := by
  unfold strOf runesOf
  rw [List.map_map]
  have : ∀ b : UInt8, (byteOf ∘ fun b : UInt8 => (b.toNat : Int)) b = b := fun b => by
    show UInt8.ofNat ((b.toNat : Int)).toNat = b
    rw [Int.toNat_natCast]
    exact UInt8.ofNat_toNat
  rw [List.map_congr_left (fun b _ => this b), List.map_id']
theorem int_any_tok (k : Int) (u : ByteArray) (hk : 10 ≤ k) (hk2 : k ≤ 12) (n : Int) (h0 : -1000000 ≤ n) (h1 : n ≤ 1000000) : intOk ⟨k, itoaS n, u, true, false⟩ = true ∧ intN ⟨k, itoaS n, u, true, false⟩ = n := by
  by_cases h : n < 0
  · have hl := itoaS_neg h
    have ha := itoaS_abs n
    have e43 : tp (itoaS n) 43 = itoaS n := by
      unfold tp Lib.trimPrefix Lib.hasPrefix
      rw [hl]
      show (⟨(45 :: decC 8 n.natAbs).toArray⟩ : ByteArray) = _
      rw [← hl]
    have e45 : tp (itoaS n) 45 = itoaS (absI n) := by
      unfold tp Lib.trimPrefix Lib.hasPrefix
      rw [hl]
      show (⟨(decC 8 n.natAbs).toArray⟩ : ByteArray) = _
      rw [← ha]
    have ed : intDigs (itoaS n) = itoaS (absI n) := by
      unfold intDigs
      rw [e43, if_neg (Nat.lt_irrefl _), e45]
    have hne : eqB (itoaS (absI n)) noStr = false := by
      cases hq : eqB (itoaS (absI n)) noStr with
      | false => rfl
      | true =>
        have := (eqB_iff _ _).1 hq
        rw [this] at ha
        exact absurd ha.symm (decC_ne 7 _)
    have hbad : anyBad (itoaS (absI n)) = false := by
      unfold anyBad
      rw [ha, List.any_eq_false]
      intro b hb
      have := decC_digit 8 _ b hb
      unfold notDig isIn
      rw [decide_eq_true (by omega), decide_eq_true (by omega)]
      decide
    have hok : intOk ⟨k, itoaS n, u, true, false⟩ = true := by
      unfold intOk
      simp only [ed, hne, hbad, decide_eq_true hk, decide_eq_true hk2]
      rfl
    refine ⟨hok, ?_⟩
    unfold intN
    rw [if_pos hok]
    show intVal (itoaS n) = n
    unfold intVal
    have hx : eqB (itoaS (absI n)) (itoaS n) = false := by
      cases hq : eqB (itoaS (absI n)) (itoaS n) with
      | false => rfl
      | true =>
        have := (eqB_iff _ _).1 hq
        have e2 := congrArg (fun s : ByteArray => s.data.toList.length) this
        simp only [ha, hl, List.length_cons] at e2
        omega
    rw [ed, e43, hx, if_neg (by decide), ha, decN_decC 8 _ (by omega) (by omega)]
    omega
  · obtain ⟨e1, e2⟩ := intDigs_dim n (by omega)
    have hl := itoaS_pos n (by omega)
    have hne : eqB (itoaS n) noStr = false := by
      cases hq : eqB (itoaS n) noStr with
      | false => rfl
      | true =>
        have := (eqB_iff _ _).1 hq
        rw [this] at hl
        exact absurd hl.symm (decC_ne 7 _)
    have hbad : anyBad (itoaS n) = false := by
      unfold anyBad
      rw [hl, List.any_eq_false]
      intro b hb
      have := decC_digit 8 _ b hb
      unfold notDig isIn
      rw [decide_eq_true (by omega), decide_eq_true (by omega)]
      decide
    have hok : intOk ⟨k, itoaS n, u, true, false⟩ = true := by
      unfold intOk
      simp only [e1, hne, hbad, decide_eq_true hk, decide_eq_true hk2]
      rfl
    refine ⟨hok, ?_⟩
    unfold intN
    rw [if_pos hok]
    show intVal (itoaS n) = n
    unfold intVal
    rw [e1, e2, if_pos (eqB_self _), hl, decN_decC 8 _ (by omega) (by omega)]
    omega
/-! ### What can come out of a form -/
inductive Out where
  | dim (n : Int)
  | pct (n : Int)
  | num (n : Int)
  | col (l : List UInt8)
  | kw (f : ByteArray)
def Out.text : Out → ByteArray
  | .dim n => itoaS n ++ pxS
  | .pct n => itoaS n ++ pcS
  | .num n => itoaS n
  | .col l => colB l
  | .kw f => f
def Out.tok : Out → Tok
  | .dim n => ⟨12, itoaS n, pxS, true, false⟩
  | .pct n => ⟨11, itoaS n, noStr, true, false⟩
  | .num n => ⟨10, itoaS n, noStr, true, false⟩
  | .col l => colT l
  | .kw f => ⟨1, f, noStr, false, false⟩
/-- A word of small letters and hyphens, a letter first, that is no colour and no value for all. -/
def isLet (b : UInt8) : Bool := isIn 97 122 (b.toNat : Int)
def kwOk (f : ByteArray) : Bool := (f.data.toList.take 1).any isLet && f.data.toList.all (fun b => isLet b || b == 45) && decide (f.size ≤ 100) && (colIx f).isNone && !memB f wides
def Out.ok : Out → Prop
  | .dim n => -1000000 ≤ n ∧ n ≤ 1000000
  | .pct n => -1000000 ≤ n ∧ n ≤ 1000000
  | .num n => -1000000 ≤ n ∧ n ≤ 1000000
  | .col l => lowAll l = true ∧ l.length = 6
  | .kw f => kwOk f = true
def isForm (f : ByteArray) : Bool := eqB f fLen || eqB f fLenP || eqB f fPct || eqB f fPctP || eqB f fInt || eqB f fIntP || eqB f fCol
theorem forms_ok : ∀ n : Fin 48, (parts (rowAt n.val).2.2.2).all (fun f => isForm f || kwOk f) = true := by decide +kernel
theorem let_tab : ∀ n : Fin 256, (isLet (UInt8.ofNat n.val) = true → isStart ((n.val : Nat) : Int) = true ∧ isBlank ((n.val : Nat) : Int) = false ∧ isIn 48 57 ((n.val : Nat) : Int) = false ∧ ((n.val : Nat) : Int) ≠ 45 ∧ ((n.val : Nat) : Int) ≠ 35) ∧
    ((isLet (UInt8.ofNat n.val) || UInt8.ofNat n.val == 45) = true → isPart ((n.val : Nat) : Int) = true ∧ tm ((n.val : Nat) : Int) ∧ foldB (UInt8.ofNat n.val) = UInt8.ofNat n.val) := by decide +kernel
theorem let_facts (b : UInt8) (h : isLet b = true) : isStart (b.toNat : Int) = true ∧ isBlank (b.toNat : Int) = false ∧ isIn 48 57 (b.toNat : Int) = false ∧ (b.toNat : Int) ≠ 45 ∧ (b.toNat : Int) ≠ 35 := by
  have hb : UInt8.ofNat b.toNat = b := UInt8.ofNat_toNat
  have := (let_tab ⟨b.toNat, b.toNat_lt⟩).1
  simp only [hb] at this
  exact this h
theorem kwc_facts (b : UInt8) (h : (isLet b || b == 45) = true) : isPart (b.toNat : Int) = true ∧ tm (b.toNat : Int) ∧ foldB b = b := by
  have hb : UInt8.ofNat b.toNat = b := UInt8.ofNat_toNat
  have := (let_tab ⟨b.toNat, b.toNat_lt⟩).2
  simp only [hb] at this
  exact this h
structure Kw (f : ByteArray) : Prop where
  first : ∃ a l, f.data.toList = a :: l ∧ isLet a = true
  all : ∀ b ∈ f.data.toList, (isLet b || b == 45) = true
  small : f.size ≤ 100
  col : colIx f = none
  wide : memB f wides = false
theorem kw_of {f : ByteArray} (h : kwOk f = true) : Kw f := by
  unfold kwOk at h
  simp only [Bool.and_eq_true, decide_eq_true_eq, Bool.not_eq_true', Option.isNone_iff_eq_none] at h
  obtain ⟨⟨⟨⟨h1, h2⟩, h3⟩, h4⟩, h5⟩ := h
  refine ⟨?_, List.all_eq_true.1 h2, h3, h4, h5⟩
  cases hl : f.data.toList with
  | nil => rw [hl] at h1; simp at h1
  | cons a l =>
    rw [hl] at h1
    exact ⟨a, l, rfl, by simpa using h1⟩
theorem fold_kw {f : ByteArray} (h : Kw f) : fold f = f := by
  unfold fold
  rw [List.map_congr_left (g := id) (fun b hb => (kwc_facts b (h.all b hb)).2.2), List.map_id]
/-! ### Its token -/
theorem step_out (o : Out) (ho : o.ok) (r : List Int) (hr : r = [] ∨ at_ r 0 = 32) : step (runesOf o.text ++ r) = some (o.tok, o.text.size) := by
  have hp : r = [] ∨ isPart (at_ r 0) = false := hr.imp id (fun e => by rw [e]; decide)
  cases o with
  | dim n =>
    show step (runesOf (itoaS n ++ pxS) ++ r) = _
    have hs := step_px (sgR n) (dR (absI n)) r (sgR_or n) (dR_ne _) (dR_digit _) hp
    rw [runes_app, runes_all, show runesOf pxS = [112, 120] from rfl]
    rw [show sgR n ++ dR (absI n) ++ [112, 120] ++ r = sgR n ++ (dR (absI n) ++ 112 :: 120 :: r) by simp, hs, ← runes_all, strOf_runes]
    rw [runesOf_len]
    show _ = some (_, (itoaS n ++ pxS).size)
    rw [ByteArray.size_append]
    rfl
  | pct n =>
    show step (runesOf (itoaS n ++ pcS) ++ r) = _
    have hs := step_pct (sgR n) (dR (absI n)) r (sgR_or n) (dR_ne _) (dR_digit _)
    rw [runes_app, runes_all, show runesOf pcS = [37] from rfl]
    rw [show sgR n ++ dR (absI n) ++ [37] ++ r = sgR n ++ (dR (absI n) ++ 37 :: r) by simp, hs, ← runes_all, strOf_runes]
    rw [runesOf_len]
    show _ = some (_, (itoaS n ++ pcS).size)
    rw [ByteArray.size_append]
    rfl
  | num n =>
    show step (runesOf (itoaS n) ++ r) = _
    have hs := step_int (sgR n) (dR (absI n)) r (sgR_or n) (dR_ne _) (dR_digit _) hr
    rw [runes_all, List.append_assoc, hs, ← runes_all, strOf_runes, runesOf_len]
    rfl
  | col l =>
    obtain ⟨h1, h2⟩ := ho
    have hne : l ≠ [] := by intro e; rw [e] at h2; simp at h2
    have hl := rn_part h1
    show step (35 :: (rn l ++ r)) = _
    cases l with
    | nil => exact absurd rfl hne
    | cons a l =>
      have ha := low_facts a (lowAll_iff.1 h1 a (List.mem_cons_self ..))
      have htw := takeWhile_stop (rn (a :: l)) r hl hp
      unfold step
      rw [show at_ (35 :: (rn (a :: l) ++ r)) 0 = 35 from rfl, if_neg (by decide), if_pos rfl, show at_ (35 :: (rn (a :: l) ++ r)) 1 = (a.toNat : Int) from rfl, if_pos ⟨by omega, ha.1⟩]
      unfold hashT nameLen
      rw [List.drop_succ_cons, List.drop_zero, htw, strOf_rn]
      have hb : begins (rn (a :: l) ++ r) = begins (rn (a :: l)) := by
        unfold begins
        have hl6 : 2 ≤ (rn (a :: l)).length := by unfold rn; rw [List.length_map]; omega
        rw [show at_ (rn (a :: l) ++ r) 0 = at_ (rn (a :: l)) 0 by unfold at_; rw [List.getElem?_append_left (by omega)], show at_ (rn (a :: l) ++ r) 1 = at_ (rn (a :: l)) 1 by unfold at_; rw [List.getElem?_append_left (by omega)]]
      rw [hb]
      show _ = some (colT (a :: l), (35 :: a :: l).length)
      simp [rn, colT]
      omega
  | kw f =>
    have hk := kw_of ho
    obtain ⟨a, l, hl, ha⟩ := hk.first
    obtain ⟨a1, a2, a3, a4, a5⟩ := let_facts a ha
    have hall : ∀ c ∈ runesOf f, isPart c = true := by
      intro c hc
      obtain ⟨b, hb, rfl⟩ := List.mem_map.1 hc
      exact (kwc_facts b (hk.all b hb)).1
    have htw := takeWhile_stop (runesOf f) r hall hp
    have hrf : runesOf f = (a.toNat : Int) :: runesOf ⟨l.toArray⟩ := by unfold runesOf; rw [hl]; rfl
    have h0 : at_ (runesOf f ++ r) 0 = (a.toNat : Int) := by rw [hrf]; rfl
    show step (runesOf f ++ r) = some (⟨1, f, noStr, false, false⟩, f.size)
    have hc : counts (runesOf f ++ r) = false := by
      unfold counts
      rw [h0, if_neg a4]
      exact a3
    have hb : begins (runesOf f ++ r) = true := by
      unfold begins
      rw [h0, if_neg a4, a1, decide_eq_true (by omega)]
      rfl
    unfold step
    rw [h0, a2, if_neg (by decide), if_neg a5, hc, if_neg (by decide), hb, if_pos rfl]
    unfold wordT nameLen
    rw [htw, strOf_runes, runesOf_len]
theorem out_tame (o : Out) (ho : o.ok) : ∀ c ∈ runesOf o.text, tm c := by
  have hd : ∀ (n : Int) (c : Int), c ∈ runesOf (itoaS n) → tm c := by
    intro n c hc
    rw [runes_all] at hc
    rcases List.mem_append.1 hc with h | h
    · rcases sgR_or n with e | e <;> rw [e] at h
      · cases h
      · rw [List.mem_singleton.1 h]; decide
    · exact dR_tame _ c h
  cases o with
  | dim n =>
    intro c hc
    rw [show (Out.dim n).text = itoaS n ++ pxS from rfl, runes_app] at hc
    rcases List.mem_append.1 hc with h | h
    · exact hd n c h
    · have : c = 112 ∨ c = 120 := by simpa [pxS, runesOf] using h
      rcases this with rfl | rfl <;> decide
  | pct n =>
    intro c hc
    rw [show (Out.pct n).text = itoaS n ++ pcS from rfl, runes_app] at hc
    rcases List.mem_append.1 hc with h | h
    · exact hd n c h
    · have : c = 37 := by simpa [pcS, runesOf] using h
      subst this; decide
  | num n => exact hd n
  | col l =>
    intro c hc
    rcases List.mem_cons.1 (show c ∈ 35 :: rn l from hc) with rfl | hc
    · decide
    · obtain ⟨b, hb, rfl⟩ := List.mem_map.1 hc
      exact (low_facts b (lowAll_iff.1 ho.1 b hb)).2.1
  | kw f =>
    intro c hc
    obtain ⟨b, hb, rfl⟩ := List.mem_map.1 hc
    exact (kwc_facts b ((kw_of ho).all b hb)).2.1
theorem itoaS_size (n : Int) : 1 ≤ (itoaS n).size ∧ (itoaS n).size ≤ 9 := by
  rw [← runesOf_len, runes_all, List.length_append]
  have h1 := dR_len (absI n)
  have h2 : 1 ≤ (dR (absI n)).length := by
    rcases Nat.eq_zero_or_pos (dR (absI n)).length with h | h
    · exact absurd (List.eq_nil_of_length_eq_zero h) (dR_ne _)
    · exact h
  rcases sgR_or n with e | e <;> rw [e] <;> simp <;> omega
theorem out_size (o : Out) (ho : o.ok) : 1 ≤ o.text.size ∧ o.text.size ≤ 100 := by
  cases o with
  | dim n =>
    have := itoaS_size n
    show 1 ≤ (itoaS n ++ pxS).size ∧ (itoaS n ++ pxS).size ≤ 100
    rw [ByteArray.size_append, show pxS.size = 2 from rfl]
    omega
  | pct n =>
    have := itoaS_size n
    show 1 ≤ (itoaS n ++ pcS).size ∧ (itoaS n ++ pcS).size ≤ 100
    rw [ByteArray.size_append, show pcS.size = 1 from rfl]
    omega
  | num n =>
    have := itoaS_size n
    show 1 ≤ (itoaS n).size ∧ (itoaS n).size ≤ 100
    omega
  | col l =>
    show 1 ≤ (35 :: l).length ∧ (35 :: l).length ≤ 100
    rw [List.length_cons, ho.2]
    omega
  | kw f =>
    obtain ⟨a, l, hl, -⟩ := (kw_of ho).first
    refine ⟨?_, (kw_of ho).small⟩
    show 1 ≤ f.size
    have : f.size = f.data.toList.length := by rw [Array.length_toList]; rfl
    rw [this, hl]
    simp
theorem lexes_out (o : Out) (ho : o.ok) : Lexes o.text [o.tok] := by
  have hs := step_out o ho [] (.inl rfl)
  have hz := out_size o ho
  rw [List.append_nil] at hs
  have hl : (runesOf o.text).length = o.text.size := runesOf_len _
  refine ⟨out_tame o ho, ?_, by omega, by simp⟩
  unfold Go.Proofs.YtpadcjcoafidgaaGreatDoor.lex
  obtain ⟨m, hm⟩ : ∃ m, (runesOf o.text).length = m + 1 := ⟨(runesOf o.text).length - 1, by omega⟩
  rw [hm]
  refine lexF_step _ _ o.tok o.text.size [] (by intro e; rw [e] at hm; simp at hm) hs ?_
  rw [List.drop_eq_nil_of_le (by omega)]
  exact lexF_nil _
theorem out_fits (o : Out) (ho : o.ok) : (Val.of o.tok).fits := by
  have hz := out_size o ho
  cases o with
  | dim n => exact ⟨by have := itoaS_size n; show (itoaS n).size ≤ _; omega, by show 2 ≤ _; omega⟩
  | pct n => exact ⟨by have := itoaS_size n; show (itoaS n).size ≤ _; omega, by show 0 ≤ _; omega⟩
  | num n => exact ⟨by have := itoaS_size n; show (itoaS n).size ≤ _; omega, by show 0 ≤ _; omega⟩
  | col l => exact ⟨by show l.length ≤ _; rw [ho.2]; omega, by show 0 ≤ _; omega⟩
  | kw f => exact ⟨by show f.size ≤ _; exact Nat.le_trans (kw_of ho).small (by omega), by show 0 ≤ _; omega⟩
end Go.Proofs.YtpadcjcoafidgaaGreatDoor
/-! What value.Parse reads is read as itself (plain). -/
namespace Go.Proofs.YtpadcjcoafidgaaGreatDoor
open Go.RowKit

theorem told_some {n : Int} {wh : Bool} {f u : ByteArray} {is : Bool} {s : ByteArray} (h : toldS n wh f u is = some s) : is = true ∧ wh = true ∧ s = itoaS n ++ u ∧ toldS n true f u true = some s := by
  unfold toldS at h
  split at h
  · rename_i hc
    simp only [Bool.and_eq_true] at hc
    obtain ⟨⟨h1, h2⟩, h3⟩ := hc
    subst h1 h2
    refine ⟨rfl, rfl, (Option.some.inj h).symm, ?_⟩
    unfold toldS
    rw [h3]
    exact h
  · cases h
theorem told_two (n : Int) (g u : ByteArray) : toldS n true g u true = none ∨ toldS n true g u true = some (itoaS n ++ u) := by
  unfold toldS
  split
  · exact .inr rfl
  · exact .inl rfl
theorem told_false (n : Int) (wh : Bool) (g u : ByteArray) : toldS n wh g u false = none := rfl
def lenF (g : ByteArray) : Bool := eqB g fLen || eqB g fLenP
def pctF (g : ByteArray) : Bool := eqB g fPct || eqB g fPctP
def intF (g : ByteArray) : Bool := eqB g fInt || eqB g fIntP
theorem part_eq (g : ByteArray) (x : Val) (h : ¬ 0 < x.kn) : partS g x = if lenF g = true then toldS (intN x.tok) (intOk x.tok) g pxS (lengthS x.tok (intN x.tok)) else if pctF g = true then toldS (intN x.tok) (intOk x.tok) g pcS (x.tok.k == 11)
    else if intF g = true then toldS (intN x.tok) (intOk x.tok) g noStr (x.tok.k == 10) else if eqB g fCol = true then colorS x.tok else if (decide (x.tok.k = 1) && eqB (identS x) g) = true then some g else none := by
  unfold partS
  rw [if_neg h]
  rfl
theorem kn_of (t : Tok) : ¬ 0 < (Val.of t).kn := Nat.lt_irrefl 0
theorem app_no (z : ByteArray) : z ++ noStr = z := by
  apply ByteArray.ext
  apply Array.toList_inj.1
  simp [noStr]
theorem part_dimO (g : ByteArray) (n : Int) (h0 : -1000000 ≤ n) (h1 : n ≤ 1000000) : partS g (Val.of (Out.dim n).tok) = if lenF g = true then toldS n true g pxS true else none := by
  obtain ⟨e1, e2⟩ := int_any_tok 12 pxS (by decide) (by decide) n h0 h1
  rw [part_eq g _ (kn_of _)]
  show (if lenF g = true then toldS (intN ⟨12, itoaS n, pxS, true, false⟩) (intOk ⟨12, itoaS n, pxS, true, false⟩) g pxS (lengthS ⟨12, itoaS n, pxS, true, false⟩ (intN ⟨12, itoaS n, pxS, true, false⟩)) else _) = _
  rw [e1, e2]
  have hlen : lengthS ⟨12, itoaS n, pxS, true, false⟩ n = true := by
    unfold lengthS
    rw [if_pos rfl]
    show eqB (fold pxS) pxS = true
    decide +kernel
  rw [hlen]
  split
  · rfl
  · split
    · rfl
    · split
      · rfl
      · split
        · rfl
        · rfl
theorem part_pctO (g : ByteArray) (n : Int) (h0 : -1000000 ≤ n) (h1 : n ≤ 1000000) : partS g (Val.of (Out.pct n).tok) = if lenF g = true then none else if pctF g = true then toldS n true g pcS true else none := by
  obtain ⟨e1, e2⟩ := int_any_tok 11 noStr (by decide) (by decide) n h0 h1
  rw [part_eq g _ (kn_of _)]
  show (if lenF g = true then toldS (intN ⟨11, itoaS n, noStr, true, false⟩) (intOk ⟨11, itoaS n, noStr, true, false⟩) g pxS (lengthS ⟨11, itoaS n, noStr, true, false⟩ (intN ⟨11, itoaS n, noStr, true, false⟩)) else if pctF g = true then toldS (intN ⟨11, itoaS n, noStr, true, false⟩) (intOk ⟨11, itoaS n, noStr, true, false⟩) g pcS true else _) = _
  rw [e1, e2]
  have hlen : lengthS ⟨11, itoaS n, noStr, true, false⟩ n = false := by
    unfold lengthS
    rw [if_neg (by show ¬ ((11 : Int) = 12); decide)]
    rfl
  rw [hlen]
  split
  · rfl
  · split
    · rfl
    · split
      · rfl
      · split
        · rfl
        · rfl
theorem part_numO (g : ByteArray) (n : Int) (h0 : -1000000 ≤ n) (h1 : n ≤ 1000000) : partS g (Val.of (Out.num n).tok) = if lenF g = true then toldS n true g pxS (decide (n = 0)) else if pctF g = true then none else if intF g = true then toldS n true g noStr true else none := by
  obtain ⟨e1, e2⟩ := int_any_tok 10 noStr (by decide) (by decide) n h0 h1
  rw [part_eq g _ (kn_of _)]
  show (if lenF g = true then toldS (intN ⟨10, itoaS n, noStr, true, false⟩) (intOk ⟨10, itoaS n, noStr, true, false⟩) g pxS (lengthS ⟨10, itoaS n, noStr, true, false⟩ (intN ⟨10, itoaS n, noStr, true, false⟩)) else if pctF g = true then toldS (intN ⟨10, itoaS n, noStr, true, false⟩) (intOk ⟨10, itoaS n, noStr, true, false⟩) g pcS false else if intF g = true then toldS (intN ⟨10, itoaS n, noStr, true, false⟩) (intOk ⟨10, itoaS n, noStr, true, false⟩) g noStr true else _) = _
  rw [e1, e2]
  have hlen : lengthS ⟨10, itoaS n, noStr, true, false⟩ n = decide (n = 0) := by
    unfold lengthS
    rw [if_neg (by show ¬ ((10 : Int) = 12); decide)]
    rfl
  rw [hlen]
  split
  · rfl
  · split
    · rfl
    · split
      · rfl
      · split
        · rfl
        · rfl
theorem part_colO (g : ByteArray) (l : List UInt8) (h : lowAll l = true) (hl : l.length = 6) : partS g (Val.of (Out.col l).tok) = if lenF g = true then none else if pctF g = true then none else if intF g = true then none else if eqB g fCol = true then some (colB l) else none := by
  rw [part_eq g _ (kn_of _)]
  show (if lenF g = true then toldS _ _ g pxS (lengthS (colT l) (intN (colT l))) else if pctF g = true then _ else if intF g = true then _ else if eqB g fCol = true then colorS (colT l) else _) = _
  rw [color_six l h hl]
  have hlen : lengthS (colT l) (intN (colT l)) = false := by
    unfold lengthS
    rw [if_neg (by show ¬ (4 : Int) = 12; decide)]
    rfl
  rw [hlen]
  split
  · rfl
  · split
    · rfl
    · split
      · rfl
      · split
        · rfl
        · rfl
theorem part_kwO (g f : ByteArray) (h : Kw f) : partS g (Val.of (Out.kw f).tok) = if lenF g = true then none else if pctF g = true then none else if intF g = true then none else if eqB g fCol = true then none else if eqB f g = true then some g else none := by
  rw [part_eq g _ (kn_of _)]
  have hc : colorS ⟨1, f, noStr, false, false⟩ = none := by
    unfold colorS
    rw [if_pos rfl]
    show (match colIx (fold f) with | some n => some (colourAt n).2 | none => none) = none
    rw [fold_kw h, h.col]
  have hi : identS (Val.of ⟨1, f, noStr, false, false⟩) = f := by
    unfold identS
    rw [if_pos (show (Val.of ⟨1, f, noStr, false, false⟩).tok.k = 1 from rfl)]
    exact fold_kw h
  show (if lenF g = true then toldS _ _ g pxS (lengthS ⟨1, f, noStr, false, false⟩ _) else if pctF g = true then _ else if intF g = true then _ else if eqB g fCol = true then colorS ⟨1, f, noStr, false, false⟩ else if (decide ((1 : Int) = 1) && eqB (identS (Val.of ⟨1, f, noStr, false, false⟩)) g) = true then some g else none) = _
  rw [hc, hi]
  have hlen : ∀ n, lengthS ⟨1, f, noStr, false, false⟩ n = false := by
    intro n
    unfold lengthS
    rw [if_neg (by show ¬ ((1 : Int) = 12); decide)]
    rfl
  rw [hlen]
  split
  · rfl
  · split
    · rfl
    · split
      · rfl
      · split
        · rfl
        · rfl
/-- What a form reads, with its token: no other form that did not read the first value reads that token otherwise. -/
def Back (x : Val) (s : ByteArray) (o : Out) : Prop := o.ok ∧ s = o.text ∧ ∀ g, partS g x = none → partS g (Val.of o.tok) = none ∨ partS g (Val.of o.tok) = some s
theorem part_out {f : ByteArray} {x : Val} {s : ByteArray} (hf : isForm f = true ∨ kwOk f = true) (h : partS f x = some s) : ∃ o, Back x s o ∧ partS f (Val.of o.tok) = some s := by
  have hk : ¬ 0 < x.kn := by
    intro hk
    unfold partS at h
    rw [if_pos hk] at h
    cases h
  rw [part_eq f x hk] at h
  have hr := intN_range x.tok
  split at h
  · rename_i hl
    obtain ⟨h1, h2, h3, h4⟩ := told_some h
    refine ⟨.dim (intN x.tok), ⟨hr, h3, fun g _ => ?_⟩, ?_⟩
    · rw [part_dimO g _ hr.1 hr.2]
      split
      · rw [h3]; exact told_two _ _ _
      · exact .inl rfl
    · rw [part_dimO f _ hr.1 hr.2, if_pos hl]
      exact h4
  · rename_i hl
    split at h
    · rename_i hp
      obtain ⟨h1, h2, h3, h4⟩ := told_some h
      refine ⟨.pct (intN x.tok), ⟨hr, h3, fun g _ => ?_⟩, ?_⟩
      · rw [part_pctO g _ hr.1 hr.2]
        split
        · exact .inl rfl
        · split
          · rw [h3]; exact told_two _ _ _
          · exact .inl rfl
      · rw [part_pctO f _ hr.1 hr.2, if_neg hl, if_pos hp]
        exact h4
    · rename_i hp
      split at h
      · rename_i hi
        obtain ⟨h1, h2, h3, h4⟩ := told_some h
        have h3' : s = itoaS (intN x.tok) := by rw [h3, app_no]
        have hk10 : x.tok.k = 10 := by simpa using h1
        refine ⟨.num (intN x.tok), ⟨hr, h3', fun g hg => ?_⟩, ?_⟩
        · rw [part_numO g _ hr.1 hr.2]
          rw [part_eq g x hk] at hg
          split
          · rename_i hgl
            rw [if_pos hgl] at hg
            have hlen : lengthS x.tok (intN x.tok) = decide (intN x.tok = 0) := by
              unfold lengthS
              rw [if_neg (by rw [hk10]; decide), hk10]
              rfl
            rw [hlen, h2] at hg
            exact .inl hg
          · split
            · exact .inl rfl
            · split
              · rw [h3]; exact told_two _ _ _
              · exact .inl rfl
        · rw [part_numO f _ hr.1 hr.2, if_neg hl, if_neg hp, if_pos hi]
          exact h4
      · rename_i hi
        split at h
        · rename_i hc
          obtain ⟨l, rfl, hlow, hlen⟩ := color_shape h
          refine ⟨.col l, ⟨⟨hlow, hlen⟩, rfl, fun g _ => ?_⟩, ?_⟩
          · rw [part_colO g l hlow hlen]
            split
            · exact .inl rfl
            · split
              · exact .inl rfl
              · split
                · exact .inl rfl
                · split
                  · exact .inr rfl
                  · exact .inl rfl
          · rw [part_colO f l hlow hlen, if_neg hl, if_neg hp, if_neg hi, if_pos hc]
        · rename_i hc
          split at h
          · rename_i hid
            obtain rfl : f = s := Option.some.inj h
            have hkw : kwOk f = true := by
              rcases hf with hf | hf
              · exfalso
                unfold isForm at hf
                unfold lenF at hl
                unfold pctF at hp
                unfold intF at hi
                simp only [Bool.or_eq_true] at hf hl hp hi
                simp only [not_or] at hl hp hi
                rcases hf with (((((h | h) | h) | h) | h) | h) | h
                · exact hl.1 h
                · exact hl.2 h
                · exact hp.1 h
                · exact hp.2 h
                · exact hi.1 h
                · exact hi.2 h
                · exact hc h
              · exact hf
            refine ⟨.kw f, ⟨hkw, rfl, fun g _ => ?_⟩, ?_⟩
            · rw [part_kwO g f (kw_of hkw)]
              split
              · exact .inl rfl
              · split
                · exact .inl rfl
                · split
                  · exact .inl rfl
                  · split
                    · exact .inl rfl
                    · split
                      · rename_i he
                        rw [(eqB_iff _ _).1 he]
                        exact .inr rfl
                      · exact .inl rfl
            · rw [part_kwO f f (kw_of hkw), if_neg hl, if_neg hp, if_neg hi, if_neg hc, if_pos (eqB_self f)]
          · cases h
theorem first_out {x : Val} {s : ByteArray} : ∀ {fs : List ByteArray}, (∀ f ∈ fs, isForm f = true ∨ kwOk f = true) → firstPart fs x = some s → ∃ o, Back x s o ∧ firstPart fs (Val.of o.tok) = some s
  | [], _, h => by cases h
  | f :: fs, hf, h => by
    unfold firstPart at h
    split at h
    · rename_i s' hp
      obtain rfl : s' = s := Option.some.inj h
      obtain ⟨o, ho, h2⟩ := part_out (hf f (List.mem_cons_self ..)) hp
      refine ⟨o, ho, ?_⟩
      unfold firstPart
      rw [h2]
    · rename_i hp
      obtain ⟨o, ho, h2⟩ := first_out (fun g hg => hf g (List.mem_cons_of_mem _ hg)) h
      refine ⟨o, ho, ?_⟩
      unfold firstPart
      rcases ho.2.2 f hp with e | e <;> rw [e]
      exact h2
theorem isSp_out (o : Out) : isSp (Val.of o.tok) = false := by cases o <;> rfl
theorem row_forms (name : ByteArray) (h : (placeN name).isSome = true) : ∀ f ∈ parts (findRow name).2.2.2, isForm f = true ∨ kwOk f = true := by
  intro f hf
  obtain ⟨k, hk⟩ := Option.isSome_iff_exists.1 h
  have hk48 := placeN_lt hk
  unfold findRow at hf
  rw [hk] at hf
  have := List.all_eq_true.1 (forms_ok ⟨k, hk48⟩) f hf
  simpa using this
/-- WHAT IS READ IS READ AS ITSELF. -/
theorem parse_out {name : ByteArray} {l : List Val} {s : ByteArray} (h : parseS name l = some s) : ∃ o : Out, o.ok ∧ s = o.text ∧ parseS name [Val.of o.tok] = some s := by
  unfold parseS at h
  split at h
  · rename_i x _
    split at h
    · rename_i hp
      obtain ⟨o, ⟨h1, h2, -⟩, h3⟩ := first_out (row_forms name hp) h
      refine ⟨o, h1, h2, ?_⟩
      rw [parseS_one (trim_single (isSp_out o)), if_pos hp]
      exact h3
    · cases h
  · cases h
end Go.Proofs.YtpadcjcoafidgaaGreatDoor
/-! slices.Repeat of one text, no, two or four times. -/
namespace Go.Proofs.YtpadcjcoafidgaaGreatDoor
open Go.RowKit

set_option maxRecDepth 100000 in
set_option maxHeartbeats 2000000 in
theorem Mul_10 (w : World) : Calls Tryz.prog 79 #[.int .u64 1, .int .u64 0] w fun e w' => e = .returned (.tuple #[.int .u64 0, .int .u64 0]) ∧ Below w.heap.size w w' := by
  go_enter Tryz.func79, Tryz.ntmps79
  go_wp2
  exact bodyPost_ret (v := .tuple #[.int .u64 0, .int .u64 0]) (by kernel_rfl) rfl ⟨rfl, Below.refl _ _⟩
set_option maxRecDepth 100000 in
set_option maxHeartbeats 2000000 in
theorem Mul_12 (w : World) : Calls Tryz.prog 79 #[.int .u64 1, .int .u64 2] w fun e w' => e = .returned (.tuple #[.int .u64 0, .int .u64 2]) ∧ Below w.heap.size w w' := by
  go_enter Tryz.func79, Tryz.ntmps79
  go_wp2
  exact bodyPost_ret (v := .tuple #[.int .u64 0, .int .u64 2]) (by kernel_rfl) rfl ⟨rfl, Below.refl _ _⟩
set_option maxRecDepth 100000 in
set_option maxHeartbeats 2000000 in
theorem Mul_14 (w : World) : Calls Tryz.prog 79 #[.int .u64 1, .int .u64 4] w fun e w' => e = .returned (.tuple #[.int .u64 0, .int .u64 4]) ∧ Below w.heap.size w w' := by
  go_enter Tryz.func79, Tryz.ntmps79
  go_wp2
  exact bodyPost_ret (v := .tuple #[.int .u64 0, .int .u64 4]) (by kernel_rfl) rfl ⟨rfl, Below.refl _ _⟩
theorem infoStrR : (Tryz.prog.info? 9).map (fun i => (i.zero, i.size, i.bytes)) = some (some (.string ⟨#[]⟩), 1, 16) := by kernel_rfl
theorem infoStrS : (Tryz.prog.info? 9).map (·.size) = some 1 := by kernel_rfl
theorem copied {w : World} {b n : Nat} {s : ByteArray} (h : w.cell? ⟨b, 0, none⟩ = some (.string s)) {j : Nat} {v : Value} (hv : (List.replicate (Nat.min 1 n) (Value.string s))[j]? = some v) : w.cell? ((⟨b, 0, none⟩ : Addr).add j) = some v := by
  rw [List.getElem?_replicate] at hv
  split at hv
  · rename_i hj
    have hj0 : j = 0 := by
      have : Nat.min 1 n ≤ 1 := Nat.min_le_left ..
      omega
    subst hj0
    simp only [Option.some.injEq] at hv
    rw [← hv]
    exact h
  · cases hv
/-- The cells of the slice that is filled: m are there. -/
def filled (n m : Nat) (s : ByteArray) : List Value := List.replicate m (.string s) ++ List.replicate (n - m) (.string ⟨#[]⟩)
theorem made_rep (n : Nat) : (madeCells (Value.string ⟨#[]⟩).cells n).toList = List.replicate n (.string ⟨#[]⟩) := by
  apply List.ext_getElem
  · simp [madeCells]
  · intro i h1 h2
    simp [madeCells, Value.cells]
    rw [Nat.mod_one]
    rfl
theorem made_heap {w : World} {B e g n : Nat} (h : w.ownsRow B e 1 (.slice (some ⟨g, 0, none⟩) n n) n (madeCells (Value.string ⟨#[]⟩).cells (n * 1)).toList) : w.heap[g]? = some (.cells (List.replicate n (Value.string ⟨#[]⟩)).toArray e (0, 0)) := by
  obtain ⟨_, ⟨hv, _⟩ | ⟨g', cap, cur, hv, hg, hh, hcap, hmax, hsz, htake⟩⟩ := h
  · cases hv
  · simp only [Value.slice.injEq, Option.some.injEq, Addr.mk.injEq, and_true, true_and] at hv
    obtain ⟨rfl, rfl⟩ := hv
    rw [Nat.mul_one, made_rep] at htake
    have : cur.toList = List.replicate n (Value.string ⟨#[]⟩) := by
      rw [← htake, List.take_of_length_le]
      rw [Array.length_toList, hsz]
      omega
    rw [hh, ← this]
theorem filled_len (n m : Nat) (s : ByteArray) (h : m ≤ n) : (filled n m s).length = n := by simp [filled]; omega
theorem filled_zero (n : Nat) (s : ByteArray) (h : 1 ≤ n) : splice (List.replicate n (Value.string ⟨#[]⟩)) 0 (List.replicate (Nat.min 1 n) (.string s)) = filled n 1 s := by
  rw [show Nat.min 1 n = 1 from Nat.min_eq_left h]
  simp [splice, filled]
theorem filled_more (n m k : Nat) (s : ByteArray) (h : m + k ≤ n) : splice (filled n m s) m (List.replicate k (.string s)) = filled n (m + k) s := by
  unfold splice filled
  rw [List.take_left' (by simp), List.length_replicate, List.drop_append, List.drop_eq_nil_of_le (by simp), List.nil_append, List.length_replicate, List.drop_replicate, ← List.append_assoc, List.replicate_append_replicate]
  congr 2
  omega
theorem filled_cell {w : World} {g n m : Nat} {s : ByteArray} {e : TypeId} (h : w.heap[g]? = some (.cells (filled n m s).toArray e (0, 0))) {k : Nat} (hk : k ≤ m) {j : Nat} {v : Value} (hv : (List.replicate k (Value.string s))[j]? = some v) : w.cell? ((⟨g, 0, none⟩ : Addr).add j) = some v := by
  have hj : j < k := by have := (List.getElem?_eq_some_iff.1 hv).1; simpa using this
  have hadd : (⟨g, 0, none⟩ : Addr).add j = ⟨g, j, none⟩ := by unfold Addr.add; split <;> simp_all
  rw [hadd]
  simp only [World.cell?, h]
  rw [List.getElem?_replicate, if_pos hj] at hv
  simp [filled, List.getElem?_append_left (show j < (List.replicate m (Value.string s)).length by simp; omega), show j < m by omega, ← Option.some.inj hv]
theorem filled_strs {B n g : Nat} {w : World} {s : ByteArray} {e : TypeId} (h : w.heap[g]? = some (.cells (filled n n s).toArray e (0, 0))) (hB : B ≤ g) (hn : n ≤ 1000) : Strs B w (.slice (some ⟨g, 0, none⟩) n n) (List.replicate n s) := by
  refine ⟨some ⟨g, 0, none⟩, n, by simp [sRows], by simp [sRows]; unfold maxLen; omega, fun _ => ⟨g, 0, rfl, hB, (Array.getElem?_eq_some_iff.1 h).1, fun i j x hx => ?_⟩⟩
  have h2 := flatten_get (m := 1) (sRows (List.replicate n s)) i j x (sRows_len _) hx
  rw [sRows_flatten, List.map_replicate] at h2
  have := filled_cell h (Nat.le_refl n) h2
  rw [show (⟨g, 0, none⟩ : Addr).add (i * 1 + j) = ⟨g, i * 1 + j, none⟩ by unfold Addr.add; split <;> simp_all] at this
  simpa using this
set_option maxRecDepth 100000 in
set_option maxHeartbeats 4000000 in
theorem Repeat_pos (n : Nat) (hn1 : 1 ≤ n) (hn : n ≤ 1000) (HM : ∀ w, Calls Tryz.prog 79 #[.int .u64 1, .int .u64 n] w fun e w' => e = .returned (.tuple #[.int .u64 0, .int .u64 n]) ∧ Below w.heap.size w w') (w : World) (b : Nat) (s : ByteArray) (h : w.cell? ⟨b, 0, none⟩ = some (.string s)) :
    Calls Tryz.prog 96 #[.slice (some ⟨b, 0, none⟩) 1 1, .int .i64 n] w fun e w' => ∃ V, e = .returned V ∧ Strs w.heap.size w' V (List.replicate n s) ∧ Below w.heap.size w w' := by
  obtain ⟨i0, hi, hz0, hz1, hz2⟩ := info_parts infoStrR
  have Hi := Lib.hid hi
  have Hz0 := Lib.hid hz0
  have Hz1 := Lib.hid hz1
  have Hz2 := Lib.hid hz2
  have HMM := Lib.hid HM
  have c1 : IntKind.u64.wrap (n : Int) = (n : Int) := by
    rw [show IntKind.u64.wrap (n : Int) = (n : Int) % 18446744073709551616 by simp [IntKind.wrap, IntKind.bits, IntKind.signed]]
    omega
  have c2 : IntKind.i64.wrap (n : Int) = (n : Int) := Go.IntWalk.i64_in _ (by omega)
  have q0 : ¬ (n : Int) < 0 := by omega
  have q1 : ¬ (9223372036854775807 : Int) < (n : Int) := by omega
  clear hi hz0 hz1 hz2 HM
  go_enter Tryz.func96, Tryz.ntmps96
  go_wp2_with fail
  refine (HMM.out w).mono ?_
  rintro e w1 ⟨rfl, hb1⟩
  have h1 := cell_later hb1 h
  have hrep : ∀ (m : Nat) (v : Value), v ∈ List.replicate m (Value.string s) → v.oneCell' = true := fun m v hv => by rw [(List.mem_replicate.1 hv).2]; rfl
  have hGle := hb1.size
  have HF0 := Lib.hid (filled_zero n s hn1)
  go_wp2_with (first
    | (refine wpList_make_full _ rfl _ _ 42 rfl w1.heap.size 9 i0 (.string ⟨#[]⟩) 1 Tryz.underlying42 Hi.out Hz0.out Hz1.out .i64 .i64 n n n rfl rfl rfl rfl (by rw [Hz2.out]; omega) (by unfold maxLen; omega) (Nat.le_refl _) ?_; intro w2 hown hg2; have hh2 := made_heap hown; have hw12 : Below w1.heap.size w1 w2 := (Below.refl w1.heap.size w1).grown hg2 (Nat.le_refl _) (fun k e => by cases e); have hB2 := bNext hb1 hw12; have h2 := cell_later hw12 h1)
    | (refine wpList_copy_splice (o := ⟨some 33, _, _, _, _, _⟩) rfl (.tmp 31) (.tmp 32) 42 42 rfl 9 Tryz.underlying42 infoStrS (some ⟨w1.heap.size, 0, none⟩) (some ⟨b, 0, none⟩) n n 1 1 rfl rfl w1.heap.size 0 (List.replicate n (Value.string ⟨#[]⟩)) 9 hh2 (List.replicate (Nat.min 1 n) (.string s)) List.length_replicate (fun _ => ⟨rfl, _, rfl, fun j v hv => copied h2 hv⟩) (by rw [List.length_replicate, List.length_replicate, Nat.zero_add]; exact Nat.min_le_right ..) (hrep _) w.heap.size w hB2 hGle ?_; intro w3 hh3 hb3))
  have HH3 : Hid (w3.heap[w1.heap.size]? = some (.cells (filled n 1 s).toArray 9 (0, 0))) := Lib.hid (by rw [← HF0.out]; exact hh3.out)
  obtain ⟨g, hg⟩ : ∃ g, w1.heap.size = g := ⟨_, rfl⟩
  rw [hg] at HH3 hGle ⊢
  clear hown hg2 hh2 hw12 hB2 h2 h1 hh3 HF0 hb1 hg c1 c2
  go_loopw [8] (fun nv wr => ∃ m : Nat, 1 ≤ m ∧ m ≤ n ∧ nv = .int .i64 m ∧ Hid (wr.heap[g]? = some (.cells (filled n m s).toArray 9 (0, 0))) ∧ Below w.heap.size w wr) (fun nv _ => n - (intOf nv).toNat)
  case atStart => exact ⟨1, Nat.le_refl _, hn1, rfl, HH3, hb3⟩
  case round =>
    obtain ⟨m, hm1, hm2, rfl, HH, hb⟩ := hrel
    by_cases hlt : m < n
    · have p1 : (m : Int) < (n : Int) := by omega
      have p2 : (0 : Int) ≤ (m : Int) := by omega
      have p3 : (m : Int) ≤ (n : Int) := by omega
      have p4 : ¬ (n = m) := by omega
      obtain ⟨k, hk, hk1, hk2⟩ : ∃ k, Nat.min m (n - m) = k ∧ 1 ≤ k ∧ m + k ≤ n := ⟨_, rfl, by show 1 ≤ min m (n - m); omega, by show m + min m (n - m) ≤ n; omega⟩
      have hkm : k ≤ m := by rw [← hk]; exact Nat.min_le_left ..
      have HK := Lib.hid hk
      have hw : IntKind.i64.wrap ((m : Int) + (k : Int)) = ((m + k : Nat) : Int) := by rw [Go.IntWalk.i64_in _ (by omega)]; omega
      have HL := Lib.hid (filled_len n m s hm2)
      have HM2 := Lib.hid (filled_more n m k s hk2)
      clear hk
      go_wp2_with fail
      have hhd : wr.drew.heap[g]? = some (.cells (filled n m s).toArray 9 (0, 0)) := HH.out
      have hcc : ∀ (j : Nat) (v : Value), (List.replicate k (Value.string s))[j]? = some v → wr.drew.cell? ((⟨g, 0, none⟩ : Addr).add j) = some v := fun j v hv => filled_cell hhd hkm hv
      have hfit : m + (List.replicate k (Value.string s)).length ≤ (filled n m s).toArray.size := by rw [List.length_replicate, List.size_toArray, HL.out]; exact hk2
      have hmn : (List.replicate k (Value.string s)).length = Nat.min m (n - m) := by rw [List.length_replicate]; exact HK.out.symm
      have hbd := hb.drew
      obtain ⟨W4, hrun, HW4, hb4⟩ : ∃ W4, Sem.run Tryz.prog (Builtin.copy_ #[42, 42] 3 #[.slice (some ⟨g, m, none⟩) (n - m) (n - m), .slice (some ⟨g, 0, none⟩) m n]) wr.drew = .ok (.int .i64 k) W4 ∧ Hid (W4.heap[g]? = some (.cells (filled n (m + k) s).toArray 9 (0, 0))) ∧ Below w.heap.size w W4 := by
        refine ⟨_, (run_copy_row (P := Tryz.prog) wr.drew 42 42 3 9 g m (n - m) (n - m) ⟨g, 0, none⟩ m n _ 9 (List.replicate k (.string s)) Tryz.underlying42 infoStrS hhd hmn hcc hfit (hrep k)).trans (by rw [List.length_replicate]; rfl), Lib.hid ?_, below_setRow hbd hGle _⟩
        rw [setRow_heap _ g _ _ _ _ hhd, ← HM2.out]
        simp [splice, List.append_assoc]
      clear hhd hcc hfit hmn hbd
      go_region
      go_wp2_with fail
      go_roundw
      case rel => exact ⟨m + k, by omega, hk2, by go_num, HW4, hb4⟩
      case measure => simp [intOf]; omega
    · obtain rfl : m = n := by omega
      have p1 : ¬ (m : Int) < (m : Int) := by omega
      go_wp2_with fail
      go_ret
      exact ⟨_, rfl, filled_strs HH.out hGle hn, hb⟩
set_option maxRecDepth 100000 in
set_option maxHeartbeats 4000000 in
theorem Repeat_zero (w : World) (b : Nat) (s : ByteArray) (h : w.cell? ⟨b, 0, none⟩ = some (.string s)) :
    Calls Tryz.prog 96 #[.slice (some ⟨b, 0, none⟩) 1 1, .int .i64 0] w fun e w' => ∃ V, e = .returned V ∧ Strs w.heap.size w' V [] ∧ Below w.heap.size w w' := by
  obtain ⟨i0, hi, hz0, hz1, hz2⟩ := info_parts infoStrR
  have Hi := Lib.hid hi
  have Hz0 := Lib.hid hz0
  have Hz1 := Lib.hid hz1
  have Hz2 := Lib.hid hz2
  clear hi hz0 hz1 hz2
  go_enter Tryz.func96, Tryz.ntmps96
  go_wp2_with fail
  refine (Mul_10 w).mono ?_
  rintro e w1 ⟨rfl, hb1⟩
  have h1 := cell_later hb1 h
  go_wp2_with (first
    | (refine wpList_make_full _ rfl _ _ 42 rfl w1.heap.size 9 i0 (.string ⟨#[]⟩) 1 Tryz.underlying42 Hi.out Hz0.out Hz1.out .i64 .i64 0 0 0 rfl rfl rfl rfl (by rw [Hz2.out]; omega) (by unfold maxLen; omega) (Nat.le_refl _) ?_; intro w2 hown hg2; have hw12 : Below w1.heap.size w1 w2 := (Below.refl w1.heap.size w1).grown hg2 (Nat.le_refl _) (fun k e => by cases e))
    | (refine wpList_copy_nothing (o := ⟨some 33, _, _, _, _, _⟩) rfl (.tmp 31) (.tmp 32) 42 42 rfl 9 Tryz.underlying42 infoStrS (some ⟨w1.heap.size, 0, none⟩) (some ⟨b, 0, none⟩) 0 0 1 1 rfl rfl rfl ?_))
  clear hown hg2
  go_loopw [8] (fun nv wr => nv = .int .i64 0 ∧ wr = w2) (fun _ _ => 0)
  case atStart => exact ⟨rfl, rfl⟩
  case round =>
    obtain ⟨rfl, hwr⟩ := hrel
    subst hwr
    go_wp2_with fail
    go_ret
    exact ⟨_, rfl, ⟨_, _, rfl, Nat.zero_le _, fun h => absurd rfl h⟩, bNext hb1 hw12⟩
theorem Repeat_any (n : Nat) (hn : n = 0 ∨ n = 2 ∨ n = 4) (w : World) (b : Nat) (s : ByteArray) (h : w.cell? ⟨b, 0, none⟩ = some (.string s)) :
    Calls Tryz.prog 96 #[.slice (some ⟨b, 0, none⟩) 1 1, .int .i64 n] w fun e w' => ∃ V, e = .returned V ∧ Strs w.heap.size w' V (List.replicate n s) ∧ Below w.heap.size w w' := by
  rcases hn with rfl | rfl | rfl
  · exact Repeat_zero w b s h
  · exact Repeat_pos 2 (by decide) (by decide) Mul_12 w b s h
  · exact Repeat_pos 4 (by decide) (by decide) Mul_14 w b s h
end Go.Proofs.YtpadcjcoafidgaaGreatDoor
/-! short.spread and short.Expand where a value for all stands; short.one; short.Expand of any declaration. -/
namespace Go.Proofs.YtpadcjcoafidgaaGreatDoor
open Go.RowKit

theorem longsOf_n (name : ByteArray) : (longsOf name).length = 0 ∨ (longsOf name).length = 2 ∨ (longsOf name).length = 4 := by
  by_cases h : longsOf name = []
  · rw [h]; exact .inl rfl
  · rcases longsOf_exact name h with ⟨-, h⟩ | ⟨-, h⟩
    · exact .inr (.inl h)
    · exact .inr (.inr h)
theorem str_ne {s : ByteArray} (h : eqB s noStr = false) : s.toList.isEmpty = false ∧ ¬ (s.toList = []) := by
  have hn : ¬ (s.toList = []) := by
    intro e
    have : eqB s noStr = true := by
      rw [← toList_eqB, e]
      rw [noStr, ByteArray.toList_eq]
      rfl
    rw [this] at h
    cases h
  refine ⟨?_, hn⟩
  cases hs : s.toList with
  | nil => exact absurd hs hn
  | cons a l => rfl
theorem str_eq {s : ByteArray} (h : eqB s noStr = true) : s = noStr := (eqB_iff _ _).1 h
theorem noStr_facts : noStr.toList = [] ∧ noStr.toList.isEmpty = true := by
  have h : noStr.toList = [] := by rw [noStr, ByteArray.toList_eq]
  exact ⟨h, by rw [h]; rfl⟩
set_option maxRecDepth 100000 in
set_option maxHeartbeats 4000000 in
theorem spread_wide (w : World) (name : ByteArray) (longs : List ByteArray) (lv v : Value) (l : List Val) (B : Nat) (hs : Strs B w lv longs) (hn : longs.length = 0 ∨ longs.length = 2 ∨ longs.length = 4) (h : Vs w v l) (hf : ∀ x ∈ l, x.fits) (hw : eqB (wideS l) noStr = false) :
    Calls Tryz.prog 61 #[.string name, lv, v] w fun e w' => ∃ V, e = .returned V ∧ Strs w.heap.size w' V (List.replicate longs.length (wideS l)) ∧ Below w.heap.size w w' := by
  obtain ⟨la, lc, rfl, _⟩ := hs.val
  have HW := Wide_any w v l h hf
  obtain ⟨s, hse⟩ : ∃ s, wideS l = s := ⟨_, rfl⟩
  rw [hse] at hw HW ⊢
  have HWW := Lib.hid HW
  obtain ⟨z1, z2⟩ := str_ne hw
  have HN := Lib.hid hn
  clear hs h hf HW hse hw hn
  go_enter Tryz.func61, Tryz.ntmps61
  go_wp2_with fail
  refine HWW.out.mono ?_
  rintro e w1 ⟨rfl, hb1⟩
  go_wp2_with fail
  refine (Repeat_any longs.length HN.out _ w1.heap.size s (by simp)).mono ?_
  rintro e w2 ⟨V, rfl, hV, hb2⟩
  go_wp2_with fail
  go_ret
  exact ⟨_, rfl, hV.base (by simp; exact Nat.le_succ_of_le hb1.size), bNext (bNext hb1 (bAlloc1 _ _)) hb2⟩
/-- short.spread of any values. -/
def spreadX (name : ByteArray) (longs : List ByteArray) (l : List Val) : List ByteArray := if eqB (wideS l) noStr = true then spreadS name longs l else List.replicate longs.length (wideS l)
theorem spreadX_len (name : ByteArray) (longs : List ByteArray) (l : List Val) : (spreadX name longs l).length ≤ longs.length := by
  unfold spreadX
  split
  · exact spreadS_len name longs l
  · simp
theorem spread_any (w : World) (hB : Base16 w) (name : ByteArray) (lv v : Value) (l : List Val) (B : Nat) (hs : Strs B w lv (longsOf name)) (h : Vs w v l) (hf : ∀ x ∈ l, x.fits) :
    Calls Tryz.prog 61 #[.string name, lv, v] w fun e w' => ∃ V, e = .returned V ∧ Strs w.heap.size w' V (spreadX name (longsOf name) l) ∧ Below w.heap.size w w' := by
  unfold spreadX
  cases hw : eqB (wideS l) noStr
  · exact spread_wide w name (longsOf name) lv v l B hs (longsOf_n name) h hf hw
  · exact spread_plain w hB name (longsOf name) lv v l B hs (by have := (longsOf_len name).1; omega) h hf (str_eq hw) (fun n i hi => which_lt name n i hi)
/-- A longhand's value. -/
def oneS (name : ByteArray) (l : List Val) : Option ByteArray := if eqB (wideS l) noStr = true then parseS name l else some (wideS l)
set_option maxRecDepth 100000 in
set_option maxHeartbeats 4000000 in
theorem one_any (w : World) (hB : Base w) (name : ByteArray) (v : Value) (l : List Val) (h : Vs w v l) (hf : ∀ x ∈ l, x.fits) :
    Calls Tryz.prog 60 #[.string name, v] w fun e w' => e = .returned (resS (oneS name l)) ∧ Below w.heap.size w w' := by
  have HW := Wide_any w v l h hf
  have HP := fun W (hb : Below w.heap.size w W) => Parse_any W (hB.next hb) name v l (h.next hb) hf
  have hO : oneS name l = if eqB (wideS l) noStr = true then parseS name l else some (wideS l) := rfl
  obtain ⟨a, c, rfl, -⟩ := h
  obtain ⟨s, hse⟩ : ∃ s, wideS l = s := ⟨_, rfl⟩
  rw [hse] at HW hO
  have HWW := Lib.hid HW
  have HPP := Lib.hid HP
  cases hw : eqB s noStr
  · obtain ⟨z1, z2⟩ := str_ne hw
    have HV : Hid (resS (oneS name l) = .tuple #[.string s, .bool true]) := Lib.hid (by rw [hO, hw]; rfl)
    clear HW HP hf hse hw hO hB
    go_enter Tryz.func60, Tryz.ntmps60
    go_wp2_with fail
    refine HWW.out.mono ?_
    rintro e w1 ⟨rfl, hb1⟩
    go_wp2_with fail
    exact bodyPost_ret (v := .tuple #[.string s, .bool true]) (by simp [results, Tryz.results60, go_sem]) rfl ⟨by rw [HV.out], hb1⟩
  · obtain rfl := str_eq hw
    obtain ⟨z1, z2⟩ := noStr_facts
    have HV : Hid (oneS name l = parseS name l) := Lib.hid (by rw [hO, hw]; rfl)
    clear HW HP hf hse hw hO hB
    go_enter Tryz.func60, Tryz.ntmps60
    go_wp2_with fail
    refine HWW.out.mono ?_
    rintro e w1 ⟨rfl, hb1⟩
    go_wp2_with fail
    refine (HPP.out _ hb1).mono ?_
    rintro e w2 ⟨rfl, hb2⟩
    cases hr : parseS name l with
    | none =>
      have HV2 : Hid (resS (oneS name l) = .tuple #[.string noStr, .bool false]) := Lib.hid (by rw [HV.out, hr]; rfl)
      simp only [resS]
      go_wp2_with fail
      exact bodyPost_ret (v := .tuple #[.string noStr, .bool false]) (by simp [results, Tryz.results60, go_sem, noStr]) rfl ⟨by rw [HV2.out], bNext hb1 hb2⟩
    | some t =>
      have HV2 : Hid (resS (oneS name l) = .tuple #[.string t, .bool true]) := Lib.hid (by rw [HV.out, hr]; rfl)
      simp only [resS]
      go_wp2_with fail
      exact bodyPost_ret (v := .tuple #[.string t, .bool true]) (by simp [results, Tryz.results60, go_sem]) rfl ⟨by rw [HV2.out], bNext hb1 hb2⟩
/-- The longhands of any declaration. -/
def expandA (name : ByteArray) (l : List Val) (imp : Bool) : List LongT := if (placeN name).isSome = true then (match oneS name l with
  | some s => [(name, s, imp)]
  | none => []) else longRows (longsOf name) (spreadX name (longsOf name) l) imp
theorem Rws.one3 (w : World) (x : LongT) (t : TypeId) : Rws w.heap.size (w.alloc (.cells x.row.toArray t)) 3 (.slice (some ⟨w.heap.size, 0, none⟩) 1 1) ([x].map LongT.row) := by
  refine ⟨_, 1, rfl, by show 1 ≤ maxLen; unfold maxLen; omega, fun _ => ⟨w.heap.size, 0, rfl, Nat.le_refl _, by simp, fun i j u hu => ?_⟩⟩
  cases i with
  | zero =>
    have hu' : x.row[j]? = some u := by simpa using hu
    have hn := heap_alloc_new w (.cells x.row.toArray t)
    simp only [World.cell?, hn, Nat.zero_add, Nat.zero_mul]
    simpa using hu'
  | succ i => simp at hu
set_option maxRecDepth 100000 in
set_option maxHeartbeats 8000000 in
theorem Expand_long (w : World) (hB : Base16 w) (name : ByteArray) (v : Value) (l : List Val) (imp : Bool) (h : Vs w v l) (hf : ∀ x ∈ l, x.fits) (k : Nat) (hn : placeN name = some k) :
    ∀ a n c, v = .slice a n c → Calls Tryz.prog 25 #[.agg #[.string name, .slice a n c, .bool imp]] w fun e w' => ∃ V, e = .returned V ∧ Rws w.heap.size w' 3 V ((match oneS name l with
      | some s => [(name, s, imp)]
      | none => ([] : List LongT)).map LongT.row) ∧ Below w.heap.size w w' := by
  intro a n c hv
  subst hv
  have HB := Lib.hid hB
  have hO := Own.new w #[.string name, .slice a n c, .bool imp] 48
  have hb0 := bAlloc1 w (.cells #[.string name, .slice a n c, .bool imp] 48)
  have h0 := h.next hb0
  have HO1 : Hid (∀ W, Below w.heap.size w W → Vs W (.slice a n c) l → Calls Tryz.prog 60 #[.string name, .slice a n c] W fun e w' => e = .returned (resS (oneS name l)) ∧ Below W.heap.size W w') := Lib.hid (fun W hb hv => one_any W (hB.next hb).base name _ l hv hf)
  obtain ⟨⟨ra, rb, rc, rf⟩, hr⟩ : ∃ r, findRow name = r := ⟨_, rfl⟩
  obtain ⟨o, ho⟩ : ∃ o, oneS name l = o := ⟨_, rfl⟩
  rw [ho] at HO1 ⊢
  clear hB h ho
  cases o with
  | none =>
    simp only [resS] at HO1
    go_enter Tryz.func25, Tryz.ntmps25
    go_wp2_with fail
    refine (Find_any name _).mono ?_
    rintro e w1 ⟨rfl, hb1⟩
    rw [hn, hr]
    simp only [Option.isSome_some]
    have hB1 := bNext hb0 hb1
    have hO2 := (hO.next hb1).next (bAlloc1 w1 (.cells #[.string ra, .string rb, .bool rc, .string rf] 39))
    have h2 := (h0.next hb1).next (bAlloc1 w1 (.cells #[.string ra, .string rb, .bool rc, .string rf] 39))
    have hB2 := bNext hB1 (bAlloc1 w1 (.cells #[.string ra, .string rb, .bool rc, .string rf] 39))
    have m2 := hO2.m
    clear hO hb0 hb1 h0 hB1 hr hn
    go_wp2_with fail
    refine (HO1.out _ hB2 h2).mono ?_
    rintro e w3 ⟨rfl, hb3⟩
    go_wp2_with fail
    go_ret
    exact ⟨_, rfl, Rws.nil _ _ _, bNext hB2 hb3⟩
  | some s =>
    simp only [resS] at HO1
    go_enter Tryz.func25, Tryz.ntmps25
    go_wp2_with fail
    refine (Find_any name _).mono ?_
    rintro e w1 ⟨rfl, hb1⟩
    rw [hn, hr]
    simp only [Option.isSome_some]
    have hB1 := bNext hb0 hb1
    have hO2 := (hO.next hb1).next (bAlloc1 w1 (.cells #[.string ra, .string rb, .bool rc, .string rf] 39))
    have h2 := (h0.next hb1).next (bAlloc1 w1 (.cells #[.string ra, .string rb, .bool rc, .string rf] 39))
    have hB2 := bNext hB1 (bAlloc1 w1 (.cells #[.string ra, .string rb, .bool rc, .string rf] 39))
    have m2 := hO2.m
    clear hO hb0 hb1 h0 hB1 hr hn
    go_wp2_with fail
    refine (HO1.out _ hB2 h2).mono ?_
    rintro e w3 ⟨rfl, hb3⟩
    have m3 := (hO2.next hb3).m
    have hB3 := bNext hB2 hb3
    clear m2 hB2
    go_wp2_with fail
    go_ret
    exact ⟨_, rfl, (Rws.one3 w3 (name, s, imp) 52).base hB3.size, bNext hB3 (bAlloc1 _ _)⟩
theorem Expand_any (w : World) (hB : Base16 w) (name : ByteArray) (v : Value) (l : List Val) (imp : Bool) (h : Vs w v l) (hf : ∀ x ∈ l, x.fits) :
    ∀ a n c, v = .slice a n c → Calls Tryz.prog 25 #[.agg #[.string name, .slice a n c, .bool imp]] w fun e w' => ∃ V, e = .returned V ∧ Rws w.heap.size w' 3 V ((expandA name l imp).map LongT.row) ∧ Below w.heap.size w w' := by
  unfold expandA
  cases hn : placeN name with
  | some k => exact Expand_long w hB name v l imp h hf k hn
  | none => exact Expand_gen w hB name v l imp h hn _ (spreadX_len name (longsOf name) l) (fun W B lv v hB hs hv => spread_any W hB name lv v l B hs hv hf)
end Go.Proofs.YtpadcjcoafidgaaGreatDoor
/-! gouacheref16: Sides, which, Join. -/
namespace Go.Proofs.YtpadcjcoafidgaaGreatDoor
open Go.RowKit

def sideRows : List (List Value) := [[.int .i64 0, .int .i64 0, .int .i64 0, .int .i64 0], [.int .i64 0, .int .i64 1, .int .i64 0, .int .i64 1], [.int .i64 0, .int .i64 1, .int .i64 2, .int .i64 1], [.int .i64 0, .int .i64 1, .int .i64 2, .int .i64 3]]
def sideCells : Array Value := #[.int .i64 0, .int .i64 0, .int .i64 0, .int .i64 0, .int .i64 0, .int .i64 1, .int .i64 0, .int .i64 1, .int .i64 0, .int .i64 1, .int .i64 2, .int .i64 1, .int .i64 0, .int .i64 1, .int .i64 2, .int .i64 3]
theorem run_side0 (w : World) : (Instr.index 103 (.agg sideCells) (.int .i64 0)).run Tryz.prog w = .ok (.agg #[.int .i64 0, .int .i64 0, .int .i64 0, .int .i64 0]) w := by kernel_rfl
theorem run_side1 (w : World) : (Instr.index 103 (.agg sideCells) (.int .i64 1)).run Tryz.prog w = .ok (.agg #[.int .i64 0, .int .i64 1, .int .i64 0, .int .i64 1]) w := by kernel_rfl
theorem run_side2 (w : World) : (Instr.index 103 (.agg sideCells) (.int .i64 2)).run Tryz.prog w = .ok (.agg #[.int .i64 0, .int .i64 1, .int .i64 2, .int .i64 1]) w := by kernel_rfl
theorem run_side3 (w : World) : (Instr.index 103 (.agg sideCells) (.int .i64 3)).run Tryz.prog w = .ok (.agg #[.int .i64 0, .int .i64 1, .int .i64 2, .int .i64 3]) w := by kernel_rfl
theorem run_four (a b c d : Int) (w : World) :
    (Instr.index 102 (.agg #[.int .i64 a, .int .i64 b, .int .i64 c, .int .i64 d]) (.int .i64 0)).run Tryz.prog w = .ok (.int .i64 a) w ∧
    (Instr.index 102 (.agg #[.int .i64 a, .int .i64 b, .int .i64 c, .int .i64 d]) (.int .i64 1)).run Tryz.prog w = .ok (.int .i64 b) w ∧
    (Instr.index 102 (.agg #[.int .i64 a, .int .i64 b, .int .i64 c, .int .i64 d]) (.int .i64 2)).run Tryz.prog w = .ok (.int .i64 c) w ∧
    (Instr.index 102 (.agg #[.int .i64 a, .int .i64 b, .int .i64 c, .int .i64 d]) (.int .i64 3)).run Tryz.prog w = .ok (.int .i64 d) w :=
  ⟨by kernel_rfl, by kernel_rfl, by kernel_rfl, by kernel_rfl⟩
set_option maxRecDepth 100000 in
set_option maxHeartbeats 4000000 in
theorem refSides_any (w : World) (n i : Int) :
    Calls Tryz.prog 23 #[.int .i64 n, .int .i64 i] w fun e w' => e = .returned (.int .i64 (sidesS n i)) ∧ w' = w := by
  by_cases h1 : n < 1
  · have HV : Hid (sidesS n i = -1) := Lib.hid (if_pos (.inl h1))
    go_enter Tryz.func23, Tryz.ntmps23
    go_wp2_with fail
    go_ret
    exact ⟨by rw [HV.out]; rfl, rfl⟩
  · by_cases h2 : 4 < n
    · have HV : Hid (sidesS n i = -1) := Lib.hid (if_pos (.inr (.inl h2)))
      go_enter Tryz.func23, Tryz.ntmps23
      go_wp2_with fail
      go_ret
      exact ⟨by rw [HV.out]; rfl, rfl⟩
    · by_cases h3 : i < 0
      · have HV : Hid (sidesS n i = -1) := Lib.hid (if_pos (.inr (.inr (.inl h3))))
        go_enter Tryz.func23, Tryz.ntmps23
        go_wp2_with fail
        go_ret
        exact ⟨by rw [HV.out]; rfl, rfl⟩
      · by_cases h4 : 4 ≤ i
        · have HV : Hid (sidesS n i = -1) := Lib.hid (if_pos (.inr (.inr (.inr h4))))
          have h4' : 3 < i := by omega
          go_enter Tryz.func23, Tryz.ntmps23
          go_wp2_with fail
          go_ret
          exact ⟨by rw [HV.out]; rfl, rfl⟩
        · have h5 : i = 0 ∨ i = 1 ∨ i = 2 ∨ i = 3 := by omega
          have hx := run_four
          obtain rfl | rfl | rfl | rfl : n = 1 ∨ n = 2 ∨ n = 3 ∨ n = 4 := by omega
          all_goals
            have s0 := run_side0
            have s1 := run_side1
            have s2 := run_side2
            have s3 := run_side3
            unfold sideCells at s0 s1 s2 s3
            clear h1 h2 h3 h4
            rcases h5 with rfl | rfl | rfl | rfl
            all_goals
              go_enter Tryz.func23, Tryz.ntmps23
              go_wp2_with fail
              go_ret
              exact ⟨rfl, rfl⟩
/-- gouacheref16.which at a number of parts that the longhands can have. -/
def refWhich (name : ByteArray) (n i : Int) : Int := if eqB name aOverflow = true then (if 2 < n then -1 else i * (n - 1)) else sidesS n i
theorem refWhich_eq (name : ByteArray) (n i : Int) (h : 1 ≤ n) : refWhich name n i = whichS name n i := by
  unfold refWhich whichS
  split
  · unfold overS
    split
    · rw [if_neg (by omega), if_neg (by omega)]
    · by_cases h1 : n = 1
      · subst h1; simp
      · have : n = 2 := by omega
        subst this; simp
  · rfl
set_option maxHeartbeats 1000000 in
theorem refWhich_any (w : World) (name : ByteArray) (n i : Int) (h1 : 1 ≤ n) (h2 : n ≤ 1000000) (h3 : 0 ≤ i) (h4 : i ≤ 1000000) :
    Calls Tryz.prog 59 #[.string name, .int .i64 n, .int .i64 i] w fun e w' => e = .returned (.int .i64 (whichS name n i)) ∧ w' = w := by
  have t1 : (name.toList == [111, 118, 101, 114, 102, 108, 111, 119]) = eqB name aOverflow := toList_lit name aOverflow _ rfl
  have hE := refWhich_eq name n i h1
  cases he : eqB name aOverflow
  · rw [he] at t1
    have HV : Hid (whichS name n i = sidesS n i) := Lib.hid (by unfold whichS; rw [he]; rfl)
    clear he hE
    go_enter Tryz.func59, Tryz.ntmps59
    go_wp2_with fail
    refine (refSides_any w n i).mono ?_
    rintro e w1 ⟨rfl, rfl⟩
    go_wp2_with fail
    go_ret
    exact ⟨by rw [HV.out]; rfl, rfl⟩
  · rw [he] at t1
    by_cases hn : 2 < n
    · have HV : Hid (whichS name n i = -1) := Lib.hid (by rw [← hE]; unfold refWhich; rw [he, if_pos rfl, if_pos hn])
      clear he hE
      go_enter Tryz.func59, Tryz.ntmps59
      go_wp2_with fail
      go_ret
      exact ⟨by rw [HV.out]; rfl, rfl⟩
    · obtain rfl | rfl : n = 1 ∨ n = 2 := by omega
      · have HV : Hid (whichS name 1 i = 0) := Lib.hid (by rw [← hE]; unfold refWhich; rw [he]; simp)
        clear he hE hn
        go_enter Tryz.func59, Tryz.ntmps59
        go_wp2_with fail
        go_ret
        exact ⟨by rw [HV.out]; simp, rfl⟩
      · have HV : Hid (whichS name 2 i = i) := Lib.hid (by rw [← hE]; unfold refWhich; rw [he]; simp)
        clear he hE hn
        go_enter Tryz.func59, Tryz.ntmps59
        go_wp2_with fail
        go_ret
        exact ⟨by rw [HV.out]; simp, rfl⟩
theorem joinB_succ (l : List ByteArray) (k : Nat) (h1 : 1 ≤ k) (h : k < l.length) : joinB (l.take (k + 1)) = joinB (l.take k) ++ ((⟨#[32]⟩ : ByteArray) ++ l[k]) := by
  cases l with
  | nil => simp at h
  | cons a l =>
    obtain ⟨j, rfl⟩ : ∃ j, k = j + 1 := ⟨k - 1, by omega⟩
    have hj : j < l.length := by simpa using h
    have hs := Lib.joinTail_take_succ [32] (l.map (·.data.toList)) j l[j].data.toList (by simp [hj])
    unfold joinB
    simp only [List.take_succ_cons, List.map_cons, Lib.join_cons, List.map_take, List.getElem_cons_succ]
    rw [hs]
    apply ByteArray.ext
    apply Array.toList_inj.1
    simp [List.append_assoc]
theorem joinB_one (l : List ByteArray) (h : 0 < l.length) : joinB (l.take 1) = l[0] := by
  cases l with
  | nil => simp at h
  | cons a l =>
    unfold joinB
    simp only [List.take_succ_cons, List.take_zero, List.map_cons, List.map_nil, Lib.join_one, List.getElem_cons_zero]
theorem joinB_size (l : List ByteArray) (h : ∀ s ∈ l, s.size ≤ 100000) (hn : l.length ≤ 1000) : (joinB l).size ≤ 100001 * l.length := by
  have h1 : (joinB l).size = (Lib.join (l.map (·.data.toList)) [32]).length := by
    show (joinB l).data.size = _
    unfold joinB
    simp
  rw [h1]
  cases l with
  | nil => exact Nat.zero_le _
  | cons a l =>
    have h2 := lens_le (a :: l) h
    rw [List.map_cons] at h2 ⊢
    rw [Lib.join_length, List.length_map]
    simp only [List.length_cons, List.length_nil] at h2 hn ⊢
    omega
set_option maxRecDepth 100000 in
set_option maxHeartbeats 8000000 in
theorem RefJoin_any (w : World) (name : ByteArray) (lv : Value) (l : List ByteArray) (h : Ss w lv l) (hsz : ∀ s ∈ l, s.size ≤ 100000) (hll : l.length ≤ 1000) :
    Calls Tryz.prog 21 #[.string name, lv] w fun e w' => e = .returned (resS (joinS name l)) ∧ Below w.heap.size w w' := by
  obtain ⟨a, cap, rfl, hcap, hr⟩ := h
  have HR := Lib.hid hr
  have HZ := Lib.hid hsz
  clear hr hsz
  go_enter Tryz.func21, Tryz.ntmps21
  go_wp2_with fail
  refine (refLongs_any name w).mono ?_
  rintro e w1 ⟨lv1, rfl, hl1, hb1⟩
  obtain ⟨la, lc, rfl, -⟩ := hl1.val
  clear hl1
  by_cases hne : longsOf name = []
  · have HV : Hid (resS (joinS name l) = .tuple #[.string noStr, .bool false]) := Lib.hid (by unfold joinS; rw [if_pos (.inl hne)]; rfl)
    have hl0 : (((longsOf name).length : Int) == 0) = true := by rw [hne]; rfl
    clear hne
    go_wp2_with fail
    exact bodyPost_ret (v := .tuple #[.string noStr, .bool false]) (by simp [results, Tryz.results21, go_sem, noStr]) rfl ⟨by rw [HV.out], hb1⟩
  · have hl0 : (((longsOf name).length : Int) == 0) = false := by
      rw [beq_eq_false_iff_ne]
      intro e
      exact hne (List.eq_nil_of_length_eq_zero (by omega))
    by_cases hle : l.length = (longsOf name).length
    · have HJ0 : Hid (joinS name l = joinFrom name l l.length 1) := Lib.hid (by unfold joinS; rw [if_neg (by intro h; rcases h with h | h; exact hne h; exact h hle)])
      have HNN : Hid (∀ n i : Nat, 1 ≤ n → n ≤ l.length → i < l.length → 0 ≤ whichS name n i ∧ whichS name n i < n) := Lib.hid (fun n i h1 h2 h3 => ⟨which_nn name hne n i h1 (by omega) (by omega), which_lt name n i (by omega)⟩)
      obtain ⟨m, hm⟩ : ∃ m, (longsOf name).length = m := ⟨_, rfl⟩
      rw [hm] at hle hl0 ⊢
      subst hle
      have hlx : ((l.length : Int) == (l.length : Int)) = true := by simp
      clear hne hm
      go_wp2_with fail
      go_loopw [7, 8, 9, 10, 34] (fun nv _ _ _ _ wr => ∃ n : Nat, 1 ≤ n ∧ n ≤ l.length + 1 ∧ nv = .int .i64 n ∧ Hid (joinFrom name l (l.length + 1 - n) n = joinS name l) ∧ Below w.heap.size w wr)
        (fun nv _ _ _ _ _ => l.length + 1 - (intOf nv).toNat)
      case atStart => exact ⟨1, by omega, by omega, rfl, Lib.hid (by rw [HJ0.out]; rfl), hb1⟩
      case round =>
        obtain ⟨n, hn1, hn2, rfl, HJ, hb⟩ := hrel
        by_cases hn : n ≤ l.length
        · have HD : Hid (joinS name l = if fitsS name l n l.length = true then some (joinB (l.take n)) else joinFrom name l (l.length - n) (n + 1)) := Lib.hid (by
            rw [← HJ.out, show l.length + 1 - n = (l.length - n) + 1 by omega]; rfl)
          have q1 : (n : Int) ≤ (l.length : Int) := by omega
          have hszr := hb.size
          go_wp2_with fail
          go_loopw [8, 9, 10, 34] (fun fv _ _ iv wx => ∃ i : Nat, i ≤ l.length ∧ iv = .int .i64 i ∧ fv = .bool (fitsS name l n i) ∧ Below wr.heap.size wr wx) (fun _ _ _ iv _ => l.length - (intOf iv).toNat)
          case atStart => exact ⟨0, by omega, rfl, rfl, Below.refl _ _⟩
          case round =>
            obtain ⟨wo, rfl⟩ : ∃ wo : World, wo = wr := ⟨_, rfl⟩
            obtain ⟨i, hi, rfl, rfl, hb4⟩ := hrel
            have hB4 := bNext hb hb4
            by_cases hlt : i < l.length
            · have hlne : l ≠ [] := by intro e; rw [e] at hlt; simp at hlt
              obtain ⟨b2, o2, rfl, hb2, hcc⟩ := HR.out hlne
              obtain ⟨hnn, hlt2⟩ := HNN.out n i hn1 hn hlt
              obtain ⟨q, hq⟩ : ∃ q : Nat, whichS name (n : Int) (i : Int) = (q : Int) := ⟨(whichS name (n : Int) (i : Int)).toNat, by omega⟩
              have hql : q < l.length := by omega
              have y0 := (hB4.cell (p := ⟨b2, o2 + i, none⟩) hb2).trans (hcc i hlt)
              have y1 := (hB4.cell (p := ⟨b2, o2 + q, none⟩) hb2).trans (hcc q hql)
              have hfs := fits_succ name l n i
              rw [hq, Int.toNat_natCast, List.getElem?_eq_getElem hql, List.getElem?_eq_getElem hlt] at hfs
              simp only [Option.getD_some] at hfs
              obtain ⟨x, hx⟩ : ∃ x, l[q] = x := ⟨_, rfl⟩
              obtain ⟨y, hy⟩ : ∃ x, l[i] = x := ⟨_, rfl⟩
              rw [hx] at y1 hfs
              rw [hy] at y0 hfs
              have HFS := Lib.hid hfs
              have HQ := Lib.hid hq
              have p1 : (i : Int) < (l.length : Int) := by omega
              have p0 : (0 : Int) ≤ (i : Int) := by omega
              have p2 : (q : Int) < (l.length : Int) := by omega
              have p3 : (0 : Int) ≤ (q : Int) := by omega
              clear hcc hfs hx hy hnn hlt2 hq
              go_wp2_with fail
              refine (refWhich_any _ name n i (by omega) (by omega) (by omega) (by omega)).mono ?_
              rintro e w5 ⟨rfl, rfl⟩
              rw [HQ.out]
              cases hf : fitsS name l n i
              · have HN : Hid (fitsS name l n (i + 1) = false) := Lib.hid (by rw [HFS.out, hf]; rfl)
                clear y0 y1
                go_wp2_with fail
                go_region
                go_wp2_with fail
                go_roundw
                case rel => exact ⟨i + 1, by omega, by go_num, by rw [HN.out], bNext hb4 (below_drew' _)⟩
                case measure => simp [intOf]; omega
              · have HN : Hid (fitsS name l n (i + 1) = eqB x y) := Lib.hid (by rw [HFS.out, hf]; rfl)
                have hxy := toList_eqB x y
                obtain ⟨t, ht⟩ : ∃ t, eqB x y = t := ⟨_, rfl⟩
                rw [ht] at hxy HN
                clear ht
                go_wp2_with fail
                go_quiet (fail)
                go_wp2_with fail
                go_roundw
                case rel => exact ⟨i + 1, by omega, by go_num, by rw [HN.out], bDrew hb4 _⟩
                case measure => simp [intOf]; omega
            · have hie : i = l.length := by omega
              have p1 : ¬ (i : Int) < (l.length : Int) := by omega
              cases hf : fitsS name l n i
              · have HN : Hid (joinFrom name l (l.length + 1 - (n + 1)) (n + 1) = joinS name l) := Lib.hid (by
                  rw [HD.out, ← hie, hf, show i + 1 - (n + 1) = i - n by omega]; rfl)
                have hwn : IntKind.i64.wrap ((n : Int) + 1) = ((n + 1 : Nat) : Int) := by rw [Go.IntWalk.i64_in _ (by omega)]; omega
                clear hie
                go_wp2_with fail
                go_roundw
                case rel => exact ⟨n + 1, by omega, by omega, by go_num, HN, hB4⟩
                case measure => simp [intOf]; omega
              · have HW : Hid (resS (joinS name l) = .tuple #[.string (joinB (l.take n)), .bool true]) := Lib.hid (by rw [HD.out, ← hie, hf]; rfl)
                have hlne : l ≠ [] := by intro e; rw [e] at hn; simp at hn; omega
                obtain ⟨b2, o2, rfl, hb2, hcc⟩ := HR.out hlne
                have hl0 : 0 < l.length := by omega
                have y0 := (hB4.cell (p := ⟨b2, o2 + 0, none⟩) hb2).trans (hcc 0 hl0)
                have H1 := Lib.hid (joinB_one l hl0)
                have HCC : Hid (∀ (i : Nat) (hi : i < l.length), wo.cell? ⟨b2, o2 + i, none⟩ = some (.string l[i])) := Lib.hid (fun i hi => (hB4.cell (p := ⟨b2, o2 + i, none⟩) hb2).trans (hcc i hi))
                obtain ⟨x, hx⟩ : ∃ x, l[0] = x := ⟨_, rfl⟩
                rw [hx] at y0 H1
                rw [Nat.add_zero] at y0
                have p2 : (n : Int) ≤ (cap : Int) := by omega
                have p3 : (1 : Int) ≤ (n : Int) := by omega
                have p4 : (0 : Int) < (l.length : Int) := by omega
                clear hie hcc hx
                by_cases hcn : cap = 1
                · subst hcn
                  obtain rfl : n = 1 := by omega
                  go_wp2_with fail
                  go_loop [11, 13, 62] (fun sv _ iv => sv = .string x ∧ iv = .int .i64 0) (fun _ _ _ => 0)
                  case atStart => exact ⟨rfl, rfl⟩
                  case round =>
                    obtain ⟨rfl, rfl⟩ := hrel
                    go_wp2_with fail
                    exact bodyPost_ret (v := .tuple #[.string x, .bool true]) (by simp [results, Tryz.results21, go_sem]) rfl ⟨by rw [HW.out, H1.out], hB4⟩
                · have hcn' : ¬ (1 : Int) = (cap : Int) := by omega
                  go_wp2_with fail
                  go_loop [11, 13, 62] (fun sv _ iv => ∃ k : Nat, k + 1 ≤ n ∧ iv = .int .i64 k ∧ sv = .string (joinB (l.take (k + 1)))) (fun _ _ iv => n - 1 - (intOf iv).toNat)
                  case atStart => exact ⟨0, by omega, rfl, by rw [H1.out]⟩
                  case round =>
                    obtain ⟨k, hk, rfl, rfl⟩ := hrel
                    by_cases hlt : k + 1 < n
                    · have q2 : (k : Int) < ((n - 1 : Nat) : Int) := by omega
                      have q3 : (0 : Int) ≤ (k : Int) := by omega
                      have hkl : k + 1 < l.length := by omega
                      have y1 := HCC.out (k + 1) hkl
                      rw [show o2 + (k + 1) = o2 + 1 + k by omega] at y1
                      have HS := Lib.hid (joinB_succ l (k + 1) (by omega) hkl)
                      have z1 := HZ.out _ (List.getElem_mem hkl)
                      have z2 := joinB_size (l.take (k + 1)) (fun s hs => HZ.out s (List.mem_of_mem_take hs)) (by rw [List.length_take]; omega)
                      have z3 : (l.take (k + 1)).length ≤ 1000 := by rw [List.length_take]; omega
                      obtain ⟨y, hy⟩ : ∃ y, l[k + 1] = y := ⟨_, rfl⟩
                      obtain ⟨z, hz⟩ : ∃ z, joinB (l.take (k + 1)) = z := ⟨_, rfl⟩
                      have hz4 : z.size ≤ 100001000 := by rw [← hz]; omega
                      rw [hy] at y1 HS z1
                      rw [hz] at HS
                      rw [hz]
                      have n1 : ¬ (9223372036854775807 < 1 + y.size) := by omega
                      have n2 : ¬ (9223372036854775807 < z.size + (1 + y.size)) := by omega
                      clear hy hz z2 z3
                      go_wp2_with fail
                      go_round
                      case rel => exact ⟨k + 1, by omega, by go_num, by rw [HS.out]⟩
                      case measure => simp [intOf]; omega
                    · obtain rfl : n = k + 1 := by omega
                      have q2 : ¬ (k : Int) < ((k + 1 - 1 : Nat) : Int) := by omega
                      go_wp2_with fail
                      exact bodyPost_ret (v := .tuple #[.string (joinB (l.take (k + 1))), .bool true]) (by simp [results, Tryz.results21, go_sem]) rfl ⟨by rw [HW.out], hB4⟩
        · have HV : Hid (resS (joinS name l) = .tuple #[.string noStr, .bool false]) := Lib.hid (by
            rw [← HJ.out, show l.length + 1 - n = 0 by omega]; rfl)
          have q1 : ¬ (n : Int) ≤ (l.length : Int) := by omega
          go_wp2_with fail
          exact bodyPost_ret (v := .tuple #[.string noStr, .bool false]) (by simp [results, Tryz.results21, go_sem, noStr]) rfl ⟨by rw [HV.out], hb⟩
    · have HV : Hid (resS (joinS name l) = .tuple #[.string noStr, .bool false]) := Lib.hid (by unfold joinS; rw [if_pos (.inr hle)]; rfl)
      have hle' : ((l.length : Int) == ((longsOf name).length : Int)) = false := by rw [beq_eq_false_iff_ne]; omega
      clear hne
      go_wp2_with fail
      exact bodyPost_ret (v := .tuple #[.string noStr, .bool false]) (by simp [results, Tryz.results21, go_sem, noStr]) rfl ⟨by rw [HV.out], hb1⟩
end Go.Proofs.YtpadcjcoafidgaaGreatDoor
/-! The shortest text of what a shorthand was expanded to is expanded to it again (plain). -/
namespace Go.Proofs.YtpadcjcoafidgaaGreatDoor
open Go.RowKit

/-! ### Texts with spaces between -/
def inter : List Out → List Tok
  | [] => []
  | [o] => [o.tok]
  | o :: p :: r => o.tok :: spaceT :: inter (p :: r)
theorem inter_ne (o : Out) (r : List Out) : inter (o :: r) ≠ [] := by cases r <;> simp [inter]
def joinO (os : List Out) : ByteArray := joinB (os.map Out.text)
theorem joinB_cons (a b : ByteArray) (l : List ByteArray) : joinB (a :: b :: l) = a ++ ((⟨#[32]⟩ : ByteArray) ++ joinB (b :: l)) := by
  unfold joinB
  apply ByteArray.ext
  apply Array.toList_inj.1
  simp [Lib.join_cons, Lib.joinTail]
theorem joinB_single (a : ByteArray) : joinB [a] = a := by
  have := joinB_one [a] (by simp)
  simpa using this
theorem runes_joinO (o p : Out) (r : List Out) : runesOf (joinO (o :: p :: r)) = runesOf o.text ++ 32 :: runesOf (joinO (p :: r)) := by
  unfold joinO
  simp only [List.map_cons]
  rw [joinB_cons, runes_app, runes_app]
  rfl
theorem at_out (o : Out) (ho : o.ok) (r : List Int) : isBlank (at_ (runesOf o.text ++ r) 0) = false := by
  have hs := step_out o ho [] (.inl rfl)
  rw [List.append_nil] at hs
  have hz := out_size o ho
  have hl : (runesOf o.text).length = o.text.size := runesOf_len _
  have h0 : at_ (runesOf o.text ++ r) 0 = at_ (runesOf o.text) 0 := by unfold at_; rw [List.getElem?_append_left (by omega)]
  rw [h0]
  cases hb : isBlank (at_ (runesOf o.text) 0) with
  | false => rfl
  | true =>
    unfold step at hs
    rw [hb, if_pos rfl] at hs
    simp only [Option.some.injEq, Prod.mk.injEq] at hs
    have : (13 : Int) = o.tok.k := congrArg Tok.k hs.1
    cases o with
    | dim n => exact absurd this (by show ¬ ((13 : Int) = 12); decide)
    | pct n => exact absurd this (by show ¬ ((13 : Int) = 11); decide)
    | num n => exact absurd this (by show ¬ ((13 : Int) = 10); decide)
    | col l => exact absurd this (by show ¬ ((13 : Int) = 4); decide)
    | kw f => exact absurd this (by show ¬ ((13 : Int) = 1); decide)
theorem lexF_more : ∀ (f : Nat) (s : List Int) (l : List Tok), lexF f s = some l → lexF (f + 1) s = some l
  | 0, [], l, h => h
  | 0, a :: s, l, h => by cases h
  | f + 1, [], l, h => h
  | f + 1, a :: s, l, h => by
    obtain ⟨m, t, k, r, hm, h1, h2, rfl⟩ := lexF_cons (f + 1) (a :: s) l (by simp) h
    obtain rfl : m = f := by omega
    exact lexF_step _ _ t k r (by simp) h1 (lexF_more m _ _ h2)
theorem lexF_ge {f g : Nat} {s : List Int} {l : List Tok} (h : lexF f s = some l) (hg : f ≤ g) : lexF g s = some l := by
  obtain ⟨d, rfl⟩ : ∃ d, g = f + d := ⟨g - f, by omega⟩
  clear hg
  induction d with
  | zero => exact h
  | succ d ih => exact lexF_more _ _ _ ih
theorem lexF_out (o : Out) (ho : o.ok) (r : List Int) (hr : r = [] ∨ at_ r 0 = 32) (f : Nat) (l : List Tok) (h : lexF f r = some l) : lexF (f + 1) (runesOf o.text ++ r) = some (o.tok :: l) := by
  have hz := out_size o ho
  have hl : (runesOf o.text).length = o.text.size := runesOf_len _
  refine lexF_step f _ o.tok o.text.size l ?_ (step_out o ho r hr) ?_
  · intro e
    have := congrArg List.length e
    rw [List.length_append, List.length_nil] at this
    omega
  · rw [← hl, List.drop_left]
    exact h
theorem lexF_join : ∀ (os : List Out), (∀ o ∈ os, o.ok) → os ≠ [] → lexF (2 * os.length - 1) (runesOf (joinO os)) = some (inter os)
  | [], _, h => absurd rfl h
  | [o], ho, _ => by
    have := lexF_out o (ho o (List.mem_singleton.2 rfl)) [] (.inl rfl) 0 [] (lexF_nil _)
    rw [List.append_nil] at this
    unfold joinO
    rw [List.map_cons, List.map_nil, joinB_single]
    exact this
  | o :: p :: r, ho, _ => by
    have ih := lexF_join (p :: r) (fun x hx => ho x (List.mem_cons_of_mem _ hx)) (by simp)
    rw [runes_joinO]
    have hp : isBlank (at_ (runesOf (joinO (p :: r))) 0) = false := by
      cases r with
      | nil =>
        unfold joinO
        rw [List.map_cons, List.map_nil, joinB_single]
        have := at_out p (ho p (by simp)) []
        rwa [List.append_nil] at this
      | cons q r =>
        rw [runes_joinO]
        exact at_out p (ho p (by simp)) _
    have h1 := lex_sp (runesOf (joinO (p :: r))) (.inr hp) _ _ ih
    have h2 := lexF_out o (ho o (List.mem_cons_self ..)) (32 :: runesOf (joinO (p :: r))) (.inr rfl) _ _ h1
    refine lexF_ge h2 ?_
    simp
    omega
theorem joinO_size : ∀ (os : List Out), (∀ o ∈ os, o.ok) → os ≠ [] → 2 * os.length ≤ (joinO os).size + 1 ∧ (joinO os).size ≤ 101 * os.length
  | [], _, h => absurd rfl h
  | [o], ho, _ => by
    have hz := out_size o (ho o (List.mem_singleton.2 rfl))
    unfold joinO
    rw [List.map_cons, List.map_nil, joinB_single]
    simp only [List.length_cons, List.length_nil]
    omega
  | o :: p :: r, ho, _ => by
    have ih := joinO_size (p :: r) (fun x hx => ho x (List.mem_cons_of_mem _ hx)) (by simp)
    have hz := out_size o (ho o (List.mem_cons_self ..))
    have e : (joinO (o :: p :: r)).size = o.text.size + 1 + (joinO (p :: r)).size := by
      rw [← runesOf_len, runes_joinO, List.length_append, List.length_cons, runesOf_len, runesOf_len]
      omega
    rw [e]
    simp only [List.length_cons] at ih ⊢
    omega
theorem joinO_tame : ∀ (os : List Out), (∀ o ∈ os, o.ok) → ∀ c ∈ runesOf (joinO os), tm c
  | [], _, c, h => by
    have : runesOf (joinO []) = [] := rfl
    rw [this] at h
    cases h
  | [o], ho, c, h => by
    unfold joinO at h
    rw [List.map_cons, List.map_nil, joinB_single] at h
    exact out_tame o (ho o (List.mem_singleton.2 rfl)) c h
  | o :: p :: r, ho, c, h => by
    rw [runes_joinO] at h
    rcases List.mem_append.1 h with h | h
    · exact out_tame o (ho o (List.mem_cons_self ..)) c h
    · rcases List.mem_cons.1 h with rfl | h
      · decide
      · exact joinO_tame (p :: r) (fun x hx => ho x (List.mem_cons_of_mem _ hx)) c h
theorem lexes_join (os : List Out) (ho : ∀ o ∈ os, o.ok) (hne : os ≠ []) (hl : os.length ≤ 20) : Lexes (joinO os) (inter os) := by
  have hz := joinO_size os ho hne
  refine ⟨joinO_tame os ho, ?_, by omega, ?_⟩
  · unfold Go.Proofs.YtpadcjcoafidgaaGreatDoor.lex
    rw [runesOf_len]
    exact lexF_ge (lexF_join os ho hne) (by omega)
  · cases hos : os with
    | nil => exact absurd hos hne
    | cons o r => exact inter_ne o r
/-! ### The values, their parts -/
def interV (os : List Out) : List Val := (inter os).map Val.of
def outV (o : Out) : Val := Val.of o.tok
theorem interV_cons (o p : Out) (r : List Out) : interV (o :: p :: r) = outV o :: spV :: interV (p :: r) := rfl
theorem interV_last : ∀ (os : List Out), os ≠ [] → ∃ o, (interV os).getLast? = some (outV o)
  | [], h => absurd rfl h
  | [o], _ => ⟨o, rfl⟩
  | o :: p :: r, _ => by
    obtain ⟨q, hq⟩ := interV_last (p :: r) (by simp)
    refine ⟨q, ?_⟩
    rw [interV_cons]
    have hne : interV (p :: r) ≠ [] := by
      unfold interV
      intro e
      exact inter_ne p r (List.map_eq_nil_iff.1 e)
    cases hi : interV (p :: r) with
    | nil => exact absurd hi hne
    | cons a l =>
      rw [hi] at hq
      simpa using hq
theorem dropWhile_head {p : Val → Bool} {l : List Val} {a : Val} (h : l.head? = some a) (ha : p a = false) : l.dropWhile p = l := by
  cases l with
  | nil => rfl
  | cons b l =>
    simp only [List.head?_cons, Option.some.injEq] at h
    subst h
    rw [List.dropWhile_cons, if_neg (by rw [ha]; decide)]
theorem trim_inter (os : List Out) (hne : os ≠ []) : trim (interV os) = interV os := by
  obtain ⟨q, hq⟩ := interV_last os hne
  have hh : ∃ o, (interV os).head? = some (outV o) := by
    cases os with
    | nil => exact absurd rfl hne
    | cons o r =>
      cases r with
      | nil => exact ⟨o, rfl⟩
      | cons p r => exact ⟨o, rfl⟩
  obtain ⟨o, ho⟩ := hh
  unfold trim
  rw [dropWhile_head ho (isSp_out o)]
  have hr : (interV os).reverse.head? = some (outV q) := by rw [List.head?_reverse]; exact hq
  rw [dropWhile_head hr (isSp_out q), List.reverse_reverse]
theorem parts_interF : ∀ (os : List Out) (acc : List Val), partsF true (interV os) acc = some (acc ++ os.map outV)
  | [], acc => by simp [interV, inter, partsF]
  | [o], acc => by
    show partsF true [outV o] acc = _
    unfold partsF
    rw [show isSp (outV o) = false from isSp_out o, if_neg (by decide), if_pos rfl]
    unfold partsF
    rfl
  | o :: p :: r, acc => by
    rw [interV_cons]
    unfold partsF
    rw [show isSp (outV o) = false from isSp_out o, if_neg (by decide), if_pos rfl]
    unfold partsF
    rw [isSp_sp, if_pos rfl, parts_interF (p :: r) (acc ++ [outV o])]
    simp
theorem parts_inter (os : List Out) (hne : os ≠ []) : partsS (interV os) = some (os.map outV) := by
  unfold partsS
  rw [trim_inter os hne, parts_interF, List.nil_append]
theorem wide_out (o : Out) (ho : o.ok) : eqB (wideS [outV o]) noStr = true := by
  show eqB (wideS [Val.of o.tok]) noStr = true
  rw [wideS_one (trim_single (isSp_out o))]
  have : memB (identS (Val.of o.tok)) wides = false := by
    cases o with
    | kw f =>
      have hi : identS (Val.of (Out.kw f).tok) = f := by
        unfold identS
        rw [if_pos (show (Val.of (Out.kw f).tok).tok.k = 1 from rfl)]
        exact fold_kw (kw_of ho)
      rw [hi]
      exact (kw_of ho).wide
    | dim n => rfl
    | pct n => rfl
    | num n => rfl
    | col l => rfl
  rw [this, if_neg (by decide)]
  exact eqB_self _
theorem wide_inter (os : List Out) (ho : ∀ o ∈ os, o.ok) (hne : os ≠ []) : eqB (wideS (interV os)) noStr = true := by
  match os, ho, hne with
  | [o], ho, _ => exact wide_out o (ho o (List.mem_singleton.2 rfl))
  | o :: p :: r, _, _ =>
    rw [wideS_not (by
      rw [trim_inter _ (by simp), interV_cons]
      have h1 : 1 ≤ (interV (p :: r)).length := by
        unfold interV
        rw [List.length_map]
        cases hi : inter (p :: r) with
        | nil => exact absurd hi (inter_ne p r)
        | cons a l => simp
      simp only [List.length_cons]
      omega)]
    exact eqB_self _
theorem tok_unique {o p : Out} (ho : o.ok) (hp : p.ok) (h : o.text = p.text) : o.tok = p.tok := by
  have h1 := (lexes_out o ho).lex
  have h2 := (lexes_out p hp).lex
  rw [h, h2] at h1
  simpa using (Option.some.inj h1).symm
theorem inter_fits (os : List Out) (ho : ∀ o ∈ os, o.ok) : ∀ x ∈ interV os, x.fits := by
  have key : ∀ t ∈ inter os, (Val.of t).fits := by
    induction os with
    | nil => intro t h; cases h
    | cons o r ih =>
      cases r with
      | nil =>
        intro t ht
        rw [List.mem_singleton.1 (show t ∈ [o.tok] from ht)]
        exact out_fits o (ho o (List.mem_cons_self ..))
      | cons p r =>
        intro t ht
        rcases List.mem_cons.1 (show t ∈ o.tok :: spaceT :: inter (p :: r) from ht) with rfl | ht
        · exact out_fits o (ho o (List.mem_cons_self ..))
        · rcases List.mem_cons.1 ht with rfl | ht
          · exact sp_fits
          · exact ih (fun x hx => ho x (List.mem_cons_of_mem _ hx)) t ht
  intro x hx
  obtain ⟨t, ht, rfl⟩ := List.mem_map.1 hx
  exact key t ht
/-! ### Spread, there and back -/
theorem spreadF_get (name : ByteArray) (all : List Val) (n : Int) : ∀ (longs : List ByteArray) (i : Nat) (acc : List ByteArray), spreadF name all n longs i acc = [] ∨
    ∃ vals, spreadF name all n longs i acc = acc ++ vals ∧ vals.length = longs.length ∧ ∀ (j : Nat) (h1 : j < longs.length) (h2 : j < vals.length), ∃ x, parseS longs[j] [x] = some vals[j]
  | [], i, acc => .inr ⟨[], by simp [spreadF], rfl, fun j h => by simp at h⟩
  | long :: r, i, acc => by
    unfold spreadF
    split
    · exact .inl rfl
    · split
      · exact .inl rfl
      · rename_i x hx
        split
        · exact .inl rfl
        · rename_i s hs
          rcases spreadF_get name all n r (i + 1) (acc ++ [s]) with h | ⟨vals, h1, h2, h3⟩
          · exact .inl h
          · refine .inr ⟨s :: vals, by rw [h1]; simp, by simp [h2], fun j h4 h5 => ?_⟩
            cases j with
            | zero => exact ⟨x, hs⟩
            | succ j => exact h3 j (by simpa using h4) (by simpa using h5)
theorem spreadF_ok (name : ByteArray) (all : List Val) (n : Int) : ∀ (longs vals : List ByteArray) (i : Nat) (acc : List ByteArray), longs.length = vals.length →
    (∀ (j : Nat) (h1 : j < longs.length) (h2 : j < vals.length), 0 ≤ whichS name n ((i + j : Nat) : Int) ∧ ∃ x, all[(whichS name n ((i + j : Nat) : Int)).toNat]? = some x ∧ parseS longs[j] [x] = some vals[j]) →
    spreadF name all n longs i acc = acc ++ vals
  | [], [], i, acc, _, _ => by simp [spreadF]
  | [], v :: vals, _, _, h, _ => by simp at h
  | l :: longs, [], _, _, h, _ => by simp at h
  | long :: r, v :: vals, i, acc, hl, h => by
    obtain ⟨h0, x, h1, h2⟩ := h 0 (by simp) (by simp)
    simp only [Nat.add_zero, List.getElem_cons_zero] at h0 h1 h2
    unfold spreadF
    rw [if_neg (by omega)]
    simp only [h1, h2]
    rw [spreadF_ok name all n r vals (i + 1) (acc ++ [v]) (by simpa using hl) (fun j h3 h4 => by
      have := h (j + 1) (by simpa using h3) (by simpa using h4)
      simp only [List.getElem_cons_succ] at this
      rw [show i + 1 + j = i + (j + 1) by omega]
      exact this)]
    simp
/-! ### The shortest text -/
theorem joinFrom_some (name : ByteArray) (l : List ByteArray) : ∀ (f n : Nat), (∃ m, n ≤ m ∧ m < n + f ∧ fitsS name l m l.length = true) → ∃ m, n ≤ m ∧ m < n + f ∧ fitsS name l m l.length = true ∧ joinFrom name l f n = some (joinB (l.take m))
  | 0, n, ⟨m, h1, h2, _⟩ => by omega
  | f + 1, n, ⟨m, h1, h2, h3⟩ => by
    unfold joinFrom
    cases hn : fitsS name l n l.length with
    | true => exact ⟨n, Nat.le_refl _, by omega, hn, by rw [if_pos rfl]⟩
    | false =>
      have hne : m ≠ n := by
        intro e
        rw [e, hn] at h3
        cases h3
      obtain ⟨m', h4, h5, h6, h7⟩ := joinFrom_some name l f (n + 1) ⟨m, by omega, by omega, h3⟩
      exact ⟨m', by omega, by omega, h6, by rw [if_neg (by decide)]; exact h7⟩
theorem fits_iff (name : ByteArray) (l : List ByteArray) (n k : Nat) : fitsS name l n k = true ↔ ∀ i, i < k → l[(whichS name n i).toNat]?.getD noStr = l[i]?.getD noStr := by
  unfold fitsS
  rw [List.all_eq_true]
  constructor
  · intro h i hi
    exact (eqB_iff _ _).1 (h i (List.mem_range.2 hi))
  · intro h i hi
    exact (eqB_iff _ _).2 (h i (List.mem_range.1 hi))
theorem sides_self : ∀ b : Fin 4, sideAt 3 b.val = (b.val : Int) := by decide +kernel
theorem which_self (name : ByteArray) (h : longsOf name ≠ []) (i : Nat) (hi : i < (longsOf name).length) : whichS name ((longsOf name).length : Nat) i = i := by
  unfold whichS
  rcases longsOf_exact name h with ⟨ho, hl⟩ | ⟨ho, hl⟩
  · rw [if_pos ho, hl]
    rfl
  · rw [if_neg (by rw [ho]; decide), hl]
    unfold sidesS
    rw [if_neg (by omega)]
    exact sides_self ⟨i, by omega⟩
theorem which_one (name : ByteArray) (h : longsOf name ≠ []) (i : Nat) (hi : i < (longsOf name).length) : whichS name ((1 : Nat) : Int) i = 0 := by
  have h1 := which_nn name h 1 i (Nat.le_refl _) (by omega) hi
  have h2 := which_lt name 1 i hi
  omega
theorem longRows_vals (longs vals : List ByteArray) (imp : Bool) (h : longs.length = vals.length) : (longRows longs vals imp).map (·.2.1) = vals ∧ (longRows longs vals imp).map (·.1) = longs := by
  unfold longRows
  rw [List.map_map, List.map_map]
  exact ⟨List.map_snd_zip (by omega), List.map_fst_zip (by omega)⟩
theorem wides_tab : wides.all (fun f => lexOk f && eqB (wideS ((toksOf f).map Val.of)) f && decide (f.size ≤ 100)) = true := by decide +kernel
theorem wides_facts (f : ByteArray) (h : f ∈ wides) : lexOk f = true ∧ wideS ((toksOf f).map Val.of) = f ∧ f.size ≤ 100 := by
  have := List.all_eq_true.1 wides_tab f h
  simp only [Bool.and_eq_true, decide_eq_true_eq] at this
  exact ⟨this.1.1, (eqB_iff _ _).1 this.1.2, this.2⟩
/-- WHAT THE SHORTEST TEXT IS EXPANDED TO. -/
theorem back_all {name : ByteArray} {l : List Val} {imp : Bool} (h2 : 2 ≤ (expandA name l imp).length) :
    ∃ vals toks, expandA name l imp = longRows (longsOf name) vals imp ∧ (longsOf name).length = vals.length ∧ (∃ s, joinS name vals = some s ∧ Lexes s toks ∧ (∀ x ∈ toks.map Val.of, x.fits) ∧ expandA name (toks.map Val.of) imp = longRows (longsOf name) vals imp) ∧ ∀ s ∈ vals, s.size ≤ 100 := by
  unfold expandA at h2
  cases hn : (placeN name).isSome with
  | true =>
    rw [hn, if_pos rfl] at h2
    split at h2 <;> simp at h2
  | false =>
    rw [hn, if_neg (by decide)] at h2
    have hE : expandA name l imp = longRows (longsOf name) (spreadX name (longsOf name) l) imp := by unfold expandA; rw [hn, if_neg (by decide)]
    have hle := spreadX_len name (longsOf name) l
    rw [longRows_len2 _ _ _ hle] at h2
    have hne : longsOf name ≠ [] := by
      intro e
      have h3 : (longsOf name).length = 0 := by rw [e]; rfl
      omega
    cases hw : eqB (wideS l) noStr with
    | false =>
      have hX : spreadX name (longsOf name) l = List.replicate (longsOf name).length (wideS l) := by unfold spreadX; rw [hw, if_neg (by decide)]
      obtain ⟨wd, hwd⟩ : ∃ x, wideS l = x := ⟨_, rfl⟩
      have hmem : wd ∈ wides := by
        rw [← hwd]
        unfold wideS
        unfold wideS at hw
        split at hw
        · rename_i x hx
          split at hw
          · rename_i hm
            unfold memB at hm
            obtain ⟨y, hy, he⟩ := List.any_eq_true.1 hm
            rw [if_pos (by unfold memB; exact hm), (eqB_iff _ _).1 he]
            first | exact hy | (rw [← (eqB_iff _ _).1 he]; exact hy)
          · rw [eqB_self] at hw; cases hw
        · rw [eqB_self] at hw; cases hw
      obtain ⟨w1, w2, w3⟩ := wides_facts wd hmem
      have hEW : eqB (wideS ((toksOf wd).map Val.of)) noStr = false := by rw [w2, ← hwd]; exact hw
      refine ⟨List.replicate (longsOf name).length wd, toksOf wd, by rw [hE, hX, hwd], by simp, ⟨wd, ?_, Lexes.of w1, fits_of w1, ?_⟩, ?_⟩
      · unfold joinS
        rw [if_neg (by
          intro h
          rcases h with h | h
          · exact hne h
          · exact h (by simp))]
        obtain ⟨n, hnn⟩ : ∃ n, (longsOf name).length = n + 1 := by
          cases hl : longsOf name with
          | nil => exact absurd hl hne
          | cons a r => exact ⟨r.length, rfl⟩
        have hfit : fitsS name (List.replicate (longsOf name).length wd) 1 (List.replicate (longsOf name).length wd).length = true := by
          rw [fits_iff]
          intro i hi
          rw [List.length_replicate] at hi
          rw [which_one name hne i hi]
          rw [List.getElem?_replicate, if_pos (by rw [hnn]; exact Nat.succ_pos n), List.getElem?_replicate, if_pos hi]
        rw [List.length_replicate] at hfit ⊢
        rw [hnn] at hfit ⊢
        unfold joinFrom
        rw [List.length_replicate, if_pos hfit, List.replicate_succ, List.take_succ_cons, List.take_zero, joinB_single]
      · unfold expandA spreadX
        rw [hn, if_neg (by decide), hEW, if_neg (by decide), w2]
      · intro s hs
        rw [(List.mem_replicate.1 hs).2]
        exact w3
    | true =>
      have hX : spreadX name (longsOf name) l = spreadS name (longsOf name) l := by unfold spreadX; rw [hw, if_pos rfl]
      rw [hX] at h2 hE
      have hS : ∃ all, spreadS name (longsOf name) l = spreadF name all all.length (longsOf name) 0 [] := by
        unfold spreadS at h2 ⊢
        split
        · rename_i h0
          rw [h0] at h2
          simp at h2
        · exact ⟨_, rfl⟩
      obtain ⟨all, hall⟩ := hS
      rcases spreadF_get name all all.length (longsOf name) 0 [] with h0 | ⟨vals, h3, h4, h5⟩
      · rw [hall, h0] at h2
        simp at h2
      · rw [List.nil_append] at h3
        rw [hall, h3] at hE h2
        have key : ∀ j : Fin vals.length, ∃ o : Out, o.ok ∧ vals[j.val] = o.text ∧ ∀ h : j.val < (longsOf name).length, parseS (longsOf name)[j.val] [outV o] = some vals[j.val] := by
          intro j
          obtain ⟨x, hx⟩ := h5 j.val (by omega) j.isLt
          obtain ⟨o, h6, h7, h8⟩ := parse_out hx
          exact ⟨o, h6, h7, fun _ => h8⟩
        obtain ⟨f, hf⟩ := Classical.axiomOfChoice key
        have hlen : (List.ofFn f).length = vals.length := List.length_ofFn
        have hget : ∀ (j : Nat) (h : j < vals.length), (List.ofFn f)[j]? = some (f ⟨j, h⟩) := fun j h => by rw [List.getElem?_eq_getElem (by rw [hlen]; exact h), List.getElem_ofFn]
        have hmap : (List.ofFn f).map Out.text = vals := by
          apply List.ext_getElem
          · rw [List.length_map, hlen]
          · intro j h6 h7
            rw [List.getElem_map, List.getElem_ofFn]
            exact (hf ⟨j, h7⟩).2.1.symm
        have hok : ∀ o ∈ List.ofFn f, o.ok := fun o ho => by
          obtain ⟨j, rfl⟩ := List.mem_ofFn.1 ho
          exact (hf j).1
        have hsmall : ∀ s ∈ vals, s.size ≤ 100 := fun s hs => by
          rw [← hmap] at hs
          obtain ⟨o, ho, rfl⟩ := List.mem_map.1 hs
          exact (out_size o (hok o ho)).2
        have h4' : (longsOf name).length ≤ 4 := (longsOf_len name).1
        obtain ⟨m, m1, m2, m3, m4⟩ := joinFrom_some name vals vals.length 1 ⟨vals.length, by omega, by omega, by
          rw [fits_iff]
          intro i hi
          have hws := which_self name hne i (by omega)
          rw [← h4] at hws
          rw [hws, Int.toNat_natCast]⟩
        have hos : (List.ofFn f).take m ≠ [] := by
          intro e
          have := congrArg List.length e
          rw [List.length_take, hlen, List.length_nil] at this
          omega
        have hml : ((List.ofFn f).take m).length = m := by rw [List.length_take, hlen]; omega
        have hokm : ∀ o ∈ (List.ofFn f).take m, o.ok := fun o ho => hok o (List.mem_of_mem_take ho)
        refine ⟨vals, inter ((List.ofFn f).take m), hE, h4.symm, ⟨joinO ((List.ofFn f).take m), ?_, lexes_join _ hokm hos (by omega), inter_fits _ hokm, ?_⟩, hsmall⟩
        · unfold joinS joinO
          rw [if_neg (by
            intro h
            rcases h with h | h
            · exact hne h
            · exact h h4), m4, List.map_take, hmap]
        · show expandA name (interV ((List.ofFn f).take m)) imp = _
          unfold expandA spreadX
          rw [hn, if_neg (by decide), wide_inter _ hokm hos, if_pos rfl]
          unfold spreadS
          rw [parts_inter _ hos]
          simp only [List.length_map, hml]
          rw [spreadF_ok name _ m (longsOf name) vals 0 [] h4.symm (fun j j1 j2 => ?_), List.nil_append]
          rw [Nat.zero_add]
          have w1 := which_nn name hne m j m1 (by omega) j1
          have w2 := which_lt name m j j1
          obtain ⟨k, hk⟩ : ∃ k : Nat, whichS name (m : Int) (j : Int) = (k : Int) := ⟨(whichS name (m : Int) (j : Int)).toNat, by omega⟩
          have hkm : k < m := by omega
          have hkl : k < vals.length := by omega
          refine ⟨w1, outV (f ⟨k, hkl⟩), ?_, ?_⟩
          · rw [hk, Int.toNat_natCast, List.getElem?_map, List.getElem?_take, if_pos hkm, hget k hkl]
            rfl
          · have hv := (fits_iff name vals m vals.length).1 m3 j j2
            rw [hk, Int.toNat_natCast, List.getElem?_eq_getElem hkl, List.getElem?_eq_getElem j2] at hv
            simp only [Option.getD_some] at hv
            have ht : (f ⟨k, hkl⟩).text = (f ⟨j, j2⟩).text := by rw [← (hf ⟨k, hkl⟩).2.1, ← (hf ⟨j, j2⟩).2.1]; exact hv
            have htok := tok_unique (hf ⟨k, hkl⟩).1 (hf ⟨j, j2⟩).1 ht
            unfold outV
            rw [htok]
            exact (hf ⟨j, j2⟩).2.2 j1
end Go.Proofs.YtpadcjcoafidgaaGreatDoor
/-! gouacheref03.Deep, gouacheref03.Count, gouachelaw15.great, gouachelaw16.great: each returns; what is not great has short tokens. -/
namespace Go.Proofs.YtpadcjcoafidgaaGreatDoor
open Go.RowKit

/-- The kids of a value, as the slice that it holds. -/
def Val.kids (x : Val) : Value := .slice x.ka x.kn x.kc
/-- Values that are nested less than n deep. -/
def VD (w : World) : Nat → Value → List Val → Prop
  | 0, _, _ => False
  | n + 1, v, l => Vs w v l ∧ ∀ x ∈ l, ∃ l', VD w n x.kids l'
theorem VD.below {C : Nat} {w w' : World} (hb : Below C w w') (hC : w.heap.size ≤ C) : ∀ {n : Nat} {v : Value} {l : List Val}, VD w n v l → VD w' n v l
  | 0, _, _, h => h.elim
  | n + 1, v, l, ⟨h1, h2⟩ => ⟨h1.below hb hC, fun x hx => by
    obtain ⟨l', h⟩ := h2 x hx
    exact ⟨l', VD.below hb hC h⟩⟩
theorem VD.next {w w' : World} {n : Nat} {v : Value} {l : List Val} (h : VD w n v l) (hb : Below w.heap.size w w') : VD w' n v l := h.below hb (Nat.le_refl _)
theorem VD.vs {w : World} {n : Nat} {v : Value} {l : List Val} (h : VD w n v l) : Vs w v l := by
  cases n with
  | zero => exact h.elim
  | succ n => exact h.1
/-- A bool is returned. -/
def SomeB (w : World) (e : Ending) (w' : World) : Prop := ∃ b, e = .returned (.bool b) ∧ Below w.heap.size w w'
def SomeI (w : World) (e : Ending) (w' : World) : Prop := ∃ n, e = .returned (.int .i64 n) ∧ Below w.heap.size w w'
set_option maxRecDepth 100000 in
set_option maxHeartbeats 4000000 in
theorem Deep_any : ∀ (n : Nat) (w : World) (v : Value) (l : List Val) (most : Int), VD w n v l →
    Calls Tryz.prog 38 #[v, .int .i64 most] w (SomeB w)
  | 0, _, _, _, _, h => h.elim
  | n + 1, w, v, l, most, h => by
    have IH := Lib.hid (Deep_any n)
    have HD := Lib.hid h
    obtain ⟨a, cap, rfl, hcap, hl, hr⟩ := h.1
    have HR := Lib.hid hr
    clear h hr
    go_enter Tryz.func38, Tryz.ntmps38
    go_wp2_with fail
    go_loopw [6, 9] (fun _ iv wr => ∃ k : Nat, k ≤ l.length ∧ iv = .int .i64 k ∧ Below w.heap.size w wr) (fun _ iv _ => l.length - (intOf iv).toNat)
    case atStart => exact ⟨0, by omega, rfl, Below.refl _ _⟩
    case round =>
      obtain ⟨k, hk, rfl, hb⟩ := hrel
      by_cases hlt : k < l.length
      · have hne : l ≠ [] := by intro e; rw [e] at hlt; simp at hlt
        obtain ⟨bb, off, rfl, hbb, hcc⟩ := HR.out hne
        obtain ⟨x0, x1, x2, x3, x4, x5⟩ := Vs.cells (cellsX hb hbb hcc) k hlt
        obtain ⟨l', hkids⟩ := HD.out.2 _ (List.getElem_mem hlt)
        have HK := Lib.hid ((hkids.next hb).next (bAlloc1 wr (.cells #[.int .i64 l[k].tok.k, .string l[k].tok.t, .string l[k].tok.u, .bool l[k].tok.wh, .bool l[k].tok.fl, .slice l[k].ka l[k].kn l[k].kc] 26)))
        have hb1 := bNext hb (bAlloc1 wr (.cells #[.int .i64 l[k].tok.k, .string l[k].tok.t, .string l[k].tok.u, .bool l[k].tok.wh, .bool l[k].tok.fl, .slice l[k].ka l[k].kn l[k].kc] 26))
        obtain ⟨y, hy⟩ : ∃ y, l[k] = y := ⟨_, rfl⟩
        rw [hy] at x0 x1 x2 x3 x4 x5 HK hb1
        have q0 : (0 : Int) ≤ (k : Int) := by omega
        have q1 : (k : Int) < (l.length : Int) := by omega
        clear hcc hkids hy
        by_cases hkn : 0 < y.kn
        · have p1 : (0 : Int) < (y.kn : Int) := by omega
          by_cases hm : most < 1
          · go_wp2_with fail
            go_ret
            exact ⟨_, rfl, hb1⟩
          · go_wp2_with fail
            refine (IH.out _ _ l' _ HK.out).mono ?_
            rintro e w2 ⟨b, rfl, hb2⟩
            have hB2 := bNext hb1 hb2
            cases b with
            | true =>
              go_wp2_with fail
              go_ret
              exact ⟨_, rfl, hB2⟩
            | false =>
              clear x0 x1 x2 x3 x4 x5
              go_wp2_with fail
              go_roundw
              case rel => exact ⟨k + 1, by omega, by go_num, hB2⟩
              case measure => simp [intOf]; omega
        · have p1 : ¬ (0 : Int) < (y.kn : Int) := by omega
          go_wp2_with fail
          go_roundw
          case rel => exact ⟨k + 1, by omega, by go_num, hb1⟩
          case measure => simp [intOf]; omega
      · have q1 : ¬ (k : Int) < (l.length : Int) := by omega
        go_wp2_with fail
        go_ret
        exact ⟨_, rfl, hb⟩
set_option maxRecDepth 100000 in
set_option maxHeartbeats 4000000 in
theorem Count_any : ∀ (n : Nat) (w : World) (v : Value) (l : List Val), VD w n v l →
    Calls Tryz.prog 39 #[v] w (SomeI w)
  | 0, _, _, _, h => h.elim
  | n + 1, w, v, l, h => by
    have IH := Lib.hid (Count_any n)
    have HD := Lib.hid h
    obtain ⟨a, cap, rfl, hcap, hl, hr⟩ := h.1
    have HR := Lib.hid hr
    clear h hr
    go_enter Tryz.func39, Tryz.ntmps39
    go_wp2_with fail
    go_loopw [3, 5, 8] (fun nv _ iv wr => ∃ (k : Nat) (m : Int), k ≤ l.length ∧ iv = .int .i64 k ∧ nv = .int .i64 m ∧ Below w.heap.size w wr) (fun _ _ iv _ => l.length - (intOf iv).toNat)
    case atStart => exact ⟨0, 0, by omega, rfl, rfl, Below.refl _ _⟩
    case round =>
      obtain ⟨k, m, hk, rfl, rfl, hb⟩ := hrel
      by_cases hlt : k < l.length
      · have hne : l ≠ [] := by intro e; rw [e] at hlt; simp at hlt
        obtain ⟨bb, off, rfl, hbb, hcc⟩ := HR.out hne
        obtain ⟨x0, x1, x2, x3, x4, x5⟩ := Vs.cells (cellsX hb hbb hcc) k hlt
        obtain ⟨l', hkids⟩ := HD.out.2 _ (List.getElem_mem hlt)
        have HK := Lib.hid ((hkids.next hb).next (bAlloc1 wr (.cells #[.int .i64 l[k].tok.k, .string l[k].tok.t, .string l[k].tok.u, .bool l[k].tok.wh, .bool l[k].tok.fl, .slice l[k].ka l[k].kn l[k].kc] 26)))
        have hb1 := bNext hb (bAlloc1 wr (.cells #[.int .i64 l[k].tok.k, .string l[k].tok.t, .string l[k].tok.u, .bool l[k].tok.wh, .bool l[k].tok.fl, .slice l[k].ka l[k].kn l[k].kc] 26))
        obtain ⟨y, hy⟩ : ∃ y, l[k] = y := ⟨_, rfl⟩
        rw [hy] at x0 x1 x2 x3 x4 x5 HK hb1
        have q0 : (0 : Int) ≤ (k : Int) := by omega
        have q1 : (k : Int) < (l.length : Int) := by omega
        clear hcc hkids hy
        go_wp2_with fail
        refine (IH.out _ _ l' HK.out).mono ?_
        rintro e w2 ⟨c, rfl, hb2⟩
        have hB2 := bNext hb1 hb2
        clear x0 x1 x2 x3 x4 x5
        go_wp2_with fail
        go_roundw
        case rel => exact ⟨k + 1, _, by omega, by go_num, rfl, hB2⟩
        case measure => simp [intOf]; omega
      · have q1 : ¬ (k : Int) < (l.length : Int) := by omega
        go_wp2_with fail
        go_ret
        exact ⟨_, rfl, hb⟩
/-- A bool is returned; false: the tokens are short. -/
def GreatB (w : World) (l : List Val) (e : Ending) (w' : World) : Prop := ∃ b, e = .returned (.bool b) ∧ (b = false → ∀ x ∈ l, x.tok.t.size + x.tok.u.size ≤ 500) ∧ Below w.heap.size w w'
theorem GreatB.mk {w : World} {l : List Val} (b : Bool) (h : b = false → ∀ x ∈ l, x.tok.t.size + x.tok.u.size ≤ 500) {w' : World} (hb : Below w.heap.size w w') : GreatB w l (.returned (.bool b)) w' := ⟨b, rfl, h, hb⟩
set_option maxRecDepth 100000 in
set_option maxHeartbeats 4000000 in
theorem great15_any (n : Nat) (w : World) (v : Value) (l : List Val) (h : VD w n v l) (hsz : ∀ x ∈ l, x.tok.t.size ≤ 281474976710656 ∧ x.tok.u.size ≤ 281474976710656) :
    Calls Tryz.prog 11 #[v] w (GreatB w l) := by
  have HD := Lib.hid h
  have HZ := Lib.hid hsz
  obtain ⟨a, cap, rfl, hcap, hl, hr⟩ := h.vs
  have HR := Lib.hid hr
  clear h hr hsz
  go_enter Tryz.func11, Tryz.ntmps11
  go_wp2_with fail
  go_loopw [4, 7] (fun _ iv wr => ∃ k : Nat, k ≤ l.length ∧ iv = .int .i64 k ∧ Hid (∀ x ∈ l.take k, x.tok.t.size + x.tok.u.size ≤ 500) ∧ Below w.heap.size w wr) (fun _ iv _ => l.length - (intOf iv).toNat)
  case atStart => exact ⟨0, by omega, rfl, Lib.hid (fun x hx => by simp at hx), Below.refl _ _⟩
  case round =>
    obtain ⟨k, hk, rfl, HS, hb⟩ := hrel
    by_cases hlt : k < l.length
    · have hne : l ≠ [] := by intro e; rw [e] at hlt; simp at hlt
      obtain ⟨bb, off, rfl, hbb, hcc⟩ := HR.out hne
      obtain ⟨x0, x1, x2, x3, x4, x5⟩ := Vs.cells (cellsX hb hbb hcc) k hlt
      obtain ⟨z1, z2⟩ := HZ.out _ (List.getElem_mem hlt)
      have hb1 := bNext hb (bAlloc1 wr (.cells #[.int .i64 l[k].tok.k, .string l[k].tok.t, .string l[k].tok.u, .bool l[k].tok.wh, .bool l[k].tok.fl, .slice l[k].ka l[k].kn l[k].kc] 26))
      have HT := Lib.hid (List.take_succ_eq_append_getElem hlt)
      obtain ⟨y, hy⟩ : ∃ y, l[k] = y := ⟨_, rfl⟩
      rw [hy] at x0 x1 x2 x3 x4 x5 hb1 z1 z2 HT
      have q0 : (0 : Int) ≤ (k : Int) := by omega
      have q1 : (k : Int) < (l.length : Int) := by omega
      clear hcc hy
      by_cases hs : y.tok.t.size + y.tok.u.size ≤ 500
      · have p1 : ¬ (500 : Int) < (y.tok.t.size : Int) + (y.tok.u.size : Int) := by omega
        have HS2 : Hid (∀ x ∈ l.take (k + 1), x.tok.t.size + x.tok.u.size ≤ 500) := Lib.hid (fun x hx => by
          rw [HT.out] at hx
          rcases List.mem_append.1 hx with hx | hx
          · exact HS.out x hx
          · rw [List.mem_singleton.1 hx]; exact hs)
        clear hs
        go_wp2_with fail
        go_roundw
        case rel => exact ⟨k + 1, by omega, by go_num, HS2, hb1⟩
        case measure => simp [intOf]; omega
      · have p1 : (500 : Int) < (y.tok.t.size : Int) + (y.tok.u.size : Int) := by omega
        clear hs
        go_wp2_with fail
        go_ret
        exact GreatB.mk _ (fun h => by cases h) hb1
    · have hke : k = l.length := by omega
      have q1 : ¬ (k : Int) < (l.length : Int) := by omega
      have HS2 : Hid (∀ x ∈ l, x.tok.t.size + x.tok.u.size ≤ 500) := Lib.hid (fun x hx => HS.out x (by rw [hke, List.take_length]; exact hx))
      clear hke
      go_wp2_with fail
      refine (Deep_any n _ _ l _ (HD.out.next hb)).mono ?_
      rintro e w2 ⟨b, rfl, hb2⟩
      have hB2 := bNext hb hb2
      cases b with
      | true =>
        go_wp2_with fail
        go_ret
        exact GreatB.mk _ (fun _ => HS2.out) hB2
      | false =>
        go_wp2_with fail
        refine (Count_any n _ _ l (HD.out.next hB2)).mono ?_
        rintro e w3 ⟨c, rfl, hb3⟩
        go_wp2_with fail
        go_ret
        exact GreatB.mk _ (fun _ => HS2.out) (bNext hB2 hb3)
set_option maxRecDepth 100000 in
set_option maxHeartbeats 4000000 in
theorem great16_any (n : Nat) (w : World) (v : Value) (l : List Val) (h : VD w n v l) (hsz : ∀ x ∈ l, x.tok.t.size ≤ 281474976710656 ∧ x.tok.u.size ≤ 281474976710656) :
    Calls Tryz.prog 24 #[v] w (GreatB w l) := by
  have HD := Lib.hid h
  have HZ := Lib.hid hsz
  obtain ⟨a, cap, rfl, hcap, hl, hr⟩ := h.vs
  have HR := Lib.hid hr
  clear h hr hsz
  go_enter Tryz.func24, Tryz.ntmps24
  go_wp2_with fail
  go_loopw [4, 7] (fun _ iv wr => ∃ k : Nat, k ≤ l.length ∧ iv = .int .i64 k ∧ Hid (∀ x ∈ l.take k, x.tok.t.size + x.tok.u.size ≤ 500) ∧ Below w.heap.size w wr) (fun _ iv _ => l.length - (intOf iv).toNat)
  case atStart => exact ⟨0, by omega, rfl, Lib.hid (fun x hx => by simp at hx), Below.refl _ _⟩
  case round =>
    obtain ⟨k, hk, rfl, HS, hb⟩ := hrel
    by_cases hlt : k < l.length
    · have hne : l ≠ [] := by intro e; rw [e] at hlt; simp at hlt
      obtain ⟨bb, off, rfl, hbb, hcc⟩ := HR.out hne
      obtain ⟨x0, x1, x2, x3, x4, x5⟩ := Vs.cells (cellsX hb hbb hcc) k hlt
      obtain ⟨z1, z2⟩ := HZ.out _ (List.getElem_mem hlt)
      have hb1 := bNext hb (bAlloc1 wr (.cells #[.int .i64 l[k].tok.k, .string l[k].tok.t, .string l[k].tok.u, .bool l[k].tok.wh, .bool l[k].tok.fl, .slice l[k].ka l[k].kn l[k].kc] 26))
      have HT := Lib.hid (List.take_succ_eq_append_getElem hlt)
      obtain ⟨y, hy⟩ : ∃ y, l[k] = y := ⟨_, rfl⟩
      rw [hy] at x0 x1 x2 x3 x4 x5 hb1 z1 z2 HT
      have q0 : (0 : Int) ≤ (k : Int) := by omega
      have q1 : (k : Int) < (l.length : Int) := by omega
      clear hcc hy
      by_cases hs : y.tok.t.size + y.tok.u.size ≤ 500
      · have p1 : ¬ (500 : Int) < (y.tok.t.size : Int) + (y.tok.u.size : Int) := by omega
        have HS2 : Hid (∀ x ∈ l.take (k + 1), x.tok.t.size + x.tok.u.size ≤ 500) := Lib.hid (fun x hx => by
          rw [HT.out] at hx
          rcases List.mem_append.1 hx with hx | hx
          · exact HS.out x hx
          · rw [List.mem_singleton.1 hx]; exact hs)
        clear hs
        go_wp2_with fail
        go_roundw
        case rel => exact ⟨k + 1, by omega, by go_num, HS2, hb1⟩
        case measure => simp [intOf]; omega
      · have p1 : (500 : Int) < (y.tok.t.size : Int) + (y.tok.u.size : Int) := by omega
        clear hs
        go_wp2_with fail
        go_ret
        exact GreatB.mk _ (fun h => by cases h) hb1
    · have hke : k = l.length := by omega
      have q1 : ¬ (k : Int) < (l.length : Int) := by omega
      have HS2 : Hid (∀ x ∈ l, x.tok.t.size + x.tok.u.size ≤ 500) := Lib.hid (fun x hx => HS.out x (by rw [hke, List.take_length]; exact hx))
      clear hke
      go_wp2_with fail
      refine (Deep_any n _ _ l _ (HD.out.next hb)).mono ?_
      rintro e w2 ⟨b, rfl, hb2⟩
      have hB2 := bNext hb hb2
      cases b with
      | true =>
        go_wp2_with fail
        go_ret
        exact GreatB.mk _ (fun _ => HS2.out) hB2
      | false =>
        go_wp2_with fail
        refine (Count_any n _ _ l (HD.out.next hB2)).mono ?_
        rintro e w3 ⟨c, rfl, hb3⟩
        go_wp2_with fail
        go_ret
        exact GreatB.mk _ (fun _ => HS2.out) (bNext hB2 hb3)
end Go.Proofs.YtpadcjcoafidgaaGreatDoor
/-! The walk of gouachelaw16.ShortJoins. -/
namespace Go.Proofs.YtpadcjcoafidgaaGreatDoor
open Go.RowKit

theorem resS_eq (o : Option ByteArray) : resS o = .tuple #[.string (o.getD noStr), .bool o.isSome] := by cases o <;> rfl
theorem Ss.below {C : Nat} {w w' : World} {v : Value} {l : List ByteArray} (h : Ss w v l) (hb : Below C w w') (hC : w.heap.size ≤ C) : Ss w' v l := by
  obtain ⟨a, cap, hv, hl, hr⟩ := h
  refine ⟨a, cap, hv, hl, fun hne => ?_⟩
  obtain ⟨b, off, ha, hlt, hc⟩ := hr hne
  exact ⟨b, off, ha, Nat.lt_of_lt_of_le hlt hb.size, fun i hi => (hb.cell (p := ⟨b, _, none⟩) (Nat.lt_of_lt_of_le hlt hC)).trans (hc i hi)⟩
theorem Ss.next {w w' : World} {v : Value} {l : List ByteArray} (h : Ss w v l) (hb : Below w.heap.size w w') : Ss w' v l := h.below hb (Nat.le_refl _)
theorem strs_self (a : ByteArray) : (a.toList == a.toList) = true := by simp
set_option maxRecDepth 100000 in
set_option maxHeartbeats 8000000 in
theorem shortJoins_walk (w : World) (hB : Base16 w) (name : ByteArray) (lv : Value) (l : List ByteArray) (h : Ss w lv l) (hll : l.length ≤ 140737488355328) (hns : name.size ≤ 140737488355328) (hz : ∀ s ∈ l, s.size ≤ 140737488355328) (n i : Int) :
    Calls Tryz.prog 5 #[.string name, lv, .agg #[.int .i64 n, .int .i64 i]] w fun e w' => e = .returned (.bool true) ∧ Below w.heap.size w w' := by
  have HB := Lib.hid hB
  have HS := Lib.hid h
  have HZ := Lib.hid hz
  obtain ⟨a, cap, rfl, hcap, hr⟩ := h
  have HR := Lib.hid hr
  clear hB hz hr
  by_cases hn : 500 < name.size
  · have q : (500 : Int) < (name.size : Int) := by omega
    go_enter Tryz.func5, Tryz.ntmps5
    go_wp2_with fail
    go_quiet (fail)
    go_wp2_with fail
    refine (lives16_any _ (HB.out.next (bDrew (bAlloc1 _ _) _))).mono ?_
    rintro e w1 ⟨rfl, hb1⟩
    go_wp2_with fail
    go_ret
    exact ⟨rfl, bNext (bDrew (bAlloc1 _ _) _) hb1⟩
  · have q : ¬ (500 : Int) < (name.size : Int) := by omega
    by_cases hl2 : 20 < l.length
    · have q2 : (20 : Int) < (l.length : Int) := by omega
      go_enter Tryz.func5, Tryz.ntmps5
      go_wp2_with fail
      go_quiet (fail)
      go_wp2_with fail
      refine (lives16_any _ (HB.out.next (bDrew (bAlloc1 _ _) _))).mono ?_
      rintro e w1 ⟨rfl, hb1⟩
      go_wp2_with fail
      go_ret
      exact ⟨rfl, bNext (bDrew (bAlloc1 _ _) _) hb1⟩
    · have q2 : ¬ (20 : Int) < (l.length : Int) := by omega
      go_enter Tryz.func5, Tryz.ntmps5
      go_wp2_with fail
      go_quiet (fail)
      go_wp2_with fail
      go_loopw [10, 30] (fun _ iv wr => ∃ k : Nat, k ≤ l.length ∧ iv = .int .i64 k ∧ Hid (∀ s ∈ l.take k, s.size ≤ 200) ∧ Below w.heap.size w wr) (fun _ iv _ => l.length - (intOf iv).toNat)
      case atStart => exact ⟨0, by omega, rfl, Lib.hid (fun s hs => by simp at hs), bDrew (bAlloc1 _ _) _⟩
      case round =>
        obtain ⟨k, hk, rfl, HK, hb⟩ := hrel
        by_cases hlt : k < l.length
        · have hne : l ≠ [] := by intro e; rw [e] at hlt; simp at hlt
          obtain ⟨b1, o1, rfl, hb1, hc1⟩ := HR.out hne
          have f1 := (hb.cell (p := ⟨b1, o1 + k, none⟩) hb1).trans (hc1 k hlt)
          have HT := Lib.hid (List.take_succ_eq_append_getElem hlt)
          have z1 := HZ.out _ (List.getElem_mem hlt)
          obtain ⟨y, hy⟩ : ∃ y, l[k] = y := ⟨_, rfl⟩
          rw [hy] at f1 HT z1
          have p0 : (0 : Int) ≤ (k : Int) := by omega
          have p1 : (k : Int) < (l.length : Int) := by omega
          clear hc1 hy
          by_cases hs : y.size ≤ 200
          · have p2 : ¬ (200 : Int) < (y.size : Int) := by omega
            have HK2 : Hid (∀ s ∈ l.take (k + 1), s.size ≤ 200) := Lib.hid (fun s hs' => by
              rw [HT.out] at hs'
              rcases List.mem_append.1 hs' with h | h
              · exact HK.out s h
              · rw [List.mem_singleton.1 h]; exact hs)
            clear hs
            go_wp2_with fail
            go_roundw
            case rel => exact ⟨k + 1, by omega, by go_num, HK2, hb⟩
            case measure => simp [intOf]; omega
          · have p2 : (200 : Int) < (y.size : Int) := by omega
            clear hs
            go_wp2_with fail
            refine (lives16_any _ (HB.out.next hb)).mono ?_
            rintro e w1 ⟨rfl, hb1⟩
            go_wp2_with fail
            go_ret
            exact ⟨rfl, bNext hb hb1⟩
        · have hke : k = l.length := by omega
          have p1 : ¬ (k : Int) < (l.length : Int) := by omega
          have HK2 : Hid (∀ s ∈ l, s.size ≤ 200) := Lib.hid (fun s hs => HK.out s (by rw [hke, List.take_length]; exact hs))
          clear hke
          go_wp2_with fail
          refine (Join_any _ (HB.out.next hb) name _ l (HS.out.next hb) (fun s hs => Nat.le_trans (HK2.out s hs) (by decide)) (by omega)).mono ?_
          rintro e w1 ⟨rfl, hb1⟩
          have hB1 := bNext hb hb1
          rw [resS_eq]
          go_wp2_with fail
          refine (RefJoin_any _ name _ l (HS.out.next hB1) (fun s hs => Nat.le_trans (HK2.out s hs) (by decide)) (by omega)).mono ?_
          rintro e w2 ⟨rfl, hb2⟩
          have hB2 := bNext hB1 hb2
          rw [resS_eq]
          obtain ⟨z, hz⟩ : ∃ z, (joinS name l).getD noStr = z := ⟨_, rfl⟩
          obtain ⟨y, hy⟩ : ∃ z, (joinS name l).isSome = z := ⟨_, rfl⟩
          rw [hz, hy]
          have hzz := strs_self z
          clear hz hy
          go_wp2_with fail
          refine (Sides_any _ (HB.out.next hB2).sd n i).mono ?_
          rintro e w3 ⟨rfl, rfl⟩
          go_wp2_with fail
          refine (refSides_any _ n i).mono ?_
          rintro e w4 ⟨rfl, rfl⟩
          go_wp2_with fail
          refine (lives16_any _ (HB.out.next hB2)).mono ?_
          rintro e w5 ⟨rfl, hb5⟩
          go_wp2_with fail
          go_ret
          exact ⟨rfl, bNext hB2 hb5⟩
end Go.Proofs.YtpadcjcoafidgaaGreatDoor
/-! The walk of gouachelaw16.ShortBack. -/
namespace Go.Proofs.YtpadcjcoafidgaaGreatDoor
open Go.RowKit

/-- The texts that a slice holds. -/
def Sw (w : World) (v : Value) (l : List ByteArray) : Prop :=
  ∃ a cap, v = .slice a l.length cap ∧ (l ≠ [] → ∃ b off, a = some ⟨b, off, none⟩ ∧ b < w.heap.size ∧ ∀ (i : Nat) (hi : i < l.length), w.cell? ⟨b, off + i, none⟩ = some (.string l[i]))
theorem Ss.sw {w : World} {v : Value} {l : List ByteArray} (h : Ss w v l) : Sw w v l := by
  obtain ⟨a, cap, hv, -, hr⟩ := h
  exact ⟨a, cap, hv, hr⟩
theorem Strs.sw {B : Nat} {w : World} {v : Value} {l : List ByteArray} (h : Strs B w v l) : Sw w v l := by
  obtain ⟨a, cap, hv, -⟩ := h.val
  refine ⟨a, cap, hv, fun hne => ?_⟩
  obtain ⟨b, off, c, e, -, hlt, hc⟩ := h.at hne
  rw [hv] at e
  simp only [Value.slice.injEq] at e
  exact ⟨b, off, e.1, hlt, hc⟩
theorem Ss.of_owns {B e k : Nat} {w : World} {v : Value} {l : List ByteArray} (h : w.ownsRow B e 1 v k (l.map Value.string)) (hk : k = l.length) : Ss w v l := by
  subst hk
  obtain ⟨_, ⟨hv, h0⟩ | ⟨g, cap, cur, hv, hg, hh, hcap, hmax, hsz, htake⟩⟩ := h
  · exact ⟨none, 0, by rw [hv, h0], by omega, fun hne => absurd (List.eq_nil_of_length_eq_zero h0) hne⟩
  · refine ⟨some ⟨g, 0, none⟩, cap, hv, hcap, fun _ => ⟨g, 0, rfl, (Array.getElem?_eq_some_iff.1 hh).1, fun i hi => ?_⟩⟩
    have h2 : (l.map Value.string)[i]? = some (.string l[i]) := by rw [List.getElem?_map, List.getElem?_eq_getElem hi]; rfl
    rw [← htake, List.getElem?_take] at h2
    have h3 : cur.toList[i]? = some (.string l[i]) := by
      split at h2
      · exact h2
      · cases h2
    simp only [World.cell?, hh, Nat.zero_add]
    simpa using h3
set_option maxRecDepth 100000 in
set_option maxHeartbeats 4000000 in
theorem Texts_same (w : World) (av bv : Value) (l : List ByteArray) (ha : Sw w av l) (hb : Sw w bv l) (_hl : l.length ≤ 1000) :
    Calls Tryz.prog 26 #[av, bv] w fun e w' => e = .returned (.bool true) ∧ Below w.heap.size w w' := by
  obtain ⟨a1, c1, rfl, hr1⟩ := ha
  obtain ⟨a2, c2, rfl, hr2⟩ := hb
  have H1 := Lib.hid hr1
  have H2 := Lib.hid hr2
  clear hr1 hr2
  go_enter Tryz.func26, Tryz.ntmps26
  go_wp2_with fail
  go_loopw [5, 13] (fun _ iv wr => ∃ k : Nat, k ≤ l.length ∧ iv = .int .i64 k ∧ Below w.heap.size w wr) (fun _ iv _ => l.length - (intOf iv).toNat)
  case atStart => exact ⟨0, by omega, rfl, Below.refl _ _⟩
  case round =>
    obtain ⟨k, hk, rfl, hb⟩ := hrel
    by_cases hlt : k < l.length
    · have hne : l ≠ [] := by intro e; rw [e] at hlt; simp at hlt
      obtain ⟨b1, o1, rfl, hb1, hc1⟩ := H1.out hne
      obtain ⟨b2, o2, rfl, hb2, hc2⟩ := H2.out hne
      have x1 := (hb.cell (p := ⟨b1, o1 + k, none⟩) hb1).trans (hc1 k hlt)
      have x2 := (hb.cell (p := ⟨b2, o2 + k, none⟩) hb2).trans (hc2 k hlt)
      obtain ⟨y, hy⟩ : ∃ y, l[k] = y := ⟨_, rfl⟩
      rw [hy] at x1 x2
      have e1 := strs_self y
      have p0 : (0 : Int) ≤ (k : Int) := by omega
      have p1 : (k : Int) < (l.length : Int) := by omega
      clear hc1 hc2 hy
      go_wp2_with fail
      go_quiet (fail)
      go_wp2_with fail
      go_roundw
      case rel => exact ⟨k + 1, by omega, by go_num, bDrew hb _⟩
      case measure => simp [intOf]; omega
    · have p1 : ¬ (k : Int) < (l.length : Int) := by omega
      go_wp2_with fail
      go_ret
      exact ⟨rfl, hb⟩
theorem dis_flip {u v : Value} (h : u.ownBlock = none ∨ u.ownBlock ≠ v.ownBlock) : v.ownBlock = none ∨ v.ownBlock ≠ u.ownBlock := by
  rcases h with h | h
  · rw [h]
    cases v.ownBlock with
    | none => exact .inl rfl
    | some q => exact .inr (by simp)
  · exact .inr (Ne.symm h)
theorem one_string (y : ByteArray) : ∀ u ∈ [Value.string y], u.oneCell' = true := by
  intro u hu
  rw [List.mem_singleton.1 hu]
  rfl
theorem arm_far {W w7 : World} {o : Obj} {v : Value} {N : Nat} (hg : (W.alloc o).grownBy w7 v.ownBlock) (hN : N < W.heap.size) (hv : ∀ q, v.ownBlock = some q → q < N) (j : Nat) : w7.cell? ⟨N, j, none⟩ = W.cell? ⟨N, j, none⟩ := by
  rw [hg.cell_far ⟨N, j, none⟩ (by simp; omega) (by
    intro e
    have := hv N e.symm
    omega)]
  exact World.cell?_alloc_lt _ _ _ hN
theorem arm_farD {W w7 : World} {o : Obj} {v : Value} {N : Nat} (hg : (W.drew.alloc o).grownBy w7 v.ownBlock) (hN : N < W.heap.size) (hv : ∀ q, v.ownBlock = some q → q < N) (j : Nat) : w7.cell? ⟨N, j, none⟩ = W.cell? ⟨N, j, none⟩ := arm_far (W := W.drew) hg hN hv j
theorem arm_far2 {W w7 : World} {o p : Obj} {v : Value} {N : Nat} (hg : ((W.drew.alloc o).alloc p).grownBy w7 v.ownBlock) (hN : N < W.heap.size) (hv : ∀ q, v.ownBlock = some q → q < N) (j : Nat) : w7.cell? ⟨N, j, none⟩ = W.cell? ⟨N, j, none⟩ :=
  (arm_far (W := W.drew.alloc o) hg (by simp; omega) hv j).trans (World.cell?_alloc_lt (w := W.drew) _ _ hN)
theorem cell_one {w : World} {g : Nat} {x : Value} (h : w.cell? ⟨g, 0, none⟩ = some x) : ∀ (j : Nat) (u : Value), [x][j]? = some u → w.cell? ((⟨g, 0, none⟩ : Addr).add j) = some u := by
  intro j u hu
  cases j with
  | zero =>
    simp only [List.getElem?_cons_zero, Option.some.injEq] at hu
    subst hu
    exact h
  | succ j => simp at hu
theorem two_first (W : World) (a : Value) (t _t : TypeId) (p : Obj) : ((W.alloc (.cells #[a] t)).alloc p).cell? ⟨W.heap.size, 0, none⟩ = some a :=
  (World.cell?_alloc_lt (w := W.alloc (.cells #[a] t)) _ _ (by simp)).trans ((Own.new W #[a] t).m 0)
theorem two_last (W : World) (b : Value) (t : TypeId) (o : Obj) : ((W.alloc o).alloc (.cells #[b] t)).cell? ⟨W.heap.size + 1, 0, none⟩ = some b := by
  have := (Own.new (W.alloc o) #[b] t).m 0
  rw [World.size_alloc] at this
  exact this
/-- What is left when both appends have been done. -/
theorem close9 {u4 u5 : Value} {w7 w7' w9 : World} {B e k N g1 g2 cap1 cap2 H7 H9 : Nat} {xs1 xs2 : List Value} (hown7 : w7.ownsRow B e 1 (.slice (some ⟨g1, 0, none⟩) (k + 1) cap1) (k + 1) xs1) (h7 : w7.grownBy w7' none)
    (hgrow9 : w7'.grownBy w9 u5.ownBlock) (hown9 : w9.ownsRow B e 1 (.slice (some ⟨g2, 0, none⟩) (k + 1) cap2) (k + 1) xs2)
    (hat7 : u4.ownBlock = some g1 ∨ g1 = H7) (hat9 : u5.ownBlock = some g2 ∨ g2 = H9) (hlt7 : g1 < w7.heap.size) (hN7 : N ≤ H7) (_hN9 : N ≤ H9) (h79 : w7.heap.size ≤ H9)
    (_hn1 : ∀ q, u4.ownBlock = some q → q < N) (hn2 : ∀ q, u5.ownBlock = some q → q < N) (hdis : u4.ownBlock = none ∨ u4.ownBlock ≠ u5.ownBlock) :
    w9.ownsRow B e 1 (.slice (some ⟨g1, 0, none⟩) (k + 1) cap1) (k + 1) xs1 ∧ w9.ownsRow B e 1 (.slice (some ⟨g2, 0, none⟩) (k + 1) cap2) (k + 1) xs2 ∧
      ((Value.slice (some ⟨g1, 0, none⟩) (k + 1) cap1).ownBlock = none ∨ (Value.slice (some ⟨g1, 0, none⟩) (k + 1) cap1).ownBlock ≠ (Value.slice (some ⟨g2, 0, none⟩) (k + 1) cap2).ownBlock) := by
  have h1 : some g1 ≠ u5.ownBlock := by
    intro e
    rcases hat7 with h | h
    · rcases hdis with hd | hd
      · rw [hd] at h; cases h
      · exact hd (h.trans e)
    · have := hn2 g1 e.symm
      omega
  have h2 : g1 ≠ g2 := by
    intro e
    rcases hat9 with h | h
    · exact h1 (by rw [h, e])
    · omega
  exact ⟨(hown7.kept h7 (.inr (by simp [Value.ownBlock]))).kept hgrow9 (.inr (by simpa [Value.ownBlock] using h1)), hown9, .inr (by simpa [Value.ownBlock] using h2)⟩
theorem grown_refl (w : World) (row : Option Nat) : w.grownBy w row := ⟨rfl, rfl, rfl, Nat.le_refl _, fun _ _ _ => rfl⟩
theorem arm_far0 {W w7 : World} {v : Value} {N : Nat} (hg : W.grownBy w7 v.ownBlock) (hN : N < W.heap.size) (hv : ∀ q, v.ownBlock = some q → q < N) (j : Nat) : w7.cell? ⟨N, j, none⟩ = W.cell? ⟨N, j, none⟩ :=
  hg.cell_far ⟨N, j, none⟩ hN (by
    intro e
    have := hv N e.symm
    omega)
theorem infoStrW : (Tryz.prog.info? 9).map (fun i => (i.zero, i.size, i.bytes)) = some (some (.string ⟨#[]⟩), 1, 16) := by kernel_rfl
set_option maxRecDepth 100000 in
set_option maxHeartbeats 16000000 in
theorem shortBack_walk (name : ByteArray) (hname : name.size ≤ 281474976710656) (a : Option Addr) (c : Nat) (m : Nat) (l : List Val) (imp : Bool) (w : World) (hl : VD w m (.slice a l.length c) l) (hsz : ∀ x ∈ l, x.tok.t.size ≤ 281474976710656 ∧ x.tok.u.size ≤ 281474976710656) (hB : Base16 w) :
    Calls Tryz.prog 6 #[.agg #[.string name, .slice a l.length c, .bool imp]] w fun e w' => e = .returned (.bool true) ∧ Below w.heap.size w w' := by
  have hb0 := bAlloc1 w (.cells #[.string name, .slice a l.length c, .bool imp] 48)
  have HB := Lib.hid (hB.next hb0)
  have HL := Lib.hid (hl.next hb0)
  have HZ := Lib.hid hsz
  obtain ⟨i0, hi, hz0, hz1, hz2⟩ := info_parts infoStrW
  have Hi := Lib.hid hi
  have Hz0 := Lib.hid hz0
  have Hz1 := Lib.hid hz1
  have Hz2 := Lib.hid hz2
  clear hi hz0 hz1 hz2
  have hO := Own.new w #[.string name, .slice a l.length c, .bool imp] 48
  clear hB hl hsz
  by_cases hn : 500 < name.size
  · have q : (500 : Int) < (name.size : Int) := by omega
    go_enter Tryz.func6, Tryz.ntmps6
    go_wp2_with fail
    refine (lives16_any _ HB.out).mono ?_
    rintro e w1 ⟨rfl, hb1⟩
    go_wp2_with fail
    go_ret
    exact ⟨rfl, bNext hb0 hb1⟩
  · have q : ¬ (500 : Int) < (name.size : Int) := by omega
    go_enter Tryz.func6, Tryz.ntmps6
    go_wp2_with fail
    refine (great16_any m _ _ l HL.out HZ.out).mono ?_
    rintro e w1 ⟨b, rfl, hs, hb1⟩
    have hB1 := bNext hb0 hb1
    have hO1 := hO.next hb1
    cases b with
    | true =>
      go_wp2_with fail
      refine (lives16_any w1 (HB.out.next hb1)).mono ?_
      rintro e w2 ⟨rfl, hb2⟩
      go_wp2_with fail
      go_ret
      exact ⟨rfl, bNext hB1 hb2⟩
    | false =>
      have hf : ∀ x ∈ l, x.fits := fun x hx => by
        have := hs rfl x hx
        exact ⟨by omega, by omega⟩
      have HFt := Lib.hid hf
      have HB1 := Lib.hid (HB.out.next hb1)
      have hv1 := HL.out.vs.next hb1
      have m1 := hO1.m
      clear hs hf hO HB HL HZ
      go_wp2_with fail
      refine (Expand_any w1 HB1.out name _ l imp hv1 HFt.out _ _ _ rfl).mono ?_
      rintro e w2 ⟨v2, rfl, hr2, hb2⟩
      have hB2 := bNext hB1 hb2
      have hO2 := hO1.next hb2
      have HB2 := Lib.hid (HB1.out.next hb2)
      clear m1 hv1 hO1 HB1
      by_cases hlen : 2 ≤ (expandA name l imp).length
      · obtain ⟨vals, toks, hE, hLn, ⟨s, hj, hlx, hfx, hE2⟩, hsm⟩ := back_all hlen
        obtain ⟨longs, hlongs⟩ : ∃ x, longsOf name = x := ⟨_, rfl⟩
        have hl4 : longs.length ≤ 4 := by rw [← hlongs]; exact (longsOf_len name).1
        rw [hlongs] at hE hLn hE2
        rw [hE] at hr2 hlen
        rw [longRows_len2 _ _ _ (by omega)] at hlen
        have HLo := Lib.hid hlongs
        have HR := Lib.hid hr2
        have HJ := Lib.hid hj
        have HX := Lib.hid hlx
        have HFx := Lib.hid hfx
        have HE2 := Lib.hid hE2
        have HSm := Lib.hid hsm
        have HAt : Hid (∀ (k : Nat) (h1 : k < longs.length) (h2 : k < vals.length) (h : k < (longRows longs vals imp).length), (longRows longs vals imp)[k] = (longs[k], vals[k], imp)) := Lib.hid (longRows_at longs vals imp)
        have hRl : (longRows longs vals imp).length = vals.length := longRows_len2 _ _ _ (by omega)
        obtain ⟨b2, o2, c2, rfl, -, hlt2, hc2⟩ := hr2.shape (by
          intro e
          have := congrArg List.length e
          rw [List.length_map, hRl, List.length_nil] at this
          omega)
        have HC := Lib.hid hc2
        rw [List.length_map, hRl]
        have hm2 := hO2.m
        have d0 : w2.cell? ⟨w.heap.size, 0, none⟩ = some (.string name) := hm2 0
        have d2 : w2.cell? ⟨w.heap.size, 0 + 2, none⟩ = some (.bool imp) := hm2 2
        have D0 := Lib.hid d0
        have D2 := Lib.hid d2
        have hDw : w.heap.size < w2.heap.size := hO2.lt
        have p1 : ¬ (vals.length : Int) < 2 := by omega
        have hv4 : vals.length ≤ 4 := by omega
        have hLn1 : vals.length ≤ longs.length := by omega
        have hLn2 : longs.length ≤ vals.length := by omega
        have HLn := Lib.hid hLn
        clear hc2 hr2 hE hE2 hlx hfx hj hsm hlongs d0 d2 hm2 hO2 hLn hlen hRl
        go_wp2_with fail
        go_loopw [4, 5, 7, 30] (fun uv un _ iv wr => ∃ k : Nat, k ≤ vals.length ∧ iv = .int .i64 k ∧ wr.ownsRow w2.heap.size 9 1 uv k ((vals.take k).map Value.string) ∧ wr.ownsRow w2.heap.size 9 1 un k ((longs.take k).map Value.string) ∧ (uv.ownBlock = none ∨ uv.ownBlock ≠ un.ownBlock) ∧ Below w2.heap.size w2 wr)
          (fun _ _ _ iv _ => vals.length - (intOf iv).toNat)
        case atStart => exact ⟨0, by omega, rfl, ⟨rfl, .inl ⟨rfl, rfl⟩⟩, ⟨rfl, .inl ⟨rfl, rfl⟩⟩, .inl rfl, Below.refl _ _⟩
        case round =>
          obtain ⟨k, hk, rfl, hown1, hown2, hdis, hb⟩ := hrel
          by_cases hlt : k < vals.length
          · have hltL : k < longs.length := by omega
            have hRL : k < (longRows longs vals imp).length := by rw [longRows_len2 _ _ _ (by omega)]; exact hlt
            have hat := HAt.out k hltL hlt hRL
            have cc := fun (j : Nat) (x : Value) (hx : (LongT.row (longs[k], vals[k], imp))[j]? = some x) => (hb.cell (p := ⟨b2, o2 + k * 3 + j, none⟩) hlt2).trans (HC.out k j x (by
              rw [List.getElem?_map, List.getElem?_eq_getElem hRL, hat]
              exact hx))
            have y0 : wr.cell? ⟨b2, o2 + k * 3, none⟩ = some (.string longs[k]) := cc 0 _ rfl
            have y1 : wr.cell? ⟨b2, o2 + k * 3 + 1, none⟩ = some (.string vals[k]) := cc 1 _ rfl
            have y2 : wr.cell? ⟨b2, o2 + k * 3 + 2, none⟩ = some (.bool imp) := cc 2 _ rfl
            have HT1 : Hid ((vals.take (k + 1)).map Value.string = (vals.take k).map Value.string ++ [Value.string vals[k]]) := Lib.hid (by rw [List.take_succ_eq_append_getElem hlt, List.map_append]; rfl)
            have HT2 : Hid ((longs.take (k + 1)).map Value.string = (longs.take k).map Value.string ++ [Value.string longs[k]]) := Lib.hid (by rw [List.take_succ_eq_append_getElem hltL, List.map_append]; rfl)
            obtain ⟨y, hy⟩ : ∃ y, vals[k] = y := ⟨_, rfl⟩
            obtain ⟨x, hx⟩ : ∃ x, longs[k] = x := ⟨_, rfl⟩
            rw [hy] at y1 HT1
            rw [hx] at y0 HT2
            have q0 : (0 : Int) ≤ (k : Int) := by omega
            have q1 : (k : Int) < (vals.length : Int) := by omega
            have hszr := hb.size
            clear cc hat hy hx hRL
            go_wp2_with fail
            clear y0 y1 y2
            have hbx := bAlloc1 wr (.cells #[.string x, .string y, .bool imp] 52)
            have z0 : (wr.alloc (.cells #[.string x, .string y, .bool imp] 52)).cell? ⟨wr.heap.size, 0, none⟩ = some (.string x) := (Own.new wr #[.string x, .string y, .bool imp] 52).m 0
            have z1 : (wr.alloc (.cells #[.string x, .string y, .bool imp] 52)).cell? ⟨wr.heap.size, 1, none⟩ = some (.string y) := (Own.new wr #[.string x, .string y, .bool imp] 52).m 1
            have hX1 := hown1.alloc (.cells #[.string x, .string y, .bool imp] 52)
            have hX2 := hown2.alloc (.cells #[.string x, .string y, .bool imp] 52)
            have hNlt : wr.heap.size < (wr.alloc (.cells #[.string x, .string y, .bool imp] 52)).heap.size := by simp
            obtain ⟨W, hW⟩ : ∃ W, wr.alloc (.cells #[.string x, .string y, .bool imp] 52) = W := ⟨_, rfl⟩
            obtain ⟨N, hN⟩ : ∃ N, wr.heap.size = N := ⟨_, rfl⟩
            rw [hW] at hbx z0 z1 hX1 hX2 hNlt ⊢
            rw [hN] at hbx z0 z1 hNlt ⊢
            have hn1 : ∀ q, u4.ownBlock = some q → q < N := fun q hq => by have := (hown1.lt q hq).2; omega
            have hn2 : ∀ q, u5.ownBlock = some q → q < N := fun q hq => by have := (hown2.lt q hq).2; omega
            have HN1 := Lib.hid hn1
            have HN2 := Lib.hid hn2
            have HDis := Lib.hid hdis
            have HL1 : Hid (∀ q, u4.ownBlock = some q → w2.heap.size ≤ q) := Lib.hid (fun q hq => (hown1.lt q hq).1)
            have HL2 : Hid (∀ q, u5.ownBlock = some q → w2.heap.size ≤ q) := Lib.hid (fun q hq => (hown2.lt q hq).1)
            have hbW : Below w2.heap.size w2 W := hb.trans (hbx.mono (by omega))
            have hNB : w2.heap.size ≤ N := by omega
            clear hn1 hn2 hW hN hown1 hown2 hdis
            go_region_held3 (fun w' => w'.cell? ⟨N, 0, none⟩ = some (.string x) ∧ w'.cell? ⟨N, 1, none⟩ = some (.string y)) (go_keep)
              (first
                | (have _g := oq1; ((refine step_append_lies _ (by rfl) (.tmp 39) (.tmp 42) 42 (by rfl) w2.heap.size 9 i0 (.string ⟨#[]⟩) 1 16 Tryz.underlying42 Hi.out Hz0.out Hz1.out Hz2.out rfl (by decide) _ k _ (by rfl) (World.ownsRow.alloc (w := w7) hX27 _) ⟨w7.heap.size, 0, none⟩ 1 1 [Value.string x] (by rfl) rfl (cells_new1 w7 _ _ _ rfl) (one_string x) (by decide) (by unfold maxLen; omega) (by omega) (by simp; omega) (w7.heap.size + 1) (by simp) ?_); intro g2 cap2 w9 hown9 hgrow9 hat9 hlt9; have hf9 := arm_far hgrow9 (by omega) HN2.out; have z09 := (hf9 0).trans z07; have z19 := (hf9 1).trans z17; have H9 := Lib.hid (close9 (N := N) hown7 (World.grownBy_alloc w7 (.cells #[.string x] 9) none) hgrow9 hown9 hat7 hat9 hlt7 (by omega) (by omega) (by omega) HN1.out HN2.out HDis.out); have hb9 := (hb7.alloc (by omega) (.cells #[.string x] 9)).grown hgrow9 (by simp; omega) HL2.out))
                | (have _g := oq2; ((refine step_append_lies _ (by rfl) (.tmp 39) (.tmp 42) 42 (by rfl) w2.heap.size 9 i0 (.string ⟨#[]⟩) 1 16 Tryz.underlying42 Hi.out Hz0.out Hz1.out Hz2.out rfl (by decide) _ k _ (by rfl) hX27 ⟨W.heap.size + 1, 0, none⟩ 1 1 [Value.string x] (by rfl) rfl (cell_one xc) (one_string x) (by decide) (by unfold maxLen; omega) (by omega) (by omega) (w7.heap.size) (by simp) ?_); intro g2 cap2 w9 hown9 hgrow9 hat9 hlt9; have hf9 := arm_far0 hgrow9 (by omega) HN2.out; have z09 := (hf9 0).trans z07; have z19 := (hf9 1).trans z17; have H9 := Lib.hid (close9 (N := N) hown7 (grown_refl w7 none) hgrow9 hown9 hat7 hat9 hlt7 (by omega) (by omega) (by omega) HN1.out HN2.out HDis.out); have hb9 := hb7.grown hgrow9 (by omega) HL2.out))
                | (have _g := oq3; ((refine step_append_lies _ (by rfl) (.tmp 39) (.tmp 42) 42 (by rfl) w2.heap.size 9 i0 (.string ⟨#[]⟩) 1 16 Tryz.underlying42 Hi.out Hz0.out Hz1.out Hz2.out rfl (by decide) _ k _ (by rfl) hX27 ⟨W.heap.size, 0, none⟩ 1 1 [Value.string x] (by rfl) rfl (cell_one xc) (one_string x) (by decide) (by unfold maxLen; omega) (by omega) (by omega) (w7.heap.size) (by simp) ?_); intro g2 cap2 w9 hown9 hgrow9 hat9 hlt9; have hf9 := arm_far0 hgrow9 (by omega) HN2.out; have z09 := (hf9 0).trans z07; have z19 := (hf9 1).trans z17; have H9 := Lib.hid (close9 (N := N) hown7 (grown_refl w7 none) hgrow9 hown9 hat7 hat9 hlt7 (by omega) (by omega) (by omega) HN1.out HN2.out HDis.out); have hb9 := hb7.grown hgrow9 (by omega) HL2.out))
                | (((refine step_append_lies _ (by rfl) (.tmp 34) (.tmp 37) 42 (by rfl) w2.heap.size 9 i0 (.string ⟨#[]⟩) 1 16 Tryz.underlying42 Hi.out Hz0.out Hz1.out Hz2.out rfl (by decide) _ k _ (by rfl) (World.ownsRow.alloc (w := W.drew) hX1 _) ⟨W.heap.size, 0, none⟩ 1 1 [Value.string y] (by rfl) rfl (cells_new1 W.drew _ _ _ rfl) (one_string y) (by decide) (by unfold maxLen; omega) (by omega) (by simp; omega) (W.heap.size + 1) (by simp) ?_); intro g1 cap1 w7 hown7 hgrow7 hat7 hlt7; have hf7 := arm_farD hgrow7 hNlt HN1.out; have z07 := (hf7 0).trans z0; have z17 := (hf7 1).trans z1; have hX27 := (World.ownsRow.alloc (w := W.drew) hX2 (.cells #[.string y] 9)).kept hgrow7 (dis_flip HDis.out); have hs7 : W.heap.size + 1 ≤ w7.heap.size := (by have := hgrow7.size; simp at this; omega); have hb7 := ((hbW.drew).alloc (by simp; omega) (.cells #[.string y] 9)).grown hgrow7 (by simp; omega) HL1.out; have oq1 := trivial))
                | (((refine step_append_lies _ (by rfl) (.tmp 34) (.tmp 37) 42 (by rfl) w2.heap.size 9 i0 (.string ⟨#[]⟩) 1 16 Tryz.underlying42 Hi.out Hz0.out Hz1.out Hz2.out rfl (by decide) _ k _ (by rfl) ((World.ownsRow.alloc (w := W.drew) hX1 (.cells #[.string y] 9)).alloc (.cells #[.string x] 9)) ⟨W.heap.size, 0, none⟩ 1 1 [Value.string y] (by rfl) rfl (cell_one (two_first W.drew _ 9 9 _)) (one_string y) (by decide) (by unfold maxLen; omega) (by omega) (by simp; omega) (W.heap.size + 1 + 1) (by simp) ?_); intro g1 cap1 w7 hown7 hgrow7 hat7 hlt7; have hf7 := arm_far2 hgrow7 hNlt HN1.out; have z07 := (hf7 0).trans z0; have z17 := (hf7 1).trans z1; have xc := hgrow7.cell (two_last W.drew (.string x) 9 (.cells #[.string y] 9)) (by intro e; have := HN1.out _ e.symm; simp at this; omega); have hX27 := ((World.ownsRow.alloc (w := W.drew) hX2 (.cells #[.string y] 9)).alloc (.cells #[.string x] 9)).kept hgrow7 (dis_flip HDis.out); have hs7 : W.heap.size + 1 + 1 ≤ w7.heap.size := (by have := hgrow7.size; simp at this; omega); have hb7 := (((hbW.drew).alloc (by simp; omega) (.cells #[.string y] 9)).alloc (by simp; omega) (.cells #[.string x] 9)).grown hgrow7 (by simp; omega) HL1.out; have oq2 := trivial))
                | (((refine step_append_lies _ (by rfl) (.tmp 34) (.tmp 37) 42 (by rfl) w2.heap.size 9 i0 (.string ⟨#[]⟩) 1 16 Tryz.underlying42 Hi.out Hz0.out Hz1.out Hz2.out rfl (by decide) _ k _ (by rfl) ((World.ownsRow.alloc (w := W.drew) hX1 (.cells #[.string x] 9)).alloc (.cells #[.string y] 9)) ⟨W.heap.size + 1, 0, none⟩ 1 1 [Value.string y] (by rfl) rfl (cell_one (two_last W.drew _ 9 _)) (one_string y) (by decide) (by unfold maxLen; omega) (by omega) (by simp; omega) (W.heap.size + 1 + 1) (by simp) ?_); intro g1 cap1 w7 hown7 hgrow7 hat7 hlt7; have hf7 := arm_far2 hgrow7 hNlt HN1.out; have z07 := (hf7 0).trans z0; have z17 := (hf7 1).trans z1; have xc := hgrow7.cell (two_first W.drew (.string x) 9 9 (.cells #[.string y] 9)) (by intro e; have := HN1.out _ e.symm; simp at this; omega); have hX27 := ((World.ownsRow.alloc (w := W.drew) hX2 (.cells #[.string x] 9)).alloc (.cells #[.string y] 9)).kept hgrow7 (dis_flip HDis.out); have hs7 : W.heap.size + 1 + 1 ≤ w7.heap.size := (by have := hgrow7.size; simp at this; omega); have hb7 := (((hbW.drew).alloc (by simp; omega) (.cells #[.string x] 9)).alloc (by simp; omega) (.cells #[.string y] 9)).grown hgrow7 (by simp; omega) HL1.out; have oq3 := trivial)))
            all_goals
              obtain ⟨r1, r2, r3⟩ := H9.out
              rw [← HT1.out] at r1
              rw [← HT2.out] at r2
              clear hat7 hat9 hown7 hown9 hgrow7 hgrow9 z0 z1 z07 z17 z09 z19
              go_wp2_with fail
              go_roundw
              case rel => exact ⟨k + 1, by omega, by go_num, r1, r2, r3, hb9⟩
              case measure => simp [intOf]; omega
          · have hke : k = vals.length := by omega
            have q1 : ¬ (k : Int) < (vals.length : Int) := by omega
            have hs1 := Ss.of_owns (l := vals) (by rw [List.take_of_length_le (by omega)] at hown1; exact hown1) hke
            have hs2 := Ss.of_owns (l := longs) (by rw [List.take_of_length_le (by omega)] at hown2; exact hown2) (by omega)
            have hB3 := bNext hB2 hb
            have HB3 := Lib.hid (HB2.out.next hb)
            have d0 := (hb.cell (p := ⟨w.heap.size, 0, none⟩) hDw).trans D0.out
            have d2 := (hb.cell (p := ⟨w.heap.size, 0 + 2, none⟩) hDw).trans D2.out
            have HC3 : Hid (∀ (i j : Nat) (x : Value), (((longRows longs vals imp).map LongT.row)[i]?.getD [])[j]? = some x → wr.cell? ⟨b2, o2 + i * 3 + j, none⟩ = some x) := Lib.hid (fun i j x hx => (hb.cell (p := ⟨b2, _, none⟩) hlt2).trans (HC.out i j x hx))
            have hb2lt : b2 < wr.heap.size := Nat.lt_of_lt_of_le hlt2 hb.size
            have hDr : w.heap.size < wr.heap.size := Nat.lt_of_lt_of_le hDw hb.size
            clear hke hown1 hown2 hdis
            go_wp2_with fail
            refine (Longs_any name wr HB3.out.sh).mono ?_
            rintro e w4 ⟨v4, rfl, hl4', -, hb4⟩
            rw [HLo.out] at hl4'
            have hB4 := bNext hB3 hb4
            have d0 := cell_later hb4 d0
            have d2 := cell_later hb4 d2
            have hs14 := Lib.hid (hs1.next hb4)
            have hs24 := Lib.hid (hs2.next hb4)
            have hSw := Lib.hid hl4'.sw
            clear hs1 hs2 hl4'
            go_wp2_with fail
            refine (Texts_same w4 _ _ longs hs24.out.sw hSw.out (by omega)).mono ?_
            rintro e w5 ⟨rfl, hb5⟩
            have hB5 := bNext hB4 hb5
            have d0 := cell_later hb5 d0
            have d2 := cell_later hb5 d2
            have hb45 := bNext hb4 hb5
            go_wp2_with fail
            refine (Join_any w5 (HB3.out.next hb45) name _ vals (hs14.out.next hb5) (fun s hs => Nat.le_trans (HSm.out s hs) (by decide)) (by omega)).mono ?_
            rintro e w6 ⟨rfl, hb6⟩
            rw [HJ.out]
            simp only [resS]
            have hB6 := bNext hB5 hb6
            have hb46 := bNext hb45 hb6
            have d0 := cell_later hb6 d0
            have d2 := cell_later hb6 d2
            have HB6 := Lib.hid (HB3.out.next hb46)
            go_wp2_with fail
            go_region_held3 (fun w' => w'.cell? ⟨w.heap.size, 0, none⟩ = some (.string name) ∧ w'.cell? ⟨w.heap.size, 0 + 2, none⟩ = some (.bool imp)) (go_keep)
              (first
                | (go_at_call 28; ((refine (values16_any _ s toks HX.out).mono ?_); rintro e w7 ⟨v7, rfl, hv7, hb7⟩; have hd7 := (below_drew' w6).trans hb7; have d07 := cell_later hd7 d0; have d27 := cell_later hd7 d2; have HB7 := HB6.out.next hd7; obtain ⟨va7, vc7, rfl, hh7⟩ := id hv7))
                | (go_at_call 25; ((refine (Expand_any _ HB7 name _ (toks.map Val.of) imp hv7 HFx.out va7 toks.length vc7 (by rw [List.length_map])).mono ?_); rintro e w8 ⟨v8, rfl, hr8, hb8⟩; have d08 := cell_later hb8 d07; have d28 := cell_later hb8 d27; have HB8 := HB7.next hb8)))
            have hb68 := bNext (bNext (below_drew' w6) hb7) hb8
            have hB8 := bNext hB6 hb68
            have hb48 := bNext hb46 hb68
            have HB8' := Lib.hid HB8
            rw [HE2.out] at hr8
            have hRl : (longRows longs vals imp).length = vals.length := longRows_len2 _ _ _ (by omega)
            obtain ⟨b8, o8, c8, rfl, -, hlt8, hc8⟩ := hr8.shape (by
              intro e
              have := congrArg List.length e
              rw [List.length_map, hRl, List.length_nil] at this
              omega)
            have HC8 := Lib.hid hc8
            have HRl := Lib.hid hRl
            rw [List.length_map, hRl]
            clear hc8 hr8 hRl d07 d27 d08 d28 d0 d2 hv7 hh7 hb7 hb8 HB7 HB8 hd7
            have hvv : ((vals.length : Int) == (vals.length : Int)) = true := by simp
            go_wp2_with fail
            go_loopw [11, 75] (fun _ iv wx => ∃ i : Nat, i ≤ vals.length ∧ iv = .int .i64 i ∧ Below w8.heap.size w8 wx) (fun _ iv _ => vals.length - (intOf iv).toNat)
            case atStart => exact ⟨0, by omega, rfl, Below.refl _ _⟩
            case round =>
              obtain ⟨i, hi, rfl, hb9⟩ := hrel
              by_cases hlt : i < vals.length
              · have hltL : i < longs.length := by omega
                have hRL : i < (longRows longs vals imp).length := by rw [HRl.out]; exact hlt
                have hat := HAt.out i hltL hlt hRL
                have hrow : ∀ (j : Nat) (x : Value), (LongT.row (longs[i], vals[i], imp))[j]? = some x → (((longRows longs vals imp).map LongT.row)[i]?.getD [])[j]? = some x := fun j x hx => by
                  rw [List.getElem?_map, List.getElem?_eq_getElem hRL, hat]
                  exact hx
                have hbb := hb48.trans (hb9.mono hb48.size)
                have cc := fun (j : Nat) (x : Value) hx => (hbb.cell (p := ⟨b2, o2 + i * 3 + j, none⟩) hb2lt).trans (HC3.out i j x (hrow j x hx))
                have dd := fun (j : Nat) (x : Value) hx => (hb9.cell (p := ⟨b8, o8 + i * 3 + j, none⟩) hlt8).trans (HC8.out i j x (hrow j x hx))
                obtain ⟨y, hy⟩ : ∃ y, vals[i] = y := ⟨_, rfl⟩
                obtain ⟨x, hx⟩ : ∃ x, longs[i] = x := ⟨_, rfl⟩
                rw [hy, hx] at cc dd
                have y0 := cc 0 _ rfl
                have y1 := cc 1 _ rfl
                have y2 := cc 2 _ rfl
                have z0 := dd 0 _ rfl
                have z1 := dd 1 _ rfl
                have z2 := dd 2 _ rfl
                rw [Nat.add_zero] at y0 z0
                have e1 := strs_self x
                have e2 := strs_self y
                have p0 : (0 : Int) ≤ (i : Int) := by omega
                have p1 : (i : Int) < (vals.length : Int) := by omega
                clear cc dd hrow hat hy hx
                go_wp2_with fail
                go_quiet (fail)
                go_wp2_with fail
                go_roundw
                case rel => exact ⟨i + 1, by omega, by go_num, bDrew hb9 _⟩
                case measure => simp [intOf]; omega
              · have p1 : ¬ (i : Int) < (vals.length : Int) := by omega
                go_wp2_with fail
                refine (lives16_any _ (HB8'.out.next hb9)).mono ?_
                rintro e w10 ⟨rfl, hb10⟩
                go_wp2_with fail
                go_ret
                exact ⟨rfl, bNext (bNext hB8 hb9) hb10⟩
      · have hE : (expandA name l imp).length < 2 := by omega
        obtain ⟨a2, c2, rfl, -, -⟩ := hr2
        rw [List.length_map]
        have p1 : ((expandA name l imp).length : Int) < 2 := by omega
        go_wp2_with fail
        refine (lives16_any w2 HB2.out).mono ?_
        rintro e w3 ⟨rfl, hb3⟩
        go_wp2_with fail
        go_ret
        exact ⟨rfl, bNext hB2 hb3⟩
end Go.Proofs.YtpadcjcoafidgaaGreatDoor
/-! What a call's arguments hold: slices and structs of the reader's data, opened into rows of cells; the reach of what was read; arguments that read as they did. Over any program. -/
namespace Go.Proofs.YtpadcjcoafidgaaGreatDoor
open Go.RowKit Go.ChangeShapes Go.WideShapes

section
variable {H : Type} {enc : TypeId × Value → H} {P : Program} {W : World} {base : Nat} {sp : Nat → Bool} {held : Bool}

theorem mapM_get {α β : Type} {f : α → Option β} : ∀ {l : List α} {r : List β}, l.mapM f = some r → ∀ (i : Nat) (a : α), l[i]? = some a → ∃ b, r[i]? = some b ∧ f a = some b
  | [], _, _, i, a, hi => by simp at hi
  | x :: l, r, h, i, a, hi => by
    rw [List.mapM_cons] at h
    simp only [bind, Option.bind_eq_some_iff, pure, Option.some.injEq] at h
    obtain ⟨b, hb, r', hr, rfl⟩ := h
    cases i with
    | zero =>
      simp only [List.getElem?_cons_zero, Option.some.injEq] at hi
      subst hi
      exact ⟨b, rfl, hb⟩
    | succ i => exact mapM_get hr i a (by simpa using hi)
theorem mapM_len {α β : Type} {f : α → Option β} : ∀ {l : List α} {r : List β}, l.mapM f = some r → r.length = l.length
  | [], r, h => by
    simp at h
    subst h
    rfl
  | x :: l, r, h => by
    rw [List.mapM_cons] at h
    simp only [bind, Option.bind_eq_some_iff, pure, Option.some.injEq] at h
    obtain ⟨b, hb, r', hr, rfl⟩ := h
    simp [mapM_len hr]
/-- A struct: its fields, one by one. -/
theorem open_fields {t : TypeId} {fs : Array Field} {fuel : Nat} {cs : List Value} {x : DataW H × List MemPlace} (ht : P.underlying t = some (.struct fs)) (h : DataW.trod enc P W base sp held fuel t cs = some x) :
    ∃ (n : Nat) (ds : List (DataW H)), fuel = n + 1 ∧ cs.length = P.cellsOf t ∧ x.1 = .agg ds ∧ ds.length = fs.toList.length ∧
      ∀ (i : Nat) (f : Field), fs.toList[i]? = some f → ∃ y, ds[i]? = some y.1 ∧ DataW.trod enc P W base sp held n f.type ((cs.drop f.offset).take (P.cellsOf f.type)) = some y := by
  cases fuel with
  | zero => simp [DataW.trod] at h
  | succ n =>
    rw [DataW.trod_step] at h
    unfold DataW.trodStep at h
    simp only [ht] at h
    split at h
    · rename_i hl
      obtain ⟨xs, hx, rfl⟩ := Option.map_eq_some_iff.1 h
      refine ⟨n, xs.map (·.1), rfl, hl, rfl, by rw [List.length_map]; exact mapM_len hx, fun i f hf => ?_⟩
      obtain ⟨y, hy, hr⟩ := mapM_get hx i f hf
      exact ⟨y, by rw [List.getElem?_map, hy]; rfl, hr⟩
    · cases h
/-- A slice: its elements' rows of cells. -/
structure Rows0 (P : Program) (W : World) (e : TypeId) (v : Value) (rows : List (List Value)) : Prop where
  shape : ∃ a cap, v = .slice a rows.length cap ∧ rows.length ≤ cap ∧
    (rows ≠ [] → ∃ b off, a = some ⟨b, off, none⟩ ∧ b < W.heap.size ∧ ∀ (i j : Nat) (u : Value), (rows[i]?.getD [])[j]? = some u → W.cell? ⟨b, off + i * P.cellsOf e + j, none⟩ = some u)
  len : ∀ r ∈ rows, r.length = P.cellsOf e
theorem spot_none {a : Addr} {n : Nat} {u : Value} (h : W.cell? (a.add n) = some u) (hn : n = 0) : a.spot = none := by
  subst hn
  unfold Addr.add at h
  rw [if_pos rfl] at h
  unfold World.cell? at h
  split at h
  · split at h
    · cases h
    · rename_i hs
      simpa using hs
  · cases h
theorem open_elems {t e : TypeId} {fuel : Nat} {cs : List Value} {x : DataW H × List MemPlace} (ht : P.underlying t = some (.slice e)) (hpos : 0 < P.cellsOf e)
    (h : DataW.trod enc P W base sp held fuel t cs = some x) :
    ∃ (n : Nat) (v : Value) (rows : List (List Value)) (ds : List (DataW H)), fuel = n + 1 ∧ cs = [v] ∧ Rows0 P W e v rows ∧ ds.length = rows.length ∧ (x.1 = .nil ∧ rows = [] ∨ ∃ rest, x.1 = .slice ds rest) ∧
      ∀ (i : Nat) (r : List Value), rows[i]? = some r → ∃ y, ds[i]? = some y.1 ∧ DataW.trod enc P W base sp held n e r = some y := by
  rcases DataW.trod_slice ht h with ⟨rfl, rfl⟩ | ⟨a, len, cap, elems, rest, n, rfl, rfl, rfl, hb, hl, hm, hlen, hel, -, -⟩
  · cases fuel with
    | zero => simp [DataW.trod] at h
    | succ n => exact ⟨n, _, [], [], rfl, rfl, ⟨⟨none, 0, rfl, Nat.le_refl _, fun h => absurd rfl h⟩, fun r hr => by cases hr⟩, rfl, .inl ⟨rfl, rfl⟩, fun i r hr => by simp at hr⟩
  · have key : ∀ i, i < len → ∃ r y, W.cells? base (a.add (i * P.cellsOf e)) (P.cellsOf e) = some r ∧ elems[i]? = some y ∧ DataW.trod enc P W base sp held n e r = some y := by
      intro i hi
      have h1 := hel i hi
      rw [List.getElem?_eq_getElem (by omega), Option.bind_eq_some_iff] at h1
      obtain ⟨r, h1, h2⟩ := h1
      exact ⟨r, _, h1, List.getElem?_eq_getElem (by omega), h2⟩
    refine ⟨n, _, (List.range len).map fun i => (W.cells? base (a.add (i * P.cellsOf e)) (P.cellsOf e)).getD [], elems.map (·.1), rfl, rfl, ⟨⟨some a, cap, by simp, by simpa using hl, fun hne => ?_⟩, ?_⟩, by simp [hlen], .inr ⟨_, rfl⟩, ?_⟩
    · have hl0 : 0 < len := by
        rcases Nat.eq_zero_or_pos len with h0 | h0
        · rw [h0] at hne; exact absurd rfl hne
        · exact h0
      obtain ⟨r0, y0, h0, -, -⟩ := key 0 hl0
      obtain ⟨_, hl1, hc⟩ := World.cells?_some h0
      have h2 := hc 0 hpos
      have hlt := World.cells?_block h0 hpos
      obtain ⟨u, hu⟩ : ∃ u, r0[0]? = some u := ⟨_, List.getElem?_eq_getElem (by omega)⟩
      rw [hu, Nat.zero_mul] at h2
      have hs : a.spot = none := by
        have e0 : a.add 0 = a := by unfold Addr.add; rw [if_pos rfl]
        rw [e0] at h2
        exact spot_none (n := 0) h2 rfl
      obtain ⟨b, off, spot⟩ := a
      simp only at hs
      subst hs
      rw [add_plain] at hlt
      refine ⟨b, off, rfl, hlt, fun i j u hu => ?_⟩
      by_cases hi : i < len
      · obtain ⟨r, y, h1, -, -⟩ := key i hi
        rw [List.getElem?_map, List.getElem?_range hi] at hu
        simp only [Option.map_some, Option.getD_some, h1] at hu
        obtain ⟨_, hl1, hc⟩ := World.cells?_some h1
        have hj : j < P.cellsOf e := by rw [← hl1]; exact (List.getElem?_eq_some_iff.1 hu).1
        have h3 := hc j hj
        rw [hu, add_plain, add_plain] at h3
        exact h3
      · rw [List.getElem?_map, List.getElem?_eq_none (show (List.range len).length ≤ i by rw [List.length_range]; omega)] at hu
        simp at hu
    · intro r hr
      obtain ⟨i, hi, rfl⟩ := List.mem_map.1 hr
      obtain ⟨r, y, h1, -, -⟩ := key i (List.mem_range.1 hi)
      rw [h1]
      exact (World.cells?_some h1).2.1
    · intro i r hr
      have hi : i < len := by
        have := (List.getElem?_eq_some_iff.1 hr).1
        simpa using this
      obtain ⟨r', y, h1, h2, h3⟩ := key i hi
      rw [List.getElem?_map, List.getElem?_range hi] at hr
      simp only [Option.map_some, h1, Option.getD_some, Option.some.injEq] at hr
      subst hr
      exact ⟨y, by rw [List.getElem?_map, h2]; rfl, h3⟩
/-- WHAT WAS READ IS WITHIN THE REACH. -/
def Small (P : Program) (t : TypeId) (d : DataW H) : Prop := ∀ n ∈ d.weights P t, n ≤ reachBytes
theorem small_arg {ts : List TypeId} {ds : List (DataW H)} (h : (DataW.weightsEach P ts ds).all (· ≤ reachBytes) = true) {j : Nat} {t : TypeId} {d : DataW H} (ht : ts[j]? = some t) (hd : ds[j]? = some d) : Small P t d := by
  intro n hn
  have := List.all_eq_true.1 h _ (DataW.weights_mem_each ht hd n hn)
  simpa using this
theorem small_field {t : TypeId} {fs : Array Field} {parts : List (DataW H)} (ht : P.underlying t = some (.struct fs)) (h : Small P t (.agg parts)) {i : Nat} {f : Field} {d : DataW H} (hf : fs.toList[i]? = some f) (hd : parts[i]? = some d) : Small P f.type d := by
  intro n hn
  refine h n ?_
  simp only [DataW.weights, ht]
  exact DataW.weights_mem_each (by rw [List.getElem?_map, hf]; rfl) hd n hn
theorem small_mem {e : TypeId} : ∀ {ds : List (DataW H)} {i : Nat} {d : DataW H}, ds[i]? = some d → ∀ n ∈ d.weights P e, n ∈ DataW.weightsAll P e ds
  | [], _, _, hd, _, _ => by simp at hd
  | d0 :: ds, 0, d, hd, n, hn => by
    simp only [List.getElem?_cons_zero, Option.some.injEq] at hd
    subst hd
    simp only [DataW.weightsAll, List.mem_append]
    exact .inl hn
  | d0 :: ds, i + 1, d, hd, n, hn => by
    simp only [DataW.weightsAll, List.mem_append]
    exact .inr (small_mem (by simpa using hd) n hn)
theorem small_elem {t e : TypeId} {elems rest : List (DataW H)} (ht : P.underlying t = some (.slice e)) (h : Small P t (.slice elems rest)) {i : Nat} {d : DataW H} (hd : elems[i]? = some d) : Small P e d := by
  intro n hn
  refine h n ?_
  simp only [DataW.weights, ht, List.mem_cons, List.mem_append]
  exact .inr (.inl (small_mem hd n hn))
theorem small_len {t e : TypeId} {elems rest : List (DataW H)} (ht : P.underlying t = some (.slice e)) (h : Small P t (.slice elems rest)) : elems.length * P.bytesOf e ≤ 140737488351232 := by
  have := h ((elems.length + rest.length) * P.bytesOf e) (by simp [DataW.weights, ht])
  rw [Nat.add_mul] at this
  unfold reachBytes at this
  omega
theorem small_string {t : TypeId} {l : List UInt8} (h : Small P t (.lit (.string l) : DataW H)) : l.length ≤ 140737488351232 := by
  have := h l.length (by simp [DataW.weights])
  unfold reachBytes at this
  omega
/-- ARGUMENTS READ AS THEY DID where nothing old has turned. -/
theorem trodAll_below (hl : laidOutB P = true) {W' : World} (hb : Below W.heap.size W W') : ∀ {ts : List TypeId} {vs : List Value} {ds : List (DataW H)} {ps : List MemPlace},
    (∀ t ∈ ts, P.readableRec t = true ∧ t < P.types.size) → DataW.TrodAll enc P W 0 (fun _ => true) true ts vs ds ps → (∀ x ∈ ps, x.block < W.heap.size) →
    DataW.TrodAll enc P W' 0 (fun b => decide (b < W.heap.size)) true ts vs ds ps
  | [], vs, ds, ps, _, h, _ => by
    obtain ⟨rfl, rfl, rfl⟩ := trodAll_nil h
    exact trodAll_mk0
  | t :: ts, vs, ds, ps, hr, h, hlt => by
    obtain ⟨v, vs, d, ds, p, q, rfl, rfl, rfl, h1, h2⟩ := trodAll_cons h
    obtain ⟨r1, r2⟩ := hr t (List.mem_cons_self ..)
    exact ⟨p, q, Below.trod hl r1 r2 h1 hb (fun x hx => hlt x (List.mem_append_left _ hx)), trodAll_below hl hb (fun t ht => hr t (List.mem_cons_of_mem _ ht)) h2 (fun x hx => hlt x (List.mem_append_right _ hx)), rfl⟩
end
end Go.Proofs.YtpadcjcoafidgaaGreatDoor
/-! What the rows of this seat share: a world in which the listed variables lie as the program's text lays them. -/
namespace Go.Proofs.YtpadcjcoafidgaaGreatDoor
open Go.ChangeShapes Go.WideShapes Go.ChangeAt Go.RowKit

theorem ownKnob_none : ownKnob Tryz.prog.godebug = none := by kernel_rfl
def colourCells : List Value := (colourTbl.map fun p => [Value.string p.1, Value.string p.2]).flatten
theorem colourCells_at : ∀ i : Fin 8, colourCells[i.val * 2]? = some (.string (colourAt i.val).1) ∧ colourCells[i.val * 2 + 1]? = some (.string (colourAt i.val).2)
  | ⟨0, _⟩ => ⟨rfl, rfl⟩
  | ⟨1, _⟩ => ⟨rfl, rfl⟩
  | ⟨2, _⟩ => ⟨rfl, rfl⟩
  | ⟨3, _⟩ => ⟨rfl, rfl⟩
  | ⟨4, _⟩ => ⟨rfl, rfl⟩
  | ⟨5, _⟩ => ⟨rfl, rfl⟩
  | ⟨6, _⟩ => ⟨rfl, rfl⟩
  | ⟨7, _⟩ => ⟨rfl, rfl⟩
theorem coloursIn_of_laid {w : World} {l : List (String × DataW Unit)} (h : laidMet Tryz.prog l w) (hm : ("gouache/value.colours", Rows.laid_gouache_value_colours) ∈ l) : ColoursIn w := by
  obtain ⟨ty, fr, hh⟩ := var_of_laid h hm (g := 0) (t := 78) (by kernel_rfl) (by kernel_rfl) 5 (cs := colourCells) (by kernel_rfl)
  refine ⟨(Array.getElem?_eq_some_iff.1 hh).1, fun i hi => ?_⟩
  have := colourCells_at ⟨i, hi⟩
  simp only [World.cell?, hh]
  exact ⟨by simpa using this.1, by simpa using this.2⟩
theorem powIs_of_laid {w : World} {l : List (String × DataW Unit)} (h : laidMet Tryz.prog l w) (hm : ("internal/strconv.uint64pow10", Rows.laid_internal_strconv_uint64pow10) ∈ l) : Lib.TabIs Tryz.prog w "internal/strconv.uint64pow10" .u64 Lib.pow10Tab := by
  obtain ⟨ty, fr, hh⟩ := var_of_laid h hm (g := 4) (t := 200) (by kernel_rfl) (by kernel_rfl) 5 (cs := Lib.pow10Tab.map fun z => Value.int .u64 z) (by kernel_rfl)
  have hg : Tryz.prog.globalNamed "internal/strconv.uint64pow10" = some 4 := by kernel_rfl
  unfold Lib.TabIs World.var?
  rw [hg]
  simp [hh]
theorem base_of_laid {w : World} {l : List (String × DataW Unit)} (h : laidMet Tryz.prog l w) (hm : ("gouache/value.colours", Rows.laid_gouache_value_colours) ∈ l) (hp : ("internal/strconv.uint64pow10", Rows.laid_internal_strconv_uint64pow10) ∈ l) : Base w :=
  ⟨coloursIn_of_laid h hm, powIs_of_laid h hp⟩

/-- The cells of a variable, of its name, by the datum beside it. -/
noncomputable def cellsAs (g : Nat) (d : DataW Unit) : Array Value := ((plainAt Tryz.prog 8 (((Tryz.prog.globals[g]?).map (·.type)).getD 0) d).getD []).toArray
noncomputable def setVar (g : Nat) (d : DataW Unit) (h : Array Obj) : Array Obj := h.modify g fun
  | .cells _ t frozen => .cells (cellsAs g d) t frozen
  | o => o
/-- A world in which the listed variables lie as the program's text lays them. -/
noncomputable def laidWorld (os : Os) : World :=
  { World.holding Tryz.prog os ⟨#[], #[], []⟩ with heap := setVar 6 Rows.laid_unicode_utf8_acceptRanges (setVar 5 Rows.laid_unicode_utf8_first (setVar 2 Rows.laid_gouache_prop_shorts (setVar 0 Rows.laid_gouache_value_colours (setVar 4 Rows.laid_internal_strconv_uint64pow10 (setVar 7 Rows.laid_math_bits_deBruijn32tab (setVar 8 Rows.laid_math_bits_deBruijn64tab (setVar 1 Rows.laid_gouache_short_sides (World.holding Tryz.prog os ⟨#[], #[], []⟩).heap))))))) }
end Go.Proofs.YtpadcjcoafidgaaGreatDoor
