/- Texts of this claim, laid together: Digits, Colours, Px, Back, Back2, Digits15, Ref15a, Ref15b, RefNum, RefInt, RefDigits, RefColor. -/
import Derived.Test.YtpadcjcoafidgaaGreatDoorK3
import Derived.Test.YtpadcjcoafidgaaGreatDoorK5
import Derived.Test.YtpadcjcoafidgaaGreatDoorK7
import Derived.Test.YtpadcjcoafidgaaGreatDoorK8
import Derived.Deep.RegionHeld3
import Derived.Deep.AppendSrc
/-! gouachelaw16.digits. -/
namespace Go.Proofs.YtpadcjcoafidgaaGreatDoor
open Go.RowKit

def tenS : ByteArray := ⟨#[48, 49, 50, 51, 52, 53, 54, 55, 56, 57]⟩
def minusS : ByteArray := ⟨#[45]⟩
/-- The text of a number from 0 on. -/
def digS (n : Int) : ByteArray := if n < 0 then minusS else ⟨(decC 20 n.toNat).toArray⟩
def bt (l : List UInt8) : ByteArray := ⟨l.toArray⟩
theorem bt_size (l : List UInt8) : (bt l).size = l.length := rfl
theorem bt_app (a b : List UInt8) : bt a ++ bt b = bt (a ++ b) := by
  apply ByteArray.ext
  apply Array.toList_inj.1
  simp [bt]
theorem ten_piece : ∀ k : Fin 10, (tenS.data.toList.drop k.val).take (k.val + 1 - k.val) = [UInt8.ofNat (48 + k.val)] := by decide +kernel
theorem ten_extract (k : Nat) (hk : k < 10) : tenS.extract k (k + 1) = bt [UInt8.ofNat (48 + k)] := by
  apply bytes_ext
  rw [Lib.extract_toList, ten_piece ⟨k, hk⟩, ByteArray.toList_eq]
  rfl
set_option maxRecDepth 100000 in
set_option maxHeartbeats 2000000 in
theorem digits16_any (n : Int) (h1 : n ≤ 9223372036854775807) (w : World) :
    Calls Tryz.prog 29 #[.int .i64 n] w fun e w' => e = .returned (.string (digS n)) ∧ w' = w := by
  by_cases hn : n < 0
  · have HV : Hid (digS n = minusS) := Lib.hid (if_pos hn)
    go_enter Tryz.func29, Tryz.ntmps29
    go_wp2_with fail
    go_ret
    exact ⟨by rw [HV.out]; rfl, rfl⟩
  · obtain ⟨u0, rfl⟩ : ∃ u : Nat, n = (u : Int) := ⟨n.toNat, by omega⟩
    have HV : Hid (digS (u0 : Int) = bt (decC 20 u0)) := Lib.hid (by unfold digS; rw [if_neg hn, Int.toNat_natCast]; rfl)
    have hu0 : u0 < 10 ^ 20 := by omega
    go_enter Tryz.func29, Tryz.ntmps29
    go_wp2_with fail
    go_loopw [0, 3] (fun nv sv wr => ∃ (u f : Nat) (acc : List UInt8), nv = .int .i64 (u : Int) ∧ sv = .string (bt acc) ∧ (u : Int) ≤ 9223372036854775807 ∧ Hid (decC (f + 1) u ++ acc = decC 20 u0) ∧ u < 10 ^ (f + 1) ∧ acc.length ≤ 20 - f ∧ f ≤ 19 ∧ wr = w)
      (fun nv _ _ => (intOf nv).toNat)
    case atStart => exact ⟨u0, 19, [], rfl, rfl, h1, Lib.hid (by simp), hu0, by simp, by omega, rfl⟩
    case round =>
      obtain ⟨u, f, acc, rfl, rfl, hu, HD, hlt, hal, hf, hwr⟩ := hrel
      subst hwr
      obtain ⟨k, hk⟩ : ∃ k : Nat, u % 10 = k := ⟨_, rfl⟩
      have hk10 : k < 10 := by omega
      have hte : (⟨#[48, 49, 50, 51, 52, 53, 54, 55, 56, 57]⟩ : ByteArray).extract k (k + 1) ++ bt acc = bt (UInt8.ofNat (48 + k) :: acc) := by
        rw [show (⟨#[48, 49, 50, 51, 52, 53, 54, 55, 56, 57]⟩ : ByteArray).extract k (k + 1) = bt [UInt8.ofNat (48 + k)] from ten_extract k hk10, bt_app]
        rfl
      have HTE := Lib.hid hte
      clear hte
      have r3 : Int.tmod (u : Int) 10 = (k : Int) := by rw [Int.tmod_eq_emod_of_nonneg (by omega)]; omega
      have r4 : Int.tdiv (u : Int) 10 = ((u / 10 : Nat) : Int) := by rw [Int.tdiv_eq_ediv_of_nonneg (by omega)]; omega
      have r5 : IntKind.i64.wrap (Int.tdiv (u : Int) 10) = ((u / 10 : Nat) : Int) := by rw [r4]; exact Go.IntWalk.i64_in _ (by omega)
      have r6 : IntKind.i64.wrap ((u : Int) / 10) = ((u / 10 : Nat) : Int) := by rw [show (u : Int) / 10 = ((u / 10 : Nat) : Int) by omega]; exact Go.IntWalk.i64_in _ (by omega)
      have hbs := bt_size acc
      have z1 : (bt acc).size ≤ 100 := by omega
      clear hbs
      by_cases hd : u / 10 = 0
      · have hfin : Hid (digS (u0 : Int) = bt (UInt8.ofNat (48 + k) :: acc)) := Lib.hid (by
          rw [HV.out, ← HD.out, decC, if_pos (by omega), show u = k by omega]; rfl)
        rw [hd] at r4 r5 r6
        clear hd
        go_wp2_with fail
        go_ret
        exact ⟨by rw [hfin.out, ← HTE.out]; rfl, rfl⟩
      · obtain ⟨g, rfl⟩ : ∃ g, f = g + 1 := ⟨f - 1, by
          cases f with
          | zero => simp at hlt; omega
          | succ f => omega⟩
        have hnx : Hid (decC (g + 1) (u / 10) ++ UInt8.ofNat (48 + k) :: acc = decC 20 u0) := Lib.hid (by
          have e : decC (g + 1 + 1) u = decC (g + 1) (u / 10) ++ [UInt8.ofNat (48 + k)] := by rw [decC, if_neg (by omega), hk]
          rw [← HD.out, e, List.append_assoc]; rfl)
        have hl2 : u / 10 < 10 ^ (g + 1) := by
          rw [Nat.pow_succ] at hlt
          omega
        obtain ⟨m, hm⟩ : ∃ m, u / 10 = m := ⟨_, rfl⟩
        have hmu : m < u := by omega
        rw [hm] at r4 r5 r6 hd hnx hl2
        have hd' : ¬ ((m : Nat) : Int) = 0 := by omega
        clear hm hlt
        go_wp2_with fail
        go_roundw
        case rel => exact ⟨m, g, UInt8.ofNat (48 + k) :: acc, rfl, by rw [← HTE.out], by omega, hnx, hl2, by simp; omega, by omega, trivial⟩
        case measure => simp [intOf]; omega
end Go.Proofs.YtpadcjcoafidgaaGreatDoor
/-! Colours as texts: what a colour is read as has seven characters and is read as itself; three digits are six. -/
namespace Go.Proofs.YtpadcjcoafidgaaGreatDoor
open Go.RowKit

/-- A small digit to base 16. -/
def isLow (b : UInt8) : Bool := isIn 48 57 (b.toNat : Int) || isIn 97 102 (b.toNat : Int)
def lowAll (l : List UInt8) : Bool := l.all isLow
def rn (l : List UInt8) : List Int := l.map fun b => (b.toNat : Int)
/-- A colour's text. -/
def colB (l : List UInt8) : ByteArray := bt (35 :: l)
def colT (l : List UInt8) : Tok := ⟨4, bt l, noStr, false, begins (rn l)⟩
theorem low_tab : ∀ n : Fin 256, isLow (UInt8.ofNat n.val) = true → isPart ((n.val : Nat) : Int) = true ∧ tm ((n.val : Nat) : Int) ∧ foldB (UInt8.ofNat n.val) = UInt8.ofNat n.val ∧ notHex n.val = false := by decide +kernel
theorem low_facts (b : UInt8) (h : isLow b = true) : isPart (b.toNat : Int) = true ∧ tm (b.toNat : Int) ∧ foldB b = b ∧ notHex b.toNat = false := by
  have hb : UInt8.ofNat b.toNat = b := UInt8.ofNat_toNat
  have := low_tab ⟨b.toNat, b.toNat_lt⟩
  simp only [hb] at this
  exact this h
theorem fold_tab2 : ∀ n : Fin 256, notHex (foldB (UInt8.ofNat n.val)).toNat = false → isLow (foldB (UInt8.ofNat n.val)) = true := by decide +kernel
theorem fold_low (b : UInt8) (h : notHex (foldB b).toNat = false) : isLow (foldB b) = true := by
  have hb : UInt8.ofNat b.toNat = b := UInt8.ofNat_toNat
  have := fold_tab2 ⟨b.toNat, b.toNat_lt⟩
  simp only [hb] at this
  exact this h
theorem strOf_rn (l : List UInt8) : strOf (rn l) = bt l := by
  unfold strOf rn bt
  rw [List.map_map]
  have : ∀ b : UInt8, (byteOf ∘ fun b : UInt8 => (b.toNat : Int)) b = b := fun b => by
    show UInt8.ofNat ((b.toNat : Int)).toNat = b
    rw [Int.toNat_natCast]
    exact UInt8.ofNat_toNat
  rw [List.map_congr_left (fun b _ => this b), List.map_id']
theorem runes_bt (l : List UInt8) : runesOf (bt l) = rn l := rfl
theorem lowAll_iff {l : List UInt8} : lowAll l = true ↔ ∀ b ∈ l, isLow b = true := List.all_eq_true
theorem rn_part {l : List UInt8} (h : lowAll l = true) : ∀ c ∈ rn l, isPart c = true := by
  intro c hc
  obtain ⟨b, hb, rfl⟩ := List.mem_map.1 hc
  exact (low_facts b (lowAll_iff.1 h b hb)).1
theorem step_col (l : List UInt8) (hne : l ≠ []) (h : lowAll l = true) : step (35 :: rn l) = some (colT l, 1 + l.length) := by
  cases l with
  | nil => exact absurd rfl hne
  | cons a l =>
    have hp := rn_part h
    have ha := low_facts a (lowAll_iff.1 h a (List.mem_cons_self ..))
    have htw : (rn (a :: l)).takeWhile isPart = rn (a :: l) := by
      have := takeWhile_stop (rn (a :: l)) [] hp (.inl rfl)
      rwa [List.append_nil] at this
    unfold step
    rw [show at_ (35 :: rn (a :: l)) 0 = 35 from rfl, if_neg (by decide), if_pos rfl, show at_ (35 :: rn (a :: l)) 1 = (a.toNat : Int) from rfl, if_pos ⟨by omega, ha.1⟩]
    unfold hashT nameLen colT
    rw [List.drop_succ_cons, List.drop_zero, htw, strOf_rn]
    simp [rn]
theorem lexes_col (l : List UInt8) (hne : l ≠ []) (h : lowAll l = true) (hl : l.length ≤ 100) : Lexes (colB l) [colT l] := by
  have hr : runesOf (colB l) = 35 :: rn l := rfl
  refine ⟨?_, ?_, ?_, by simp⟩
  · rw [hr]
    intro c hc
    rcases List.mem_cons.1 hc with rfl | hc
    · decide
    · obtain ⟨b, hb, rfl⟩ := List.mem_map.1 hc
      exact (low_facts b (lowAll_iff.1 h b hb)).2.1
  · unfold Go.Proofs.YtpadcjcoafidgaaGreatDoor.lex
    rw [hr]
    refine lexF_step _ _ (colT l) (1 + l.length) [] (by simp) (step_col l hne h) ?_
    rw [List.drop_eq_nil_of_le (by simp [rn]; omega)]
    cases (rn l).length <;> rfl
  · show (35 :: l).length ≤ 10000
    simp
    omega
theorem fold_bt {l : List UInt8} (h : lowAll l = true) : fold (bt l) = bt l := by
  unfold fold bt
  congr 2
  rw [List.map_congr_left (g := id) (fun b hb => (low_facts b (lowAll_iff.1 h b hb)).2.2.1), List.map_id]
theorem badHex_bt {l : List UInt8} (h : lowAll l = true) : badHex (bt l) = false := by
  unfold badHex
  rw [List.any_eq_false]
  intro b hb
  rw [(low_facts b (lowAll_iff.1 h b hb)).2.2.2]
  decide
theorem color_six (l : List UInt8) (h : lowAll l = true) (hl : l.length = 6) : colorS (colT l) = some (colB l) := by
  unfold colorS
  rw [if_neg (by show ¬ (4 : Int) = 1; decide), if_neg (by show ¬ ((4 : Int) ≠ 4); decide), show fold (colT l).t = bt l from fold_bt h, badHex_bt h, if_neg (by decide), bt_size, hl, if_neg (by decide), if_pos rfl]
  rfl
theorem color_three (a b c : UInt8) (h : lowAll [a, b, c] = true) : colorS (colT [a, b, c]) = some (colB [a, a, b, b, c, c]) := by
  unfold colorS
  rw [if_neg (by show ¬ (4 : Int) = 1; decide), if_neg (by show ¬ ((4 : Int) ≠ 4); decide), show fold (colT [a, b, c]).t = bt [a, b, c] from fold_bt h, badHex_bt h, if_neg (by decide), bt_size, if_pos (show [a, b, c].length = 3 from rfl)]
  rfl
theorem colours_low : ∀ i : Fin 8, (colourAt i.val).2.data.toList.take 1 = [35] ∧ lowAll ((colourAt i.val).2.data.toList.drop 1) = true ∧ ((colourAt i.val).2.data.toList.drop 1).length = 6 := by decide +kernel
theorem repeat_two (a : UInt8) : Lib.repeatL [a] 2 = [a, a] := rfl
/-- WHAT A COLOUR IS READ AS. -/
theorem color_shape {t : Tok} {s : ByteArray} (h : colorS t = some s) : ∃ l, s = colB l ∧ lowAll l = true ∧ l.length = 6 := by
  unfold colorS at h
  split at h
  · split at h
    · rename_i n hn
      have h8 := colIx_lt hn
      obtain ⟨h1, h2, h3⟩ := colours_low ⟨n, h8⟩
      simp only [Option.some.injEq] at h
      refine ⟨(colourAt n).2.data.toList.drop 1, ?_, h2, h3⟩
      rw [← h]
      apply ByteArray.ext
      apply Array.toList_inj.1
      show _ = 35 :: (colourAt n).2.data.toList.drop 1
      rw [← List.take_append_drop 1 (colourAt n).2.data.toList, h1]
      simp
    · cases h
  · split at h
    · cases h
    · split at h
      · cases h
      · rename_i hb
        have hb' : badHex (fold t.t) = false := by simpa using hb
        have hlow : lowAll (fold t.t).data.toList = true := by
          rw [lowAll_iff]
          intro b hb2
          unfold badHex at hb'
          rw [List.any_eq_false] at hb'
          have := hb' b hb2
          obtain ⟨a, -, rfl⟩ := List.mem_map.1 (show b ∈ t.t.data.toList.map foldB from hb2)
          exact fold_low a (by simpa using this)
        have hsz : (fold t.t).size = (fold t.t).data.toList.length := by rw [Array.length_toList]; rfl
        split at h
        · rename_i h3
          rw [hsz] at h3
          simp only [Option.some.injEq] at h
          obtain ⟨a, b, c, hl⟩ : ∃ a b c, (fold t.t).data.toList = [a, b, c] := by
            generalize (fold t.t).data.toList = l at h3
            match l, h3 with
            | [a, b, c], _ => exact ⟨a, b, c, rfl⟩
          rw [hl] at hlow
          refine ⟨[a, a, b, b, c, c], ?_, ?_, rfl⟩
          · rw [← h]
            unfold hash6
            rw [hl]
            rfl
          · rw [lowAll_iff] at hlow ⊢
            intro x hx
            apply hlow
            simp only [List.mem_cons, List.not_mem_nil, or_false] at hx ⊢
            rcases hx with h | h | h | h | h | h <;> simp [h]
        · split at h
          · rename_i h6
            rw [hsz] at h6
            simp only [Option.some.injEq] at h
            exact ⟨_, h.symm, hlow, h6⟩
          · cases h
/-! ### As the value of the property color -/
theorem color_forms : (placeN aColor).isSome = true ∧ parts (findRow aColor).2.2.2 = [fCol] := by
  have h : (placeN aColor).isSome = true ∧ (parts (findRow aColor).2.2.2).length = 1 ∧ (parts (findRow aColor).2.2.2).all (fun s => eqB s fCol) = true := by decide +kernel
  refine ⟨h.1, ?_⟩
  obtain ⟨x, hx⟩ := List.length_eq_one_iff.1 h.2.1
  rw [hx] at h ⊢
  have := List.all_eq_true.1 h.2.2 x (List.mem_singleton.2 rfl)
  rw [(eqB_iff _ _).1 this]
theorem trim_single {x : Val} (h : isSp x = false) : trim [x] = [x] := by
  unfold trim
  simp [h]
theorem part_col (l : List UInt8) : partS fCol (Val.of (colT l)) = colorS (colT l) := by
  unfold partS
  rw [if_neg (show ¬ 0 < (Val.of (colT l)).kn from Nat.lt_irrefl 0), if_neg (by decide), if_neg (by decide), if_neg (by decide), if_pos (by decide)]
  rfl
theorem parse_col (l : List UInt8) : parseS aColor [Val.of (colT l)] = colorS (colT l) := by
  rw [parseS_one (trim_single (x := Val.of (colT l)) rfl), if_pos color_forms.1, color_forms.2]
  unfold firstPart
  rw [part_col]
  cases colorS (colT l) <;> rfl
theorem col_fits (l : List UInt8) (hl : l.length ≤ 100) : ∀ x ∈ [Val.of (colT l)], x.fits := by
  intro x hx
  rw [List.mem_singleton.1 hx]
  exact ⟨by show l.length ≤ _; omega, by show 0 ≤ _; omega⟩
/-! ### Digits -/
def hexC (k : Nat) : UInt8 := UInt8.ofNat (if k < 10 then 48 + k else 87 + k)
theorem hexC_low : ∀ k : Fin 16, isLow (hexC k.val) = true := by decide +kernel
def sixteenS : ByteArray := ⟨#[48, 49, 50, 51, 52, 53, 54, 55, 56, 57, 97, 98, 99, 100, 101, 102]⟩
theorem sixteen_piece : ∀ k : Fin 16, (sixteenS.data.toList.drop k.val).take (k.val + 1 - k.val) = [hexC k.val] := by decide +kernel
theorem sixteen_extract (k : Nat) (hk : k < 16) : sixteenS.extract k (k + 1) = bt [hexC k] := by
  apply bytes_ext
  rw [Lib.extract_toList, sixteen_piece ⟨k, hk⟩, ByteArray.toList_eq]
  rfl
set_option maxRecDepth 100000 in
theorem hex_any (n : Int) (h0 : 0 ≤ n) (w : World) :
    Calls Tryz.prog 15 #[.int .u64 n] w fun e w' => e = .returned (.string (bt [hexC (n % 16).toNat])) ∧ w' = w := by
  obtain ⟨k, hk⟩ : ∃ k : Nat, n % 16 = k := ⟨(n % 16).toNat, by omega⟩
  have hk16 : k < 16 := by omega
  have hte : (⟨#[48, 49, 50, 51, 52, 53, 54, 55, 56, 57, 97, 98, 99, 100, 101, 102]⟩ : ByteArray).extract k (k + 1) = bt [hexC k] := sixteen_extract k hk16
  have HTE := Lib.hid hte
  rw [hk, Int.toNat_natCast]
  clear hte
  go_enter Tryz.func15, Tryz.ntmps15
  go_wp2_with fail
  go_ret
  exact ⟨by rw [← HTE.out]; rfl, rfl⟩
end Go.Proofs.YtpadcjcoafidgaaGreatDoor
/-! Texts of lengths with spaces between: their tokens; what they are read as. -/
namespace Go.Proofs.YtpadcjcoafidgaaGreatDoor
open Go.RowKit

theorem decC_more (u : Nat) (h : u ≤ 1000000) : decC 20 u = decC 8 u := by
  rw [decC_eq 20 u (by omega), decC_eq 8 u (by omega)]
  rfl
theorem digS_itoa (n : Int) (h0 : 0 ≤ n) (h1 : n ≤ 1000000) : digS n = itoaS n := by
  unfold digS itoaS itoaC
  rw [if_neg (by omega), if_neg (by omega), decC_more _ (by omega)]
theorem decC_digit : ∀ (f u : Nat) (b : UInt8), b ∈ decC f u → 48 ≤ b.toNat ∧ b.toNat ≤ 57
  | 0, u, b, h => by cases h
  | f + 1, u, b, h => by
    have key : ∀ k, k < 10 → 48 ≤ (UInt8.ofNat (48 + k)).toNat ∧ (UInt8.ofNat (48 + k)).toNat ≤ 57 := by
      intro k hk
      rw [UInt8.toNat_ofNat']
      omega
    rw [decC] at h
    split at h
    · rw [List.mem_singleton.1 h]; exact key u (by omega)
    · rcases List.mem_append.1 h with h | h
      · exact decC_digit f _ b h
      · rw [List.mem_singleton.1 h]; exact key _ (by omega)
theorem decC_ne (f u : Nat) : decC (f + 1) u ≠ [] := by
  rw [decC]
  split <;> simp
theorem decC_len : ∀ (f u : Nat), (decC f u).length ≤ f
  | 0, u => Nat.le_refl _
  | f + 1, u => by
    rw [decC]
    split
    · simp
    · have := decC_len f (u / 10)
      simp
      omega
theorem decN_decC : ∀ (f u : Nat), u < 10 ^ f → u ≤ 1000000 → decN (decC f u) = (u : Int)
  | 0, u, h, _ => by
    simp at h
    subst h
    rfl
  | f + 1, u, h, h2 => by
    have key : ∀ k, k < 10 → (((UInt8.ofNat (48 + k)).toNat : Nat) : Int) = 48 + (k : Int) := by
      intro k hk
      rw [UInt8.toNat_ofNat']
      omega
    rw [decC]
    split
    · rename_i hu
      show decStep 0 _ = _
      unfold decStep
      rw [key u hu]
      omega
    · have ih := decN_decC f (u / 10) (by rw [Nat.pow_succ] at h; omega) (by omega)
      unfold decN at ih ⊢
      rw [List.foldl_append, ih]
      show decStep _ _ = _
      unfold decStep
      rw [key _ (Nat.mod_lt _ (by omega))]
      omega
/-- A length's token. -/
def dimT (n : Int) : Tok := ⟨12, itoaS n, pxS, true, false⟩
theorem itoaS_pos (n : Int) (h0 : 0 ≤ n) : (itoaS n).data.toList = decC 8 n.toNat := by
  show (itoaC n).toArray.toList = _
  unfold itoaC
  rw [if_neg (by omega)]
theorem head_digit (n : Int) (h0 : 0 ≤ n) (c : UInt8) (hc : c.toNat < 48) : tp (itoaS n) c = itoaS n := by
  have hl := itoaS_pos n h0
  unfold tp Lib.trimPrefix Lib.hasPrefix
  rw [hl]
  cases hd : decC 8 n.toNat with
  | nil => exact absurd hd (decC_ne 7 _)
  | cons a l =>
    have ha := decC_digit 8 n.toNat a (by rw [hd]; exact List.mem_cons_self ..)
    have hne : (c == a) = false := by
      rw [beq_eq_false_iff_ne]
      intro e
      rw [e] at hc
      omega
    have hp : List.isPrefixOf [c] (a :: l) = false := by simp [List.isPrefixOf, hne]
    rw [hp, if_neg (by decide), ← hd, ← hl]
theorem intDigs_dim (n : Int) (h0 : 0 ≤ n) : intDigs (itoaS n) = itoaS n ∧ tp (itoaS n) 43 = itoaS n := by
  have h1 := head_digit n h0 43 (by decide)
  have h2 := head_digit n h0 45 (by decide)
  refine ⟨?_, h1⟩
  unfold intDigs
  rw [h1, if_neg (Nat.lt_irrefl _), h2]
theorem dim_int (n : Int) (h0 : 0 ≤ n) (h1 : n ≤ 1000000) : intOk (dimT n) = true ∧ intN (dimT n) = n := by
  obtain ⟨e1, e2⟩ := intDigs_dim n h0
  have hl := itoaS_pos n h0
  have hne : eqB (itoaS n) noStr = false := by
    cases hq : eqB (itoaS n) noStr with
    | false => rfl
    | true =>
      have := (eqB_iff _ _).1 hq
      rw [this] at hl
      exact absurd hl.symm (decC_ne 7 _)
  have hbad : anyBad (itoaS n) = false := by
    unfold anyBad
    rw [hl, List.any_eq_false]
    intro b hb
    have := decC_digit 8 _ b hb
    unfold notDig isIn
    rw [decide_eq_true (by omega), decide_eq_true (by omega)]
    decide
  have hok : intOk (dimT n) = true := by
    unfold intOk dimT
    simp only [e1, hne, hbad]
    rfl
  refine ⟨hok, ?_⟩
  unfold intN
  rw [if_pos hok]
  show intVal (itoaS n) = n
  unfold intVal
  rw [e1, e2, if_pos (eqB_self _), hl, decN_decC 8 _ (by omega) (by omega)]
  omega
theorem part_dim (n : Int) (h0 : 0 ≤ n) (h1 : n ≤ 1000000) : partS fLenP (Val.of (dimT n)) = some (itoaS n ++ pxS) := by
  obtain ⟨e1, e2⟩ := dim_int n h0 h1
  unfold partS
  rw [if_neg (show ¬ 0 < (Val.of (dimT n)).kn from Nat.lt_irrefl 0), if_pos (by decide)]
  show toldS (intN (dimT n)) (intOk (dimT n)) fLenP pxS (lengthS (dimT n) (intN (dimT n))) = _
  have hlen : lengthS (dimT n) (intN (dimT n)) = true := by
    unfold lengthS dimT
    rw [if_pos rfl]
    show eqB (fold pxS) pxS = true
    decide +kernel
  rw [hlen, e1, e2]
  unfold toldS
  rw [decide_eq_false (by omega), if_pos (by decide)]
/-! ### The tokens -/
def dR (n : Int) : List Int := (decC 8 n.toNat).map fun b => (b.toNat : Int)
theorem dR_ne (n : Int) : dR n ≠ [] := by
  intro e
  exact decC_ne 7 n.toNat (List.map_eq_nil_iff.1 e)
theorem dR_digit (n : Int) : ∀ c ∈ dR n, isIn 48 57 c = true := by
  intro c hc
  obtain ⟨b, hb, rfl⟩ := List.mem_map.1 hc
  have := decC_digit 8 _ b hb
  unfold isIn
  rw [decide_eq_true (by omega), decide_eq_true (by omega)]
  rfl
theorem strOf_dR (n : Int) (h0 : 0 ≤ n) : strOf (dR n) = itoaS n := by
  have hl := itoaS_pos n h0
  apply ByteArray.ext
  apply Array.toList_inj.1
  rw [hl]
  unfold strOf dR
  rw [List.map_map]
  show (decC 8 n.toNat).map _ = _
  have : ∀ b : UInt8, (byteOf ∘ fun b : UInt8 => (b.toNat : Int)) b = b := fun b => by
    show UInt8.ofNat ((b.toNat : Int)).toNat = b
    rw [Int.toNat_natCast]
    simp
  rw [List.map_congr_left (fun b _ => this b), List.map_id']
def pxR : List Int := [112, 120]
/-- A length's runes, and what stands behind. -/
theorem step_dim (n : Int) (h0 : 0 ≤ n) (r : List Int) (hr : r = [] ∨ isPart (at_ r 0) = false) : step (dR n ++ 112 :: 120 :: r) = some (dimT n, (dR n).length + 2) := by
  have := step_px [] (dR n) r (.inl rfl) (dR_ne n) (dR_digit n) hr
  rw [List.nil_append] at this
  rw [this, List.nil_append, strOf_dR n h0]
  rfl
theorem drop_dim (n : Int) (r : List Int) : (dR n ++ 112 :: 120 :: r).drop ((dR n).length + 2) = r := by
  rw [← List.drop_drop, List.drop_left]
  rfl
theorem lex_dim (n : Int) (h0 : 0 ≤ n) (r : List Int) (hr : r = [] ∨ isPart (at_ r 0) = false) (f : Nat) (l : List Tok) (h : lexF f r = some l) : lexF (f + 1) (dR n ++ 112 :: 120 :: r) = some (dimT n :: l) :=
  lexF_step f _ _ _ l (by simp) (step_dim n h0 r hr) (by rw [drop_dim]; exact h)
theorem lex_sp (r : List Int) (hr : r = [] ∨ isBlank (at_ r 0) = false) (f : Nat) (l : List Tok) (h : lexF f r = some l) : lexF (f + 1) (32 :: r) = some (spaceT :: l) :=
  lexF_step f _ _ _ l (by simp) (step_blank r hr) h
theorem dR_at (n : Int) (r : List Int) : isBlank (at_ (dR n ++ r) 0) = false := by
  have hne := dR_ne n
  cases hd : dR n with
  | nil => exact absurd hd hne
  | cons a l =>
    have := dR_digit n a (by rw [hd]; exact List.mem_cons_self ..)
    show isBlank a = false
    have hb : 48 ≤ a ∧ a ≤ 57 := by simpa [isIn] using this
    simp [isBlank]
    omega
theorem lexF_nil (f : Nat) : lexF f [] = some [] := by cases f <;> rfl
theorem lex_two (a b : Int) (ha : 0 ≤ a) (hb : 0 ≤ b) (f : Nat) : lexF (f + 3) (dR a ++ 112 :: 120 :: 32 :: (dR b ++ [112, 120])) = some [dimT a, spaceT, dimT b] :=
  lex_dim a ha (32 :: _) (.inr rfl) _ _ (lex_sp _ (.inr (dR_at b _)) _ _ (lex_dim b hb [] (.inl rfl) _ _ (lexF_nil _)))
theorem lex_three (a b c : Int) (ha : 0 ≤ a) (hb : 0 ≤ b) (hc : 0 ≤ c) (f : Nat) : lexF (f + 5) (dR a ++ 112 :: 120 :: 32 :: (dR b ++ 112 :: 120 :: 32 :: (dR c ++ [112, 120]))) = some [dimT a, spaceT, dimT b, spaceT, dimT c] :=
  lex_dim a ha (32 :: _) (.inr rfl) _ _ (lex_sp _ (.inr (dR_at b _)) _ _ (lex_dim b hb (32 :: _) (.inr rfl) _ _ (lex_sp _ (.inr (dR_at c _)) _ _ (lex_dim c hc [] (.inl rfl) _ _ (lexF_nil _)))))
theorem dR_tame (n : Int) : ∀ c ∈ dR n, tm c := by
  intro c hc
  have := dR_digit n c hc
  have hb : 48 ≤ c ∧ c ≤ 57 := by simpa [isIn] using this
  exact .inl hb
theorem runes_app (a b : ByteArray) : runesOf (a ++ b) = runesOf a ++ runesOf b := by unfold runesOf; simp
theorem runes_itoa (n : Int) (h0 : 0 ≤ n) : runesOf (itoaS n) = dR n := by
  unfold runesOf dR
  rw [itoaS_pos n h0]
def spS : ByteArray := ⟨#[32]⟩
def pxOf (n : Int) : ByteArray := itoaS n ++ pxS
def twoS (a b : Int) : ByteArray := pxOf a ++ spS ++ pxOf b
def threeS (a b c : Int) : ByteArray := pxOf a ++ spS ++ pxOf b ++ spS ++ pxOf c
theorem runes_two (a b : Int) (ha : 0 ≤ a) (hb : 0 ≤ b) : runesOf (twoS a b) = dR a ++ 112 :: 120 :: 32 :: (dR b ++ [112, 120]) := by
  unfold twoS pxOf
  simp only [runes_app, runes_itoa a ha, runes_itoa b hb]
  rw [show runesOf pxS = [112, 120] by rfl, show runesOf spS = [32] by rfl]
  simp
theorem runes_three (a b c : Int) (ha : 0 ≤ a) (hb : 0 ≤ b) (hc : 0 ≤ c) : runesOf (threeS a b c) = dR a ++ 112 :: 120 :: 32 :: (dR b ++ 112 :: 120 :: 32 :: (dR c ++ [112, 120])) := by
  unfold threeS pxOf
  simp only [runes_app, runes_itoa a ha, runes_itoa b hb, runes_itoa c hc]
  rw [show runesOf pxS = [112, 120] by rfl, show runesOf spS = [32] by rfl]
  simp
theorem dR_len (n : Int) : (dR n).length ≤ 8 := by unfold dR; rw [List.length_map]; exact decC_len 8 _
theorem lexes_two (a b : Int) (ha : 0 ≤ a) (hb : 0 ≤ b) : Lexes (twoS a b) [dimT a, spaceT, dimT b] := by
  have hr := runes_two a b ha hb
  have l1 := dR_len a
  have l2 := dR_len b
  have hlen : (runesOf (twoS a b)).length = (dR a).length + 5 + (dR b).length := by rw [hr]; simp; omega
  refine ⟨?_, ?_, by rw [← runesOf_len, hlen]; omega, by simp⟩
  · rw [hr]
    intro c hc
    simp only [List.mem_append, List.mem_cons, List.not_mem_nil, or_false] at hc
    rcases hc with h | h | h | h | h | h | h
    · exact dR_tame a c h
    · subst h; decide
    · subst h; decide
    · subst h; decide
    · exact dR_tame b c h
    · subst h; decide
    · subst h; decide
  · unfold Go.Proofs.YtpadcjcoafidgaaGreatDoor.lex
    rw [hlen, show (dR a).length + 5 + (dR b).length = ((dR a).length + 2 + (dR b).length) + 3 by omega, hr]
    exact lex_two a b ha hb _
theorem lexes_three (a b c : Int) (ha : 0 ≤ a) (hb : 0 ≤ b) (hc : 0 ≤ c) : Lexes (threeS a b c) [dimT a, spaceT, dimT b, spaceT, dimT c] := by
  have hr := runes_three a b c ha hb hc
  have l1 := dR_len a
  have l2 := dR_len b
  have l3 := dR_len c
  have hlen : (runesOf (threeS a b c)).length = (dR a).length + 8 + (dR b).length + (dR c).length := by rw [hr]; simp; omega
  refine ⟨?_, ?_, by rw [← runesOf_len, hlen]; omega, by simp⟩
  · rw [hr]
    intro x hx
    simp only [List.mem_append, List.mem_cons, List.not_mem_nil, or_false] at hx
    rcases hx with h | h | h | h | h | h | h | h | h | h | h
    · exact dR_tame a x h
    · subst h; decide
    · subst h; decide
    · subst h; decide
    · exact dR_tame b x h
    · subst h; decide
    · subst h; decide
    · subst h; decide
    · exact dR_tame c x h
    · subst h; decide
    · subst h; decide
  · unfold Go.Proofs.YtpadcjcoafidgaaGreatDoor.lex
    rw [hlen, show (dR a).length + 8 + (dR b).length + (dR c).length = ((dR a).length + 3 + (dR b).length + (dR c).length) + 5 by omega, hr]
    exact lex_three a b c ha hb hc _
/-! ### What they are expanded to -/
def aPadding : ByteArray := ⟨#[112, 97, 100, 100, 105, 110, 103]⟩
def dimV (n : Int) : Val := Val.of (dimT n)
def spV : Val := Val.of spaceT
theorem isSp_dim (n : Int) : isSp (dimV n) = false := rfl
theorem isSp_sp : isSp spV = true := rfl
theorem trim_two (a b : Int) : trim [dimV a, spV, dimV b] = [dimV a, spV, dimV b] := by
  unfold trim
  rw [List.dropWhile_cons, isSp_dim, if_neg (by decide)]
  show ((dimV b :: spV :: dimV a :: []).dropWhile isSp).reverse = _
  rw [List.dropWhile_cons, isSp_dim, if_neg (by decide)]
  rfl
theorem trim_three (a b c : Int) : trim [dimV a, spV, dimV b, spV, dimV c] = [dimV a, spV, dimV b, spV, dimV c] := by
  unfold trim
  rw [List.dropWhile_cons, isSp_dim, if_neg (by decide)]
  show ((dimV c :: spV :: dimV b :: spV :: dimV a :: []).dropWhile isSp).reverse = _
  rw [List.dropWhile_cons, isSp_dim, if_neg (by decide)]
  rfl
theorem trim_one (n : Int) : trim [dimV n] = [dimV n] := by
  unfold trim
  rw [List.dropWhile_cons, isSp_dim, if_neg (by decide)]
  show ((dimV n :: []).dropWhile isSp).reverse = _
  rw [List.dropWhile_cons, isSp_dim, if_neg (by decide)]
  rfl
theorem parts_two (a b : Int) : partsS [dimV a, spV, dimV b] = some [dimV a, dimV b] := by
  unfold partsS
  rw [trim_two]
  simp [partsF, isSp_dim, isSp_sp]
theorem parts_three (a b c : Int) : partsS [dimV a, spV, dimV b, spV, dimV c] = some [dimV a, dimV b, dimV c] := by
  unfold partsS
  rw [trim_three]
  simp [partsF, isSp_dim, isSp_sp]
def padLongs : List ByteArray := longsOf aPadding
theorem pad_facts : padLongs.length = 4 ∧ (placeN aPadding).isNone = true ∧ eqB aPadding aOverflow = false ∧ padLongs.all (fun s => (placeN s).isSome && memB fLenP ((parts (findRow s).2.2.2).take 1)) = true := by decide +kernel
theorem parse_pad (s : ByteArray) (hs : s ∈ padLongs) (n : Int) (h0 : 0 ≤ n) (h1 : n ≤ 1000000) : parseS s [dimV n] = some (pxOf n) := by
  have h := List.all_eq_true.1 pad_facts.2.2.2 s hs
  rw [Bool.and_eq_true] at h
  rw [parseS_one (trim_one n), if_pos h.1]
  cases hp : parts (findRow s).2.2.2 with
  | nil =>
    rw [hp] at h
    have := h.2
    cases this
  | cons f fs =>
    rw [hp] at h
    have hf : f = fLenP := by
      have h2 := h.2
      unfold memB at h2
      simp only [List.take_succ_cons, List.take_zero, List.any_cons, List.any_nil, Bool.or_false] at h2
      exact ((eqB_iff _ _).1 h2).symm
    subst hf
    unfold firstPart
    rw [show partS fLenP (dimV n) = some (pxOf n) from part_dim n h0 h1]
theorem four_list {α : Type} (l : List α) (h : l.length = 4) : ∃ a b c d, l = [a, b, c, d] := by
  match l, h with
  | [a, b, c, d], _ => exact ⟨a, b, c, d, rfl⟩
theorem which_pad (n i : Int) : whichS aPadding n i = sidesS n i := by
  unfold whichS
  rw [pad_facts.2.2.1, if_neg (by decide)]
theorem spread_two (a b : Int) (ha : 0 ≤ a) (ha2 : a ≤ 1000000) (hb : 0 ≤ b) (hb2 : b ≤ 1000000) : spreadS aPadding padLongs [dimV a, spV, dimV b] = [pxOf a, pxOf b, pxOf a, pxOf b] := by
  obtain ⟨w, x, y, z, hl⟩ := four_list padLongs pad_facts.1
  unfold spreadS
  rw [parts_two]
  have hw := parse_pad w (by rw [hl]; simp) a ha ha2
  have hx := parse_pad x (by rw [hl]; simp) b hb hb2
  have hy := parse_pad y (by rw [hl]; simp) a ha ha2
  have hz := parse_pad z (by rw [hl]; simp) b hb hb2
  rw [hl]
  simp only [List.length_cons, List.length_nil, spreadF, which_pad]
  rw [show sidesS ((0 + 1 + 1 : Nat) : Int) ((0 : Nat) : Int) = 0 by decide, show sidesS ((0 + 1 + 1 : Nat) : Int) ((0 + 1 : Nat) : Int) = 1 by decide, show sidesS ((0 + 1 + 1 : Nat) : Int) ((0 + 1 + 1 : Nat) : Int) = 0 by decide, show sidesS ((0 + 1 + 1 : Nat) : Int) ((0 + 1 + 1 + 1 : Nat) : Int) = 1 by decide]
  simp [hw, hx, hy, hz]
theorem spread_three (a b c : Int) (ha : 0 ≤ a) (ha2 : a ≤ 1000000) (hb : 0 ≤ b) (hb2 : b ≤ 1000000) (hc : 0 ≤ c) (hc2 : c ≤ 1000000) : spreadS aPadding padLongs [dimV a, spV, dimV b, spV, dimV c] = [pxOf a, pxOf b, pxOf c, pxOf b] := by
  obtain ⟨w, x, y, z, hl⟩ := four_list padLongs pad_facts.1
  unfold spreadS
  rw [parts_three]
  have hw := parse_pad w (by rw [hl]; simp) a ha ha2
  have hx := parse_pad x (by rw [hl]; simp) b hb hb2
  have hy := parse_pad y (by rw [hl]; simp) c hc hc2
  have hz := parse_pad z (by rw [hl]; simp) b hb hb2
  rw [hl]
  simp only [List.length_cons, List.length_nil, spreadF, which_pad]
  rw [show sidesS ((0 + 1 + 1 + 1 : Nat) : Int) ((0 : Nat) : Int) = 0 by decide, show sidesS ((0 + 1 + 1 + 1 : Nat) : Int) ((0 + 1 : Nat) : Int) = 1 by decide, show sidesS ((0 + 1 + 1 + 1 : Nat) : Int) ((0 + 1 + 1 : Nat) : Int) = 2 by decide, show sidesS ((0 + 1 + 1 + 1 : Nat) : Int) ((0 + 1 + 1 + 1 : Nat) : Int) = 1 by decide]
  simp [hw, hx, hy, hz]
theorem wide_two (a b : Int) : wideS [dimV a, spV, dimV b] = noStr := wideS_not (by rw [trim_two]; simp)
theorem wide_three (a b c : Int) : wideS [dimV a, spV, dimV b, spV, dimV c] = noStr := wideS_not (by rw [trim_three]; simp)
theorem dim_fits (n : Int) (h0 : 0 ≤ n) : (dimV n).fits := by
  refine ⟨?_, show pxS.size ≤ 4294967295 by decide⟩
  show (itoaS n).size ≤ 4294967295
  have h := itoaS_pos n h0
  have h2 : (itoaS n).size = (itoaS n).data.toList.length := by rw [Array.length_toList]; rfl
  have := decC_len 8 n.toNat
  rw [h2, h]
  omega
theorem sp_fits : spV.fits := ⟨by decide, by decide⟩
end Go.Proofs.YtpadcjcoafidgaaGreatDoor
/-! What a value was read as is read as itself (plain). -/
namespace Go.Proofs.YtpadcjcoafidgaaGreatDoor
open Go.RowKit

/-! ### Whole numbers as texts -/
def absI (n : Int) : Int := (n.natAbs : Int)
def sgR (n : Int) : List Int := if n < 0 then [45] else []
theorem itoaS_neg {n : Int} (h : n < 0) : (itoaS n).data.toList = 45 :: decC 8 n.natAbs := by
  show (itoaC n).toArray.toList = _
  unfold itoaC
  rw [if_pos h]
theorem itoaS_abs (n : Int) : (itoaS (absI n)).data.toList = decC 8 n.natAbs := by
  rw [itoaS_pos _ (by unfold absI; omega)]
  unfold absI
  rw [Int.toNat_natCast]
theorem runes_all (n : Int) : runesOf (itoaS n) = sgR n ++ dR (absI n) := by
  unfold sgR
  by_cases h : n < 0
  · rw [if_pos h]
    unfold runesOf dR absI
    rw [itoaS_neg h, Int.toNat_natCast]
    rfl
  · rw [if_neg h, List.nil_append, show absI n = n by unfold absI; omega]
    exact runes_itoa n (by omega)
theorem sgR_or (n : Int) : sgR n = [] ∨ sgR n = [45] := by
  unfold sgR
  split
  · exact .inr rfl
  · exact .inl rfl
theorem strOf_runes (s : ByteArray) : strOf (runesOf s) = s := by
  unfold strOf runesOf
  rw [List.map_map]
  have : ∀ b : UInt8, (byteOf ∘ fun b : UInt8 => (b.toNat : Int)) b = b := fun b => by
    show UInt8.ofNat ((b.toNat : Int)).toNat = b
    rw [Int.toNat_natCast]
    exact UInt8.ofNat_toNat
  rw [List.map_congr_left (fun b _ => this b), List.map_id']
theorem int_any_tok (k : Int) (u : ByteArray) (hk : 10 ≤ k) (hk2 : k ≤ 12) (n : Int) (h0 : -1000000 ≤ n) (h1 : n ≤ 1000000) : intOk ⟨k, itoaS n, u, true, false⟩ = true ∧ intN ⟨k, itoaS n, u, true, false⟩ = n := by
  by_cases h : n < 0
  · have hl := itoaS_neg h
    have ha := itoaS_abs n
    have e43 : tp (itoaS n) 43 = itoaS n := by
      unfold tp Lib.trimPrefix Lib.hasPrefix
      rw [hl]
      show (⟨(45 :: decC 8 n.natAbs).toArray⟩ : ByteArray) = _
      rw [← hl]
    have e45 : tp (itoaS n) 45 = itoaS (absI n) := by
      unfold tp Lib.trimPrefix Lib.hasPrefix
      rw [hl]
      show (⟨(decC 8 n.natAbs).toArray⟩ : ByteArray) = _
      rw [← ha]
    have ed : intDigs (itoaS n) = itoaS (absI n) := by
      unfold intDigs
      rw [e43, if_neg (Nat.lt_irrefl _), e45]
    have hne : eqB (itoaS (absI n)) noStr = false := by
      cases hq : eqB (itoaS (absI n)) noStr with
      | false => rfl
      | true =>
        have := (eqB_iff _ _).1 hq
        rw [this] at ha
        exact absurd ha.symm (decC_ne 7 _)
    have hbad : anyBad (itoaS (absI n)) = false := by
      unfold anyBad
      rw [ha, List.any_eq_false]
      intro b hb
      have := decC_digit 8 _ b hb
      unfold notDig isIn
      rw [decide_eq_true (by omega), decide_eq_true (by omega)]
      decide
    have hok : intOk ⟨k, itoaS n, u, true, false⟩ = true := by
      unfold intOk
      simp only [ed, hne, hbad, decide_eq_true hk, decide_eq_true hk2]
      rfl
    refine ⟨hok, ?_⟩
    unfold intN
    rw [if_pos hok]
    show intVal (itoaS n) = n
    unfold intVal
    have hx : eqB (itoaS (absI n)) (itoaS n) = false := by
      cases hq : eqB (itoaS (absI n)) (itoaS n) with
      | false => rfl
      | true =>
        have := (eqB_iff _ _).1 hq
        have e2 := congrArg (fun s : ByteArray => s.data.toList.length) this
        simp only [ha, hl, List.length_cons] at e2
        omega
    rw [ed, e43, hx, if_neg (by decide), ha, decN_decC 8 _ (by omega) (by omega)]
    omega
  · obtain ⟨e1, e2⟩ := intDigs_dim n (by omega)
    have hl := itoaS_pos n (by omega)
    have hne : eqB (itoaS n) noStr = false := by
      cases hq : eqB (itoaS n) noStr with
      | false => rfl
      | true =>
        have := (eqB_iff _ _).1 hq
        rw [this] at hl
        exact absurd hl.symm (decC_ne 7 _)
    have hbad : anyBad (itoaS n) = false := by
      unfold anyBad
      rw [hl, List.any_eq_false]
      intro b hb
      have := decC_digit 8 _ b hb
      unfold notDig isIn
      rw [decide_eq_true (by omega), decide_eq_true (by omega)]
      decide
    have hok : intOk ⟨k, itoaS n, u, true, false⟩ = true := by
      unfold intOk
      simp only [e1, hne, hbad, decide_eq_true hk, decide_eq_true hk2]
      rfl
    refine ⟨hok, ?_⟩
    unfold intN
    rw [if_pos hok]
    show intVal (itoaS n) = n
    unfold intVal
    rw [e1, e2, if_pos (eqB_self _), hl, decN_decC 8 _ (by omega) (by omega)]
    omega
/-! ### What can come out of a form -/
inductive Out where
  | dim (n : Int)
  | pct (n : Int)
  | num (n : Int)
  | col (l : List UInt8)
  | kw (f : ByteArray)
def Out.text : Out → ByteArray
  | .dim n => itoaS n ++ pxS
  | .pct n => itoaS n ++ pcS
  | .num n => itoaS n
  | .col l => colB l
  | .kw f => f
def Out.tok : Out → Tok
  | .dim n => ⟨12, itoaS n, pxS, true, false⟩
  | .pct n => ⟨11, itoaS n, noStr, true, false⟩
  | .num n => ⟨10, itoaS n, noStr, true, false⟩
  | .col l => colT l
  | .kw f => ⟨1, f, noStr, false, false⟩
/-- A word of small letters and hyphens, a letter first, that is no colour and no value for all. -/
def isLet (b : UInt8) : Bool := isIn 97 122 (b.toNat : Int)
def kwOk (f : ByteArray) : Bool := (f.data.toList.take 1).any isLet && f.data.toList.all (fun b => isLet b || b == 45) && decide (f.size ≤ 100) && (colIx f).isNone && !memB f wides
def Out.ok : Out → Prop
  | .dim n => -1000000 ≤ n ∧ n ≤ 1000000
  | .pct n => -1000000 ≤ n ∧ n ≤ 1000000
  | .num n => -1000000 ≤ n ∧ n ≤ 1000000
  | .col l => lowAll l = true ∧ l.length = 6
  | .kw f => kwOk f = true
def isForm (f : ByteArray) : Bool := eqB f fLen || eqB f fLenP || eqB f fPct || eqB f fPctP || eqB f fInt || eqB f fIntP || eqB f fCol
theorem forms_ok : ∀ n : Fin 48, (parts (rowAt n.val).2.2.2).all (fun f => isForm f || kwOk f) = true := by decide +kernel
theorem let_tab : ∀ n : Fin 256, (isLet (UInt8.ofNat n.val) = true → isStart ((n.val : Nat) : Int) = true ∧ isBlank ((n.val : Nat) : Int) = false ∧ isIn 48 57 ((n.val : Nat) : Int) = false ∧ ((n.val : Nat) : Int) ≠ 45 ∧ ((n.val : Nat) : Int) ≠ 35) ∧
    ((isLet (UInt8.ofNat n.val) || UInt8.ofNat n.val == 45) = true → isPart ((n.val : Nat) : Int) = true ∧ tm ((n.val : Nat) : Int) ∧ foldB (UInt8.ofNat n.val) = UInt8.ofNat n.val) := by decide +kernel
theorem let_facts (b : UInt8) (h : isLet b = true) : isStart (b.toNat : Int) = true ∧ isBlank (b.toNat : Int) = false ∧ isIn 48 57 (b.toNat : Int) = false ∧ (b.toNat : Int) ≠ 45 ∧ (b.toNat : Int) ≠ 35 := by
  have hb : UInt8.ofNat b.toNat = b := UInt8.ofNat_toNat
  have := (let_tab ⟨b.toNat, b.toNat_lt⟩).1
  simp only [hb] at this
  exact this h
theorem kwc_facts (b : UInt8) (h : (isLet b || b == 45) = true) : isPart (b.toNat : Int) = true ∧ tm (b.toNat : Int) ∧ foldB b = b := by
  have hb : UInt8.ofNat b.toNat = b := UInt8.ofNat_toNat
  have := (let_tab ⟨b.toNat, b.toNat_lt⟩).2
  simp only [hb] at this
  exact this h
structure Kw (f : ByteArray) : Prop where
  first : ∃ a l, f.data.toList = a :: l ∧ isLet a = true
  all : ∀ b ∈ f.data.toList, (isLet b || b == 45) = true
  small : f.size ≤ 100
  col : colIx f = none
  wide : memB f wides = false
theorem kw_of {f : ByteArray} (h : kwOk f = true) : Kw f := by
  unfold kwOk at h
  simp only [Bool.and_eq_true, decide_eq_true_eq, Bool.not_eq_true', Option.isNone_iff_eq_none] at h
  obtain ⟨⟨⟨⟨h1, h2⟩, h3⟩, h4⟩, h5⟩ := h
  refine ⟨?_, List.all_eq_true.1 h2, h3, h4, h5⟩
  cases hl : f.data.toList with
  | nil => rw [hl] at h1; simp at h1
  | cons a l =>
    rw [hl] at h1
    exact ⟨a, l, rfl, by simpa using h1⟩
theorem fold_kw {f : ByteArray} (h : Kw f) : fold f = f := by
  unfold fold
  rw [List.map_congr_left (g := id) (fun b hb => (kwc_facts b (h.all b hb)).2.2), List.map_id]
/-! ### Its token -/
theorem step_out (o : Out) (ho : o.ok) (r : List Int) (hr : r = [] ∨ at_ r 0 = 32) : step (runesOf o.text ++ r) = some (o.tok, o.text.size) := by
  have hp : r = [] ∨ isPart (at_ r 0) = false := hr.imp id (fun e => by rw [e]; decide)
  cases o with
  | dim n =>
    show step (runesOf (itoaS n ++ pxS) ++ r) = _
    have hs := step_px (sgR n) (dR (absI n)) r (sgR_or n) (dR_ne _) (dR_digit _) hp
    rw [runes_app, runes_all, show runesOf pxS = [112, 120] from rfl]
    rw [show sgR n ++ dR (absI n) ++ [112, 120] ++ r = sgR n ++ (dR (absI n) ++ 112 :: 120 :: r) by simp, hs, ← runes_all, strOf_runes]
    rw [runesOf_len]
    show _ = some (_, (itoaS n ++ pxS).size)
    rw [ByteArray.size_append]
    rfl
  | pct n =>
    show step (runesOf (itoaS n ++ pcS) ++ r) = _
    have hs := step_pct (sgR n) (dR (absI n)) r (sgR_or n) (dR_ne _) (dR_digit _)
    rw [runes_app, runes_all, show runesOf pcS = [37] from rfl]
    rw [show sgR n ++ dR (absI n) ++ [37] ++ r = sgR n ++ (dR (absI n) ++ 37 :: r) by simp, hs, ← runes_all, strOf_runes]
    rw [runesOf_len]
    show _ = some (_, (itoaS n ++ pcS).size)
    rw [ByteArray.size_append]
    rfl
  | num n =>
    show step (runesOf (itoaS n) ++ r) = _
    have hs := step_int (sgR n) (dR (absI n)) r (sgR_or n) (dR_ne _) (dR_digit _) hr
    rw [runes_all, List.append_assoc, hs, ← runes_all, strOf_runes, runesOf_len]
    rfl
  | col l =>
    obtain ⟨h1, h2⟩ := ho
    have hne : l ≠ [] := by intro e; rw [e] at h2; simp at h2
    have hl := rn_part h1
    show step (35 :: (rn l ++ r)) = _
    cases l with
    | nil => exact absurd rfl hne
    | cons a l =>
      have ha := low_facts a (lowAll_iff.1 h1 a (List.mem_cons_self ..))
      have htw := takeWhile_stop (rn (a :: l)) r hl hp
      unfold step
      rw [show at_ (35 :: (rn (a :: l) ++ r)) 0 = 35 from rfl, if_neg (by decide), if_pos rfl, show at_ (35 :: (rn (a :: l) ++ r)) 1 = (a.toNat : Int) from rfl, if_pos ⟨by omega, ha.1⟩]
      unfold hashT nameLen
      rw [List.drop_succ_cons, List.drop_zero, htw, strOf_rn]
      have hb : begins (rn (a :: l) ++ r) = begins (rn (a :: l)) := by
        unfold begins
        have hl6 : 2 ≤ (rn (a :: l)).length := by unfold rn; rw [List.length_map]; omega
        rw [show at_ (rn (a :: l) ++ r) 0 = at_ (rn (a :: l)) 0 by unfold at_; rw [List.getElem?_append_left (by omega)], show at_ (rn (a :: l) ++ r) 1 = at_ (rn (a :: l)) 1 by unfold at_; rw [List.getElem?_append_left (by omega)]]
      rw [hb]
      show _ = some (colT (a :: l), (35 :: a :: l).length)
      simp [rn, colT]
      omega
  | kw f =>
    have hk := kw_of ho
    obtain ⟨a, l, hl, ha⟩ := hk.first
    obtain ⟨a1, a2, a3, a4, a5⟩ := let_facts a ha
    have hall : ∀ c ∈ runesOf f, isPart c = true := by
      intro c hc
      obtain ⟨b, hb, rfl⟩ := List.mem_map.1 hc
      exact (kwc_facts b (hk.all b hb)).1
    have htw := takeWhile_stop (runesOf f) r hall hp
    have hrf : runesOf f = (a.toNat : Int) :: runesOf ⟨l.toArray⟩ := by unfold runesOf; rw [hl]; rfl
    have h0 : at_ (runesOf f ++ r) 0 = (a.toNat : Int) := by rw [hrf]; rfl
    show step (runesOf f ++ r) = some (⟨1, f, noStr, false, false⟩, f.size)
    have hc : counts (runesOf f ++ r) = false := by
      unfold counts
      rw [h0, if_neg a4]
      exact a3
    have hb : begins (runesOf f ++ r) = true := by
      unfold begins
      rw [h0, if_neg a4, a1, decide_eq_true (by omega)]
      rfl
    unfold step
    rw [h0, a2, if_neg (by decide), if_neg a5, hc, if_neg (by decide), hb, if_pos rfl]
    unfold wordT nameLen
    rw [htw, strOf_runes, runesOf_len]
theorem out_tame (o : Out) (ho : o.ok) : ∀ c ∈ runesOf o.text, tm c := by
  have hd : ∀ (n : Int) (c : Int), c ∈ runesOf (itoaS n) → tm c := by
    intro n c hc
    rw [runes_all] at hc
    rcases List.mem_append.1 hc with h | h
    · rcases sgR_or n with e | e <;> rw [e] at h
      · cases h
      · rw [List.mem_singleton.1 h]; decide
    · exact dR_tame _ c h
  cases o with
  | dim n =>
    intro c hc
    rw [show (Out.dim n).text = itoaS n ++ pxS from rfl, runes_app] at hc
    rcases List.mem_append.1 hc with h | h
    · exact hd n c h
    · have : c = 112 ∨ c = 120 := by simpa [pxS, runesOf] using h
      rcases this with rfl | rfl <;> decide
  | pct n =>
    intro c hc
    rw [show (Out.pct n).text = itoaS n ++ pcS from rfl, runes_app] at hc
    rcases List.mem_append.1 hc with h | h
    · exact hd n c h
    · have : c = 37 := by simpa [pcS, runesOf] using h
      subst this; decide
  | num n => exact hd n
  | col l =>
    intro c hc
    rcases List.mem_cons.1 (show c ∈ 35 :: rn l from hc) with rfl | hc
    · decide
    · obtain ⟨b, hb, rfl⟩ := List.mem_map.1 hc
      exact (low_facts b (lowAll_iff.1 ho.1 b hb)).2.1
  | kw f =>
    intro c hc
    obtain ⟨b, hb, rfl⟩ := List.mem_map.1 hc
    exact (kwc_facts b ((kw_of ho).all b hb)).2.1
theorem itoaS_size (n : Int) : 1 ≤ (itoaS n).size ∧ (itoaS n).size ≤ 9 := by
  rw [← runesOf_len, runes_all, List.length_append]
  have h1 := dR_len (absI n)
  have h2 : 1 ≤ (dR (absI n)).length := by
    rcases Nat.eq_zero_or_pos (dR (absI n)).length with h | h
    · exact absurd (List.eq_nil_of_length_eq_zero h) (dR_ne _)
    · exact h
  rcases sgR_or n with e | e <;> rw [e] <;> simp <;> omega
theorem out_size (o : Out) (ho : o.ok) : 1 ≤ o.text.size ∧ o.text.size ≤ 100 := by
  cases o with
  | dim n =>
    have := itoaS_size n
    show 1 ≤ (itoaS n ++ pxS).size ∧ (itoaS n ++ pxS).size ≤ 100
    rw [ByteArray.size_append, show pxS.size = 2 from rfl]
    omega
  | pct n =>
    have := itoaS_size n
    show 1 ≤ (itoaS n ++ pcS).size ∧ (itoaS n ++ pcS).size ≤ 100
    rw [ByteArray.size_append, show pcS.size = 1 from rfl]
    omega
  | num n =>
    have := itoaS_size n
    show 1 ≤ (itoaS n).size ∧ (itoaS n).size ≤ 100
    omega
  | col l =>
    show 1 ≤ (35 :: l).length ∧ (35 :: l).length ≤ 100
    rw [List.length_cons, ho.2]
    omega
  | kw f =>
    obtain ⟨a, l, hl, -⟩ := (kw_of ho).first
    refine ⟨?_, (kw_of ho).small⟩
    show 1 ≤ f.size
    have : f.size = f.data.toList.length := by rw [Array.length_toList]; rfl
    rw [this, hl]
    simp
theorem lexes_out (o : Out) (ho : o.ok) : Lexes o.text [o.tok] := by
  have hs := step_out o ho [] (.inl rfl)
  have hz := out_size o ho
  rw [List.append_nil] at hs
  have hl : (runesOf o.text).length = o.text.size := runesOf_len _
  refine ⟨out_tame o ho, ?_, by omega, by simp⟩
  unfold Go.Proofs.YtpadcjcoafidgaaGreatDoor.lex
  obtain ⟨m, hm⟩ : ∃ m, (runesOf o.text).length = m + 1 := ⟨(runesOf o.text).length - 1, by omega⟩
  rw [hm]
  refine lexF_step _ _ o.tok o.text.size [] (by intro e; rw [e] at hm; simp at hm) hs ?_
  rw [List.drop_eq_nil_of_le (by omega)]
  exact lexF_nil _
theorem out_fits (o : Out) (ho : o.ok) : (Val.of o.tok).fits := by
  have hz := out_size o ho
  cases o with
  | dim n => exact ⟨by have := itoaS_size n; show (itoaS n).size ≤ _; omega, by show 2 ≤ _; omega⟩
  | pct n => exact ⟨by have := itoaS_size n; show (itoaS n).size ≤ _; omega, by show 0 ≤ _; omega⟩
  | num n => exact ⟨by have := itoaS_size n; show (itoaS n).size ≤ _; omega, by show 0 ≤ _; omega⟩
  | col l => exact ⟨by show l.length ≤ _; rw [ho.2]; omega, by show 0 ≤ _; omega⟩
  | kw f => exact ⟨by show f.size ≤ _; exact Nat.le_trans (kw_of ho).small (by omega), by show 0 ≤ _; omega⟩
end Go.Proofs.YtpadcjcoafidgaaGreatDoor
/-! What value.Parse reads is read as itself (plain). -/
namespace Go.Proofs.YtpadcjcoafidgaaGreatDoor
open Go.RowKit

theorem told_some {n : Int} {wh : Bool} {f u : ByteArray} {is : Bool} {s : ByteArray} (h : toldS n wh f u is = some s) : is = true ∧ wh = true ∧ s = itoaS n ++ u ∧ toldS n true f u true = some s := by
  unfold toldS at h
  split at h
  · rename_i hc
    simp only [Bool.and_eq_true] at hc
    obtain ⟨⟨h1, h2⟩, h3⟩ := hc
    subst h1 h2
    refine ⟨rfl, rfl, (Option.some.inj h).symm, ?_⟩
    unfold toldS
    rw [h3]
    exact h
  · cases h
theorem told_two (n : Int) (g u : ByteArray) : toldS n true g u true = none ∨ toldS n true g u true = some (itoaS n ++ u) := by
  unfold toldS
  split
  · exact .inr rfl
  · exact .inl rfl
theorem told_false (n : Int) (wh : Bool) (g u : ByteArray) : toldS n wh g u false = none := rfl
def lenF (g : ByteArray) : Bool := eqB g fLen || eqB g fLenP
def pctF (g : ByteArray) : Bool := eqB g fPct || eqB g fPctP
def intF (g : ByteArray) : Bool := eqB g fInt || eqB g fIntP
theorem part_eq (g : ByteArray) (x : Val) (h : ¬ 0 < x.kn) : partS g x = if lenF g = true then toldS (intN x.tok) (intOk x.tok) g pxS (lengthS x.tok (intN x.tok)) else if pctF g = true then toldS (intN x.tok) (intOk x.tok) g pcS (x.tok.k == 11)
    else if intF g = true then toldS (intN x.tok) (intOk x.tok) g noStr (x.tok.k == 10) else if eqB g fCol = true then colorS x.tok else if (decide (x.tok.k = 1) && eqB (identS x) g) = true then some g else none := by
  unfold partS
  rw [if_neg h]
  rfl
theorem kn_of (t : Tok) : ¬ 0 < (Val.of t).kn := Nat.lt_irrefl 0
theorem app_no (z : ByteArray) : z ++ noStr = z := by
  apply ByteArray.ext
  apply Array.toList_inj.1
  simp [noStr]
theorem part_dimO (g : ByteArray) (n : Int) (h0 : -1000000 ≤ n) (h1 : n ≤ 1000000) : partS g (Val.of (Out.dim n).tok) = if lenF g = true then toldS n true g pxS true else none := by
  obtain ⟨e1, e2⟩ := int_any_tok 12 pxS (by decide) (by decide) n h0 h1
  rw [part_eq g _ (kn_of _)]
  show (if lenF g = true then toldS (intN ⟨12, itoaS n, pxS, true, false⟩) (intOk ⟨12, itoaS n, pxS, true, false⟩) g pxS (lengthS ⟨12, itoaS n, pxS, true, false⟩ (intN ⟨12, itoaS n, pxS, true, false⟩)) else _) = _
  rw [e1, e2]
  have hlen : lengthS ⟨12, itoaS n, pxS, true, false⟩ n = true := by
    unfold lengthS
    rw [if_pos rfl]
    show eqB (fold pxS) pxS = true
    decide +kernel
  rw [hlen]
  split
  · rfl
  · split
    · rfl
    · split
      · rfl
      · split
        · rfl
        · rfl
theorem part_pctO (g : ByteArray) (n : Int) (h0 : -1000000 ≤ n) (h1 : n ≤ 1000000) : partS g (Val.of (Out.pct n).tok) = if lenF g = true then none else if pctF g = true then toldS n true g pcS true else none := by
  obtain ⟨e1, e2⟩ := int_any_tok 11 noStr (by decide) (by decide) n h0 h1
  rw [part_eq g _ (kn_of _)]
  show (if lenF g = true then toldS (intN ⟨11, itoaS n, noStr, true, false⟩) (intOk ⟨11, itoaS n, noStr, true, false⟩) g pxS (lengthS ⟨11, itoaS n, noStr, true, false⟩ (intN ⟨11, itoaS n, noStr, true, false⟩)) else if pctF g = true then toldS (intN ⟨11, itoaS n, noStr, true, false⟩) (intOk ⟨11, itoaS n, noStr, true, false⟩) g pcS true else _) = _
  rw [e1, e2]
  have hlen : lengthS ⟨11, itoaS n, noStr, true, false⟩ n = false := by
    unfold lengthS
    rw [if_neg (by show ¬ ((11 : Int) = 12); decide)]
    rfl
  rw [hlen]
  split
  · rfl
  · split
    · rfl
    · split
      · rfl
      · split
        · rfl
        · rfl
theorem part_numO (g : ByteArray) (n : Int) (h0 : -1000000 ≤ n) (h1 : n ≤ 1000000) : partS g (Val.of (Out.num n).tok) = if lenF g = true then toldS n true g pxS (decide (n = 0)) else if pctF g = true then none else if intF g = true then toldS n true g noStr true else none := by
  obtain ⟨e1, e2⟩ := int_any_tok 10 noStr (by decide) (by decide) n h0 h1
  rw [part_eq g _ (kn_of _)]
  show (if lenF g = true then toldS (intN ⟨10, itoaS n, noStr, true, false⟩) (intOk ⟨10, itoaS n, noStr, true, false⟩) g pxS (lengthS ⟨10, itoaS n, noStr, true, false⟩ (intN ⟨10, itoaS n, noStr, true, false⟩)) else if pctF g = true then toldS (intN ⟨10, itoaS n, noStr, true, false⟩) (intOk ⟨10, itoaS n, noStr, true, false⟩) g pcS false else if intF g = true then toldS (intN ⟨10, itoaS n, noStr, true, false⟩) (intOk ⟨10, itoaS n, noStr, true, false⟩) g noStr true else _) = _
  rw [e1, e2]
  have hlen : lengthS ⟨10, itoaS n, noStr, true, false⟩ n = decide (n = 0) := by
    unfold lengthS
    rw [if_neg (by show ¬ ((10 : Int) = 12); decide)]
    rfl
  rw [hlen]
  split
  · rfl
  · split
    · rfl
    · split
      · rfl
      · split
        · rfl
        · rfl
theorem part_colO (g : ByteArray) (l : List UInt8) (h : lowAll l = true) (hl : l.length = 6) : partS g (Val.of (Out.col l).tok) = if lenF g = true then none else if pctF g = true then none else if intF g = true then none else if eqB g fCol = true then some (colB l) else none := by
  rw [part_eq g _ (kn_of _)]
  show (if lenF g = true then toldS _ _ g pxS (lengthS (colT l) (intN (colT l))) else if pctF g = true then _ else if intF g = true then _ else if eqB g fCol = true then colorS (colT l) else _) = _
  rw [color_six l h hl]
  have hlen : lengthS (colT l) (intN (colT l)) = false := by
    unfold lengthS
    rw [if_neg (by show ¬ (4 : Int) = 12; decide)]
    rfl
  rw [hlen]
  split
  · rfl
  · split
    · rfl
    · split
      · rfl
      · split
        · rfl
        · rfl
theorem part_kwO (g f : ByteArray) (h : Kw f) : partS g (Val.of (Out.kw f).tok) = if lenF g = true then none else if pctF g = true then none else if intF g = true then none else if eqB g fCol = true then none else if eqB f g = true then some g else none := by
  rw [part_eq g _ (kn_of _)]
  have hc : colorS ⟨1, f, noStr, false, false⟩ = none := by
    unfold colorS
    rw [if_pos rfl]
    show (match colIx (fold f) with | some n => some (colourAt n).2 | none => none) = none
    rw [fold_kw h, h.col]
  have hi : identS (Val.of ⟨1, f, noStr, false, false⟩) = f := by
    unfold identS
    rw [if_pos (show (Val.of ⟨1, f, noStr, false, false⟩).tok.k = 1 from rfl)]
    exact fold_kw h
  show (if lenF g = true then toldS _ _ g pxS (lengthS ⟨1, f, noStr, false, false⟩ _) else if pctF g = true then _ else if intF g = true then _ else if eqB g fCol = true then colorS ⟨1, f, noStr, false, false⟩ else if (decide ((1 : Int) = 1) && eqB (identS (Val.of ⟨1, f, noStr, false, false⟩)) g) = true then some g else none) = _
  rw [hc, hi]
  have hlen : ∀ n, lengthS ⟨1, f, noStr, false, false⟩ n = false := by
    intro n
    unfold lengthS
    rw [if_neg (by show ¬ ((1 : Int) = 12); decide)]
    rfl
  rw [hlen]
  split
  · rfl
  · split
    · rfl
    · split
      · rfl
      · split
        · rfl
        · rfl
/-- What a form reads, with its token: no other form that did not read the first value reads that token otherwise. -/
def Back (x : Val) (s : ByteArray) (o : Out) : Prop := o.ok ∧ s = o.text ∧ ∀ g, partS g x = none → partS g (Val.of o.tok) = none ∨ partS g (Val.of o.tok) = some s
theorem part_out {f : ByteArray} {x : Val} {s : ByteArray} (hf : isForm f = true ∨ kwOk f = true) (h : partS f x = some s) : ∃ o, Back x s o ∧ partS f (Val.of o.tok) = some s := by
  have hk : ¬ 0 < x.kn := by
    intro hk
    unfold partS at h
    rw [if_pos hk] at h
    cases h
  rw [part_eq f x hk] at h
  have hr := intN_range x.tok
  split at h
  · rename_i hl
    obtain ⟨h1, h2, h3, h4⟩ := told_some h
    refine ⟨.dim (intN x.tok), ⟨hr, h3, fun g _ => ?_⟩, ?_⟩
    · rw [part_dimO g _ hr.1 hr.2]
      split
      · rw [h3]; exact told_two _ _ _
      · exact .inl rfl
    · rw [part_dimO f _ hr.1 hr.2, if_pos hl]
      exact h4
  · rename_i hl
    split at h
    · rename_i hp
      obtain ⟨h1, h2, h3, h4⟩ := told_some h
      refine ⟨.pct (intN x.tok), ⟨hr, h3, fun g _ => ?_⟩, ?_⟩
      · rw [part_pctO g _ hr.1 hr.2]
        split
        · exact .inl rfl
        · split
          · rw [h3]; exact told_two _ _ _
          · exact .inl rfl
      · rw [part_pctO f _ hr.1 hr.2, if_neg hl, if_pos hp]
        exact h4
    · rename_i hp
      split at h
      · rename_i hi
        obtain ⟨h1, h2, h3, h4⟩ := told_some h
        have h3' : s = itoaS (intN x.tok) := by rw [h3, app_no]
        have hk10 : x.tok.k = 10 := by simpa using h1
        refine ⟨.num (intN x.tok), ⟨hr, h3', fun g hg => ?_⟩, ?_⟩
        · rw [part_numO g _ hr.1 hr.2]
          rw [part_eq g x hk] at hg
          split
          · rename_i hgl
            rw [if_pos hgl] at hg
            have hlen : lengthS x.tok (intN x.tok) = decide (intN x.tok = 0) := by
              unfold lengthS
              rw [if_neg (by rw [hk10]; decide), hk10]
              rfl
            rw [hlen, h2] at hg
            exact .inl hg
          · split
            · exact .inl rfl
            · split
              · rw [h3]; exact told_two _ _ _
              · exact .inl rfl
        · rw [part_numO f _ hr.1 hr.2, if_neg hl, if_neg hp, if_pos hi]
          exact h4
      · rename_i hi
        split at h
        · rename_i hc
          obtain ⟨l, rfl, hlow, hlen⟩ := color_shape h
          refine ⟨.col l, ⟨⟨hlow, hlen⟩, rfl, fun g _ => ?_⟩, ?_⟩
          · rw [part_colO g l hlow hlen]
            split
            · exact .inl rfl
            · split
              · exact .inl rfl
              · split
                · exact .inl rfl
                · split
                  · exact .inr rfl
                  · exact .inl rfl
          · rw [part_colO f l hlow hlen, if_neg hl, if_neg hp, if_neg hi, if_pos hc]
        · rename_i hc
          split at h
          · rename_i hid
            obtain rfl : f = s := Option.some.inj h
            have hkw : kwOk f = true := by
              rcases hf with hf | hf
              · exfalso
                unfold isForm at hf
                unfold lenF at hl
                unfold pctF at hp
                unfold intF at hi
                simp only [Bool.or_eq_true] at hf hl hp hi
                simp only [not_or] at hl hp hi
                rcases hf with (((((h | h) | h) | h) | h) | h) | h
                · exact hl.1 h
                · exact hl.2 h
                · exact hp.1 h
                · exact hp.2 h
                · exact hi.1 h
                · exact hi.2 h
                · exact hc h
              · exact hf
            refine ⟨.kw f, ⟨hkw, rfl, fun g _ => ?_⟩, ?_⟩
            · rw [part_kwO g f (kw_of hkw)]
              split
              · exact .inl rfl
              · split
                · exact .inl rfl
                · split
                  · exact .inl rfl
                  · split
                    · exact .inl rfl
                    · split
                      · rename_i he
                        rw [(eqB_iff _ _).1 he]
                        exact .inr rfl
                      · exact .inl rfl
            · rw [part_kwO f f (kw_of hkw), if_neg hl, if_neg hp, if_neg hi, if_neg hc, if_pos (eqB_self f)]
          · cases h
theorem first_out {x : Val} {s : ByteArray} : ∀ {fs : List ByteArray}, (∀ f ∈ fs, isForm f = true ∨ kwOk f = true) → firstPart fs x = some s → ∃ o, Back x s o ∧ firstPart fs (Val.of o.tok) = some s
  | [], _, h => by cases h
  | f :: fs, hf, h => by
    unfold firstPart at h
    split at h
    · rename_i s' hp
      obtain rfl : s' = s := Option.some.inj h
      obtain ⟨o, ho, h2⟩ := part_out (hf f (List.mem_cons_self ..)) hp
      refine ⟨o, ho, ?_⟩
      unfold firstPart
      rw [h2]
    · rename_i hp
      obtain ⟨o, ho, h2⟩ := first_out (fun g hg => hf g (List.mem_cons_of_mem _ hg)) h
      refine ⟨o, ho, ?_⟩
      unfold firstPart
      rcases ho.2.2 f hp with e | e <;> rw [e]
      exact h2
theorem isSp_out (o : Out) : isSp (Val.of o.tok) = false := by cases o <;> rfl
theorem row_forms (name : ByteArray) (h : (placeN name).isSome = true) : ∀ f ∈ parts (findRow name).2.2.2, isForm f = true ∨ kwOk f = true := by
  intro f hf
  obtain ⟨k, hk⟩ := Option.isSome_iff_exists.1 h
  have hk48 := placeN_lt hk
  unfold findRow at hf
  rw [hk] at hf
  have := List.all_eq_true.1 (forms_ok ⟨k, hk48⟩) f hf
  simpa using this
/-- WHAT IS READ IS READ AS ITSELF. -/
theorem parse_out {name : ByteArray} {l : List Val} {s : ByteArray} (h : parseS name l = some s) : ∃ o : Out, o.ok ∧ s = o.text ∧ parseS name [Val.of o.tok] = some s := by
  unfold parseS at h
  split at h
  · rename_i x _
    split at h
    · rename_i hp
      obtain ⟨o, ⟨h1, h2, -⟩, h3⟩ := first_out (row_forms name hp) h
      refine ⟨o, h1, h2, ?_⟩
      rw [parseS_one (trim_single (isSp_out o)), if_pos hp]
      exact h3
    · cases h
  · cases h
end Go.Proofs.YtpadcjcoafidgaaGreatDoor
/-! gouachelaw15.digits; value.Number of a length. -/
namespace Go.Proofs.YtpadcjcoafidgaaGreatDoor
open Go.RowKit

set_option maxRecDepth 100000 in
set_option maxHeartbeats 2000000 in
theorem digits15_pos (u0 : Nat) (h1 : u0 ≤ 1000000) (w : World) :
    Calls Tryz.prog 30 #[.int .i64 (u0 : Int)] w fun e w' => e = .returned (.string (itoaS (u0 : Int))) ∧ w' = w := by
  have hn : ¬ (u0 : Int) < 0 := by omega
  have HV : Hid (itoaS (u0 : Int) = bt (decC 20 u0)) := Lib.hid (by
    apply ByteArray.ext
    apply Array.toList_inj.1
    rw [itoaS_pos _ (by omega), decC_more u0 h1, Int.toNat_natCast]
    rfl)
  have hu0 : u0 < 10 ^ 20 := by omega
  go_enter Tryz.func30, Tryz.ntmps30
  go_wp2_with fail
  go_loopw [0, 4] (fun nv sv wr => ∃ (u f : Nat) (acc : List UInt8), nv = .int .i64 (u : Int) ∧ sv = .string (bt acc) ∧ (u : Int) ≤ 1000000 ∧ Hid (decC (f + 1) u ++ acc = decC 20 u0) ∧ u < 10 ^ (f + 1) ∧ acc.length ≤ 20 - f ∧ f ≤ 19 ∧ wr = w)
    (fun nv _ _ => (intOf nv).toNat)
  case atStart => exact ⟨u0, 19, [], rfl, rfl, by omega, Lib.hid (by simp), hu0, by simp, by omega, rfl⟩
  case round =>
    obtain ⟨u, f, acc, rfl, rfl, hu, HD, hlt, hal, hf, hwr⟩ := hrel
    subst hwr
    obtain ⟨k, hk⟩ : ∃ k : Nat, u % 10 = k := ⟨_, rfl⟩
    have hk10 : k < 10 := by omega
    have hte : (⟨#[48, 49, 50, 51, 52, 53, 54, 55, 56, 57]⟩ : ByteArray).extract k (k + 1) ++ bt acc = bt (UInt8.ofNat (48 + k) :: acc) := by
      rw [show (⟨#[48, 49, 50, 51, 52, 53, 54, 55, 56, 57]⟩ : ByteArray).extract k (k + 1) = bt [UInt8.ofNat (48 + k)] from ten_extract k hk10, bt_app]
      rfl
    have HTE := Lib.hid hte
    clear hte
    have r3 : Int.tmod (u : Int) 10 = (k : Int) := by rw [Int.tmod_eq_emod_of_nonneg (by omega)]; omega
    have r4 : Int.tdiv (u : Int) 10 = ((u / 10 : Nat) : Int) := by rw [Int.tdiv_eq_ediv_of_nonneg (by omega)]; omega
    have r5 : IntKind.i64.wrap (Int.tdiv (u : Int) 10) = ((u / 10 : Nat) : Int) := by rw [r4]; exact Go.IntWalk.i64_in _ (by omega)
    have r6 : IntKind.i64.wrap ((u : Int) / 10) = ((u / 10 : Nat) : Int) := by rw [show (u : Int) / 10 = ((u / 10 : Nat) : Int) by omega]; exact Go.IntWalk.i64_in _ (by omega)
    have hbs := bt_size acc
    have z1 : (bt acc).size ≤ 100 := by omega
    clear hbs
    by_cases hd : u / 10 = 0
    · have hfin : Hid (itoaS (u0 : Int) = bt (UInt8.ofNat (48 + k) :: acc)) := Lib.hid (by
        rw [HV.out, ← HD.out, decC, if_pos (by omega), show u = k by omega]; rfl)
      rw [hd] at r4 r5 r6
      clear hd
      go_wp2_with fail
      go_ret
      exact ⟨by rw [hfin.out, ← HTE.out]; rfl, rfl⟩
    · obtain ⟨g, rfl⟩ : ∃ g, f = g + 1 := ⟨f - 1, by
        cases f with
        | zero => simp at hlt; omega
        | succ f => omega⟩
      have hnx : Hid (decC (g + 1) (u / 10) ++ UInt8.ofNat (48 + k) :: acc = decC 20 u0) := Lib.hid (by
        have e : decC (g + 1 + 1) u = decC (g + 1) (u / 10) ++ [UInt8.ofNat (48 + k)] := by rw [decC, if_neg (by omega), hk]
        rw [← HD.out, e, List.append_assoc]; rfl)
      have hl2 : u / 10 < 10 ^ (g + 1) := by
        rw [Nat.pow_succ] at hlt
        omega
      obtain ⟨m, hm⟩ : ∃ m, u / 10 = m := ⟨_, rfl⟩
      have hmu : m < u := by omega
      rw [hm] at r4 r5 r6 hd hnx hl2
      have hd' : ¬ ((m : Nat) : Int) = 0 := by omega
      clear hm hlt
      go_wp2_with fail
      go_roundw
      case rel => exact ⟨m, g, UInt8.ofNat (48 + k) :: acc, rfl, by rw [← HTE.out], by omega, hnx, hl2, by simp; omega, by omega, trivial⟩
      case measure => simp [intOf]; omega
set_option maxRecDepth 100000 in
set_option maxHeartbeats 2000000 in
theorem digits15_neg (u0 : Nat) (h1 : u0 ≤ 1000000) (h0 : 1 ≤ u0) (w : World) :
    Calls Tryz.prog 30 #[.int .i64 (-(u0 : Int))] w fun e w' => e = .returned (.string (itoaS (-(u0 : Int)))) ∧ w' = w := by
  have hn : -(u0 : Int) < 0 := by omega
  have HV : Hid (itoaS (-(u0 : Int)) = (⟨#[45]⟩ : ByteArray) ++ bt (decC 20 u0)) := Lib.hid (by
    apply ByteArray.ext
    apply Array.toList_inj.1
    rw [itoaS_neg hn, decC_more u0 h1, Int.natAbs_neg, Int.natAbs_natCast]
    simp [bt])
  have hu0 : u0 < 10 ^ 20 := by omega
  go_enter Tryz.func30, Tryz.ntmps30
  go_wp2_with fail
  go_loopw [0, 4] (fun nv sv wr => ∃ (u f : Nat) (acc : List UInt8), nv = .int .i64 (u : Int) ∧ sv = .string (bt acc) ∧ (u : Int) ≤ 1000000 ∧ Hid (decC (f + 1) u ++ acc = decC 20 u0) ∧ u < 10 ^ (f + 1) ∧ acc.length ≤ 20 - f ∧ f ≤ 19 ∧ wr = w)
    (fun nv _ _ => (intOf nv).toNat)
  case atStart => exact ⟨u0, 19, [], rfl, rfl, by omega, Lib.hid (by simp), hu0, by simp, by omega, rfl⟩
  case round =>
    obtain ⟨u, f, acc, rfl, rfl, hu, HD, hlt, hal, hf, hwr⟩ := hrel
    subst hwr
    obtain ⟨k, hk⟩ : ∃ k : Nat, u % 10 = k := ⟨_, rfl⟩
    have hk10 : k < 10 := by omega
    have hte : (⟨#[48, 49, 50, 51, 52, 53, 54, 55, 56, 57]⟩ : ByteArray).extract k (k + 1) ++ bt acc = bt (UInt8.ofNat (48 + k) :: acc) := by
      rw [show (⟨#[48, 49, 50, 51, 52, 53, 54, 55, 56, 57]⟩ : ByteArray).extract k (k + 1) = bt [UInt8.ofNat (48 + k)] from ten_extract k hk10, bt_app]
      rfl
    have HTE := Lib.hid hte
    clear hte
    have r3 : Int.tmod (u : Int) 10 = (k : Int) := by rw [Int.tmod_eq_emod_of_nonneg (by omega)]; omega
    have r4 : Int.tdiv (u : Int) 10 = ((u / 10 : Nat) : Int) := by rw [Int.tdiv_eq_ediv_of_nonneg (by omega)]; omega
    have r5 : IntKind.i64.wrap (Int.tdiv (u : Int) 10) = ((u / 10 : Nat) : Int) := by rw [r4]; exact Go.IntWalk.i64_in _ (by omega)
    have r6 : IntKind.i64.wrap ((u : Int) / 10) = ((u / 10 : Nat) : Int) := by rw [show (u : Int) / 10 = ((u / 10 : Nat) : Int) by omega]; exact Go.IntWalk.i64_in _ (by omega)
    have hbs := bt_size acc
    have z1 : (bt acc).size ≤ 100 := by omega
    clear hbs
    by_cases hd : u / 10 = 0
    · have hfin : Hid (itoaS (-(u0 : Int)) = (⟨#[45]⟩ : ByteArray) ++ bt (UInt8.ofNat (48 + k) :: acc)) := Lib.hid (by
        rw [HV.out, ← HD.out, decC, if_pos (by omega), show u = k by omega]; rfl)
      rw [hd] at r4 r5 r6
      clear hd
      go_wp2_with fail
      go_ret
      exact ⟨by rw [hfin.out, ← HTE.out]; rfl, rfl⟩
    · obtain ⟨g, rfl⟩ : ∃ g, f = g + 1 := ⟨f - 1, by
        cases f with
        | zero => simp at hlt; omega
        | succ f => omega⟩
      have hnx : Hid (decC (g + 1) (u / 10) ++ UInt8.ofNat (48 + k) :: acc = decC 20 u0) := Lib.hid (by
        have e : decC (g + 1 + 1) u = decC (g + 1) (u / 10) ++ [UInt8.ofNat (48 + k)] := by rw [decC, if_neg (by omega), hk]
        rw [← HD.out, e, List.append_assoc]; rfl)
      have hl2 : u / 10 < 10 ^ (g + 1) := by
        rw [Nat.pow_succ] at hlt
        omega
      obtain ⟨m, hm⟩ : ∃ m, u / 10 = m := ⟨_, rfl⟩
      have hmu : m < u := by omega
      rw [hm] at r4 r5 r6 hd hnx hl2
      have hd' : ¬ ((m : Nat) : Int) = 0 := by omega
      clear hm hlt
      go_wp2_with fail
      go_roundw
      case rel => exact ⟨m, g, UInt8.ofNat (48 + k) :: acc, rfl, by rw [← HTE.out], by omega, hnx, hl2, by simp; omega, by omega, trivial⟩
      case measure => simp [intOf]; omega
theorem digits15_any (n : Int) (h0 : -1000000 ≤ n) (h1 : n ≤ 1000000) (w : World) :
    Calls Tryz.prog 30 #[.int .i64 n] w fun e w' => e = .returned (.string (itoaS n)) ∧ w' = w := by
  by_cases hn : n < 0
  · obtain ⟨u, rfl⟩ : ∃ u : Nat, n = -(u : Int) := ⟨n.natAbs, by omega⟩
    exact digits15_neg u (by omega) (by omega) w
  · obtain ⟨u, rfl⟩ : ∃ u : Nat, n = (u : Int) := ⟨n.toNat, by omega⟩
    exact digits15_pos u (by omega) w
theorem str_ne2 {s : ByteArray} (h : eqB s noStr = false) : s.toList.isEmpty = false ∧ ¬ (s.toList = []) := by
  have hn : ¬ (s.toList = []) := by
    intro e
    rw [ByteArray.toList_eq] at e
    have : eqB s noStr = true := (eqB_iff _ _).2 (bytes_ext (by rw [ByteArray.toList_eq, ByteArray.toList_eq, e]; rfl))
    rw [this] at h
    cases h
  refine ⟨?_, hn⟩
  cases hs : s.toList with
  | nil => exact absurd hs hn
  | cons a l => rfl
/-- The bytes of a whole number: digits, a hyphen ahead. -/
theorem itoaS_bytes (n : Int) : ∀ b ∈ (itoaS n).data.toList, b = 45 ∨ (48 ≤ b.toNat ∧ b.toNat ≤ 57) := by
  intro b hb
  by_cases h : n < 0
  · rw [itoaS_neg h] at hb
    rcases List.mem_cons.1 hb with h | h
    · exact .inl h
    · exact .inr (decC_digit 8 _ b h)
  · rw [itoaS_pos n (by omega)] at hb
    exact .inr (decC_digit 8 _ b hb)
theorem itoaS_no (n : Int) (c : UInt8) (h : c.toNat < 45) : ∀ b ∈ (itoaS n).data.toList, b ≠ c := by
  intro b hb e
  subst e
  rcases itoaS_bytes n b hb with h1 | h1
  · rw [h1] at h; exact absurd h (by decide)
  · omega
theorem drop_no {l : List UInt8} {c : UInt8} (h : ∀ b ∈ l, b ≠ c) : l.dropWhile (· == c) = l := by
  cases l with
  | nil => rfl
  | cons a l =>
    have := h a (List.mem_cons_self ..)
    rw [List.dropWhile_cons, if_neg (by simpa using this)]
theorem trimRight_itoa (n : Int) : (⟨(Lib.trimRightB (itoaS n).data.toList 37).toArray⟩ : ByteArray) = itoaS n := by
  unfold Lib.trimRightB
  rw [drop_no (fun b hb => itoaS_no n 37 (by decide) b (List.mem_reverse.1 hb)), List.reverse_reverse]
theorem trimSuffix_px (z : ByteArray) : (⟨(Lib.trimSuffix (z ++ pxS).data.toList pxS.data.toList).toArray⟩ : ByteArray) = z := by
  have h : (z ++ pxS).data.toList = z.data.toList ++ [112, 120] := by simp [pxS]
  unfold Lib.trimSuffix Lib.hasSuffix
  rw [h, show pxS.data.toList = [112, 120] from rfl, if_pos (List.isSuffixOf_iff_suffix.2 (List.suffix_append _ _))]
  rw [List.length_append, Nat.add_sub_cancel, List.take_left]
theorem noPlus_itoa (n : Int) : Lib.hasPrefix (itoaS n).data.toList [43] = false := by
  unfold Lib.hasPrefix
  cases hl : (itoaS n).data.toList with
  | nil => rfl
  | cons a l =>
    have := itoaS_no n 43 (by decide) a (by rw [hl]; exact List.mem_cons_self ..)
    simp [List.isPrefixOf, Ne.symm this]
theorem extract_px (z : ByteArray) : (z ++ pxS).extract z.size (z ++ pxS).size = pxS := by
  apply bytes_ext
  rw [Lib.extract_toList]
  have h : (z ++ pxS).data.toList = z.data.toList ++ [112, 120] := by simp [pxS]
  have hz : z.size = z.data.toList.length := by rw [Array.length_toList]; rfl
  rw [h, ByteArray.size_append, show pxS.size = 2 from rfl, hz, List.drop_left, show z.data.toList.length + 2 - z.data.toList.length = 2 by omega, ByteArray.toList_eq]
  rfl
set_option maxRecDepth 100000 in
set_option maxHeartbeats 2000000 in
theorem Number_px (n : Int) (h0 : -1000000 ≤ n) (h1 : n ≤ 1000000) (w : World) :
    Calls Tryz.prog 32 #[.string (itoaS n ++ pxS)] w fun e w' => e = .returned (.tuple #[.int .i64 n, .string pxS, .bool true]) ∧ Below w.heap.size w w' := by
  obtain ⟨e1, e2⟩ := int_any_tok 10 noStr (by decide) (by decide) n h0 h1
  have hz := itoaS_size n
  have hI := fun W => Int_any ⟨10, itoaS n, noStr, true, false⟩ (by show (itoaS n).size ≤ _; omega) W
  have hT := fun W => Tryz.strings_TrimSuffix (itoaS n ++ pxS) pxS W (by rw [ByteArray.size_append, show pxS.size = 2 from rfl]; omega)
  have hR := fun W => Tryz.strings_TrimRight_one (itoaS n) 37 (by decide) W (by omega)
  have hP := fun W => Tryz.strings_HasPrefix (itoaS n) ⟨#[43]⟩ W
  rw [intRes_eq, e1, e2] at hI
  rw [trimSuffix_px] at hT
  rw [trimRight_itoa] at hR
  rw [show (⟨#[43]⟩ : ByteArray).data.toList = [43] from rfl, noPlus_itoa] at hP
  have HI := Lib.hid hI
  have HT := Lib.hid hT
  have HR := Lib.hid hR
  have HP := Lib.hid hP
  have HX := Lib.hid (extract_px (itoaS n))
  have hs : (itoaS n ++ pxS).size = (itoaS n).size + 2 := by rw [ByteArray.size_append]; rfl
  obtain ⟨z, hzz⟩ : ∃ z, itoaS n = z := ⟨_, rfl⟩
  obtain ⟨s, hss⟩ : ∃ s, itoaS n ++ pxS = s := ⟨_, rfl⟩
  rw [hss] at HT HX hs ⊢
  rw [hzz] at HI HR HP HT HX hz hs
  have q1 : (z.size : Int) ≤ (s.size : Int) := by omega
  have q2 : z.size ≤ s.size := by omega
  have q3 : s.size ≤ 100 := by omega
  have p1 : ((s.extract z.size s.size).toList == [112, 120]) = true := by
    rw [HX.out]
    exact (toList_lit pxS pxS _ rfl).trans (eqB_self _)
  have p2 : (s.extract z.size s.size).toList.isEmpty = false ∧ ¬ ((s.extract z.size s.size).toList = []) := by
    rw [HX.out]
    exact str_ne2 (by decide)
  have p5 : ((s.extract z.size s.size).toList == [37]) = false := by
    rw [HX.out]
    exact (toList_lit pxS pcS _ rfl).trans (by decide)
  obtain ⟨p3, p4⟩ := p2
  clear hI hT hR hP e1 e2 hzz hss hs
  go_enter Tryz.func32, Tryz.ntmps32
  go_wp2_with fail
  refine (HT.out w).mono ?_
  rintro e w1 ⟨rfl, rfl⟩
  go_wp2_with fail
  refine (HR.out _).mono ?_
  rintro e w2 ⟨rfl, rfl⟩
  go_wp2_with fail
  refine (HP.out _).mono ?_
  rintro e w3 ⟨rfl, rfl⟩
  go_wp2_with fail
  refine (HI.out _).mono ?_
  rintro e w4 ⟨rfl, hb4⟩
  clear p1 p3 p4 p5
  go_wp2_with fail
  exact bodyPost_ret (v := .tuple #[.int .i64 n, .string (s.extract z.size s.size), .bool true]) (by simp [results, Tryz.results32, go_sem]) rfl ⟨by rw [HX.out], hb4⟩
end Go.Proofs.YtpadcjcoafidgaaGreatDoor
/-! gouacheref01.Fold, gouacheref03.Trim, gouacheref15.ident and Wide. -/
namespace Go.Proofs.YtpadcjcoafidgaaGreatDoor
open Go.RowKit

set_option maxRecDepth 100000 in
set_option maxHeartbeats 2000000 in
theorem RefFold_any (w : World) (s : ByteArray) (hs : s.size ≤ 4294967295) :
    Calls Tryz.prog 145 #[.string s] w fun e w' => e = .returned (.string (fold s)) ∧ Below w.heap.size w w' := by
  have hcv := Lib.run_convert_string_bytes w 9 90 5 s Tryz.underlying9 Tryz.underlying90 Tryz.underlying5
  have hb0 := bytes_below w s 5
  have HC0 : Hid (∀ (j : Nat) (h : j < s.data.toList.length), (Lib.bytesWorld w 5 s).cell? ⟨w.heap.size, j, none⟩ = some (.int .u8 (s.data.toList[j].toNat : Int)) ∧ (Lib.bytesWorld w 5 s).frozen? ⟨w.heap.size, j, none⟩ = false) := Lib.hid (fun j hj => by
    have hs' : j < s.size := by rw [Array.length_toList] at hj; exact hj
    refine ⟨?_, ?_⟩
    · rw [Lib.bytesWorld_cell w _ s j hs']
      simp [List.getD, List.getElem?_eq_getElem hj]
    · have hsz : s.size ≤ (Lib.bytesCells w 5 s).size := by unfold Lib.bytesCells; rw [Array.size_append, Array.size_map]; exact Nat.le_add_right _ _
      simp only [World.frozen?, Lib.bytesWorld_at_new]
      rw [decide_eq_false (by omega)]
      rfl)
  have hsl : s.data.toList.length = s.size := by rw [Array.length_toList]; rfl
  go_enter Tryz.func145, Tryz.ntmps145
  go_wp2_with fail
  obtain ⟨k, hk⟩ : ∃ k, w.heap.size = k := ⟨_, rfl⟩
  obtain ⟨cap, hcp⟩ : ∃ c, grownCap w s.size 0 5 = c := ⟨_, rfl⟩
  obtain ⟨w1, hw1⟩ : ∃ w1, Lib.bytesWorld w 5 s = w1 := ⟨_, rfl⟩
  rw [hw1] at HC0 hb0 ⊢
  rw [hk] at HC0 hb0 ⊢
  rw [hcp]
  clear hcv hw1 hcp
  go_loopw [4, 5, 10] (fun _ _ iv wr => ∃ i : Nat, i ≤ s.size ∧ iv = .int .i64 i ∧ Hid (∀ (j : Nat) (h : j < s.data.toList.length), wr.cell? ⟨k, j, none⟩ = some (.int .u8 ((if j < i then foldB s.data.toList[j] else s.data.toList[j]).toNat : Int)) ∧ wr.frozen? ⟨k, j, none⟩ = false) ∧ Below k w wr)
    (fun _ _ iv _ => s.size - (intOf iv).toNat)
  case atStart => exact ⟨0, Nat.zero_le _, rfl, Lib.hid (fun j hj => by simpa using HC0.out j hj), hb0⟩
  case round =>
    obtain ⟨i, hi, rfl, HC, hb⟩ := hrel
    clear HC0 hb0
    by_cases hlt : i < s.size
    · have hlt' : i < s.data.toList.length := by omega
      obtain ⟨c0, f0⟩ := HC.out i hlt'
      rw [if_neg (Nat.lt_irrefl i)] at c0
      obtain ⟨y, hy⟩ : ∃ y, s.data.toList[i] = y := ⟨_, rfl⟩
      rw [hy] at c0
      have q0 : (0 : Int) ≤ (i : Int) := by omega
      have q1 : (i : Int) < (s.size : Int) := by omega
      obtain ⟨n, hn⟩ : ∃ n, y.toNat = n := ⟨_, rfl⟩
      have hfn : (foldB y).toNat = foldN n := by rw [foldB_nat, hn]
      rw [hn] at c0
      have hn256 : n < 256 := by rw [← hn]; exact y.toNat_lt
      by_cases hup : 65 ≤ n ∧ n ≤ 90
      · have t1 : (65 : Int) ≤ (n : Int) := by omega
        have t2 : (n : Int) ≤ 90 := by omega
        have HF : Hid (((foldB y).toNat : Int) = (n : Int) + 32) := Lib.hid (by rw [hfn]; unfold foldN; rw [if_pos hup]; rfl)
        clear hup hfn hn
        go_wp2_with fail
        go_roundw
        case rel =>
          refine ⟨i + 1, by omega, by go_num, Lib.hid (fun j hj => ?_), hb.setCell (p := ⟨k, i, none⟩) (Nat.le_refl _) _⟩
          refine ⟨?_, by simp [(HC.out j hj).2]⟩
          by_cases he : j = i
          · subst he
            rw [World.cell?_setCell_same _ _ _ c0, if_pos (by omega), hy, HF.out]
          · rw [World.cell?_setCell_other _ _ _ _ (by simp <;> omega), (HC.out j hj).1]
            by_cases hji : j < i
            · rw [if_pos hji, if_pos (by omega)]
            · rw [if_neg hji, if_neg (by omega)]
        case measure => simp [intOf]; omega
      · have HF : Hid ((foldB y).toNat = n) := Lib.hid (by rw [hfn]; unfold foldN; rw [if_neg hup])
        have HN := Lib.hid hn
        have hup2 : n < 65 ∨ 90 < n := by omega
        clear hup hfn hn
        rcases hup2 with hup2 | hup2
        · have t1 : ¬ (65 : Int) ≤ (n : Int) := by omega
          go_wp2_with fail
          go_roundw
          case rel =>
            refine ⟨i + 1, by omega, by go_num, Lib.hid (fun j hj => ?_), hb⟩
            refine ⟨?_, (HC.out j hj).2⟩
            rw [(HC.out j hj).1]
            by_cases he : j = i
            · subst he
              rw [if_neg (by omega), if_pos (by omega), hy, HF.out, HN.out]
            · by_cases hji : j < i
              · rw [if_pos hji, if_pos (by omega)]
              · rw [if_neg hji, if_neg (by omega)]
          case measure => simp [intOf]; omega
        · have t1 : (65 : Int) ≤ (n : Int) := by omega
          have t2 : ¬ (n : Int) ≤ 90 := by omega
          go_wp2_with fail
          go_roundw
          case rel =>
            refine ⟨i + 1, by omega, by go_num, Lib.hid (fun j hj => ?_), hb⟩
            refine ⟨?_, (HC.out j hj).2⟩
            rw [(HC.out j hj).1]
            by_cases he : j = i
            · subst he
              rw [if_neg (by omega), if_pos (by omega), hy, HF.out, HN.out]
            · by_cases hji : j < i
              · rw [if_pos hji, if_pos (by omega)]
              · rw [if_neg hji, if_neg (by omega)]
          case measure => simp [intOf]; omega
    · obtain rfl : i = s.size := by omega
      have hcv : (convert 90 9 (.slice (some ⟨k, 0, none⟩) s.size cap)).run Tryz.prog wr = .ok (.string (fold s)) wr := by
        have hsz : s.size = (s.data.toList.map foldB).length := by rw [List.length_map, hsl]
        rw [hsz, run_convert_bytes_back wr 90 9 5 ⟨k, 0, none⟩ cap (s.data.toList.map foldB) Tryz.underlying90 Tryz.underlying5 Tryz.underlying9 (fun j hj => by
          have hadd : (⟨k, 0, none⟩ : Addr).add j = ⟨k, j, none⟩ := by unfold Addr.add; split <;> simp only [*, Nat.zero_add]
          rw [List.length_map] at hj
          rw [hadd, (HC.out j hj).1, if_pos (by omega)]
          simp)]
        rfl
      go_wp2_with fail
      go_ret
      exact ⟨rfl, by rw [hk]; exact hb⟩
theorem refIs_any (x : Val) (k : Int) (w : World) :
    Calls Tryz.prog 144 #[.agg #[.int .i64 x.tok.k, .string x.tok.t, .string x.tok.u, .bool x.tok.wh, .bool x.tok.fl, .slice x.ka x.kn x.kc], .int .i64 k] w fun e w' => e = .returned (.bool (x.tok.k == k)) ∧ Below w.heap.size w w' := by
  go_enter Tryz.func144, Tryz.ntmps144
  go_wp2_with fail
  go_ret
  exact ⟨rfl, bAlloc1 _ _⟩
theorem refIdent_any (x : Val) (hx : x.fits) (w : World) :
    Calls Tryz.prog 112 #[.agg #[.int .i64 x.tok.k, .string x.tok.t, .string x.tok.u, .bool x.tok.wh, .bool x.tok.fl, .slice x.ka x.kn x.kc]] w fun e w' => e = .returned (.string (identS x)) ∧ Below w.heap.size w w' := by
  by_cases h1 : x.tok.k = 1
  · have hi : identS x = fold x.tok.t := if_pos h1
    rw [hi]
    clear hi
    go_enter Tryz.func112, Tryz.ntmps112
    go_wp2_with fail
    refine (RefFold_any _ _ hx.1).mono ?_
    rintro e w1 ⟨rfl, hb1⟩
    go_wp2_with fail
    go_ret
    exact ⟨rfl, bNext (bAlloc1 _ _) hb1⟩
  · have hi : identS x = noStr := if_neg h1
    rw [hi]
    clear hi
    go_enter Tryz.func112, Tryz.ntmps112
    go_wp2_with fail
    go_ret
    exact ⟨rfl, bAlloc1 _ _⟩
end Go.Proofs.YtpadcjcoafidgaaGreatDoor
/-! gouacheref03.Trim, gouacheref15.Wide. -/
namespace Go.Proofs.YtpadcjcoafidgaaGreatDoor
open Go.RowKit

/-- 'append([]api.Value{}, l...)': the values once more. -/
theorem wpList_append_vals {ops : Array Oper} {rest : List Oper} {o : Oper} {a : Act} {Q : Exit → Act → World → Prop} (w : World) (hgd : o.guard = none) (s x : Operand)
    (ho : o.op = .call { callee := .builtin .append, args := #[s, x], argTypes := #[24, 24] })
    (g : Nat) (hs : a.eval s = .slice (some ⟨g, 0, none⟩) 0 0) (hg : w.heap[g]? = some (.cells #[] 26 (0, 0))) (v : Value) (l : List Val) (hx : a.eval x = v) (hv : Vs w v l)
    (h : ∀ v' w', Vs w' v' l → w.grownBy w' (some g) → wpList Tryz.prog ops Q rest (a.put o.dst v') w') : wpList Tryz.prog ops Q (o :: rest) a w := by
  obtain ⟨i0, hi, hz0, hz1, hz2⟩ := info_parts infoVal
  have hglt : g < w.heap.size := (Array.getElem?_eq_some_iff.1 hg).1
  obtain ⟨ad, cap, rfl, hcap, hl, hr⟩ := hv
  cases ad with
  | none =>
    have hl0 : l = [] := by
      cases l with
      | nil => rfl
      | cons y l =>
        obtain ⟨b, off, ha, _⟩ := hr (by simp)
        cases ha
    subst hl0
    refine wpList_plain hgd fun K hK => ?_
    have hrun := run_append_room_src (P := Tryz.prog) w 24 24 o.type 26 i0 Tryz.underlying24 hi g 0 0 0 (.slice none 0 cap) 0 [] (Src.ofNil w Tryz.underlying24 cap) (Nat.le_refl _) (fun j hj => by simp at hj) (fun j hj => by simp at hj)
    unfold Oper.wp
    simp only [List.length_nil] at hx
    simp [execOp, ho, resolve, invoke, builtin, hs, hx, hrun, Result.andThen]
    exact hK _ _ (h _ _ ⟨_, 0, rfl, Nat.le_refl _, Nat.zero_le _, fun h => absurd rfl h⟩ ⟨rfl, rfl, rfl, Nat.le_refl _, fun _ _ _ => rfl⟩)
  | some ad =>
    refine wpList_append_own w hgd s x 24 ho 0 26 i0 (.agg #[.int .i64 0, .string ⟨#[]⟩, .string ⟨#[]⟩, .bool false, .bool false, .slice none 0 0]) 6 72 Tryz.underlying24 hi hz0 hz1 hz2 rfl (by decide) (.slice (some ⟨g, 0, none⟩) 0 0) 0 [] hs
      ⟨rfl, .inr ⟨g, 0, #[], rfl, Nat.zero_le _, hg, Nat.le_refl _, by decide, rfl, rfl⟩⟩ ad l.length cap (l.map Val.row).flatten hx (flat_len l) (fun j u hu => ?_) (flat_one l) (by unfold maxLen; omega) (by omega) (Nat.zero_le _) (fun v' w' hown hgrow hne => ?_)
    · have hne : l ≠ [] := by intro e; subst e; simp at hu
      obtain ⟨b, off, ha, hlt, hc⟩ := hr hne
      cases ha
      exact flat_cells hc j u hu
    · exact h v' w' (Vs.of_owns (by simpa using hown) hl) (by simpa [Value.ownBlock] using hgrow)
set_option maxRecDepth 100000 in
set_option maxHeartbeats 4000000 in
theorem RefTrim_ne (w : World) (b off cap : Nat) (l : List Val) (hl : l.length ≤ 1954687338211) (hcap : l.length ≤ cap) (hb : b < w.heap.size)
    (hc : ∀ (i : Nat) (hi : i < l.length) (j : Nat) (x : Value), l[i].row[j]? = some x → w.cell? ⟨b, off + i * 6 + j, none⟩ = some x) :
    Calls Tryz.prog 111 #[.slice (some ⟨b, off, none⟩) l.length cap] w fun e w' => ∃ V, e = .returned V ∧ Vs w' V (trim l) ∧ Below w.heap.size w w' := by
  have HC := Lib.hid hc
  clear hc
  go_enter Tryz.func111, Tryz.ntmps111
  go_wp2_with fail
  go_loopw [0] (fun v wr => ∃ k o : Nat, k ≤ l.length ∧ v = .slice (some ⟨b, o, none⟩) (l.length - k) (cap - k) ∧ Hid (k < l.length → o = off + k * 6) ∧ Hid (∀ i (h : i < l.length), i < k → isSp l[i] = true) ∧ Below w.heap.size w wr)
    (fun v _ => lenOf v)
  case atStart => exact ⟨0, off, Nat.zero_le _, rfl, Lib.hid (fun _ => by omega), Lib.hid (fun i _ hi => by omega), Below.refl _ _⟩
  case round =>
    obtain ⟨k, o, hk, rfl, HO, HP, hb1⟩ := hrel
    by_cases hlt : k < l.length
    · obtain ⟨x0, x1, x2, x3, x4, x5⟩ := Vs.cells HC.out k hlt
      have ho := HO.out hlt
      rw [← ho] at x0 x1 x2 x3 x4 x5
      clear ho
      have x0 := (hb1.cell (p := ⟨b, _, none⟩) hb).trans x0
      have x1 := (hb1.cell (p := ⟨b, _, none⟩) hb).trans x1
      have x2 := (hb1.cell (p := ⟨b, _, none⟩) hb).trans x2
      have x3 := (hb1.cell (p := ⟨b, _, none⟩) hb).trans x3
      have x4 := (hb1.cell (p := ⟨b, _, none⟩) hb).trans x4
      have x5 := (hb1.cell (p := ⟨b, _, none⟩) hb).trans x5
      have q0 : (0 : Int) < ((l.length - k : Nat) : Int) := by omega
      have q1 : (1 : Int) ≤ ((l.length - k : Nat) : Int) := by omega
      obtain ⟨y, hy⟩ : ∃ y, l[k] = y := ⟨_, rfl⟩
      rw [hy] at x0 x1 x2 x3 x4 x5
      have HY := Lib.hid hy
      clear hy
      go_wp2_with fail
      refine (refIs_any y 13 _).mono ?_
      rintro e w2 ⟨rfl, hb2⟩
      have hbY := hb1.trans (hb2.mono hb1.size)
      clear x0 x1 x2 x3 x4 x5 hb1 hb2
      rw [show (y.tok.k == 13) = isSp y from rfl]
      cases hs : isSp y
      · have HQ : Hid (k = l.length ∨ ∃ h : k < l.length, isSp l[k] = false) := Lib.hid (.inr ⟨hlt, by rw [HY.out]; exact hs⟩)
        go_wp2_with fail
        go_loopw [0] (fun v wr => ∃ m : Nat, k + m ≤ l.length ∧ v = .slice (some ⟨b, o, none⟩) m (cap - k) ∧ Hid (∀ i (h : i < l.length), k + m ≤ i → isSp l[i] = true) ∧ Below w.heap.size w wr)
          (fun v _ => lenOf v)
        case atStart => exact ⟨l.length - k, by omega, rfl, Lib.hid (fun i hi hm => by omega), hbY⟩
        case round =>
          obtain ⟨m, hm, rfl, HR, hbX⟩ := hrel
          clear hbY
          by_cases hm0 : m = 0
          · have HS : Hid (m = 0 ∨ ∃ h : k + m - 1 < l.length, isSp l[k + m - 1] = false) := Lib.hid (.inl hm0)
            have q3 : ¬ (0 : Int) < (m : Int) := by omega
            clear hm0
            go_wp2_with (first | (at_builtin; refine wpList_append_vals _ rfl _ _ rfl wr.heap.size rfl (heap_alloc_new _ _) (.slice (some ⟨b, o, none⟩) m (cap - k)) ((l.drop k).take m) rfl (Vs.next (Vs.sub (cellsX hbX hb HC.out) k m o HO.out (by omega) (by omega) (by have := hbX.size; omega) hcap hl) (bAlloc1 _ _)) ?_; intro V w9 hV hg9))
            go_ret
            refine ⟨V, rfl, ?_, (hbX.alloc hbX.size _).grown hg9 (by simp; exact Nat.le_succ_of_le hbX.size) (fun q e => by cases e; exact hbX.size)⟩
            rw [trim_of l k m hk (by omega) HP.out HQ.out HR.out HS.out]
            exact hV
          · have q3 : (0 : Int) < (m : Int) := by omega
            have hw1 : IntKind.i64.wrap ((m : Int) - 1) = ((m - 1 : Nat) : Int) := by rw [Go.IntWalk.i64_in _ (by omega)]; omega
            have hlt2 : k + m - 1 < l.length := by omega
            have hadd : off + (k + m - 1) * 6 = o + (m - 1) * 6 := by have := HO.out (by omega); omega
            obtain ⟨x0, x1, x2, x3, x4, x5⟩ := Vs.cells HC.out (k + m - 1) hlt2
            rw [hadd] at x0 x1 x2 x3 x4 x5
            have x0 := (hbX.cell (p := ⟨b, _, none⟩) hb).trans x0
            have x1 := (hbX.cell (p := ⟨b, _, none⟩) hb).trans x1
            have x2 := (hbX.cell (p := ⟨b, _, none⟩) hb).trans x2
            have x3 := (hbX.cell (p := ⟨b, _, none⟩) hb).trans x3
            have x4 := (hbX.cell (p := ⟨b, _, none⟩) hb).trans x4
            have x5 := (hbX.cell (p := ⟨b, _, none⟩) hb).trans x5
            have q6 : (0 : Int) ≤ ((m - 1 : Nat) : Int) := by omega
            have q7 : ((m - 1 : Nat) : Int) < (m : Int) := by omega
            have q8 : ((m - 1 : Nat) : Int) ≤ ((cap - k : Nat) : Int) := by omega
            obtain ⟨y, hy⟩ : ∃ y, l[k + m - 1] = y := ⟨_, rfl⟩
            rw [hy] at x0 x1 x2 x3 x4 x5
            have HY := Lib.hid hy
            clear hadd hy
            go_wp2_with fail
            refine (refIs_any y 13 _).mono ?_
            rintro e w5 ⟨rfl, hb5⟩
            have hbZ := hbX.trans (hb5.mono hbX.size)
            clear x0 x1 x2 x3 x4 x5 hb5 hbX
            rw [show (y.tok.k == 13) = isSp y from rfl]
            cases hs : isSp y
            · have HS : Hid (m = 0 ∨ ∃ h : k + m - 1 < l.length, isSp l[k + m - 1] = false) := Lib.hid (.inr ⟨hlt2, by rw [HY.out]; exact hs⟩)
              have hbX := hbZ
              go_wp2_with (first | (at_builtin; refine wpList_append_vals _ rfl _ _ rfl w5.heap.size rfl (heap_alloc_new _ _) (.slice (some ⟨b, o, none⟩) m (cap - k)) ((l.drop k).take m) rfl (Vs.next (Vs.sub (cellsX hbX hb HC.out) k m o HO.out (by omega) (by omega) (by have := hbX.size; omega) hcap hl) (bAlloc1 _ _)) ?_; intro V w9 hV hg9))
              go_ret
              refine ⟨V, rfl, ?_, (hbX.alloc hbX.size _).grown hg9 (by simp; exact Nat.le_succ_of_le hbX.size) (fun q e => by cases e; exact hbX.size)⟩
              rw [trim_of l k m hk (by omega) HP.out HQ.out HR.out HS.out]
              exact hV
            · go_wp2_with fail
              go_roundw
              case rel =>
                refine ⟨m - 1, by omega, rfl, Lib.hid (fun i hi hmi => ?_), hbZ⟩
                by_cases he : i = k + m - 1
                · subst he; rw [HY.out]; exact hs
                · exact HR.out i hi (by omega)
              case measure => show m - 1 < m; omega
      · go_wp2_with fail
        go_roundw
        case rel =>
          refine ⟨k + 1, if cap - k = 1 then o else o + 6, by omega, ?_, Lib.hid (fun h' => ?_), Lib.hid (fun i hi hik => ?_), hbY⟩
          · rw [show l.length - (k + 1) = l.length - k - 1 by omega, show cap - (k + 1) = cap - k - 1 by omega]
            split <;> rfl
          · have := HO.out hlt
            rw [if_neg (by omega)]; omega
          · by_cases he : i = k
            · subst he; rw [HY.out]; exact hs
            · exact HP.out i hi (by omega)
        case measure => show l.length - k - 1 < l.length - k; omega
    · have hke : k = l.length := by omega
      have HQ : Hid (k = l.length ∨ ∃ h : k < l.length, isSp l[k] = false) := Lib.hid (.inl hke)
      have hbY := hb1
      clear hke
      have q0 : ¬ (0 : Int) < ((l.length - k : Nat) : Int) := by omega
      clear hb1
      go_wp2_with fail
      go_loopw [0] (fun v wr => ∃ m : Nat, k + m ≤ l.length ∧ v = .slice (some ⟨b, o, none⟩) m (cap - k) ∧ Hid (∀ i (h : i < l.length), k + m ≤ i → isSp l[i] = true) ∧ Below w.heap.size w wr)
        (fun v _ => lenOf v)
      case atStart => exact ⟨l.length - k, by omega, rfl, Lib.hid (fun i hi hm => by omega), hbY⟩
      case round =>
        obtain ⟨m, hm, rfl, HR, hbX⟩ := hrel
        clear hbY
        by_cases hm0 : m = 0
        · have HS : Hid (m = 0 ∨ ∃ h : k + m - 1 < l.length, isSp l[k + m - 1] = false) := Lib.hid (.inl hm0)
          have q3 : ¬ (0 : Int) < (m : Int) := by omega
          clear hm0
          go_wp2_with (first | (at_builtin; refine wpList_append_vals _ rfl _ _ rfl wr.heap.size rfl (heap_alloc_new _ _) (.slice (some ⟨b, o, none⟩) m (cap - k)) ((l.drop k).take m) rfl (Vs.next (Vs.sub (cellsX hbX hb HC.out) k m o HO.out (by omega) (by omega) (by have := hbX.size; omega) hcap hl) (bAlloc1 _ _)) ?_; intro V w9 hV hg9))
          go_ret
          refine ⟨V, rfl, ?_, (hbX.alloc hbX.size _).grown hg9 (by simp; exact Nat.le_succ_of_le hbX.size) (fun q e => by cases e; exact hbX.size)⟩
          rw [trim_of l k m hk (by omega) HP.out HQ.out HR.out HS.out]
          exact hV
        · exfalso; omega
set_option maxHeartbeats 2000000 in
theorem RefTrim_any (w : World) (v : Value) (l : List Val) (h : Vs w v l) :
    Calls Tryz.prog 111 #[v] w fun e w' => ∃ V, e = .returned V ∧ Vs w' V (trim l) ∧ Below w.heap.size w w' := by
  have hv0 := h
  obtain ⟨a, cap, rfl, hcap, hl, hr⟩ := h
  by_cases hne : l = []
  · subst hne
    have HV := Lib.hid hv0
    clear hr hcap hl hv0
    go_enter Tryz.func111, Tryz.ntmps111
    go_wp2_with fail
    go_loopw [0] (fun v wr => v = .slice a 0 cap ∧ Below w.heap.size w wr) (fun _ _ => 0)
    case atStart => exact ⟨rfl, Below.refl _ _⟩
    case round =>
      obtain ⟨rfl, hb1⟩ := hrel
      go_wp2_with fail
      go_loopw [0] (fun v wr => v = .slice a 0 cap ∧ Below w.heap.size w wr) (fun _ _ => 0)
      case atStart => exact ⟨rfl, hb1⟩
      case round =>
        obtain ⟨rfl, hb2⟩ := hrel
        go_wp2_with (first | (at_builtin; refine wpList_append_vals _ rfl _ _ rfl wr.heap.size rfl (heap_alloc_new _ _) (.slice a 0 cap) [] rfl (Vs.next (HV.out.below hb2 (Nat.le_refl _)) (bAlloc1 _ _)) ?_; intro V w9 hV hg9))
        go_ret
        exact ⟨V, rfl, hV, (hb2.alloc hb2.size _).grown hg9 (by simp; exact Nat.le_succ_of_le hb2.size) (fun q e => by cases e; exact hb2.size)⟩
  · obtain ⟨b, off, rfl, hb, hc⟩ := hr hne
    exact RefTrim_ne w b off cap l hl hcap hb hc
theorem wides_mem (z : ByteArray) : memB z wides = (eqB z ⟨#[105, 110, 104, 101, 114, 105, 116]⟩ || eqB z ⟨#[105, 110, 105, 116, 105, 97, 108]⟩ || eqB z ⟨#[117, 110, 115, 101, 116]⟩) := by
  unfold memB wides
  simp [Bool.or_assoc]
theorem toList_lit0 (z c : ByteArray) (l : List UInt8) (h : c.data.toList = l) : (z.toList == l) = eqB z c := by
  subst h
  rw [ByteArray.toList_eq]
  unfold eqB
  exact Bool.eq_iff_iff.2 (by simp)
set_option maxRecDepth 100000 in
set_option maxHeartbeats 2000000 in
theorem RefWide_any (w : World) (v : Value) (l : List Val) (h : Vs w v l) (hf : ∀ x ∈ l, x.fits) :
    Calls Tryz.prog 73 #[v] w fun e w' => e = .returned (.string (wideS l)) ∧ Below w.heap.size w w' := by
  go_enter Tryz.func73, Tryz.ntmps73
  go_wp2_with fail
  refine (RefTrim_any w _ l h).mono ?_
  rintro e w1 ⟨v1, rfl, hv1, hb1⟩
  by_cases h1 : (trim l).length = 1
  · obtain ⟨x, hx⟩ := List.length_eq_one_iff.1 h1
    have hxf := hf x (trim_mem (by rw [hx]; exact List.mem_singleton.2 rfl))
    have hw := wideS_one hx
    rw [hx] at hv1
    obtain ⟨b, off, cap, rfl, hb, x0, x1, x2, x3, x4, x5⟩ := hv1.one
    rw [wides_mem] at hw
    have HW := Lib.hid hw
    clear hv1 hx h1 hw
    go_wp2_with fail
    refine (refIdent_any x hxf _).mono ?_
    rintro e w2 ⟨rfl, hb2⟩
    obtain ⟨z, hz⟩ : ∃ z, identS x = z := ⟨_, rfl⟩
    rw [hz] at HW ⊢
    have hB := bNext hb1 hb2
    have t1 : (z.toList == [105, 110, 104, 101, 114, 105, 116]) = eqB z ⟨#[105, 110, 104, 101, 114, 105, 116]⟩ := toList_lit0 _ _ _ rfl
    have t2 : (z.toList == [105, 110, 105, 116, 105, 97, 108]) = eqB z ⟨#[105, 110, 105, 116, 105, 97, 108]⟩ := toList_lit0 _ _ _ rfl
    have t3 : (z.toList == [117, 110, 115, 101, 116]) = eqB z ⟨#[117, 110, 115, 101, 116]⟩ := toList_lit0 _ _ _ rfl
    clear x0 x1 x2 x3 x4 x5 hz hb1 hb2
    cases e1 : eqB z ⟨#[105, 110, 104, 101, 114, 105, 116]⟩
    · rw [e1] at t1
      cases e2 : eqB z ⟨#[105, 110, 105, 116, 105, 97, 108]⟩
      · rw [e2] at t2
        cases e3 : eqB z ⟨#[117, 110, 115, 101, 116]⟩
        · rw [e3] at t3
          have HR : Hid (wideS l = noStr) := Lib.hid (by rw [HW.out, e1, e2, e3]; rfl)
          clear e1 e2 e3
          go_wp2_with fail
          go_ret
          exact ⟨by rw [HR.out]; rfl, hB⟩
        · rw [e3] at t3
          have HR : Hid (wideS l = z) := Lib.hid (by rw [HW.out, e1, e2, e3]; rfl)
          clear e1 e2 e3
          go_wp2_with fail
          go_ret
          exact ⟨by rw [HR.out]; rfl, hB⟩
      · rw [e2] at t2
        have HR : Hid (wideS l = z) := Lib.hid (by rw [HW.out, e1, e2]; rfl)
        clear e1 e2 t3
        go_wp2_with fail
        go_ret
        exact ⟨by rw [HR.out]; rfl, hB⟩
    · rw [e1] at t1
      have HR : Hid (wideS l = z) := Lib.hid (by rw [HW.out, e1]; rfl)
      clear e1 t2 t3
      go_wp2_with fail
      go_ret
      exact ⟨by rw [HR.out]; rfl, hB⟩
  · have HW := Lib.hid (wideS_not h1)
    obtain ⟨a, cap, rfl, _⟩ := hv1
    have q1 : ((((trim l).length : Nat) : Int) == 1) = false := by rw [beq_eq_false_iff_ne]; omega
    clear h1
    go_wp2_with fail
    go_ret
    exact ⟨by rw [HW.out]; rfl, hb1⟩
end Go.Proofs.YtpadcjcoafidgaaGreatDoor
/-! gouacheref02.Whole, Int; gouacheref04.Digits; gouacheref01.Hex. -/
namespace Go.Proofs.YtpadcjcoafidgaaGreatDoor
open Go.RowKit

def wholeOk (s : ByteArray) : Bool := !(eqB (intDigs s) noStr) && !(anyBad (intDigs s))
def wholeRes (s : ByteArray) : Value := .tuple #[.int .i64 (if wholeOk s = true then intVal s else 0), .bool (wholeOk s)]
theorem get_list (s : ByteArray) (h : 0 < s.size) : ∃ r, s.data.toList = s[0] :: r := by
  have hl : s.data.toList.length = s.size := by rw [Array.length_toList]; rfl
  cases hd : s.data.toList with
  | nil => rw [hd] at hl; simp at hl; omega
  | cons a r =>
    refine ⟨r, ?_⟩
    have : s.data.toList[0]'(by rw [hl]; exact h) = s[0] := by rw [Array.getElem_toList]; rfl
    rw [← this]
    simp [hd]
theorem extract_one_end (s : ByteArray) (a : UInt8) (r : List UInt8) (h : s.data.toList = a :: r) : s.extract 1 s.size = ⟨r.toArray⟩ := by
  apply bytes_ext
  have hl : s.data.toList.length = s.size := by rw [Array.length_toList]; rfl
  rw [Lib.extract_toList, h, List.drop_succ_cons, List.drop_zero, ByteArray.toList_eq]
  rw [List.take_of_length_le]
  rw [h] at hl
  simp at hl
  omega
theorem byte_of (b : UInt8) (n : Nat) (_hn : n < 256) (h : ((b.toNat : Int) == (n : Int)) = true) : b = UInt8.ofNat n := by
  have : b.toNat = n := by
    have := eq_of_beq h
    omega
  rw [← this]
  exact UInt8.ofNat_toNat.symm
theorem digs_minus (s : ByteArray) (r : List UInt8) (h : s.data.toList = 45 :: r) : intDigs s = ⟨r.toArray⟩ ∧ intVal s = - decN r := by
  have e43 : tp s 43 = s := by
    unfold tp Lib.trimPrefix Lib.hasPrefix
    rw [h]
    show (⟨(45 :: r).toArray⟩ : ByteArray) = s
    rw [← h]
  have e45 : tp s 45 = ⟨r.toArray⟩ := by
    unfold tp Lib.trimPrefix Lib.hasPrefix
    rw [h]
    rfl
  have ed : intDigs s = ⟨r.toArray⟩ := by
    unfold intDigs
    rw [e43, if_neg (Nat.lt_irrefl _), e45]
  refine ⟨ed, ?_⟩
  unfold intVal
  rw [ed, e43, if_neg]
  intro e
  have := (eqB_iff _ _).1 e
  have e2 := congrArg (fun s : ByteArray => s.data.toList.length) this
  simp only [h, List.length_cons] at e2
  simp at e2
theorem digs_plus (s : ByteArray) (r : List UInt8) (h : s.data.toList = 43 :: r) : intDigs s = ⟨r.toArray⟩ ∧ intVal s = decN r := by
  have e43 : tp s 43 = ⟨r.toArray⟩ := by
    unfold tp Lib.trimPrefix Lib.hasPrefix
    rw [h]
    rfl
  have hl : s.data.toList.length = s.size := by rw [Array.length_toList]; rfl
  have ed : intDigs s = ⟨r.toArray⟩ := by
    unfold intDigs
    rw [e43, if_pos]
    rw [← hl, h]
    show r.toArray.size < _
    simp
  refine ⟨ed, ?_⟩
  unfold intVal
  rw [ed, e43, if_pos (eqB_self _)]
theorem digs_plain (s : ByteArray) (a : UInt8) (r : List UInt8) (h : s.data.toList = a :: r) (h1 : a ≠ 45) (h2 : a ≠ 43) : intDigs s = s ∧ intVal s = decN s.data.toList := by
  have e43 : tp s 43 = s := by
    unfold tp Lib.trimPrefix Lib.hasPrefix
    rw [h]
    have : List.isPrefixOf [43] (a :: r) = false := by simp [List.isPrefixOf, Ne.symm h2]
    rw [this, if_neg (by decide), ← h]
  have e45 : tp s 45 = s := by
    unfold tp Lib.trimPrefix Lib.hasPrefix
    rw [h]
    have : List.isPrefixOf [45] (a :: r) = false := by simp [List.isPrefixOf, Ne.symm h1]
    rw [this, if_neg (by decide), ← h]
  have ed : intDigs s = s := by
    unfold intDigs
    rw [e43, if_neg (Nat.lt_irrefl _), e45]
  refine ⟨ed, ?_⟩
  unfold intVal
  rw [ed, e43, if_pos (eqB_self _)]
theorem noStr_of {D : ByteArray} (h : D.size = 0) : D = noStr := by
  apply bytes_ext
  rw [ByteArray.toList_eq, ByteArray.toList_eq]
  have hl : D.data.toList.length = D.size := by rw [Array.length_toList]; rfl
  exact List.eq_nil_of_length_eq_zero (by omega)
theorem not_noStr {D : ByteArray} (h : 0 < D.size) : eqB D noStr = false := by
  cases hq : eqB D noStr with
  | false => rfl
  | true =>
    rw [(eqB_iff _ _).1 hq] at h
    exact absurd h (by decide)
set_option maxRecDepth 100000 in
set_option maxHeartbeats 4000000 in
theorem whole_minus (s : ByteArray) (hs : s.size ≤ 4294967295) (w : World) (h0 : 0 < s.size) (hc : ((s[0].toNat : Int) == 45) = true) :
    Calls Tryz.prog 168 #[.string s] w fun e w' => e = .returned (wholeRes s) ∧ w' = w := by
  have q1 : (0 : Int) < (s.size : Int) := by omega
  have q2 : (1 : Int) ≤ (s.size : Int) := by omega
  have q3 : 1 ≤ s.size := by omega
  obtain ⟨r, hr⟩ := get_list s h0
  have hb := byte_of _ 45 (by decide) hc
  rw [show s[0] = (45 : UInt8) from hb] at hr
  obtain ⟨hdg, hvl⟩ := digs_minus s r hr
  have hx := extract_one_end s 45 r hr
  rw [← hx] at hdg
  have hvl : intVal s = - decN (s.extract 1 s.size).data.toList := by rw [hvl, hx]
  have hDs : (s.extract 1 s.size).size ≤ 4294967295 := by
    have hl : s.data.toList.length = s.size := by rw [Array.length_toList]; rfl
    rw [hr] at hl
    rw [hx]
    show r.toArray.size ≤ _
    simp at hl ⊢
    omega
  clear hx hb
  obtain ⟨D, hD⟩ : ∃ D, s.extract 1 s.size = D := ⟨_, rfl⟩
  rw [hD] at hdg hvl hDs
  have HD := Lib.hid hD
  have HW : Hid (wholeRes s = if (!(eqB D noStr) && !(anyBad D)) = true then .tuple #[.int .i64 (-decN D.data.toList), .bool true] else .tuple #[.int .i64 0, .bool false]) := Lib.hid (by
    have ho : wholeOk s = (!(eqB D noStr) && !(anyBad D)) := by unfold wholeOk; rw [hdg]
    unfold wholeRes
    rw [ho, hvl]
    cases (!(eqB D noStr) && !(anyBad D)) <;> rfl)
  clear hdg hvl hr hD
  go_enter Tryz.func168, Tryz.ntmps168
  go_wp2_with fail
  rw [HD.out]
  have hdl : D.data.toList.length = D.size := by rw [Array.length_toList]; rfl
  go_loop [5, 6] (fun nv iv => ∃ k : Nat, k ≤ D.size ∧ iv = .int .i64 k ∧ nv = .int .i64 (decN (D.data.toList.take k)) ∧ Hid ((D.data.toList.take k).any (fun b => notDig b.toNat) = false)) (fun _ iv => D.size - (intOf iv).toNat)
  case atStart => exact ⟨0, Nat.zero_le _, rfl, rfl, Lib.hid rfl⟩
  case round =>
    obtain ⟨k, hk, rfl, rfl, HA⟩ := hrel
    obtain ⟨r0, r1⟩ := dec_range _ HA.out
    by_cases hp : k < D.size
    · have hc0 : D.data.toList[k]'(by omega) = D[k]'hp := by rw [Array.getElem_toList]; rfl
      have hsn := decN_snoc D.data.toList k (by omega)
      have hts := List.take_succ_eq_append_getElem (l := D.data.toList) (i := k) (by omega)
      have hmem := List.getElem_mem (show k < D.data.toList.length by omega)
      rw [hc0] at hsn hts hmem
      unfold decStep at hsn
      have hb := (D[k]'hp).toNat_lt
      have HNd : Hid (notDig (D[k]'hp).toNat = false → (D.data.toList.take (k + 1)).any (fun b => notDig b.toNat) = false) := Lib.hid (fun h => by rw [hts, List.any_append, HA.out]; simp [h])
      have HBad : Hid (notDig (D[k]'hp).toNat = true → anyBad D = true) := Lib.hid (fun h => by unfold anyBad; exact List.any_eq_true.2 ⟨_, hmem, h⟩)
      have HNot : Hid (notDig (D[k]'hp).toNat = !(decide (48 ≤ ((D[k]'hp).toNat : Int)) && decide (((D[k]'hp).toNat : Int) ≤ 57))) := Lib.hid rfl
      obtain ⟨m, hm⟩ : ∃ m, decN (D.data.toList.take k) = m := ⟨_, rfl⟩
      rw [hm] at hsn r0 r1 ⊢
      have HS := Lib.hid hsn
      have p0 : (0 : Int) ≤ (k : Int) := by omega
      have p1 : (k : Int) < (D.size : Int) := by omega
      clear hsn hts hmem hc0 hm
      by_cases h1 : ((D[k]'hp).toNat : Int) < 48
      · have HR : Hid (wholeRes s = .tuple #[.int .i64 0, .bool false]) := Lib.hid (by
          rw [HW.out, HBad.out (by rw [HNot.out, decide_eq_false (by omega)]; rfl)]
          simp)
        go_wp2_with fail
        exact bodyPost_ret (v := .tuple #[.int .i64 0, .bool false]) (by simp [results, Tryz.results168, go_sem]) rfl ⟨by rw [HR.out], rfl⟩
      · by_cases h2 : 57 < ((D[k]'hp).toNat : Int)
        · have HR : Hid (wholeRes s = .tuple #[.int .i64 0, .bool false]) := Lib.hid (by
            rw [HW.out, HBad.out (by rw [HNot.out, decide_eq_true (show (48 : Int) ≤ _ by omega), decide_eq_false (by omega)]; rfl)]
            simp)
          go_wp2_with fail
          exact bodyPost_ret (v := .tuple #[.int .i64 0, .bool false]) (by simp [results, Tryz.results168, go_sem]) rfl ⟨by rw [HR.out], rfl⟩
        · have HN := Lib.hid (HNd.out (by rw [HNot.out, decide_eq_true (show (48 : Int) ≤ _ by omega), decide_eq_true (show _ ≤ (57 : Int) by omega)]; rfl))
          have ww1 : IntKind.i64.wrap (10 * m) = 10 * m := Go.IntWalk.i64_in _ (by omega)
          have ww2 : IntKind.u8.wrap (((D[k]'hp).toNat : Int) - 48) = ((D[k]'hp).toNat : Int) - 48 := by
            rw [show IntKind.u8.wrap (((D[k]'hp).toNat : Int) - 48) = (((D[k]'hp).toNat : Int) - 48) % 256 by simp [IntKind.wrap, IntKind.bits, IntKind.signed]]
            omega
          have ww3 : IntKind.i64.wrap (((D[k]'hp).toNat : Int) - 48) = ((D[k]'hp).toNat : Int) - 48 := Go.IntWalk.i64_in _ (by omega)
          have ww4 : IntKind.i64.wrap (10 * m + (((D[k]'hp).toNat : Int) - 48)) = 10 * m + (((D[k]'hp).toNat : Int) - 48) := Go.IntWalk.i64_in _ (by omega)
          by_cases hbig : 1000000 < 10 * m + (((D[k]'hp).toNat : Int) - 48)
          · have HS2 : Hid (decN (D.data.toList.take (k + 1)) = 1000000) := Lib.hid (by rw [HS.out]; omega)
            go_wp2_with fail
            go_round
            case rel => exact ⟨k + 1, by omega, by go_num, by rw [HS2.out], HN⟩
            case measure => simp [intOf]; omega
          · have HS2 : Hid (decN (D.data.toList.take (k + 1)) = 10 * m + (((D[k]'hp).toNat : Int) - 48)) := Lib.hid (by rw [HS.out]; omega)
            go_wp2_with fail
            go_round
            case rel => exact ⟨k + 1, by omega, by go_num, by rw [HS2.out], HN⟩
            case measure => simp [intOf]; omega
    · have hke : k = D.size := by omega
      have hA : anyBad D = false := by
        have := HA.out
        rw [List.take_of_length_le (by omega)] at this
        exact this
      rw [List.take_of_length_le (show D.data.toList.length ≤ k by omega)] at r0 r1 ⊢
      by_cases hz : D.size = 0
      · have HR : Hid (wholeRes s = .tuple #[.int .i64 0, .bool false]) := Lib.hid (by rw [HW.out, noStr_of hz, eqB_self]; rfl)
        have hm0 : decN D.data.toList = 0 := by rw [noStr_of hz]; rfl
        rw [hm0]
        obtain rfl : k = 0 := by omega
        clear hm0 hke hk hdl r0 r1 hp HA hA HW
        go_wp2_with fail
        exact bodyPost_ret (v := .tuple #[.int .i64 0, .bool false]) (by simp [results, Tryz.results168, go_sem]) rfl ⟨by rw [HR.out], rfl⟩
      · have HR : Hid (wholeRes s = .tuple #[.int .i64 (-decN D.data.toList), .bool true]) := Lib.hid (by rw [HW.out, not_noStr (by omega), hA]; rfl)
        obtain ⟨m, hm⟩ : ∃ m, decN D.data.toList = m := ⟨_, rfl⟩
        rw [hm] at HR r0 r1 ⊢
        have p2 : (0 : Int) < (D.size : Int) := by omega
        have p3 : 0 < D.size := by omega
        have hw5 : IntKind.i64.wrap (-m) = -m := Go.IntWalk.i64_in _ (by omega)
        subst hke
        clear hz hA hm hp hk HA HW
        go_wp2_with fail
        exact bodyPost_ret (v := .tuple #[.int .i64 (-m), .bool true]) (by simp [results, Tryz.results168, go_sem]) rfl ⟨by rw [HR.out], rfl⟩
        all_goals exact p3
set_option maxRecDepth 100000 in
set_option maxHeartbeats 4000000 in
theorem whole_plus (s : ByteArray) (hs : s.size ≤ 4294967295) (w : World) (h0 : 0 < s.size) (hc0 : ((s[0].toNat : Int) == 45) = false) (hc : ((s[0].toNat : Int) == 43) = true) :
    Calls Tryz.prog 168 #[.string s] w fun e w' => e = .returned (wholeRes s) ∧ w' = w := by
  have q1 : (0 : Int) < (s.size : Int) := by omega
  have q2 : (1 : Int) ≤ (s.size : Int) := by omega
  have q3 : 1 ≤ s.size := by omega
  obtain ⟨r, hr⟩ := get_list s h0
  have hb := byte_of _ 43 (by decide) hc
  rw [show s[0] = (43 : UInt8) from hb] at hr
  obtain ⟨hdg, hvl⟩ := digs_plus s r hr
  have hx := extract_one_end s 43 r hr
  rw [← hx] at hdg
  have hvl : intVal s = decN (s.extract 1 s.size).data.toList := by rw [hvl, hx]
  have hDs : (s.extract 1 s.size).size ≤ 4294967295 := by
    have hl : s.data.toList.length = s.size := by rw [Array.length_toList]; rfl
    rw [hr] at hl
    rw [hx]
    show r.toArray.size ≤ _
    simp at hl ⊢
    omega
  clear hx hb
  obtain ⟨D, hD⟩ : ∃ D, s.extract 1 s.size = D := ⟨_, rfl⟩
  rw [hD] at hdg hvl hDs
  have HD := Lib.hid hD
  have HW : Hid (wholeRes s = if (!(eqB D noStr) && !(anyBad D)) = true then .tuple #[.int .i64 (decN D.data.toList), .bool true] else .tuple #[.int .i64 0, .bool false]) := Lib.hid (by
    have ho : wholeOk s = (!(eqB D noStr) && !(anyBad D)) := by unfold wholeOk; rw [hdg]
    unfold wholeRes
    rw [ho, hvl]
    cases (!(eqB D noStr) && !(anyBad D)) <;> rfl)
  clear hdg hvl hr hD
  go_enter Tryz.func168, Tryz.ntmps168
  go_wp2_with fail
  rw [HD.out]
  have hdl : D.data.toList.length = D.size := by rw [Array.length_toList]; rfl
  go_loop [5, 6] (fun nv iv => ∃ k : Nat, k ≤ D.size ∧ iv = .int .i64 k ∧ nv = .int .i64 (decN (D.data.toList.take k)) ∧ Hid ((D.data.toList.take k).any (fun b => notDig b.toNat) = false)) (fun _ iv => D.size - (intOf iv).toNat)
  case atStart => exact ⟨0, Nat.zero_le _, rfl, rfl, Lib.hid rfl⟩
  case round =>
    obtain ⟨k, hk, rfl, rfl, HA⟩ := hrel
    obtain ⟨r0, r1⟩ := dec_range _ HA.out
    by_cases hp : k < D.size
    · have hc0 : D.data.toList[k]'(by omega) = D[k]'hp := by rw [Array.getElem_toList]; rfl
      have hsn := decN_snoc D.data.toList k (by omega)
      have hts := List.take_succ_eq_append_getElem (l := D.data.toList) (i := k) (by omega)
      have hmem := List.getElem_mem (show k < D.data.toList.length by omega)
      rw [hc0] at hsn hts hmem
      unfold decStep at hsn
      have hb := (D[k]'hp).toNat_lt
      have HNd : Hid (notDig (D[k]'hp).toNat = false → (D.data.toList.take (k + 1)).any (fun b => notDig b.toNat) = false) := Lib.hid (fun h => by rw [hts, List.any_append, HA.out]; simp [h])
      have HBad : Hid (notDig (D[k]'hp).toNat = true → anyBad D = true) := Lib.hid (fun h => by unfold anyBad; exact List.any_eq_true.2 ⟨_, hmem, h⟩)
      have HNot : Hid (notDig (D[k]'hp).toNat = !(decide (48 ≤ ((D[k]'hp).toNat : Int)) && decide (((D[k]'hp).toNat : Int) ≤ 57))) := Lib.hid rfl
      obtain ⟨m, hm⟩ : ∃ m, decN (D.data.toList.take k) = m := ⟨_, rfl⟩
      rw [hm] at hsn r0 r1 ⊢
      have HS := Lib.hid hsn
      have p0 : (0 : Int) ≤ (k : Int) := by omega
      have p1 : (k : Int) < (D.size : Int) := by omega
      clear hsn hts hmem hc0 hm
      by_cases h1 : ((D[k]'hp).toNat : Int) < 48
      · have HR : Hid (wholeRes s = .tuple #[.int .i64 0, .bool false]) := Lib.hid (by
          rw [HW.out, HBad.out (by rw [HNot.out, decide_eq_false (by omega)]; rfl)]
          simp)
        go_wp2_with fail
        exact bodyPost_ret (v := .tuple #[.int .i64 0, .bool false]) (by simp [results, Tryz.results168, go_sem]) rfl ⟨by rw [HR.out], rfl⟩
      · by_cases h2 : 57 < ((D[k]'hp).toNat : Int)
        · have HR : Hid (wholeRes s = .tuple #[.int .i64 0, .bool false]) := Lib.hid (by
            rw [HW.out, HBad.out (by rw [HNot.out, decide_eq_true (show (48 : Int) ≤ _ by omega), decide_eq_false (by omega)]; rfl)]
            simp)
          go_wp2_with fail
          exact bodyPost_ret (v := .tuple #[.int .i64 0, .bool false]) (by simp [results, Tryz.results168, go_sem]) rfl ⟨by rw [HR.out], rfl⟩
        · have HN := Lib.hid (HNd.out (by rw [HNot.out, decide_eq_true (show (48 : Int) ≤ _ by omega), decide_eq_true (show _ ≤ (57 : Int) by omega)]; rfl))
          have ww1 : IntKind.i64.wrap (10 * m) = 10 * m := Go.IntWalk.i64_in _ (by omega)
          have ww2 : IntKind.u8.wrap (((D[k]'hp).toNat : Int) - 48) = ((D[k]'hp).toNat : Int) - 48 := by
            rw [show IntKind.u8.wrap (((D[k]'hp).toNat : Int) - 48) = (((D[k]'hp).toNat : Int) - 48) % 256 by simp [IntKind.wrap, IntKind.bits, IntKind.signed]]
            omega
          have ww3 : IntKind.i64.wrap (((D[k]'hp).toNat : Int) - 48) = ((D[k]'hp).toNat : Int) - 48 := Go.IntWalk.i64_in _ (by omega)
          have ww4 : IntKind.i64.wrap (10 * m + (((D[k]'hp).toNat : Int) - 48)) = 10 * m + (((D[k]'hp).toNat : Int) - 48) := Go.IntWalk.i64_in _ (by omega)
          by_cases hbig : 1000000 < 10 * m + (((D[k]'hp).toNat : Int) - 48)
          · have HS2 : Hid (decN (D.data.toList.take (k + 1)) = 1000000) := Lib.hid (by rw [HS.out]; omega)
            go_wp2_with fail
            go_round
            case rel => exact ⟨k + 1, by omega, by go_num, by rw [HS2.out], HN⟩
            case measure => simp [intOf]; omega
          · have HS2 : Hid (decN (D.data.toList.take (k + 1)) = 10 * m + (((D[k]'hp).toNat : Int) - 48)) := Lib.hid (by rw [HS.out]; omega)
            go_wp2_with fail
            go_round
            case rel => exact ⟨k + 1, by omega, by go_num, by rw [HS2.out], HN⟩
            case measure => simp [intOf]; omega
    · have hke : k = D.size := by omega
      have hA : anyBad D = false := by
        have := HA.out
        rw [List.take_of_length_le (by omega)] at this
        exact this
      rw [List.take_of_length_le (show D.data.toList.length ≤ k by omega)] at r0 r1 ⊢
      by_cases hz : D.size = 0
      · have HR : Hid (wholeRes s = .tuple #[.int .i64 0, .bool false]) := Lib.hid (by rw [HW.out, noStr_of hz, eqB_self]; rfl)
        have hm0 : decN D.data.toList = 0 := by rw [noStr_of hz]; rfl
        rw [hm0]
        obtain rfl : k = 0 := by omega
        clear hm0 hke hk hdl r0 r1 hp HA hA HW
        go_wp2_with fail
        exact bodyPost_ret (v := .tuple #[.int .i64 0, .bool false]) (by simp [results, Tryz.results168, go_sem]) rfl ⟨by rw [HR.out], rfl⟩
      · have HR : Hid (wholeRes s = .tuple #[.int .i64 (decN D.data.toList), .bool true]) := Lib.hid (by rw [HW.out, not_noStr (by omega), hA]; rfl)
        obtain ⟨m, hm⟩ : ∃ m, decN D.data.toList = m := ⟨_, rfl⟩
        rw [hm] at HR r0 r1 ⊢
        have p2 : (0 : Int) < (D.size : Int) := by omega
        have p3 : 0 < D.size := by omega
        subst hke
        clear hz hA hm hp hk HA HW
        go_wp2_with fail
        exact bodyPost_ret (v := .tuple #[.int .i64 (m), .bool true]) (by simp [results, Tryz.results168, go_sem]) rfl ⟨by rw [HR.out], rfl⟩
        all_goals exact p3
set_option maxRecDepth 100000 in
set_option maxHeartbeats 4000000 in
theorem whole_plain (s : ByteArray) (hs : s.size ≤ 4294967295) (w : World) (h0 : 0 < s.size) (hc0 : ((s[0].toNat : Int) == 45) = false) (hc : ((s[0].toNat : Int) == 43) = false) :
    Calls Tryz.prog 168 #[.string s] w fun e w' => e = .returned (wholeRes s) ∧ w' = w := by
  have q1 : (0 : Int) < (s.size : Int) := by omega
  have q2 : (1 : Int) ≤ (s.size : Int) := by omega
  have q3 : 1 ≤ s.size := by omega
  obtain ⟨r, hr⟩ := get_list s h0
  have hn1 : s[0] ≠ 45 := by intro e; rw [e] at hc0; exact absurd hc0 (by decide)
  have hn2 : s[0] ≠ 43 := by intro e; rw [e] at hc; exact absurd hc (by decide)
  obtain ⟨hdg, hvl⟩ := digs_plain s _ r hr hn1 hn2
  have hDs := hs
  clear hn1 hn2
  have HW : Hid (wholeRes s = if (!(eqB s noStr) && !(anyBad s)) = true then .tuple #[.int .i64 (decN s.data.toList), .bool true] else .tuple #[.int .i64 0, .bool false]) := Lib.hid (by
    have ho : wholeOk s = (!(eqB s noStr) && !(anyBad s)) := by unfold wholeOk; rw [hdg]
    unfold wholeRes
    rw [ho, hvl]
    cases (!(eqB s noStr) && !(anyBad s)) <;> rfl)
  clear hdg hvl hr
  go_enter Tryz.func168, Tryz.ntmps168
  go_wp2_with fail
  have hdl : s.data.toList.length = s.size := by rw [Array.length_toList]; rfl
  go_loop [5, 6] (fun nv iv => ∃ k : Nat, k ≤ s.size ∧ iv = .int .i64 k ∧ nv = .int .i64 (decN (s.data.toList.take k)) ∧ Hid ((s.data.toList.take k).any (fun b => notDig b.toNat) = false)) (fun _ iv => s.size - (intOf iv).toNat)
  case atStart => exact ⟨0, Nat.zero_le _, rfl, rfl, Lib.hid rfl⟩
  case round =>
    obtain ⟨k, hk, rfl, rfl, HA⟩ := hrel
    obtain ⟨r0, r1⟩ := dec_range _ HA.out
    by_cases hp : k < s.size
    · have hc0 : s.data.toList[k]'(by omega) = s[k]'hp := by rw [Array.getElem_toList]; rfl
      have hsn := decN_snoc s.data.toList k (by omega)
      have hts := List.take_succ_eq_append_getElem (l := s.data.toList) (i := k) (by omega)
      have hmem := List.getElem_mem (show k < s.data.toList.length by omega)
      rw [hc0] at hsn hts hmem
      unfold decStep at hsn
      have hb := (s[k]'hp).toNat_lt
      have HNd : Hid (notDig (s[k]'hp).toNat = false → (s.data.toList.take (k + 1)).any (fun b => notDig b.toNat) = false) := Lib.hid (fun h => by rw [hts, List.any_append, HA.out]; simp [h])
      have HBad : Hid (notDig (s[k]'hp).toNat = true → anyBad s = true) := Lib.hid (fun h => by unfold anyBad; exact List.any_eq_true.2 ⟨_, hmem, h⟩)
      have HNot : Hid (notDig (s[k]'hp).toNat = !(decide (48 ≤ ((s[k]'hp).toNat : Int)) && decide (((s[k]'hp).toNat : Int) ≤ 57))) := Lib.hid rfl
      obtain ⟨m, hm⟩ : ∃ m, decN (s.data.toList.take k) = m := ⟨_, rfl⟩
      rw [hm] at hsn r0 r1 ⊢
      have HS := Lib.hid hsn
      have p0 : (0 : Int) ≤ (k : Int) := by omega
      have p1 : (k : Int) < (s.size : Int) := by omega
      clear hsn hts hmem hc0 hm
      by_cases h1 : ((s[k]'hp).toNat : Int) < 48
      · have HR : Hid (wholeRes s = .tuple #[.int .i64 0, .bool false]) := Lib.hid (by
          rw [HW.out, HBad.out (by rw [HNot.out, decide_eq_false (by omega)]; rfl)]
          simp)
        go_wp2_with fail
        exact bodyPost_ret (v := .tuple #[.int .i64 0, .bool false]) (by simp [results, Tryz.results168, go_sem]) rfl ⟨by rw [HR.out], rfl⟩
      · by_cases h2 : 57 < ((s[k]'hp).toNat : Int)
        · have HR : Hid (wholeRes s = .tuple #[.int .i64 0, .bool false]) := Lib.hid (by
            rw [HW.out, HBad.out (by rw [HNot.out, decide_eq_true (show (48 : Int) ≤ _ by omega), decide_eq_false (by omega)]; rfl)]
            simp)
          go_wp2_with fail
          exact bodyPost_ret (v := .tuple #[.int .i64 0, .bool false]) (by simp [results, Tryz.results168, go_sem]) rfl ⟨by rw [HR.out], rfl⟩
        · have HN := Lib.hid (HNd.out (by rw [HNot.out, decide_eq_true (show (48 : Int) ≤ _ by omega), decide_eq_true (show _ ≤ (57 : Int) by omega)]; rfl))
          have ww1 : IntKind.i64.wrap (10 * m) = 10 * m := Go.IntWalk.i64_in _ (by omega)
          have ww2 : IntKind.u8.wrap (((s[k]'hp).toNat : Int) - 48) = ((s[k]'hp).toNat : Int) - 48 := by
            rw [show IntKind.u8.wrap (((s[k]'hp).toNat : Int) - 48) = (((s[k]'hp).toNat : Int) - 48) % 256 by simp [IntKind.wrap, IntKind.bits, IntKind.signed]]
            omega
          have ww3 : IntKind.i64.wrap (((s[k]'hp).toNat : Int) - 48) = ((s[k]'hp).toNat : Int) - 48 := Go.IntWalk.i64_in _ (by omega)
          have ww4 : IntKind.i64.wrap (10 * m + (((s[k]'hp).toNat : Int) - 48)) = 10 * m + (((s[k]'hp).toNat : Int) - 48) := Go.IntWalk.i64_in _ (by omega)
          by_cases hbig : 1000000 < 10 * m + (((s[k]'hp).toNat : Int) - 48)
          · have HS2 : Hid (decN (s.data.toList.take (k + 1)) = 1000000) := Lib.hid (by rw [HS.out]; omega)
            go_wp2_with fail
            go_round
            case rel => exact ⟨k + 1, by omega, by go_num, by rw [HS2.out], HN⟩
            case measure => simp [intOf]; omega
          · have HS2 : Hid (decN (s.data.toList.take (k + 1)) = 10 * m + (((s[k]'hp).toNat : Int) - 48)) := Lib.hid (by rw [HS.out]; omega)
            go_wp2_with fail
            go_round
            case rel => exact ⟨k + 1, by omega, by go_num, by rw [HS2.out], HN⟩
            case measure => simp [intOf]; omega
    · have hke : k = s.size := by omega
      have hA : anyBad s = false := by
        have := HA.out
        rw [List.take_of_length_le (by omega)] at this
        exact this
      rw [List.take_of_length_le (show s.data.toList.length ≤ k by omega)] at r0 r1 ⊢
      by_cases hz : s.size = 0
      · have HR : Hid (wholeRes s = .tuple #[.int .i64 0, .bool false]) := Lib.hid (by rw [HW.out, noStr_of hz, eqB_self]; rfl)
        have hm0 : decN s.data.toList = 0 := by rw [noStr_of hz]; rfl
        rw [hm0]
        obtain rfl : k = 0 := by omega
        clear hm0 hke hk hdl r0 r1 hp HA hA HW
        go_wp2_with fail
        exact bodyPost_ret (v := .tuple #[.int .i64 0, .bool false]) (by simp [results, Tryz.results168, go_sem]) rfl ⟨by rw [HR.out], rfl⟩
      · have HR : Hid (wholeRes s = .tuple #[.int .i64 (decN s.data.toList), .bool true]) := Lib.hid (by rw [HW.out, not_noStr (by omega), hA]; rfl)
        obtain ⟨m, hm⟩ : ∃ m, decN s.data.toList = m := ⟨_, rfl⟩
        rw [hm] at HR r0 r1 ⊢
        have p3 : 0 < s.size := by omega
        subst hke
        clear hz hA hm hp hk HA HW
        go_wp2_with fail
        exact bodyPost_ret (v := .tuple #[.int .i64 (m), .bool true]) (by simp [results, Tryz.results168, go_sem]) rfl ⟨by rw [HR.out], rfl⟩
        all_goals exact p3
end Go.Proofs.YtpadcjcoafidgaaGreatDoor
/-! gouacheref02.Whole (any text), Int; gouacheref01.Digit, Hex. -/
namespace Go.Proofs.YtpadcjcoafidgaaGreatDoor
open Go.RowKit

theorem whole_zero (s : ByteArray) (w : World) (h0 : s.size = 0) :
    Calls Tryz.prog 168 #[.string s] w fun e w' => e = .returned (wholeRes s) ∧ w' = w := by
  obtain rfl := noStr_of h0
  have HR : Hid (wholeRes noStr = .tuple #[.int .i64 0, .bool false]) := Lib.hid rfl
  have hz : noStr.size = 0 := rfl
  go_enter Tryz.func168, Tryz.ntmps168
  go_wp2_with fail
  go_loop [5, 6] (fun nv iv => nv = .int .i64 0 ∧ iv = .int .i64 0) (fun _ _ => 0)
  case atStart => exact ⟨rfl, rfl⟩
  case round =>
    obtain ⟨rfl, rfl⟩ := hrel
    go_wp2_with fail
    exact bodyPost_ret (v := .tuple #[.int .i64 0, .bool false]) (by simp [results, Tryz.results168, go_sem]) rfl ⟨by rw [HR.out], rfl⟩
theorem whole_any (s : ByteArray) (hs : s.size ≤ 4294967295) (w : World) :
    Calls Tryz.prog 168 #[.string s] w fun e w' => e = .returned (wholeRes s) ∧ w' = w := by
  by_cases h0 : 0 < s.size
  · cases hc : ((s[0].toNat : Int) == 45) with
    | true => exact whole_minus s hs w h0 hc
    | false =>
      cases hc2 : ((s[0].toNat : Int) == 43) with
      | true => exact whole_plus s hs w h0 hc hc2
      | false => exact whole_plain s hs w h0 hc hc2
  · exact whole_zero s w (by omega)
theorem intOk_whole (x : Tok) (h : (x.wh && decide (10 ≤ x.k) && decide (x.k ≤ 12)) = true) : intRes x = wholeRes x.t := by
  have e : intOk x = wholeOk x.t := by
    unfold intOk wholeOk
    rw [h, Bool.true_and]
  unfold intRes wholeRes
  rw [e]
set_option maxHeartbeats 1000000 in
theorem RefInt_any (x : Tok) (hx : x.t.size ≤ 4294967295) (w : World) :
    Calls Tryz.prog 146 #[.agg #[.int .i64 x.k, .string x.t, .string x.u, .bool x.wh, .bool x.fl]] w fun e w' => e = .returned (intRes x) ∧ Below w.heap.size w w' := by
  obtain ⟨k, t, u, wh, fl⟩ := x
  have HBX : Below w.heap.size w (w.alloc (Obj.cells #[Value.int IntKind.i64 k, Value.string t, Value.string u, Value.bool wh, Value.bool fl] 23)) := bAlloc1 w _
  cases wh with
  | false =>
    have HR : Hid (intRes ⟨k, t, u, false, fl⟩ = .tuple #[.int .i64 0, .bool false]) := Lib.hid (intRes_no (by unfold intOk; rfl))
    go_enter Tryz.func146, Tryz.ntmps146
    go_wp2_with fail
    exact bodyPost_ret (v := .tuple #[.int .i64 0, .bool false]) (by simp [results, Tryz.results146, go_sem]) rfl ⟨by rw [HR.out], HBX⟩
  | true =>
    have HW := fun W => whole_any t hx W
    by_cases h10 : k = 10
    · have HR : Hid (intRes ⟨k, t, u, true, fl⟩ = wholeRes t) := Lib.hid (intOk_whole _ (by rw [h10]; rfl))
      subst h10
      go_enter Tryz.func146, Tryz.ntmps146
      go_wp2_with fail
      refine (HW _).mono ?_
      rintro e w1 ⟨rfl, rfl⟩
      have HV : Hid (wholeRes t = .tuple #[.int .i64 (if wholeOk t = true then intVal t else 0), .bool (wholeOk t)]) := Lib.hid rfl
      rw [HV.out] at HR ⊢
      obtain ⟨m, hm⟩ : ∃ m, (if wholeOk t = true then intVal t else 0) = m := ⟨_, rfl⟩
      obtain ⟨b, hb⟩ : ∃ b, wholeOk t = b := ⟨_, rfl⟩
      rw [hm, hb] at HR ⊢
      clear hm hb HV HW
      go_wp2_with fail
      exact bodyPost_ret (v := .tuple #[.int .i64 m, .bool b]) (by simp [results, Tryz.results146, go_sem]) rfl ⟨by rw [HR.out], HBX⟩
    · by_cases h11 : k = 11
      · have HR : Hid (intRes ⟨k, t, u, true, fl⟩ = wholeRes t) := Lib.hid (intOk_whole _ (by rw [h11]; rfl))
        subst h11
        go_enter Tryz.func146, Tryz.ntmps146
        go_wp2_with fail
        refine (HW _).mono ?_
        rintro e w1 ⟨rfl, rfl⟩
        have HV : Hid (wholeRes t = .tuple #[.int .i64 (if wholeOk t = true then intVal t else 0), .bool (wholeOk t)]) := Lib.hid rfl
        rw [HV.out] at HR ⊢
        obtain ⟨m, hm⟩ : ∃ m, (if wholeOk t = true then intVal t else 0) = m := ⟨_, rfl⟩
        obtain ⟨b, hb⟩ : ∃ b, wholeOk t = b := ⟨_, rfl⟩
        rw [hm, hb] at HR ⊢
        clear hm hb HV HW
        go_wp2_with fail
        exact bodyPost_ret (v := .tuple #[.int .i64 m, .bool b]) (by simp [results, Tryz.results146, go_sem]) rfl ⟨by rw [HR.out], HBX⟩
      · by_cases h12 : k = 12
        · have HR : Hid (intRes ⟨k, t, u, true, fl⟩ = wholeRes t) := Lib.hid (intOk_whole _ (by rw [h12]; rfl))
          subst h12
          go_enter Tryz.func146, Tryz.ntmps146
          go_wp2_with fail
          refine (HW _).mono ?_
          rintro e w1 ⟨rfl, rfl⟩
          have HV : Hid (wholeRes t = .tuple #[.int .i64 (if wholeOk t = true then intVal t else 0), .bool (wholeOk t)]) := Lib.hid rfl
          rw [HV.out] at HR ⊢
          obtain ⟨m, hm⟩ : ∃ m, (if wholeOk t = true then intVal t else 0) = m := ⟨_, rfl⟩
          obtain ⟨b, hb⟩ : ∃ b, wholeOk t = b := ⟨_, rfl⟩
          rw [hm, hb] at HR ⊢
          clear hm hb HV HW
          go_wp2_with fail
          exact bodyPost_ret (v := .tuple #[.int .i64 m, .bool b]) (by simp [results, Tryz.results146, go_sem]) rfl ⟨by rw [HR.out], HBX⟩
        · have HR : Hid (intRes ⟨k, t, u, true, fl⟩ = .tuple #[.int .i64 0, .bool false]) := Lib.hid (intRes_no (by
            have : (decide (10 ≤ k) && decide (k ≤ 12)) = false := by simp; omega
            unfold intOk
            simp only [Bool.true_and]
            rw [this]
            rfl))
          have e10 : (k != 10) = true := by simp [h10]
          have e11 : (k != 11) = true := by simp [h11]
          have e12 : (k != 12) = true := by simp [h12]
          clear HW
          go_enter Tryz.func146, Tryz.ntmps146
          go_wp2_with fail
          exact bodyPost_ret (v := .tuple #[.int .i64 0, .bool false]) (by simp [results, Tryz.results146, go_sem]) rfl ⟨by rw [HR.out], HBX⟩
theorem RefDigit_any (r : Nat) (w : World) : Calls Tryz.prog 185 #[.int .i32 (r : Int)] w fun e w' => e = .returned (.bool (isIn 48 57 (r : Int))) ∧ w' = w := by
  by_cases h1 : 48 ≤ (r : Int)
  · by_cases h2 : (r : Int) ≤ 57
    · have HR : Hid (isIn 48 57 (r : Int) = true) := Lib.hid (by unfold isIn; simp [h1, h2])
      go_enter Tryz.func185, Tryz.ntmps185
      go_wp2_with fail
      go_ret
      exact ⟨by rw [HR.out]; rfl, rfl⟩
    · have HR : Hid (isIn 48 57 (r : Int) = false) := Lib.hid (by unfold isIn; simp [h1, h2])
      go_enter Tryz.func185, Tryz.ntmps185
      go_wp2_with fail
      go_ret
      exact ⟨by rw [HR.out]; rfl, rfl⟩
  · have HR : Hid (isIn 48 57 (r : Int) = false) := Lib.hid (by unfold isIn; simp [h1])
    go_enter Tryz.func185, Tryz.ntmps185
    go_wp2_with fail
    go_ret
    exact ⟨by rw [HR.out]; rfl, rfl⟩
theorem RefHex_any (r : Nat) (hr : r < 256) (w : World) :
    Calls Tryz.prog 170 #[.int .i32 (r : Int)] w fun e w' => (∃ n : Int, e = .returned (.int .i64 n) ∧ decide (n < 0) = notHex r) ∧ w' = w := by
  cases hd : isIn 48 57 (r : Int) with
  | true =>
    have HN : Hid (notHex r = false) := Lib.hid (by unfold notHex isHex; rw [hd]; rfl)
    have hx' : 48 ≤ (r : Int) ∧ (r : Int) ≤ 57 := by simpa [isIn] using hd
    have ww1 : IntKind.i64.wrap ((r : Int) - 48) = (r : Int) - 48 := Go.IntWalk.i64_in _ (by omega)
    have ww2 : IntKind.i32.wrap ((r : Int) - 48) = (r : Int) - 48 := Go.IntWalk.i32_in _ (by omega)
    go_enter Tryz.func170, Tryz.ntmps170
    go_wp2_with fail
    refine (RefDigit_any r w).mono ?_
    rintro e w1 ⟨rfl, rfl⟩
    rw [hd]
    clear hd
    go_wp2_with fail
    go_ret
    exact ⟨⟨_, rfl, by rw [HN.out]; exact decide_eq_false (by omega)⟩, rfl⟩
  | false =>
    by_cases ha : 97 ≤ (r : Int) ∧ (r : Int) ≤ 102
    · have HN : Hid (notHex r = false) := Lib.hid (by unfold notHex isHex isIn; simp [ha.1, ha.2])
      obtain ⟨h1, h2⟩ := ha
      have ww1 : IntKind.i64.wrap ((r : Int) - 97) = (r : Int) - 97 := Go.IntWalk.i64_in _ (by omega)
      have ww2 : IntKind.i32.wrap ((r : Int) - 97) = (r : Int) - 97 := Go.IntWalk.i32_in _ (by omega)
      have ww3 : IntKind.i64.wrap ((r : Int) - 97 + 10) = (r : Int) - 97 + 10 := Go.IntWalk.i64_in _ (by omega)
      go_enter Tryz.func170, Tryz.ntmps170
      go_wp2_with fail
      refine (RefDigit_any r w).mono ?_
      rintro e w1 ⟨rfl, rfl⟩
      rw [hd]
      clear hd
      go_wp2_with fail
      go_ret
      exact ⟨⟨_, rfl, by rw [HN.out]; exact decide_eq_false (by omega)⟩, rfl⟩
    · have HA : Hid (¬ (97 ≤ (r : Int) ∧ (r : Int) ≤ 102)) := Lib.hid ha
      clear ha
      by_cases hb : 65 ≤ (r : Int) ∧ (r : Int) ≤ 70
      · have HN : Hid (notHex r = false) := Lib.hid (by unfold notHex isHex isIn; simp [hb.1, hb.2])
        obtain ⟨h1, h2⟩ := hb
        have h3 : ¬ 97 ≤ (r : Int) := by omega
        have ww1 : IntKind.i64.wrap ((r : Int) - 65) = (r : Int) - 65 := Go.IntWalk.i64_in _ (by omega)
        have ww2 : IntKind.i32.wrap ((r : Int) - 65) = (r : Int) - 65 := Go.IntWalk.i32_in _ (by omega)
        have ww3 : IntKind.i64.wrap ((r : Int) - 65 + 10) = (r : Int) - 65 + 10 := Go.IntWalk.i64_in _ (by omega)
        go_enter Tryz.func170, Tryz.ntmps170
        go_wp2_with fail
        refine (RefDigit_any r w).mono ?_
        rintro e w1 ⟨rfl, rfl⟩
        rw [hd]
        clear hd
        go_wp2_with fail
        go_ret
        exact ⟨⟨_, rfl, by rw [HN.out]; exact decide_eq_false (by omega)⟩, rfl⟩
      · have HN : Hid (notHex r = true) := Lib.hid (by
          have e1 : isIn 97 102 (r : Int) = false := by unfold isIn; rw [← Bool.decide_and]; exact decide_eq_false HA.out
          have e2 : isIn 65 70 (r : Int) = false := by unfold isIn; rw [← Bool.decide_and]; exact decide_eq_false hb
          unfold notHex isHex
          rw [hd, e1, e2]
          rfl)
        obtain ⟨p, hp⟩ : ∃ p : Bool, decide ((r : Int) ≤ 102) = p := ⟨_, rfl⟩
        by_cases h1 : 97 ≤ (r : Int)
        · have h2 : ¬ (r : Int) ≤ 102 := fun h => HA.out ⟨h1, h⟩
          have h3 : 65 ≤ (r : Int) := by omega
          have h4 : ¬ (r : Int) ≤ 70 := by omega
          clear hb hp
          go_enter Tryz.func170, Tryz.ntmps170
          go_wp2_with fail
          refine (RefDigit_any r w).mono ?_
          rintro e w1 ⟨rfl, rfl⟩
          rw [hd]
          clear hd
          go_wp2_with fail
          go_ret
          exact ⟨⟨_, rfl, by rw [HN.out]; rfl⟩, rfl⟩
        · by_cases h3 : 65 ≤ (r : Int)
          · have h4 : ¬ (r : Int) ≤ 70 := fun h => hb ⟨h3, h⟩
            clear hb hp
            go_enter Tryz.func170, Tryz.ntmps170
            go_wp2_with fail
            refine (RefDigit_any r w).mono ?_
            rintro e w1 ⟨rfl, rfl⟩
            rw [hd]
            clear hd
            go_wp2_with fail
            go_ret
            exact ⟨⟨_, rfl, by rw [HN.out]; rfl⟩, rfl⟩
          · clear hb hp
            go_enter Tryz.func170, Tryz.ntmps170
            go_wp2_with fail
            refine (RefDigit_any r w).mono ?_
            rintro e w1 ⟨rfl, rfl⟩
            rw [hd]
            clear hd
            go_wp2_with fail
            go_ret
            exact ⟨⟨_, rfl, by rw [HN.out]; rfl⟩, rfl⟩
end Go.Proofs.YtpadcjcoafidgaaGreatDoor
/-! gouacheref04.digits, Digits. -/
namespace Go.Proofs.YtpadcjcoafidgaaGreatDoor
open Go.RowKit

set_option maxRecDepth 100000 in
set_option maxHeartbeats 2000000 in
theorem refDigits_pos (u0 : Nat) (h1 : u0 ≤ 1000000) (w : World) :
    Calls Tryz.prog 169 #[.int .i64 (u0 : Int)] w fun e w' => e = .returned (.string (itoaS (u0 : Int))) ∧ w' = w := by
  have hn : ¬ (u0 : Int) < 0 := by omega
  have hc : IntKind.u64.wrap (u0 : Int) = (u0 : Int) := Go.IntWalk.u64_in _ (by omega)
  have HV : Hid (itoaS (u0 : Int) = bt (decC 20 u0)) := Lib.hid (by
    apply ByteArray.ext
    apply Array.toList_inj.1
    rw [itoaS_pos _ (by omega), decC_more u0 h1, Int.toNat_natCast]
    rfl)
  have hu0 : u0 < 10 ^ 20 := by omega
  go_enter Tryz.func169, Tryz.ntmps169
  go_wp2_with fail
  go_loopw [3, 5] (fun nv sv wr => ∃ (u f : Nat) (acc : List UInt8), nv = .int .u64 (u : Int) ∧ sv = .string (bt acc) ∧ (u : Int) ≤ 1000000 ∧ Hid (decC (f + 1) u ++ acc = decC 20 u0) ∧ u < 10 ^ (f + 1) ∧ acc.length ≤ 20 - f ∧ f ≤ 19 ∧ wr = w)
    (fun nv _ _ => (intOf nv).toNat)
  case atStart => exact ⟨u0, 19, [], rfl, rfl, by omega, Lib.hid (by simp), hu0, by simp, by omega, rfl⟩
  case round =>
    obtain ⟨u, f, acc, rfl, rfl, hu, HD, hlt, hal, hf, hwr⟩ := hrel
    subst hwr
    obtain ⟨k, hk⟩ : ∃ k : Nat, u % 10 = k := ⟨_, rfl⟩
    have hk10 : k < 10 := by omega
    have hte : (⟨#[48, 49, 50, 51, 52, 53, 54, 55, 56, 57]⟩ : ByteArray).extract k (k + 1) ++ bt acc = bt (UInt8.ofNat (48 + k) :: acc) := by
      rw [show (⟨#[48, 49, 50, 51, 52, 53, 54, 55, 56, 57]⟩ : ByteArray).extract k (k + 1) = bt [UInt8.ofNat (48 + k)] from ten_extract k hk10, bt_app]
      rfl
    have HTE := Lib.hid hte
    clear hte
    have r7 : IntKind.u64.wrap ((k : Int) + 1) = (k : Int) + 1 := Go.IntWalk.u64_in _ (by omega)
    have r8 : IntKind.u64.wrap (k : Int) = (k : Int) := Go.IntWalk.u64_in _ (by omega)
    have r9 : (u : Int) % 10 = (k : Int) := by omega
    have r3 : Int.tmod (u : Int) 10 = (k : Int) := by rw [Int.tmod_eq_emod_of_nonneg (by omega)]; omega
    have r4 : Int.tdiv (u : Int) 10 = ((u / 10 : Nat) : Int) := by rw [Int.tdiv_eq_ediv_of_nonneg (by omega)]; omega
    have r5 : IntKind.u64.wrap (Int.tdiv (u : Int) 10) = ((u / 10 : Nat) : Int) := by rw [r4]; exact Go.IntWalk.u64_in _ (by omega)
    have r6 : IntKind.u64.wrap ((u : Int) / 10) = ((u / 10 : Nat) : Int) := by rw [show (u : Int) / 10 = ((u / 10 : Nat) : Int) by omega]; exact Go.IntWalk.u64_in _ (by omega)
    have hbs := bt_size acc
    have z1 : (bt acc).size ≤ 100 := by omega
    clear hbs
    by_cases hd : u / 10 = 0
    · have hfin : Hid (itoaS (u0 : Int) = bt (UInt8.ofNat (48 + k) :: acc)) := Lib.hid (by
        rw [HV.out, ← HD.out, decC, if_pos (by omega), show u = k by omega]; rfl)
      rw [hd] at r4 r5 r6
      clear hd
      go_wp2_with fail
      go_ret
      exact ⟨by rw [hfin.out, ← HTE.out]; rfl, rfl⟩
    · obtain ⟨g, rfl⟩ : ∃ g, f = g + 1 := ⟨f - 1, by
        cases f with
        | zero => simp at hlt; omega
        | succ f => omega⟩
      have hnx : Hid (decC (g + 1) (u / 10) ++ UInt8.ofNat (48 + k) :: acc = decC 20 u0) := Lib.hid (by
        have e : decC (g + 1 + 1) u = decC (g + 1) (u / 10) ++ [UInt8.ofNat (48 + k)] := by rw [decC, if_neg (by omega), hk]
        rw [← HD.out, e, List.append_assoc]; rfl)
      have hl2 : u / 10 < 10 ^ (g + 1) := by
        rw [Nat.pow_succ] at hlt
        omega
      obtain ⟨m, hm⟩ : ∃ m, u / 10 = m := ⟨_, rfl⟩
      have hmu : m < u := by omega
      rw [hm] at r4 r5 r6 hd hnx hl2
      have hd' : ¬ ((m : Nat) : Int) = 0 := by omega
      clear hm hlt
      go_wp2_with fail
      go_roundw
      case rel => exact ⟨m, g, UInt8.ofNat (48 + k) :: acc, rfl, by rw [← HTE.out], by omega, hnx, hl2, by simp; omega, by omega, trivial⟩
      case measure => simp [intOf]; omega
set_option maxRecDepth 100000 in
set_option maxHeartbeats 2000000 in
theorem refDigits_neg (u0 : Nat) (h1 : u0 ≤ 1000000) (h0 : 1 ≤ u0) (w : World) :
    Calls Tryz.prog 169 #[.int .i64 (-(u0 : Int))] w fun e w' => e = .returned (.string (itoaS (-(u0 : Int)))) ∧ w' = w := by
  have hn : -(u0 : Int) < 0 := by omega
  have hc0 : IntKind.u64.wrap (-(u0 : Int)) = 18446744073709551616 - (u0 : Int) := by
    rw [show IntKind.u64.wrap (-(u0 : Int)) = (-(u0 : Int)) % 18446744073709551616 by simp [IntKind.wrap, IntKind.bits, IntKind.signed]]
    omega
  have hc1 : IntKind.u64.wrap (-(18446744073709551616 - (u0 : Int))) = (u0 : Int) := by
    rw [show IntKind.u64.wrap (-(18446744073709551616 - (u0 : Int))) = (-(18446744073709551616 - (u0 : Int))) % 18446744073709551616 by simp [IntKind.wrap, IntKind.bits, IntKind.signed]]
    omega
  obtain ⟨X, hX⟩ : ∃ X, 18446744073709551616 - (u0 : Int) = X := ⟨_, rfl⟩
  rw [hX] at hc0 hc1
  clear hX
  have HV : Hid (itoaS (-(u0 : Int)) = (⟨#[45]⟩ : ByteArray) ++ bt (decC 20 u0)) := Lib.hid (by
    apply ByteArray.ext
    apply Array.toList_inj.1
    rw [itoaS_neg hn, decC_more u0 h1, Int.natAbs_neg, Int.natAbs_natCast]
    simp [bt])
  have hu0 : u0 < 10 ^ 20 := by omega
  go_enter Tryz.func169, Tryz.ntmps169
  go_wp2_with fail
  go_loopw [3, 5] (fun nv sv wr => ∃ (u f : Nat) (acc : List UInt8), nv = .int .u64 (u : Int) ∧ sv = .string (bt acc) ∧ (u : Int) ≤ 1000000 ∧ Hid (decC (f + 1) u ++ acc = decC 20 u0) ∧ u < 10 ^ (f + 1) ∧ acc.length ≤ 20 - f ∧ f ≤ 19 ∧ wr = w)
    (fun nv _ _ => (intOf nv).toNat)
  case atStart => exact ⟨u0, 19, [], rfl, rfl, by omega, Lib.hid (by simp), hu0, by simp, by omega, rfl⟩
  case round =>
    obtain ⟨u, f, acc, rfl, rfl, hu, HD, hlt, hal, hf, hwr⟩ := hrel
    subst hwr
    obtain ⟨k, hk⟩ : ∃ k : Nat, u % 10 = k := ⟨_, rfl⟩
    have hk10 : k < 10 := by omega
    have hte : (⟨#[48, 49, 50, 51, 52, 53, 54, 55, 56, 57]⟩ : ByteArray).extract k (k + 1) ++ bt acc = bt (UInt8.ofNat (48 + k) :: acc) := by
      rw [show (⟨#[48, 49, 50, 51, 52, 53, 54, 55, 56, 57]⟩ : ByteArray).extract k (k + 1) = bt [UInt8.ofNat (48 + k)] from ten_extract k hk10, bt_app]
      rfl
    have HTE := Lib.hid hte
    clear hte
    have r7 : IntKind.u64.wrap ((k : Int) + 1) = (k : Int) + 1 := Go.IntWalk.u64_in _ (by omega)
    have r8 : IntKind.u64.wrap (k : Int) = (k : Int) := Go.IntWalk.u64_in _ (by omega)
    have r9 : (u : Int) % 10 = (k : Int) := by omega
    have r3 : Int.tmod (u : Int) 10 = (k : Int) := by rw [Int.tmod_eq_emod_of_nonneg (by omega)]; omega
    have r4 : Int.tdiv (u : Int) 10 = ((u / 10 : Nat) : Int) := by rw [Int.tdiv_eq_ediv_of_nonneg (by omega)]; omega
    have r5 : IntKind.u64.wrap (Int.tdiv (u : Int) 10) = ((u / 10 : Nat) : Int) := by rw [r4]; exact Go.IntWalk.u64_in _ (by omega)
    have r6 : IntKind.u64.wrap ((u : Int) / 10) = ((u / 10 : Nat) : Int) := by rw [show (u : Int) / 10 = ((u / 10 : Nat) : Int) by omega]; exact Go.IntWalk.u64_in _ (by omega)
    have hbs := bt_size acc
    have z1 : (bt acc).size ≤ 100 := by omega
    clear hbs
    by_cases hd : u / 10 = 0
    · have hfin : Hid (itoaS (-(u0 : Int)) = (⟨#[45]⟩ : ByteArray) ++ bt (UInt8.ofNat (48 + k) :: acc)) := Lib.hid (by
        rw [HV.out, ← HD.out, decC, if_pos (by omega), show u = k by omega]; rfl)
      rw [hd] at r4 r5 r6
      clear hd
      go_wp2_with fail
      go_ret
      exact ⟨by rw [hfin.out, ← HTE.out]; rfl, rfl⟩
    · obtain ⟨g, rfl⟩ : ∃ g, f = g + 1 := ⟨f - 1, by
        cases f with
        | zero => simp at hlt; omega
        | succ f => omega⟩
      have hnx : Hid (decC (g + 1) (u / 10) ++ UInt8.ofNat (48 + k) :: acc = decC 20 u0) := Lib.hid (by
        have e : decC (g + 1 + 1) u = decC (g + 1) (u / 10) ++ [UInt8.ofNat (48 + k)] := by rw [decC, if_neg (by omega), hk]
        rw [← HD.out, e, List.append_assoc]; rfl)
      have hl2 : u / 10 < 10 ^ (g + 1) := by
        rw [Nat.pow_succ] at hlt
        omega
      obtain ⟨m, hm⟩ : ∃ m, u / 10 = m := ⟨_, rfl⟩
      have hmu : m < u := by omega
      rw [hm] at r4 r5 r6 hd hnx hl2
      have hd' : ¬ ((m : Nat) : Int) = 0 := by omega
      clear hm hlt
      go_wp2_with fail
      go_roundw
      case rel => exact ⟨m, g, UInt8.ofNat (48 + k) :: acc, rfl, by rw [← HTE.out], by omega, hnx, hl2, by simp; omega, by omega, trivial⟩
      case measure => simp [intOf]; omega
theorem refDigits_in (n : Int) (h0 : -1000000 ≤ n) (h1 : n ≤ 1000000) (w : World) :
    Calls Tryz.prog 169 #[.int .i64 n] w fun e w' => e = .returned (.string (itoaS n)) ∧ w' = w := by
  by_cases hn : n < 0
  · obtain ⟨u, rfl⟩ : ∃ u : Nat, n = -(u : Int) := ⟨n.natAbs, by omega⟩
    exact refDigits_neg u (by omega) (by omega) w
  · obtain ⟨u, rfl⟩ : ∃ u : Nat, n = (u : Int) := ⟨n.toNat, by omega⟩
    exact refDigits_pos u (by omega) w
theorem RefDigits_any (n : Int) (h0 : -1000000 ≤ n) (h1 : n ≤ 1000000) (w : World) :
    Calls Tryz.prog 147 #[.int .i64 n] w fun e w' => e = .returned (.string (itoaS n)) ∧ w' = w := by
  go_enter Tryz.func147, Tryz.ntmps147
  go_wp2_with fail
  refine (refDigits_in n h0 h1 w).mono ?_
  rintro e w1 ⟨rfl, rfl⟩
  go_wp2_with fail
  go_ret
  exact ⟨rfl, rfl⟩
end Go.Proofs.YtpadcjcoafidgaaGreatDoor
/-! gouacheref15.Color. -/
namespace Go.Proofs.YtpadcjcoafidgaaGreatDoor
open Go.RowKit

def colOut (d : Bool) (l : List UInt8) : List UInt8 := l.flatMap (fun b => if d = true then [b, b] else [b])
theorem colOut_snoc (d : Bool) (l : List UInt8) (b : UInt8) : colOut d (l ++ [b]) = colOut d l ++ (if d = true then [b, b] else [b]) := by
  unfold colOut
  rw [List.flatMap_append]
  simp
theorem colOut_len (d : Bool) (l : List UInt8) : (colOut d l).length ≤ 2 * l.length := by
  induction l with
  | nil => exact Nat.le_refl _
  | cons a l ih =>
    unfold colOut at ih ⊢
    rw [List.flatMap_cons, List.length_append, List.length_cons]
    cases d <;> simp at ih ⊢ <;> omega
theorem colOut_false (l : List UInt8) : colOut false l = l := by
  unfold colOut
  induction l with
  | nil => rfl
  | cons a l ih => rw [List.flatMap_cons, ih]; rfl
theorem hashS_out (z : ByteArray) : hashS z = bt (35 :: colOut false z.data.toList) := by rw [colOut_false]; rfl
theorem hash6_out (z : ByteArray) (h : z.size = 3) : hash6 z = bt (35 :: colOut true z.data.toList) := by
  have hl : z.data.toList.length = 3 := by rw [Array.length_toList]; exact h
  unfold hash6 bt
  match hz : z.data.toList, hl with
  | [a, b, c], _ => rfl
theorem extract_byte (z : ByteArray) (k : Nat) (h : k < z.size) : z.extract k (k + 1) = bt [z[k]] := by
  apply bytes_ext
  have hl : z.data.toList.length = z.size := by rw [Array.length_toList]; rfl
  have h0 : z.data.toList[k]'(by omega) = z[k] := by rw [Array.getElem_toList]; rfl
  rw [Lib.extract_toList, Nat.add_sub_cancel_left, List.drop_eq_getElem_cons (by omega), h0, ByteArray.toList_eq]
  rfl
theorem out_one (d : Bool) (z : ByteArray) (k : Nat) (h : k < z.size) (hd : d = false) :
    bt (35 :: colOut d (z.data.toList.take k)) ++ z.extract k (k + 1) = bt (35 :: colOut d (z.data.toList.take (k + 1))) := by
  have hl : z.data.toList.length = z.size := by rw [Array.length_toList]; rfl
  have h0 : z.data.toList[k]'(by omega) = z[k] := by rw [Array.getElem_toList]; rfl
  rw [extract_byte z k h, bt_app, List.take_succ_eq_append_getElem (by omega), colOut_snoc, h0, hd]
  rfl
theorem out_two (d : Bool) (z : ByteArray) (k : Nat) (h : k < z.size) (hd : d = true) :
    bt (35 :: colOut d (z.data.toList.take k)) ++ z.extract k (k + 1) ++ z.extract k (k + 1) = bt (35 :: colOut d (z.data.toList.take (k + 1))) := by
  have hl : z.data.toList.length = z.size := by rw [Array.length_toList]; rfl
  have h0 : z.data.toList[k]'(by omega) = z[k] := by rw [Array.getElem_toList]; rfl
  rw [extract_byte z k h, bt_app, bt_app, List.take_succ_eq_append_getElem (by omega), colOut_snoc, h0, hd, List.append_assoc]
  rfl
theorem colIx_lits {z : ByteArray} (h : colIx z = none) : (z.toList == [98, 108, 97, 99, 107]) = false ∧ (z.toList == [119, 104, 105, 116, 101]) = false ∧ (z.toList == [114, 101, 100]) = false ∧ (z.toList == [103, 114, 101, 101, 110]) = false ∧ (z.toList == [98, 108, 117, 101]) = false ∧ (z.toList == [103, 114, 97, 121]) = false ∧ (z.toList == [121, 101, 108, 108, 111, 119]) = false ∧ (z.toList == [112, 117, 114, 112, 108, 101]) = false := by
  unfold colIx at h
  rw [List.findIdx?_eq_none_iff] at h
  have e : ∀ (i : Nat) (hi : i < colourTbl.length), eqB z colourTbl[i].1 = false := fun i hi => by
    have := h _ (List.getElem_mem hi)
    cases hq : eqB z colourTbl[i].1 with
    | false => rfl
    | true =>
      rw [(eqB_iff _ _).1 hq] at this
      rw [eqB_self] at this
      exact absurd this (by decide)
  exact ⟨(toList_lit z _ _ rfl).trans (e 0 (by decide)), (toList_lit z _ _ rfl).trans (e 1 (by decide)), (toList_lit z _ _ rfl).trans (e 2 (by decide)), (toList_lit z _ _ rfl).trans (e 3 (by decide)), (toList_lit z _ _ rfl).trans (e 4 (by decide)), (toList_lit z _ _ rfl).trans (e 5 (by decide)), (toList_lit z _ _ rfl).trans (e 6 (by decide)), (toList_lit z _ _ rfl).trans (e 7 (by decide))⟩
theorem colIx_name {s : ByteArray} {k : Nat} (h : colIx s = some k) : s = (colourAt k).1 := by
  unfold colIx at h
  rw [List.findIdx?_eq_some_iff_getElem] at h
  obtain ⟨hk, he, -⟩ := h
  have := (eqB_iff _ _).1 he
  rw [← this]
  unfold colourAt
  rw [List.getElem?_eq_getElem hk]
  rfl
set_option maxHeartbeats 1000000 in
theorem refColor_0 (w : World) (x : Val) (hx : x.fits) (h1 : x.tok.k = 1) (hc : colIx (fold x.tok.t) = some 0) :
    Calls Tryz.prog 148 #[.agg #[.int .i64 x.tok.k, .string x.tok.t, .string x.tok.u, .bool x.tok.wh, .bool x.tok.fl, .slice x.ka x.kn x.kc]] w fun e w' => e = .returned (resS (colorS x.tok)) ∧ Below w.heap.size w w' := by
  have HW : Hid (resS (colorS x.tok) = .tuple #[.string ⟨#[35, 48, 48, 48, 48, 48, 48]⟩, .bool true]) := Lib.hid (by unfold colorS; rw [if_pos h1, hc]; rfl)
  have hz : identS x = ⟨#[98, 108, 97, 99, 107]⟩ := (if_pos h1).trans (colIx_name hc)
  clear hc
  go_enter Tryz.func148, Tryz.ntmps148
  go_wp2_with fail
  rw [← h1]
  refine (refIdent_any x hx _).mono ?_
  rintro e w1 ⟨rfl, hb1⟩
  rw [hz]
  have hB1 := bNext (bAlloc1 _ _) hb1
  clear hz hb1
  go_wp2_with fail
  exact bodyPost_ret (v := .tuple #[.string ⟨#[35, 48, 48, 48, 48, 48, 48]⟩, .bool true]) (by simp [results, Tryz.results148, go_sem]) rfl ⟨by rw [HW.out], hB1⟩
set_option maxHeartbeats 1000000 in
theorem refColor_1 (w : World) (x : Val) (hx : x.fits) (h1 : x.tok.k = 1) (hc : colIx (fold x.tok.t) = some 1) :
    Calls Tryz.prog 148 #[.agg #[.int .i64 x.tok.k, .string x.tok.t, .string x.tok.u, .bool x.tok.wh, .bool x.tok.fl, .slice x.ka x.kn x.kc]] w fun e w' => e = .returned (resS (colorS x.tok)) ∧ Below w.heap.size w w' := by
  have HW : Hid (resS (colorS x.tok) = .tuple #[.string ⟨#[35, 102, 102, 102, 102, 102, 102]⟩, .bool true]) := Lib.hid (by unfold colorS; rw [if_pos h1, hc]; rfl)
  have hz : identS x = ⟨#[119, 104, 105, 116, 101]⟩ := (if_pos h1).trans (colIx_name hc)
  clear hc
  go_enter Tryz.func148, Tryz.ntmps148
  go_wp2_with fail
  rw [← h1]
  refine (refIdent_any x hx _).mono ?_
  rintro e w1 ⟨rfl, hb1⟩
  rw [hz]
  have hB1 := bNext (bAlloc1 _ _) hb1
  clear hz hb1
  go_wp2_with fail
  exact bodyPost_ret (v := .tuple #[.string ⟨#[35, 102, 102, 102, 102, 102, 102]⟩, .bool true]) (by simp [results, Tryz.results148, go_sem]) rfl ⟨by rw [HW.out], hB1⟩
set_option maxHeartbeats 1000000 in
theorem refColor_2 (w : World) (x : Val) (hx : x.fits) (h1 : x.tok.k = 1) (hc : colIx (fold x.tok.t) = some 2) :
    Calls Tryz.prog 148 #[.agg #[.int .i64 x.tok.k, .string x.tok.t, .string x.tok.u, .bool x.tok.wh, .bool x.tok.fl, .slice x.ka x.kn x.kc]] w fun e w' => e = .returned (resS (colorS x.tok)) ∧ Below w.heap.size w w' := by
  have HW : Hid (resS (colorS x.tok) = .tuple #[.string ⟨#[35, 102, 102, 48, 48, 48, 48]⟩, .bool true]) := Lib.hid (by unfold colorS; rw [if_pos h1, hc]; rfl)
  have hz : identS x = ⟨#[114, 101, 100]⟩ := (if_pos h1).trans (colIx_name hc)
  clear hc
  go_enter Tryz.func148, Tryz.ntmps148
  go_wp2_with fail
  rw [← h1]
  refine (refIdent_any x hx _).mono ?_
  rintro e w1 ⟨rfl, hb1⟩
  rw [hz]
  have hB1 := bNext (bAlloc1 _ _) hb1
  clear hz hb1
  go_wp2_with fail
  exact bodyPost_ret (v := .tuple #[.string ⟨#[35, 102, 102, 48, 48, 48, 48]⟩, .bool true]) (by simp [results, Tryz.results148, go_sem]) rfl ⟨by rw [HW.out], hB1⟩
set_option maxHeartbeats 1000000 in
theorem refColor_3 (w : World) (x : Val) (hx : x.fits) (h1 : x.tok.k = 1) (hc : colIx (fold x.tok.t) = some 3) :
    Calls Tryz.prog 148 #[.agg #[.int .i64 x.tok.k, .string x.tok.t, .string x.tok.u, .bool x.tok.wh, .bool x.tok.fl, .slice x.ka x.kn x.kc]] w fun e w' => e = .returned (resS (colorS x.tok)) ∧ Below w.heap.size w w' := by
  have HW : Hid (resS (colorS x.tok) = .tuple #[.string ⟨#[35, 48, 48, 56, 48, 48, 48]⟩, .bool true]) := Lib.hid (by unfold colorS; rw [if_pos h1, hc]; rfl)
  have hz : identS x = ⟨#[103, 114, 101, 101, 110]⟩ := (if_pos h1).trans (colIx_name hc)
  clear hc
  go_enter Tryz.func148, Tryz.ntmps148
  go_wp2_with fail
  rw [← h1]
  refine (refIdent_any x hx _).mono ?_
  rintro e w1 ⟨rfl, hb1⟩
  rw [hz]
  have hB1 := bNext (bAlloc1 _ _) hb1
  clear hz hb1
  go_wp2_with fail
  exact bodyPost_ret (v := .tuple #[.string ⟨#[35, 48, 48, 56, 48, 48, 48]⟩, .bool true]) (by simp [results, Tryz.results148, go_sem]) rfl ⟨by rw [HW.out], hB1⟩
set_option maxHeartbeats 1000000 in
theorem refColor_4 (w : World) (x : Val) (hx : x.fits) (h1 : x.tok.k = 1) (hc : colIx (fold x.tok.t) = some 4) :
    Calls Tryz.prog 148 #[.agg #[.int .i64 x.tok.k, .string x.tok.t, .string x.tok.u, .bool x.tok.wh, .bool x.tok.fl, .slice x.ka x.kn x.kc]] w fun e w' => e = .returned (resS (colorS x.tok)) ∧ Below w.heap.size w w' := by
  have HW : Hid (resS (colorS x.tok) = .tuple #[.string ⟨#[35, 48, 48, 48, 48, 102, 102]⟩, .bool true]) := Lib.hid (by unfold colorS; rw [if_pos h1, hc]; rfl)
  have hz : identS x = ⟨#[98, 108, 117, 101]⟩ := (if_pos h1).trans (colIx_name hc)
  clear hc
  go_enter Tryz.func148, Tryz.ntmps148
  go_wp2_with fail
  rw [← h1]
  refine (refIdent_any x hx _).mono ?_
  rintro e w1 ⟨rfl, hb1⟩
  rw [hz]
  have hB1 := bNext (bAlloc1 _ _) hb1
  clear hz hb1
  go_wp2_with fail
  exact bodyPost_ret (v := .tuple #[.string ⟨#[35, 48, 48, 48, 48, 102, 102]⟩, .bool true]) (by simp [results, Tryz.results148, go_sem]) rfl ⟨by rw [HW.out], hB1⟩
set_option maxHeartbeats 1000000 in
theorem refColor_5 (w : World) (x : Val) (hx : x.fits) (h1 : x.tok.k = 1) (hc : colIx (fold x.tok.t) = some 5) :
    Calls Tryz.prog 148 #[.agg #[.int .i64 x.tok.k, .string x.tok.t, .string x.tok.u, .bool x.tok.wh, .bool x.tok.fl, .slice x.ka x.kn x.kc]] w fun e w' => e = .returned (resS (colorS x.tok)) ∧ Below w.heap.size w w' := by
  have HW : Hid (resS (colorS x.tok) = .tuple #[.string ⟨#[35, 56, 48, 56, 48, 56, 48]⟩, .bool true]) := Lib.hid (by unfold colorS; rw [if_pos h1, hc]; rfl)
  have hz : identS x = ⟨#[103, 114, 97, 121]⟩ := (if_pos h1).trans (colIx_name hc)
  clear hc
  go_enter Tryz.func148, Tryz.ntmps148
  go_wp2_with fail
  rw [← h1]
  refine (refIdent_any x hx _).mono ?_
  rintro e w1 ⟨rfl, hb1⟩
  rw [hz]
  have hB1 := bNext (bAlloc1 _ _) hb1
  clear hz hb1
  go_wp2_with fail
  exact bodyPost_ret (v := .tuple #[.string ⟨#[35, 56, 48, 56, 48, 56, 48]⟩, .bool true]) (by simp [results, Tryz.results148, go_sem]) rfl ⟨by rw [HW.out], hB1⟩
set_option maxHeartbeats 1000000 in
theorem refColor_6 (w : World) (x : Val) (hx : x.fits) (h1 : x.tok.k = 1) (hc : colIx (fold x.tok.t) = some 6) :
    Calls Tryz.prog 148 #[.agg #[.int .i64 x.tok.k, .string x.tok.t, .string x.tok.u, .bool x.tok.wh, .bool x.tok.fl, .slice x.ka x.kn x.kc]] w fun e w' => e = .returned (resS (colorS x.tok)) ∧ Below w.heap.size w w' := by
  have HW : Hid (resS (colorS x.tok) = .tuple #[.string ⟨#[35, 102, 102, 102, 102, 48, 48]⟩, .bool true]) := Lib.hid (by unfold colorS; rw [if_pos h1, hc]; rfl)
  have hz : identS x = ⟨#[121, 101, 108, 108, 111, 119]⟩ := (if_pos h1).trans (colIx_name hc)
  clear hc
  go_enter Tryz.func148, Tryz.ntmps148
  go_wp2_with fail
  rw [← h1]
  refine (refIdent_any x hx _).mono ?_
  rintro e w1 ⟨rfl, hb1⟩
  rw [hz]
  have hB1 := bNext (bAlloc1 _ _) hb1
  clear hz hb1
  go_wp2_with fail
  exact bodyPost_ret (v := .tuple #[.string ⟨#[35, 102, 102, 102, 102, 48, 48]⟩, .bool true]) (by simp [results, Tryz.results148, go_sem]) rfl ⟨by rw [HW.out], hB1⟩
set_option maxHeartbeats 1000000 in
theorem refColor_7 (w : World) (x : Val) (hx : x.fits) (h1 : x.tok.k = 1) (hc : colIx (fold x.tok.t) = some 7) :
    Calls Tryz.prog 148 #[.agg #[.int .i64 x.tok.k, .string x.tok.t, .string x.tok.u, .bool x.tok.wh, .bool x.tok.fl, .slice x.ka x.kn x.kc]] w fun e w' => e = .returned (resS (colorS x.tok)) ∧ Below w.heap.size w w' := by
  have HW : Hid (resS (colorS x.tok) = .tuple #[.string ⟨#[35, 56, 48, 48, 48, 56, 48]⟩, .bool true]) := Lib.hid (by unfold colorS; rw [if_pos h1, hc]; rfl)
  have hz : identS x = ⟨#[112, 117, 114, 112, 108, 101]⟩ := (if_pos h1).trans (colIx_name hc)
  clear hc
  go_enter Tryz.func148, Tryz.ntmps148
  go_wp2_with fail
  rw [← h1]
  refine (refIdent_any x hx _).mono ?_
  rintro e w1 ⟨rfl, hb1⟩
  rw [hz]
  have hB1 := bNext (bAlloc1 _ _) hb1
  clear hz hb1
  go_wp2_with fail
  exact bodyPost_ret (v := .tuple #[.string ⟨#[35, 56, 48, 48, 48, 56, 48]⟩, .bool true]) (by simp [results, Tryz.results148, go_sem]) rfl ⟨by rw [HW.out], hB1⟩
set_option maxHeartbeats 1000000 in
theorem refColor_no (w : World) (x : Val) (hx : x.fits) (hk : x.tok.k ≠ 4) (hc : colIx (identS x) = none) (hn : colorS x.tok = none) :
    Calls Tryz.prog 148 #[.agg #[.int .i64 x.tok.k, .string x.tok.t, .string x.tok.u, .bool x.tok.wh, .bool x.tok.fl, .slice x.ka x.kn x.kc]] w fun e w' => e = .returned (resS (colorS x.tok)) ∧ Below w.heap.size w w' := by
  have HW : Hid (resS (colorS x.tok) = .tuple #[.string noStr, .bool false]) := Lib.hid (by rw [hn]; rfl)
  have HL := Lib.hid (colIx_lits hc)
  have hk' : (x.tok.k != 4) = true := by simpa using hk
  have hf := hx.1
  clear hn hc
  go_enter Tryz.func148, Tryz.ntmps148
  go_wp2_with fail
  refine (refIdent_any x hx _).mono ?_
  rintro e w1 ⟨rfl, hb1⟩
  obtain ⟨z, hz⟩ : ∃ z, identS x = z := ⟨_, rfl⟩
  rw [hz] at HL ⊢
  obtain ⟨l0, l1, l2, l3, l4, l5, l6, l7⟩ := HL.out
  have hB1 := bNext (bAlloc1 _ _) hb1
  have hld := fun o => (hb1.cell (p := ⟨w.heap.size, o, none⟩) (by simp))
  have c0 := (hld 0).trans (show _ = some (.int .i64 x.tok.k) by simp)
  have c1 := (hld 1).trans (show _ = some (.string x.tok.t) by simp)
  clear hz hb1 hld
  go_wp2_with fail
  refine (RefFold_any _ _ hf).mono ?_
  rintro e w2 ⟨rfl, hb2⟩
  have c0' := (hb2.cell (p := ⟨w.heap.size, 0, none⟩) (World.block_lt_of_cell? w1 _ c0)).trans c0
  have hB2 := bNext hB1 hb2
  obtain ⟨s, hs⟩ : ∃ s, fold x.tok.t = s := ⟨_, rfl⟩
  rw [hs]
  clear c0 c1 hb2 hs l0 l1 l2 l3 l4 l5 l6 l7 HL hB1
  go_wp2_with fail
  exact bodyPost_ret (v := .tuple #[.string noStr, .bool false]) (by simp [results, Tryz.results148, go_sem, noStr]) rfl ⟨by rw [HW.out], hB2⟩
set_option maxHeartbeats 2000000 in
theorem refColor_hash (w : World) (x : Val) (hx : x.fits) (hk : x.tok.k = 4) :
    Calls Tryz.prog 148 #[.agg #[.int .i64 x.tok.k, .string x.tok.t, .string x.tok.u, .bool x.tok.wh, .bool x.tok.fl, .slice x.ka x.kn x.kc]] w fun e w' => e = .returned (resS (colorS x.tok)) ∧ Below w.heap.size w w' := by
  have HV : Hid (colorS x.tok = if badHex (fold x.tok.t) = true then none else if (fold x.tok.t).size = 3 then some (hash6 (fold x.tok.t)) else if (fold x.tok.t).size = 6 then some (hashS (fold x.tok.t)) else none) := Lib.hid (by unfold colorS; rw [if_neg (by omega), if_neg (by omega)])
  have hid : identS x = noStr := if_neg (by omega)
  have hf := hx.1
  have hzs : (fold x.tok.t).size ≤ 4294967295 := by rw [fold_size]; exact hx.1
  go_enter Tryz.func148, Tryz.ntmps148
  go_wp2_with fail
  rw [← hk]
  refine (refIdent_any x hx _).mono ?_
  rintro e w1 ⟨rfl, hb1⟩
  have HL := Lib.hid (colIx_lits (z := identS x) (by rw [hid]; decide +kernel))
  obtain ⟨y, hy⟩ : ∃ y, identS x = y := ⟨_, rfl⟩
  rw [hy] at HL ⊢
  obtain ⟨l0, l1, l2, l3, l4, l5, l6, l7⟩ := HL.out
  have hB1 := bNext (bAlloc1 _ _) hb1
  have hld := fun o => (hb1.cell (p := ⟨w.heap.size, o, none⟩) (by simp))
  have c0 := (hld 0).trans (show _ = some (.int .i64 4) by rw [← hk]; simp)
  have c1 := (hld 1).trans (show _ = some (.string x.tok.t) by simp)
  clear hid hb1 hld hy
  go_wp2_with fail
  refine (RefFold_any _ _ hf).mono ?_
  rintro e w2 ⟨rfl, hb2⟩
  have c0' := (hb2.cell (p := ⟨w.heap.size, 0, none⟩) (World.block_lt_of_cell? w1 _ c0)).trans c0
  have hB2 := bNext hB1 hb2
  obtain ⟨z, hz⟩ : ∃ z, fold x.tok.t = z := ⟨_, rfl⟩
  rw [hz] at HV hzs ⊢
  clear c0 c1 hb2 hz hB1 l0 l1 l2 l3 l4 l5 l6 l7 HL
  by_cases h3 : z.size = 3
  · have HG : Hid (badHex z = false → resS (colorS x.tok) = .tuple #[.string (bt (35 :: colOut true z.data.toList)), .bool true]) := Lib.hid (by
      intro hb
      rw [HV.out, hb, if_neg (by decide), if_pos h3, hash6_out z h3]; rfl)
    have HN : Hid (badHex z = true → resS (colorS x.tok) = .tuple #[.string noStr, .bool false]) := Lib.hid (by
      intro hb
      rw [HV.out, if_pos hb]; rfl)
    have h3i : (z.size : Int) = 3 := by omega
    have hsz : z.size ≤ 6 := by omega
    have HS3 := Lib.hid h3
    clear HV
    have hdl : z.data.toList.length = z.size := by rw [Array.length_toList]; rfl
    go_wp2_with fail
    go_loopw [5, 6] (fun ov iv wr => ∃ k : Nat, k ≤ z.size ∧ iv = .int .i64 k ∧ ov = .string (bt (35 :: colOut true (z.data.toList.take k))) ∧ Hid ((z.data.toList.take k).any (fun b => notHex b.toNat) = false) ∧ Below w.heap.size w wr) (fun _ iv _ => z.size - (intOf iv).toNat)
    case atStart => exact ⟨0, Nat.zero_le _, rfl, rfl, Lib.hid rfl, hB2⟩
    case round =>
      obtain ⟨k, hk', rfl, rfl, HA, hBr⟩ := hrel
      by_cases hp : k < z.size
      · have hc0 : z.data.toList[k]'(by omega) = z[k]'hp := by rw [Array.getElem_toList]; rfl
        have hts := List.take_succ_eq_append_getElem (l := z.data.toList) (i := k) (by omega)
        have hmem := List.getElem_mem (show k < z.data.toList.length by omega)
        rw [hc0] at hts hmem
        have HNx : Hid (notHex (z[k]'hp).toNat = false → (z.data.toList.take (k + 1)).any (fun b => notHex b.toNat) = false) := Lib.hid (fun h => by rw [hts, List.any_append, HA.out]; simp [h])
        have HBad : Hid (notHex (z[k]'hp).toNat = true → badHex z = true) := Lib.hid (fun h => by unfold badHex; exact List.any_eq_true.2 ⟨_, hmem, h⟩)
        have hb := (z[k]'hp).toNat_lt
        have p0 : (0 : Int) ≤ (k : Int) := by omega
        have p1 : (k : Int) < (z.size : Int) := by omega
        have ww : IntKind.i32.wrap (((z[k]'hp).toNat : Nat) : Int) = (((z[k]'hp).toNat : Nat) : Int) := Go.IntWalk.i32_in _ (by omega)
        have hlen := colOut_len true (z.data.toList.take k)
        rw [List.length_take] at hlen
        have hbs := bt_size (35 :: colOut true (z.data.toList.take k))
        rw [List.length_cons] at hbs
        have hO2 := Lib.hid (out_two true z k hp rfl)
        obtain ⟨O, hO⟩ : ∃ O, bt (35 :: colOut true (z.data.toList.take k)) = O := ⟨_, rfl⟩
        rw [hO] at hbs hO2 ⊢
        have zO : O.size ≤ 20 := by omega
        clear hts hmem hc0 hO hlen hbs
        go_wp2_with fail
        refine (RefHex_any (z[k]'hp).toNat hb _).mono ?_
        rintro e w3 ⟨⟨m, rfl, hm⟩, rfl⟩
        cases hq2 : notHex (z[k]'hp).toNat with
        | true =>
          have hm' : m < 0 := by rw [hq2] at hm; simpa using hm
          have HR := Lib.hid (HN.out (HBad.out hq2))
          clear hm hq2
          go_wp2_with fail
          exact bodyPost_ret (v := .tuple #[.string noStr, .bool false]) (by simp [results, Tryz.results148, go_sem, noStr]) rfl ⟨by rw [HR.out], hBr⟩
        | false =>
          have hm' : ¬ m < 0 := by rw [hq2] at hm; simpa using hm
          have HX := Lib.hid (HNx.out hq2)
          have r1 : (k : Int) ≤ (k : Int) + 1 := by omega
          have r2 : (k : Int) + 1 ≤ (z.size : Int) := by omega
          have r3 : k + 1 ≤ z.size := by omega
          have r4 : (z.extract k (k + 1)).size = 1 := by rw [extract_byte z k hp]; rfl
          clear hm hq2
          go_wp2_with fail
          go_roundw
          case rel => exact ⟨k + 1, by omega, by go_num, by rw [hO2.out], HX, hBr⟩
          case measure => simp [intOf]; omega
      · have hA : badHex z = false := by
          have := HA.out
          rw [List.take_of_length_le (by omega)] at this
          exact this
        rw [List.take_of_length_le (show z.data.toList.length ≤ k by omega)]
        have HR := Lib.hid (HG.out hA)
        obtain ⟨O, hO⟩ : ∃ O, bt (35 :: colOut true z.data.toList) = O := ⟨_, rfl⟩
        rw [hO] at HR ⊢
        clear hA hO HA
        go_wp2_with fail
        exact bodyPost_ret (v := .tuple #[.string O, .bool true]) (by simp [results, Tryz.results148, go_sem]) rfl ⟨by rw [HR.out], hBr⟩
  have h3n := h3
  by_cases h3 : z.size = 6
  · have HG : Hid (badHex z = false → resS (colorS x.tok) = .tuple #[.string (bt (35 :: colOut false z.data.toList)), .bool true]) := Lib.hid (by
      intro hb
      rw [HV.out, hb, if_neg (by decide), if_neg (by omega), if_pos h3, hashS_out z]; rfl)
    have HN : Hid (badHex z = true → resS (colorS x.tok) = .tuple #[.string noStr, .bool false]) := Lib.hid (by
      intro hb
      rw [HV.out, if_pos hb]; rfl)
    have h3i : (z.size : Int) = 6 := by omega
    have hsz : z.size ≤ 6 := by omega
    have HS3 := Lib.hid h3
    clear HV
    have hdl : z.data.toList.length = z.size := by rw [Array.length_toList]; rfl
    go_wp2_with fail
    go_loopw [5, 6] (fun ov iv wr => ∃ k : Nat, k ≤ z.size ∧ iv = .int .i64 k ∧ ov = .string (bt (35 :: colOut false (z.data.toList.take k))) ∧ Hid ((z.data.toList.take k).any (fun b => notHex b.toNat) = false) ∧ Below w.heap.size w wr) (fun _ iv _ => z.size - (intOf iv).toNat)
    case atStart => exact ⟨0, Nat.zero_le _, rfl, rfl, Lib.hid rfl, hB2⟩
    case round =>
      obtain ⟨k, hk', rfl, rfl, HA, hBr⟩ := hrel
      by_cases hp : k < z.size
      · have hc0 : z.data.toList[k]'(by omega) = z[k]'hp := by rw [Array.getElem_toList]; rfl
        have hts := List.take_succ_eq_append_getElem (l := z.data.toList) (i := k) (by omega)
        have hmem := List.getElem_mem (show k < z.data.toList.length by omega)
        rw [hc0] at hts hmem
        have HNx : Hid (notHex (z[k]'hp).toNat = false → (z.data.toList.take (k + 1)).any (fun b => notHex b.toNat) = false) := Lib.hid (fun h => by rw [hts, List.any_append, HA.out]; simp [h])
        have HBad : Hid (notHex (z[k]'hp).toNat = true → badHex z = true) := Lib.hid (fun h => by unfold badHex; exact List.any_eq_true.2 ⟨_, hmem, h⟩)
        have hb := (z[k]'hp).toNat_lt
        have p0 : (0 : Int) ≤ (k : Int) := by omega
        have p1 : (k : Int) < (z.size : Int) := by omega
        have ww : IntKind.i32.wrap (((z[k]'hp).toNat : Nat) : Int) = (((z[k]'hp).toNat : Nat) : Int) := Go.IntWalk.i32_in _ (by omega)
        have hlen := colOut_len false (z.data.toList.take k)
        rw [List.length_take] at hlen
        have hbs := bt_size (35 :: colOut false (z.data.toList.take k))
        rw [List.length_cons] at hbs
        have hO1 := Lib.hid (out_one false z k hp rfl)
        obtain ⟨O, hO⟩ : ∃ O, bt (35 :: colOut false (z.data.toList.take k)) = O := ⟨_, rfl⟩
        rw [hO] at hbs hO1 ⊢
        have zO : O.size ≤ 20 := by omega
        clear hts hmem hc0 hO hlen hbs
        go_wp2_with fail
        refine (RefHex_any (z[k]'hp).toNat hb _).mono ?_
        rintro e w3 ⟨⟨m, rfl, hm⟩, rfl⟩
        cases hq2 : notHex (z[k]'hp).toNat with
        | true =>
          have hm' : m < 0 := by rw [hq2] at hm; simpa using hm
          have HR := Lib.hid (HN.out (HBad.out hq2))
          clear hm hq2
          go_wp2_with fail
          exact bodyPost_ret (v := .tuple #[.string noStr, .bool false]) (by simp [results, Tryz.results148, go_sem, noStr]) rfl ⟨by rw [HR.out], hBr⟩
        | false =>
          have hm' : ¬ m < 0 := by rw [hq2] at hm; simpa using hm
          have HX := Lib.hid (HNx.out hq2)
          have r1 : (k : Int) ≤ (k : Int) + 1 := by omega
          have r2 : (k : Int) + 1 ≤ (z.size : Int) := by omega
          have r3 : k + 1 ≤ z.size := by omega
          have r4 : (z.extract k (k + 1)).size = 1 := by rw [extract_byte z k hp]; rfl
          clear hm hq2
          go_wp2_with fail
          go_roundw
          case rel => exact ⟨k + 1, by omega, by go_num, by rw [hO1.out], HX, hBr⟩
          case measure => simp [intOf]; omega
      · have hA : badHex z = false := by
          have := HA.out
          rw [List.take_of_length_le (by omega)] at this
          exact this
        rw [List.take_of_length_le (show z.data.toList.length ≤ k by omega)]
        have HR := Lib.hid (HG.out hA)
        obtain ⟨O, hO⟩ : ∃ O, bt (35 :: colOut false z.data.toList) = O := ⟨_, rfl⟩
        rw [hO] at HR ⊢
        clear hA hO HA
        go_wp2_with fail
        exact bodyPost_ret (v := .tuple #[.string O, .bool true]) (by simp [results, Tryz.results148, go_sem]) rfl ⟨by rw [HR.out], hBr⟩
  · have HW : Hid (resS (colorS x.tok) = .tuple #[.string noStr, .bool false]) := Lib.hid (by
      rw [HV.out, if_neg h3n, if_neg h3]
      cases badHex z <;> rfl)
    have h3 : ((z.size : Int) != 3) = true := by simp; omega
    have h6 : ((z.size : Int) != 6) = true := by simp; omega
    clear HV
    go_wp2_with fail
    exact bodyPost_ret (v := .tuple #[.string noStr, .bool false]) (by simp [results, Tryz.results148, go_sem, noStr]) rfl ⟨by rw [HW.out], hB2⟩
theorem RefColor_any (w : World) (x : Val) (hx : x.fits) :
    Calls Tryz.prog 148 #[.agg #[.int .i64 x.tok.k, .string x.tok.t, .string x.tok.u, .bool x.tok.wh, .bool x.tok.fl, .slice x.ka x.kn x.kc]] w fun e w' => e = .returned (resS (colorS x.tok)) ∧ Below w.heap.size w w' := by
  by_cases h1 : x.tok.k = 1
  · cases hc : colIx (fold x.tok.t) with
    | none =>
      refine refColor_no w x hx (by omega) ?_ ?_
      · rw [show identS x = fold x.tok.t from if_pos h1]; exact hc
      · unfold colorS; rw [if_pos h1, hc]
    | some n =>
      have hn := colIx_lt hc
      match n, hn with
      | 0, _ => exact refColor_0 w x hx h1 hc
      | 1, _ => exact refColor_1 w x hx h1 hc
      | 2, _ => exact refColor_2 w x hx h1 hc
      | 3, _ => exact refColor_3 w x hx h1 hc
      | 4, _ => exact refColor_4 w x hx h1 hc
      | 5, _ => exact refColor_5 w x hx h1 hc
      | 6, _ => exact refColor_6 w x hx h1 hc
      | 7, _ => exact refColor_7 w x hx h1 hc
  · by_cases h4 : x.tok.k = 4
    · exact refColor_hash w x hx h4
    · refine refColor_no w x hx h4 ?_ ?_
      · rw [show identS x = noStr from if_neg h1]; decide +kernel
      · unfold colorS; rw [if_neg h1, if_pos h4]
end Go.Proofs.YtpadcjcoafidgaaGreatDoor
