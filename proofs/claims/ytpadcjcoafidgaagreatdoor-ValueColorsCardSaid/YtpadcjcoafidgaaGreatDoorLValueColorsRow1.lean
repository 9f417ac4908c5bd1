/- gouachelaw15.ValueColors: whatever the value and the number, it returns true and changes nothing. Condition: the listed tables hold what the program's text lays (the card ties that). -/
import Derived.Test.YtpadcjcoafidgaaGreatDoorCards
import Derived.Test.YtpadcjcoafidgaaGreatDoorTie
import Derived.Test.YtpadcjcoafidgaaGreatDoorK1
import Derived.Test.YtpadcjcoafidgaaGreatDoorK5
import Derived.Test.YtpadcjcoafidgaaGreatDoorK7
import Derived.Test.YtpadcjcoafidgaaGreatDoorK8
import Derived.Deep.RegionHeld3
import Derived.ProofKit
import Derived.OpenShut
import Derived.Deep.Slices
import Derived.Carry
import Derived.SizedLaws
import Derived.Deep.DeepHandedRow
import Derived.SevenTiedAt
import Derived.Lib.SmallJoins
import Derived.WideKeyPair
/-! gouachelaw16.digits. -/
namespace Go.Proofs.YtpadcjcoafidgaaGreatDoor
open Go.RowKit

def tenS : ByteArray := ⟨#[48, 49, 50, 51, 52, 53, 54, 55, 56, 57]⟩
def minusS : ByteArray := ⟨#[45]⟩
/-- The text of a number from 0 on. -/
def digS (n : Int) : ByteArray := if n < 0 then minusS else ⟨(decC 20 n.toNat).toArray⟩
def bt (l : List UInt8) : ByteArray := ⟨l.toArray⟩
theorem bt_size (l : List UInt8) : (bt l).size = l.length := rfl
theorem bt_app (a b : List UInt8) : bt a ++ bt b = bt (a ++ b) := by
  apply ByteArray.ext
  apply Array.toList_inj.1
  simp [bt]
theorem ten_piece : ∀ k : Fin 10, (tenS.data.toList.drop k.val).take (k.val + 1 - k.val) = [UInt8.ofNat (48 + k.val)] := by decide +kernel
theorem ten_extract (k : Nat) (hk : k < 10) : tenS.extract k (k + 1) = bt [UInt8.ofNat (48 + k)] := by
  apply bytes_ext
  rw [Lib.extract_toList, ten_piece ⟨k, hk⟩, ByteArray.toList_eq]
  rfl
set_option maxRecDepth 100000 in
set_option maxHeartbeats 2000000 in
theorem digits16_any (n : Int) (h1 : n ≤ 9223372036854775807) (w : World) :
    Calls Tryz.prog 29 #[.int .i64 n] w fun e w' => e = .returned (.string (digS n)) ∧ w' = w := by
  by_cases hn : n < 0
  · have HV : Hid (digS n = minusS) := Lib.hid (if_pos hn)
    go_enter Tryz.func29, Tryz.ntmps29
    go_wp2_with fail
    go_ret
    exact ⟨by rw [HV.out]; rfl, rfl⟩
  · obtain ⟨u0, rfl⟩ : ∃ u : Nat, n = (u : Int) := ⟨n.toNat, by omega⟩
    have HV : Hid (digS (u0 : Int) = bt (decC 20 u0)) := Lib.hid (by unfold digS; rw [if_neg hn, Int.toNat_natCast]; rfl)
    have hu0 : u0 < 10 ^ 20 := by omega
    go_enter Tryz.func29, Tryz.ntmps29
    go_wp2_with fail
    go_loopw [0, 3] (fun nv sv wr => ∃ (u f : Nat) (acc : List UInt8), nv = .int .i64 (u : Int) ∧ sv = .string (bt acc) ∧ (u : Int) ≤ 9223372036854775807 ∧ Hid (decC (f + 1) u ++ acc = decC 20 u0) ∧ u < 10 ^ (f + 1) ∧ acc.length ≤ 20 - f ∧ f ≤ 19 ∧ wr = w)
      (fun nv _ _ => (intOf nv).toNat)
    case atStart => exact ⟨u0, 19, [], rfl, rfl, h1, Lib.hid (by simp), hu0, by simp, by omega, rfl⟩
    case round =>
      obtain ⟨u, f, acc, rfl, rfl, hu, HD, hlt, hal, hf, hwr⟩ := hrel
      subst hwr
      obtain ⟨k, hk⟩ : ∃ k : Nat, u % 10 = k := ⟨_, rfl⟩
      have hk10 : k < 10 := by omega
      have hte : (⟨#[48, 49, 50, 51, 52, 53, 54, 55, 56, 57]⟩ : ByteArray).extract k (k + 1) ++ bt acc = bt (UInt8.ofNat (48 + k) :: acc) := by
        rw [show (⟨#[48, 49, 50, 51, 52, 53, 54, 55, 56, 57]⟩ : ByteArray).extract k (k + 1) = bt [UInt8.ofNat (48 + k)] from ten_extract k hk10, bt_app]
        rfl
      have HTE := Lib.hid hte
      clear hte
      have r3 : Int.tmod (u : Int) 10 = (k : Int) := by rw [Int.tmod_eq_emod_of_nonneg (by omega)]; omega
      have r4 : Int.tdiv (u : Int) 10 = ((u / 10 : Nat) : Int) := by rw [Int.tdiv_eq_ediv_of_nonneg (by omega)]; omega
      have r5 : IntKind.i64.wrap (Int.tdiv (u : Int) 10) = ((u / 10 : Nat) : Int) := by rw [r4]; exact Go.IntWalk.i64_in _ (by omega)
      have r6 : IntKind.i64.wrap ((u : Int) / 10) = ((u / 10 : Nat) : Int) := by rw [show (u : Int) / 10 = ((u / 10 : Nat) : Int) by omega]; exact Go.IntWalk.i64_in _ (by omega)
      have hbs := bt_size acc
      have z1 : (bt acc).size ≤ 100 := by omega
      clear hbs
      by_cases hd : u / 10 = 0
      · have hfin : Hid (digS (u0 : Int) = bt (UInt8.ofNat (48 + k) :: acc)) := Lib.hid (by
          rw [HV.out, ← HD.out, decC, if_pos (by omega), show u = k by omega]; rfl)
        rw [hd] at r4 r5 r6
        clear hd
        go_wp2_with fail
        go_ret
        exact ⟨by rw [hfin.out, ← HTE.out]; rfl, rfl⟩
      · obtain ⟨g, rfl⟩ : ∃ g, f = g + 1 := ⟨f - 1, by
          cases f with
          | zero => simp at hlt; omega
          | succ f => omega⟩
        have hnx : Hid (decC (g + 1) (u / 10) ++ UInt8.ofNat (48 + k) :: acc = decC 20 u0) := Lib.hid (by
          have e : decC (g + 1 + 1) u = decC (g + 1) (u / 10) ++ [UInt8.ofNat (48 + k)] := by rw [decC, if_neg (by omega), hk]
          rw [← HD.out, e, List.append_assoc]; rfl)
        have hl2 : u / 10 < 10 ^ (g + 1) := by
          rw [Nat.pow_succ] at hlt
          omega
        obtain ⟨m, hm⟩ : ∃ m, u / 10 = m := ⟨_, rfl⟩
        have hmu : m < u := by omega
        rw [hm] at r4 r5 r6 hd hnx hl2
        have hd' : ¬ ((m : Nat) : Int) = 0 := by omega
        clear hm hlt
        go_wp2_with fail
        go_roundw
        case rel => exact ⟨m, g, UInt8.ofNat (48 + k) :: acc, rfl, by rw [← HTE.out], by omega, hnx, hl2, by simp; omega, by omega, trivial⟩
        case measure => simp [intOf]; omega
end Go.Proofs.YtpadcjcoafidgaaGreatDoor
/-! Colours as texts: what a colour is read as has seven characters and is read as itself; three digits are six. -/
namespace Go.Proofs.YtpadcjcoafidgaaGreatDoor
open Go.RowKit

/-- A small digit to base 16. -/
def isLow (b : UInt8) : Bool := isIn 48 57 (b.toNat : Int) || isIn 97 102 (b.toNat : Int)
def lowAll (l : List UInt8) : Bool := l.all isLow
def rn (l : List UInt8) : List Int := l.map fun b => (b.toNat : Int)
/-- A colour's text. -/
def colB (l : List UInt8) : ByteArray := bt (35 :: l)
def colT (l : List UInt8) : Tok := ⟨4, bt l, noStr, false, begins (rn l)⟩
theorem low_tab : ∀ n : Fin 256, isLow (UInt8.ofNat n.val) = true → isPart ((n.val : Nat) : Int) = true ∧ tm ((n.val : Nat) : Int) ∧ foldB (UInt8.ofNat n.val) = UInt8.ofNat n.val ∧ notHex n.val = false := by decide +kernel
theorem low_facts (b : UInt8) (h : isLow b = true) : isPart (b.toNat : Int) = true ∧ tm (b.toNat : Int) ∧ foldB b = b ∧ notHex b.toNat = false := by
  have hb : UInt8.ofNat b.toNat = b := UInt8.ofNat_toNat
  have := low_tab ⟨b.toNat, b.toNat_lt⟩
  simp only [hb] at this
  exact this h
theorem fold_tab2 : ∀ n : Fin 256, notHex (foldB (UInt8.ofNat n.val)).toNat = false → isLow (foldB (UInt8.ofNat n.val)) = true := by decide +kernel
theorem fold_low (b : UInt8) (h : notHex (foldB b).toNat = false) : isLow (foldB b) = true := by
  have hb : UInt8.ofNat b.toNat = b := UInt8.ofNat_toNat
  have := fold_tab2 ⟨b.toNat, b.toNat_lt⟩
  simp only [hb] at this
  exact this h
theorem strOf_rn (l : List UInt8) : strOf (rn l) = bt l := by
  unfold strOf rn bt
  rw [List.map_map]
  have : ∀ b : UInt8, (byteOf ∘ fun b : UInt8 => (b.toNat : Int)) b = b := fun b => by
    show UInt8.ofNat ((b.toNat : Int)).toNat = b
    rw [Int.toNat_natCast]
    exact UInt8.ofNat_toNat
  rw [List.map_congr_left (fun b _ => this b), List.map_id']
theorem runes_bt (l : List UInt8) : runesOf (bt l) = rn l := rfl
theorem lowAll_iff {l : List UInt8} : lowAll l = true ↔ ∀ b ∈ l, isLow b = true := List.all_eq_true
theorem rn_part {l : List UInt8} (h : lowAll l = true) : ∀ c ∈ rn l, isPart c = true := by
  intro c hc
  obtain ⟨b, hb, rfl⟩ := List.mem_map.1 hc
  exact (low_facts b (lowAll_iff.1 h b hb)).1
theorem step_col (l : List UInt8) (hne : l ≠ []) (h : lowAll l = true) : step (35 :: rn l) = some (colT l, 1 + l.length) := by
  cases l with
  | nil => exact absurd rfl hne
  | cons a l =>
    have hp := rn_part h
    have ha := low_facts a (lowAll_iff.1 h a (List.mem_cons_self ..))
    have htw : (rn (a :: l)).takeWhile isPart = rn (a :: l) := by
      have := takeWhile_stop (rn (a :: l)) [] hp (.inl rfl)
      rwa [List.append_nil] at this
    unfold step
    rw [show at_ (35 :: rn (a :: l)) 0 = 35 from rfl, if_neg (by decide), if_pos rfl, show at_ (35 :: rn (a :: l)) 1 = (a.toNat : Int) from rfl, if_pos ⟨by omega, ha.1⟩]
    unfold hashT nameLen colT
    rw [List.drop_succ_cons, List.drop_zero, htw, strOf_rn]
    simp [rn]
theorem lexes_col (l : List UInt8) (hne : l ≠ []) (h : lowAll l = true) (hl : l.length ≤ 100) : Lexes (colB l) [colT l] := by
  have hr : runesOf (colB l) = 35 :: rn l := rfl
  refine ⟨?_, ?_, ?_, by simp⟩
  · rw [hr]
    intro c hc
    rcases List.mem_cons.1 hc with rfl | hc
    · decide
    · obtain ⟨b, hb, rfl⟩ := List.mem_map.1 hc
      exact (low_facts b (lowAll_iff.1 h b hb)).2.1
  · unfold Go.Proofs.YtpadcjcoafidgaaGreatDoor.lex
    rw [hr]
    refine lexF_step _ _ (colT l) (1 + l.length) [] (by simp) (step_col l hne h) ?_
    rw [List.drop_eq_nil_of_le (by simp [rn]; omega)]
    cases (rn l).length <;> rfl
  · show (35 :: l).length ≤ 10000
    simp
    omega
theorem fold_bt {l : List UInt8} (h : lowAll l = true) : fold (bt l) = bt l := by
  unfold fold bt
  congr 2
  rw [List.map_congr_left (g := id) (fun b hb => (low_facts b (lowAll_iff.1 h b hb)).2.2.1), List.map_id]
theorem badHex_bt {l : List UInt8} (h : lowAll l = true) : badHex (bt l) = false := by
  unfold badHex
  rw [List.any_eq_false]
  intro b hb
  rw [(low_facts b (lowAll_iff.1 h b hb)).2.2.2]
  decide
theorem color_six (l : List UInt8) (h : lowAll l = true) (hl : l.length = 6) : colorS (colT l) = some (colB l) := by
  unfold colorS
  rw [if_neg (by show ¬ (4 : Int) = 1; decide), if_neg (by show ¬ ((4 : Int) ≠ 4); decide), show fold (colT l).t = bt l from fold_bt h, badHex_bt h, if_neg (by decide), bt_size, hl, if_neg (by decide), if_pos rfl]
  rfl
theorem color_three (a b c : UInt8) (h : lowAll [a, b, c] = true) : colorS (colT [a, b, c]) = some (colB [a, a, b, b, c, c]) := by
  unfold colorS
  rw [if_neg (by show ¬ (4 : Int) = 1; decide), if_neg (by show ¬ ((4 : Int) ≠ 4); decide), show fold (colT [a, b, c]).t = bt [a, b, c] from fold_bt h, badHex_bt h, if_neg (by decide), bt_size, if_pos (show [a, b, c].length = 3 from rfl)]
  rfl
theorem colours_low : ∀ i : Fin 8, (colourAt i.val).2.data.toList.take 1 = [35] ∧ lowAll ((colourAt i.val).2.data.toList.drop 1) = true ∧ ((colourAt i.val).2.data.toList.drop 1).length = 6 := by decide +kernel
theorem repeat_two (a : UInt8) : Lib.repeatL [a] 2 = [a, a] := rfl
/-- WHAT A COLOUR IS READ AS. -/
theorem color_shape {t : Tok} {s : ByteArray} (h : colorS t = some s) : ∃ l, s = colB l ∧ lowAll l = true ∧ l.length = 6 := by
  unfold colorS at h
  split at h
  · split at h
    · rename_i n hn
      have h8 := colIx_lt hn
      obtain ⟨h1, h2, h3⟩ := colours_low ⟨n, h8⟩
      simp only [Option.some.injEq] at h
      refine ⟨(colourAt n).2.data.toList.drop 1, ?_, h2, h3⟩
      rw [← h]
      apply ByteArray.ext
      apply Array.toList_inj.1
      show _ = 35 :: (colourAt n).2.data.toList.drop 1
      rw [← List.take_append_drop 1 (colourAt n).2.data.toList, h1]
      simp
    · cases h
  · split at h
    · cases h
    · split at h
      · cases h
      · rename_i hb
        have hb' : badHex (fold t.t) = false := by simpa using hb
        have hlow : lowAll (fold t.t).data.toList = true := by
          rw [lowAll_iff]
          intro b hb2
          unfold badHex at hb'
          rw [List.any_eq_false] at hb'
          have := hb' b hb2
          obtain ⟨a, -, rfl⟩ := List.mem_map.1 (show b ∈ t.t.data.toList.map foldB from hb2)
          exact fold_low a (by simpa using this)
        have hsz : (fold t.t).size = (fold t.t).data.toList.length := by rw [Array.length_toList]; rfl
        split at h
        · rename_i h3
          rw [hsz] at h3
          simp only [Option.some.injEq] at h
          obtain ⟨a, b, c, hl⟩ : ∃ a b c, (fold t.t).data.toList = [a, b, c] := by
            generalize (fold t.t).data.toList = l at h3
            match l, h3 with
            | [a, b, c], _ => exact ⟨a, b, c, rfl⟩
          rw [hl] at hlow
          refine ⟨[a, a, b, b, c, c], ?_, ?_, rfl⟩
          · rw [← h]
            unfold hash6
            rw [hl]
            rfl
          · rw [lowAll_iff] at hlow ⊢
            intro x hx
            apply hlow
            simp only [List.mem_cons, List.not_mem_nil, or_false] at hx ⊢
            rcases hx with h | h | h | h | h | h <;> simp [h]
        · split at h
          · rename_i h6
            rw [hsz] at h6
            simp only [Option.some.injEq] at h
            exact ⟨_, h.symm, hlow, h6⟩
          · cases h
/-! ### As the value of the property color -/
theorem color_forms : (placeN aColor).isSome = true ∧ parts (findRow aColor).2.2.2 = [fCol] := by
  have h : (placeN aColor).isSome = true ∧ (parts (findRow aColor).2.2.2).length = 1 ∧ (parts (findRow aColor).2.2.2).all (fun s => eqB s fCol) = true := by decide +kernel
  refine ⟨h.1, ?_⟩
  obtain ⟨x, hx⟩ := List.length_eq_one_iff.1 h.2.1
  rw [hx] at h ⊢
  have := List.all_eq_true.1 h.2.2 x (List.mem_singleton.2 rfl)
  rw [(eqB_iff _ _).1 this]
theorem trim_single {x : Val} (h : isSp x = false) : trim [x] = [x] := by
  unfold trim
  simp [h]
theorem part_col (l : List UInt8) : partS fCol (Val.of (colT l)) = colorS (colT l) := by
  unfold partS
  rw [if_neg (show ¬ 0 < (Val.of (colT l)).kn from Nat.lt_irrefl 0), if_neg (by decide), if_neg (by decide), if_neg (by decide), if_pos (by decide)]
  rfl
theorem parse_col (l : List UInt8) : parseS aColor [Val.of (colT l)] = colorS (colT l) := by
  rw [parseS_one (trim_single (x := Val.of (colT l)) rfl), if_pos color_forms.1, color_forms.2]
  unfold firstPart
  rw [part_col]
  cases colorS (colT l) <;> rfl
theorem col_fits (l : List UInt8) (hl : l.length ≤ 100) : ∀ x ∈ [Val.of (colT l)], x.fits := by
  intro x hx
  rw [List.mem_singleton.1 hx]
  exact ⟨by show l.length ≤ _; omega, by show 0 ≤ _; omega⟩
/-! ### Digits -/
def hexC (k : Nat) : UInt8 := UInt8.ofNat (if k < 10 then 48 + k else 87 + k)
theorem hexC_low : ∀ k : Fin 16, isLow (hexC k.val) = true := by decide +kernel
def sixteenS : ByteArray := ⟨#[48, 49, 50, 51, 52, 53, 54, 55, 56, 57, 97, 98, 99, 100, 101, 102]⟩
theorem sixteen_piece : ∀ k : Fin 16, (sixteenS.data.toList.drop k.val).take (k.val + 1 - k.val) = [hexC k.val] := by decide +kernel
theorem sixteen_extract (k : Nat) (hk : k < 16) : sixteenS.extract k (k + 1) = bt [hexC k] := by
  apply bytes_ext
  rw [Lib.extract_toList, sixteen_piece ⟨k, hk⟩, ByteArray.toList_eq]
  rfl
set_option maxRecDepth 100000 in
theorem hex_any (n : Int) (h0 : 0 ≤ n) (w : World) :
    Calls Tryz.prog 15 #[.int .u64 n] w fun e w' => e = .returned (.string (bt [hexC (n % 16).toNat])) ∧ w' = w := by
  obtain ⟨k, hk⟩ : ∃ k : Nat, n % 16 = k := ⟨(n % 16).toNat, by omega⟩
  have hk16 : k < 16 := by omega
  have hte : (⟨#[48, 49, 50, 51, 52, 53, 54, 55, 56, 57, 97, 98, 99, 100, 101, 102]⟩ : ByteArray).extract k (k + 1) = bt [hexC k] := sixteen_extract k hk16
  have HTE := Lib.hid hte
  rw [hk, Int.toNat_natCast]
  clear hte
  go_enter Tryz.func15, Tryz.ntmps15
  go_wp2_with fail
  go_ret
  exact ⟨by rw [← HTE.out]; rfl, rfl⟩
end Go.Proofs.YtpadcjcoafidgaaGreatDoor
/-! gouacheref03.Deep, gouacheref03.Count, gouachelaw15.great, gouachelaw16.great: each returns; what is not great has short tokens. -/
namespace Go.Proofs.YtpadcjcoafidgaaGreatDoor
open Go.RowKit

/-- The kids of a value, as the slice that it holds. -/
def Val.kids (x : Val) : Value := .slice x.ka x.kn x.kc
/-- Values that are nested less than n deep. -/
def VD (w : World) : Nat → Value → List Val → Prop
  | 0, _, _ => False
  | n + 1, v, l => Vs w v l ∧ ∀ x ∈ l, ∃ l', VD w n x.kids l'
theorem VD.below {C : Nat} {w w' : World} (hb : Below C w w') (hC : w.heap.size ≤ C) : ∀ {n : Nat} {v : Value} {l : List Val}, VD w n v l → VD w' n v l
  | 0, _, _, h => h.elim
  | n + 1, v, l, ⟨h1, h2⟩ => ⟨h1.below hb hC, fun x hx => by
    obtain ⟨l', h⟩ := h2 x hx
    exact ⟨l', VD.below hb hC h⟩⟩
theorem VD.next {w w' : World} {n : Nat} {v : Value} {l : List Val} (h : VD w n v l) (hb : Below w.heap.size w w') : VD w' n v l := h.below hb (Nat.le_refl _)
theorem VD.vs {w : World} {n : Nat} {v : Value} {l : List Val} (h : VD w n v l) : Vs w v l := by
  cases n with
  | zero => exact h.elim
  | succ n => exact h.1
/-- A bool is returned. -/
def SomeB (w : World) (e : Ending) (w' : World) : Prop := ∃ b, e = .returned (.bool b) ∧ Below w.heap.size w w'
def SomeI (w : World) (e : Ending) (w' : World) : Prop := ∃ n, e = .returned (.int .i64 n) ∧ Below w.heap.size w w'
set_option maxRecDepth 100000 in
set_option maxHeartbeats 4000000 in
theorem Deep_any : ∀ (n : Nat) (w : World) (v : Value) (l : List Val) (most : Int), VD w n v l →
    Calls Tryz.prog 38 #[v, .int .i64 most] w (SomeB w)
  | 0, _, _, _, _, h => h.elim
  | n + 1, w, v, l, most, h => by
    have IH := Lib.hid (Deep_any n)
    have HD := Lib.hid h
    obtain ⟨a, cap, rfl, hcap, hl, hr⟩ := h.1
    have HR := Lib.hid hr
    clear h hr
    go_enter Tryz.func38, Tryz.ntmps38
    go_wp2_with fail
    go_loopw [6, 9] (fun _ iv wr => ∃ k : Nat, k ≤ l.length ∧ iv = .int .i64 k ∧ Below w.heap.size w wr) (fun _ iv _ => l.length - (intOf iv).toNat)
    case atStart => exact ⟨0, by omega, rfl, Below.refl _ _⟩
    case round =>
      obtain ⟨k, hk, rfl, hb⟩ := hrel
      by_cases hlt : k < l.length
      · have hne : l ≠ [] := by intro e; rw [e] at hlt; simp at hlt
        obtain ⟨bb, off, rfl, hbb, hcc⟩ := HR.out hne
        obtain ⟨x0, x1, x2, x3, x4, x5⟩ := Vs.cells (cellsX hb hbb hcc) k hlt
        obtain ⟨l', hkids⟩ := HD.out.2 _ (List.getElem_mem hlt)
        have HK := Lib.hid ((hkids.next hb).next (bAlloc1 wr (.cells #[.int .i64 l[k].tok.k, .string l[k].tok.t, .string l[k].tok.u, .bool l[k].tok.wh, .bool l[k].tok.fl, .slice l[k].ka l[k].kn l[k].kc] 26)))
        have hb1 := bNext hb (bAlloc1 wr (.cells #[.int .i64 l[k].tok.k, .string l[k].tok.t, .string l[k].tok.u, .bool l[k].tok.wh, .bool l[k].tok.fl, .slice l[k].ka l[k].kn l[k].kc] 26))
        obtain ⟨y, hy⟩ : ∃ y, l[k] = y := ⟨_, rfl⟩
        rw [hy] at x0 x1 x2 x3 x4 x5 HK hb1
        have q0 : (0 : Int) ≤ (k : Int) := by omega
        have q1 : (k : Int) < (l.length : Int) := by omega
        clear hcc hkids hy
        by_cases hkn : 0 < y.kn
        · have p1 : (0 : Int) < (y.kn : Int) := by omega
          by_cases hm : most < 1
          · go_wp2_with fail
            go_ret
            exact ⟨_, rfl, hb1⟩
          · go_wp2_with fail
            refine (IH.out _ _ l' _ HK.out).mono ?_
            rintro e w2 ⟨b, rfl, hb2⟩
            have hB2 := bNext hb1 hb2
            cases b with
            | true =>
              go_wp2_with fail
              go_ret
              exact ⟨_, rfl, hB2⟩
            | false =>
              clear x0 x1 x2 x3 x4 x5
              go_wp2_with fail
              go_roundw
              case rel => exact ⟨k + 1, by omega, by go_num, hB2⟩
              case measure => simp [intOf]; omega
        · have p1 : ¬ (0 : Int) < (y.kn : Int) := by omega
          go_wp2_with fail
          go_roundw
          case rel => exact ⟨k + 1, by omega, by go_num, hb1⟩
          case measure => simp [intOf]; omega
      · have q1 : ¬ (k : Int) < (l.length : Int) := by omega
        go_wp2_with fail
        go_ret
        exact ⟨_, rfl, hb⟩
set_option maxRecDepth 100000 in
set_option maxHeartbeats 4000000 in
theorem Count_any : ∀ (n : Nat) (w : World) (v : Value) (l : List Val), VD w n v l →
    Calls Tryz.prog 39 #[v] w (SomeI w)
  | 0, _, _, _, h => h.elim
  | n + 1, w, v, l, h => by
    have IH := Lib.hid (Count_any n)
    have HD := Lib.hid h
    obtain ⟨a, cap, rfl, hcap, hl, hr⟩ := h.1
    have HR := Lib.hid hr
    clear h hr
    go_enter Tryz.func39, Tryz.ntmps39
    go_wp2_with fail
    go_loopw [3, 5, 8] (fun nv _ iv wr => ∃ (k : Nat) (m : Int), k ≤ l.length ∧ iv = .int .i64 k ∧ nv = .int .i64 m ∧ Below w.heap.size w wr) (fun _ _ iv _ => l.length - (intOf iv).toNat)
    case atStart => exact ⟨0, 0, by omega, rfl, rfl, Below.refl _ _⟩
    case round =>
      obtain ⟨k, m, hk, rfl, rfl, hb⟩ := hrel
      by_cases hlt : k < l.length
      · have hne : l ≠ [] := by intro e; rw [e] at hlt; simp at hlt
        obtain ⟨bb, off, rfl, hbb, hcc⟩ := HR.out hne
        obtain ⟨x0, x1, x2, x3, x4, x5⟩ := Vs.cells (cellsX hb hbb hcc) k hlt
        obtain ⟨l', hkids⟩ := HD.out.2 _ (List.getElem_mem hlt)
        have HK := Lib.hid ((hkids.next hb).next (bAlloc1 wr (.cells #[.int .i64 l[k].tok.k, .string l[k].tok.t, .string l[k].tok.u, .bool l[k].tok.wh, .bool l[k].tok.fl, .slice l[k].ka l[k].kn l[k].kc] 26)))
        have hb1 := bNext hb (bAlloc1 wr (.cells #[.int .i64 l[k].tok.k, .string l[k].tok.t, .string l[k].tok.u, .bool l[k].tok.wh, .bool l[k].tok.fl, .slice l[k].ka l[k].kn l[k].kc] 26))
        obtain ⟨y, hy⟩ : ∃ y, l[k] = y := ⟨_, rfl⟩
        rw [hy] at x0 x1 x2 x3 x4 x5 HK hb1
        have q0 : (0 : Int) ≤ (k : Int) := by omega
        have q1 : (k : Int) < (l.length : Int) := by omega
        clear hcc hkids hy
        go_wp2_with fail
        refine (IH.out _ _ l' HK.out).mono ?_
        rintro e w2 ⟨c, rfl, hb2⟩
        have hB2 := bNext hb1 hb2
        clear x0 x1 x2 x3 x4 x5
        go_wp2_with fail
        go_roundw
        case rel => exact ⟨k + 1, _, by omega, by go_num, rfl, hB2⟩
        case measure => simp [intOf]; omega
      · have q1 : ¬ (k : Int) < (l.length : Int) := by omega
        go_wp2_with fail
        go_ret
        exact ⟨_, rfl, hb⟩
/-- A bool is returned; false: the tokens are short. -/
def GreatB (w : World) (l : List Val) (e : Ending) (w' : World) : Prop := ∃ b, e = .returned (.bool b) ∧ (b = false → ∀ x ∈ l, x.tok.t.size + x.tok.u.size ≤ 500) ∧ Below w.heap.size w w'
theorem GreatB.mk {w : World} {l : List Val} (b : Bool) (h : b = false → ∀ x ∈ l, x.tok.t.size + x.tok.u.size ≤ 500) {w' : World} (hb : Below w.heap.size w w') : GreatB w l (.returned (.bool b)) w' := ⟨b, rfl, h, hb⟩
set_option maxRecDepth 100000 in
set_option maxHeartbeats 4000000 in
theorem great15_any (n : Nat) (w : World) (v : Value) (l : List Val) (h : VD w n v l) (hsz : ∀ x ∈ l, x.tok.t.size ≤ 281474976710656 ∧ x.tok.u.size ≤ 281474976710656) :
    Calls Tryz.prog 11 #[v] w (GreatB w l) := by
  have HD := Lib.hid h
  have HZ := Lib.hid hsz
  obtain ⟨a, cap, rfl, hcap, hl, hr⟩ := h.vs
  have HR := Lib.hid hr
  clear h hr hsz
  go_enter Tryz.func11, Tryz.ntmps11
  go_wp2_with fail
  go_loopw [4, 7] (fun _ iv wr => ∃ k : Nat, k ≤ l.length ∧ iv = .int .i64 k ∧ Hid (∀ x ∈ l.take k, x.tok.t.size + x.tok.u.size ≤ 500) ∧ Below w.heap.size w wr) (fun _ iv _ => l.length - (intOf iv).toNat)
  case atStart => exact ⟨0, by omega, rfl, Lib.hid (fun x hx => by simp at hx), Below.refl _ _⟩
  case round =>
    obtain ⟨k, hk, rfl, HS, hb⟩ := hrel
    by_cases hlt : k < l.length
    · have hne : l ≠ [] := by intro e; rw [e] at hlt; simp at hlt
      obtain ⟨bb, off, rfl, hbb, hcc⟩ := HR.out hne
      obtain ⟨x0, x1, x2, x3, x4, x5⟩ := Vs.cells (cellsX hb hbb hcc) k hlt
      obtain ⟨z1, z2⟩ := HZ.out _ (List.getElem_mem hlt)
      have hb1 := bNext hb (bAlloc1 wr (.cells #[.int .i64 l[k].tok.k, .string l[k].tok.t, .string l[k].tok.u, .bool l[k].tok.wh, .bool l[k].tok.fl, .slice l[k].ka l[k].kn l[k].kc] 26))
      have HT := Lib.hid (List.take_succ_eq_append_getElem hlt)
      obtain ⟨y, hy⟩ : ∃ y, l[k] = y := ⟨_, rfl⟩
      rw [hy] at x0 x1 x2 x3 x4 x5 hb1 z1 z2 HT
      have q0 : (0 : Int) ≤ (k : Int) := by omega
      have q1 : (k : Int) < (l.length : Int) := by omega
      clear hcc hy
      by_cases hs : y.tok.t.size + y.tok.u.size ≤ 500
      · have p1 : ¬ (500 : Int) < (y.tok.t.size : Int) + (y.tok.u.size : Int) := by omega
        have HS2 : Hid (∀ x ∈ l.take (k + 1), x.tok.t.size + x.tok.u.size ≤ 500) := Lib.hid (fun x hx => by
          rw [HT.out] at hx
          rcases List.mem_append.1 hx with hx | hx
          · exact HS.out x hx
          · rw [List.mem_singleton.1 hx]; exact hs)
        clear hs
        go_wp2_with fail
        go_roundw
        case rel => exact ⟨k + 1, by omega, by go_num, HS2, hb1⟩
        case measure => simp [intOf]; omega
      · have p1 : (500 : Int) < (y.tok.t.size : Int) + (y.tok.u.size : Int) := by omega
        clear hs
        go_wp2_with fail
        go_ret
        exact GreatB.mk _ (fun h => by cases h) hb1
    · have hke : k = l.length := by omega
      have q1 : ¬ (k : Int) < (l.length : Int) := by omega
      have HS2 : Hid (∀ x ∈ l, x.tok.t.size + x.tok.u.size ≤ 500) := Lib.hid (fun x hx => HS.out x (by rw [hke, List.take_length]; exact hx))
      clear hke
      go_wp2_with fail
      refine (Deep_any n _ _ l _ (HD.out.next hb)).mono ?_
      rintro e w2 ⟨b, rfl, hb2⟩
      have hB2 := bNext hb hb2
      cases b with
      | true =>
        go_wp2_with fail
        go_ret
        exact GreatB.mk _ (fun _ => HS2.out) hB2
      | false =>
        go_wp2_with fail
        refine (Count_any n _ _ l (HD.out.next hB2)).mono ?_
        rintro e w3 ⟨c, rfl, hb3⟩
        go_wp2_with fail
        go_ret
        exact GreatB.mk _ (fun _ => HS2.out) (bNext hB2 hb3)
set_option maxRecDepth 100000 in
set_option maxHeartbeats 4000000 in
theorem great16_any (n : Nat) (w : World) (v : Value) (l : List Val) (h : VD w n v l) (hsz : ∀ x ∈ l, x.tok.t.size ≤ 281474976710656 ∧ x.tok.u.size ≤ 281474976710656) :
    Calls Tryz.prog 24 #[v] w (GreatB w l) := by
  have HD := Lib.hid h
  have HZ := Lib.hid hsz
  obtain ⟨a, cap, rfl, hcap, hl, hr⟩ := h.vs
  have HR := Lib.hid hr
  clear h hr hsz
  go_enter Tryz.func24, Tryz.ntmps24
  go_wp2_with fail
  go_loopw [4, 7] (fun _ iv wr => ∃ k : Nat, k ≤ l.length ∧ iv = .int .i64 k ∧ Hid (∀ x ∈ l.take k, x.tok.t.size + x.tok.u.size ≤ 500) ∧ Below w.heap.size w wr) (fun _ iv _ => l.length - (intOf iv).toNat)
  case atStart => exact ⟨0, by omega, rfl, Lib.hid (fun x hx => by simp at hx), Below.refl _ _⟩
  case round =>
    obtain ⟨k, hk, rfl, HS, hb⟩ := hrel
    by_cases hlt : k < l.length
    · have hne : l ≠ [] := by intro e; rw [e] at hlt; simp at hlt
      obtain ⟨bb, off, rfl, hbb, hcc⟩ := HR.out hne
      obtain ⟨x0, x1, x2, x3, x4, x5⟩ := Vs.cells (cellsX hb hbb hcc) k hlt
      obtain ⟨z1, z2⟩ := HZ.out _ (List.getElem_mem hlt)
      have hb1 := bNext hb (bAlloc1 wr (.cells #[.int .i64 l[k].tok.k, .string l[k].tok.t, .string l[k].tok.u, .bool l[k].tok.wh, .bool l[k].tok.fl, .slice l[k].ka l[k].kn l[k].kc] 26))
      have HT := Lib.hid (List.take_succ_eq_append_getElem hlt)
      obtain ⟨y, hy⟩ : ∃ y, l[k] = y := ⟨_, rfl⟩
      rw [hy] at x0 x1 x2 x3 x4 x5 hb1 z1 z2 HT
      have q0 : (0 : Int) ≤ (k : Int) := by omega
      have q1 : (k : Int) < (l.length : Int) := by omega
      clear hcc hy
      by_cases hs : y.tok.t.size + y.tok.u.size ≤ 500
      · have p1 : ¬ (500 : Int) < (y.tok.t.size : Int) + (y.tok.u.size : Int) := by omega
        have HS2 : Hid (∀ x ∈ l.take (k + 1), x.tok.t.size + x.tok.u.size ≤ 500) := Lib.hid (fun x hx => by
          rw [HT.out] at hx
          rcases List.mem_append.1 hx with hx | hx
          · exact HS.out x hx
          · rw [List.mem_singleton.1 hx]; exact hs)
        clear hs
        go_wp2_with fail
        go_roundw
        case rel => exact ⟨k + 1, by omega, by go_num, HS2, hb1⟩
        case measure => simp [intOf]; omega
      · have p1 : (500 : Int) < (y.tok.t.size : Int) + (y.tok.u.size : Int) := by omega
        clear hs
        go_wp2_with fail
        go_ret
        exact GreatB.mk _ (fun h => by cases h) hb1
    · have hke : k = l.length := by omega
      have q1 : ¬ (k : Int) < (l.length : Int) := by omega
      have HS2 : Hid (∀ x ∈ l, x.tok.t.size + x.tok.u.size ≤ 500) := Lib.hid (fun x hx => HS.out x (by rw [hke, List.take_length]; exact hx))
      clear hke
      go_wp2_with fail
      refine (Deep_any n _ _ l _ (HD.out.next hb)).mono ?_
      rintro e w2 ⟨b, rfl, hb2⟩
      have hB2 := bNext hb hb2
      cases b with
      | true =>
        go_wp2_with fail
        go_ret
        exact GreatB.mk _ (fun _ => HS2.out) hB2
      | false =>
        go_wp2_with fail
        refine (Count_any n _ _ l (HD.out.next hB2)).mono ?_
        rintro e w3 ⟨c, rfl, hb3⟩
        go_wp2_with fail
        go_ret
        exact GreatB.mk _ (fun _ => HS2.out) (bNext hB2 hb3)
end Go.Proofs.YtpadcjcoafidgaaGreatDoor
/-! The walk of gouachelaw15.ValueColors. -/
namespace Go.Proofs.YtpadcjcoafidgaaGreatDoor
open Go.RowKit

theorem strs_self (a : ByteArray) : (a.toList == a.toList) = true := by simp
theorem app3 (a b c : UInt8) : (⟨#[35]⟩ : ByteArray) ++ bt [a] ++ bt [b] ++ bt [c] = colB [a, b, c] := by
  rw [show (⟨#[35]⟩ : ByteArray) = bt [35] from rfl, bt_app, bt_app, bt_app]
  rfl
theorem app6 (a b c d e f : UInt8) : (⟨#[35]⟩ : ByteArray) ++ bt [a] ++ bt [b] ++ bt [c] ++ bt [d] ++ bt [e] ++ bt [f] = colB [a, b, c, d, e, f] := by
  rw [show (⟨#[35]⟩ : ByteArray) = bt [35] from rfl, bt_app, bt_app, bt_app, bt_app, bt_app, bt_app]
  rfl
theorem low_hex (n : Int) : isLow (hexC (n % 16).toNat) = true := hexC_low ⟨(n % 16).toNat, by omega⟩
theorem low_list {l : List UInt8} {a b c : UInt8} (ha : isLow a = true) (hb : isLow b = true) (hc : isLow c = true) (h : ∀ x ∈ l, x = a ∨ x = b ∨ x = c) : lowAll l = true := by
  rw [lowAll_iff]
  intro x hx
  rcases h x hx with rfl | rfl | rfl <;> assumption
/-- A new slice of one value. -/
theorem Vs.new1 (w : World) (x : Val) (t : TypeId) : Vs (w.alloc (.cells x.row.toArray t)) (.slice (some ⟨w.heap.size, 0, none⟩) 1 1) [x] :=
  ⟨_, 1, rfl, Nat.le_refl _, (by decide : (1 : Nat) ≤ 1954687338211), fun _ => ⟨w.heap.size, 0, rfl, by simp, fun i hi j u hu => by
    obtain rfl : i = 0 := by simpa using hi
    have hn := heap_alloc_new w (.cells x.row.toArray t)
    simp only [World.cell?, hn, Nat.zero_add, Nat.zero_mul]
    simpa using hu⟩⟩
set_option maxRecDepth 100000 in
set_option maxHeartbeats 8000000 in
theorem valueColors_walk (x : Val) (m : Nat) (l' : List Val) (hx : x.tok.t.size ≤ 281474976710656 ∧ x.tok.u.size ≤ 281474976710656) (n : Int) (hn : 0 ≤ n) (hn2 : n ≤ 18446744073709551615) (w : World) (hk : VD w m x.kids l') (hB : Base w) :
    Calls Tryz.prog 3 #[.agg #[.int .i64 x.tok.k, .string x.tok.t, .string x.tok.u, .bool x.tok.wh, .bool x.tok.fl, .slice x.ka x.kn x.kc], .int .u64 n] w fun e w' => e = .returned (.bool true) ∧ Below w.heap.size w w' := by
  have HB := Lib.hid hB
  have HK := Lib.hid hk
  have HX := Lib.hid hx
  have HBW : Hid (Below w.heap.size w ((w.alloc (.cells x.row.toArray 26)).alloc (.cells x.row.toArray 26))) := Lib.hid (bAlloc2 _ _ _)
  have HV : Hid (VD ((w.alloc (.cells x.row.toArray 26)).alloc (.cells x.row.toArray 26)) (m + 1) (.slice (some ⟨w.heap.size + 1, 0, none⟩) 1 1) [x]) := Lib.hid ⟨by
      have := Vs.new1 (w.alloc (.cells x.row.toArray 26)) x 26
      simpa using this, fun y hy => by
      rw [List.mem_singleton.1 hy]
      exact ⟨l', hk.next HBW.out⟩⟩
  have hO := (Own.new w x.row.toArray 26).next (bAlloc1 _ (.cells x.row.toArray 26))
  clear hB hk hx
  go_enter Tryz.func3, Tryz.ntmps3
  go_wp2_with fail
  refine (great15_any (m + 1) _ _ [x] HV.out (fun y hy => by rw [List.mem_singleton.1 hy]; exact HX.out)).mono ?_
  rintro e w1 ⟨b, rfl, hsz, hb1⟩
  have hB1 := bNext HBW.out hb1
  have m1 := (hO.next hb1).m
  have x0 : w1.cell? ⟨w.heap.size, 0, none⟩ = some (.int .i64 x.tok.k) := m1 0
  have x1 : w1.cell? ⟨w.heap.size, 0 + 1, none⟩ = some (.string x.tok.t) := m1 1
  have x2 : w1.cell? ⟨w.heap.size, 0 + 2, none⟩ = some (.string x.tok.u) := m1 2
  have x3 : w1.cell? ⟨w.heap.size, 0 + 3, none⟩ = some (.bool x.tok.wh) := m1 3
  have x4 : w1.cell? ⟨w.heap.size, 0 + 4, none⟩ = some (.bool x.tok.fl) := m1 4
  have x5 : w1.cell? ⟨w.heap.size, 0 + 5, none⟩ = some (.slice x.ka x.kn x.kc) := m1 5
  clear hO m1
  cases b with
  | true =>
    go_wp2_with fail
    refine (lives15_any w1 (HB.out.next hB1)).mono ?_
    rintro e w2 ⟨rfl, hb2⟩
    go_wp2_with fail
    go_ret
    exact ⟨rfl, bNext hB1 hb2⟩
  | false =>
    have hf : x.fits := by
      have := hsz rfl x (List.mem_singleton.2 rfl)
      exact ⟨by omega, by omega⟩
    have HF := Lib.hid hf
    clear hsz hf
    go_wp2_with fail
    refine (Color_any w1 (HB.out.next hB1).col x HF.out).mono ?_
    rintro e w2 ⟨rfl, hb2⟩
    have hB2 := bNext hB1 hb2
    clear x0 x1 x2 x3 x4 x5
    cases hc : colorS x.tok with
    | none =>
      simp only [resS]
      go_wp2_with fail
      refine (hex_any n hn _).mono ?_
      rintro e w3 ⟨rfl, rfl⟩
      go_wp2_with fail
      refine (hex_any (n / 16) (by omega) _).mono ?_
      rintro e w4 ⟨rfl, rfl⟩
      go_wp2_with fail
      refine (hex_any (n / 256) (by omega) _).mono ?_
      rintro e w5 ⟨rfl, rfl⟩
      have ha := low_hex n
      have hb := low_hex (n / 16)
      have hc := low_hex (n / 256)
      obtain ⟨a, ha'⟩ : ∃ a, hexC (n % 16).toNat = a := ⟨_, rfl⟩
      obtain ⟨b, hb'⟩ : ∃ a, hexC (n / 16 % 16).toNat = a := ⟨_, rfl⟩
      obtain ⟨c, hc'⟩ : ∃ a, hexC (n / 256 % 16).toNat = a := ⟨_, rfl⟩
      rw [ha'] at ha ⊢
      rw [hb'] at hb ⊢
      rw [hc'] at hc ⊢
      have hl3 : lowAll [a, b, c] = true := low_list ha hb hc (by simp)
      have hl6 : lowAll [a, a, b, b, c, c] = true := low_list ha hb hc (by simp)
      have V3 := Lib.hid (fun W => values15_any W _ _ (lexes_col [a, b, c] (by simp) hl3 (by simp)))
      have V6 := Lib.hid (fun W => values15_any W _ _ (lexes_col [a, a, b, b, c, c] (by simp) hl6 (by simp)))
      have P3 : Hid (parseS aColor [Val.of (colT [a, b, c])] = some (colB [a, a, b, b, c, c])) := Lib.hid (by rw [parse_col, color_three a b c hl3])
      have P6 : Hid (parseS aColor [Val.of (colT [a, a, b, b, c, c])] = some (colB [a, a, b, b, c, c])) := Lib.hid (by rw [parse_col, color_six _ hl6 rfl])
      have A3 := Lib.hid (app3 a b c)
      have A6 := Lib.hid (app6 a a b b c c)
      have za : (bt [a]).size ≤ 1 := by rw [bt_size]; exact Nat.le_refl _
      have zb : (bt [b]).size ≤ 1 := by rw [bt_size]; exact Nat.le_refl _
      have zc : (bt [c]).size ≤ 1 := by rw [bt_size]; exact Nat.le_refl _
      have F3 := Lib.hid (col_fits [a, b, c] (by simp))
      have F6 := Lib.hid (col_fits [a, a, b, b, c, c] (by simp))
      obtain ⟨T3, hT3⟩ : ∃ x, colB [a, b, c] = x := ⟨_, rfl⟩
      obtain ⟨T6, hT6⟩ : ∃ x, colB [a, a, b, b, c, c] = x := ⟨_, rfl⟩
      rw [hT3] at A3 V3
      rw [hT6] at A6 V6 P3 P6
      obtain ⟨A, hA⟩ : ∃ x, bt [a] = x := ⟨_, rfl⟩
      obtain ⟨B, hBb⟩ : ∃ x, bt [b] = x := ⟨_, rfl⟩
      obtain ⟨C, hC⟩ : ∃ x, bt [c] = x := ⟨_, rfl⟩
      rw [hA] at za A3 A6 ⊢
      rw [hBb] at zb A3 A6 ⊢
      rw [hC] at zc A3 A6 ⊢
      clear hA hBb hC hT3 hT6 ha hb hc ha' hb' hc' hl3 hl6
      go_wp2_with fail
      rw [A3.out]
      refine (V3.out _).mono ?_
      rintro e w6 ⟨v6, rfl, hv6, hb6⟩
      have hB6 := bNext hB2 hb6
      obtain ⟨va6, vc6, rfl, -⟩ := id hv6
      go_wp2_with fail
      refine (Parse_any w6 (HB.out.next hB6) aColor _ _ hv6 F3.out).mono ?_
      rintro e w7 ⟨rfl, hb7⟩
      rw [show (List.map Val.of [colT [a, b, c]]) = [Val.of (colT [a, b, c])] from rfl, P3.out]
      simp only [resS]
      have hB7 := bNext hB6 hb7
      clear hv6
      go_wp2_with fail
      rw [A6.out]
      refine (V6.out _).mono ?_
      rintro e w8 ⟨v8, rfl, hv8, hb8⟩
      have hB8 := bNext hB7 hb8
      obtain ⟨va8, vc8, rfl, -⟩ := id hv8
      go_wp2_with fail
      refine (Parse_any w8 (HB.out.next hB8) aColor _ _ hv8 F6.out).mono ?_
      rintro e w9 ⟨rfl, hb9⟩
      rw [show (List.map Val.of [colT [a, a, b, b, c, c]]) = [Val.of (colT [a, a, b, b, c, c])] from rfl, P6.out]
      simp only [resS]
      have hB9 := bNext hB8 hb9
      have e1 := strs_self T6
      have e2 : (T6.toList == ((⟨#[35]⟩ : ByteArray) ++ A ++ A ++ B ++ B ++ C ++ C).toList) = true := by rw [A6.out]; exact e1
      clear hv8
      go_wp2_with fail
      refine (lives15_any w9 (HB.out.next hB9)).mono ?_
      rintro e w10 ⟨rfl, hb10⟩
      go_wp2_with fail
      go_ret
      exact ⟨rfl, bNext hB9 hb10⟩
    | some s =>
      obtain ⟨l, rfl, hlow, hlen⟩ := color_shape hc
      simp only [resS]
      go_wp2_with fail
      have LC := lexes_col l (by intro e; rw [e] at hlen; simp at hlen) hlow (by omega)
      have HCS := Lib.hid (color_six l hlow hlen)
      have FC := Lib.hid (col_fits l (by omega))
      have hz : (colB l).size = 7 := by show (35 :: l).length = 7; simp [hlen]
      obtain ⟨b0, b1, b2, b3, b4, b5, rfl⟩ : ∃ a b c d e f, l = [a, b, c, d, e, f] := by
        match l, hlen with
        | [a, b, c, d, e, f], _ => exact ⟨a, b, c, d, e, f, rfl⟩
      have VC := Lib.hid (fun W => values15_any W _ _ LC)
      clear hlow hlen LC hc
      refine (VC.out _).mono ?_
      rintro e w3 ⟨v3, rfl, hv3, hb3⟩
      have hB3 := bNext hB2 hb3
      obtain ⟨bb, off, cap, rfl, hbb, x0, x1, x2, x3, x4, x5⟩ := hv3.one
      clear hv3
      go_wp2_with fail
      refine (Color_any w3 (HB.out.next hB3).col (Val.of (colT [b0, b1, b2, b3, b4, b5])) (FC.out _ (List.mem_singleton.2 rfl))).mono ?_
      rintro e w4 ⟨rfl, hb4⟩
      rw [show (Val.of (colT [b0, b1, b2, b3, b4, b5])).tok = colT [b0, b1, b2, b3, b4, b5] from rfl, HCS.out]
      simp only [resS]
      have hB4 := bNext hB3 hb4
      have e0 := strs_self (colB [b0, b1, b2, b3, b4, b5])
      clear x0 x1 x2 x3 x4 x5
      go_wp2_with fail
      refine (hex_any n hn _).mono ?_
      rintro e w3 ⟨rfl, rfl⟩
      go_wp2_with fail
      refine (hex_any (n / 16) (by omega) _).mono ?_
      rintro e w4 ⟨rfl, rfl⟩
      go_wp2_with fail
      refine (hex_any (n / 256) (by omega) _).mono ?_
      rintro e w5 ⟨rfl, rfl⟩
      have ha := low_hex n
      have hb := low_hex (n / 16)
      have hc := low_hex (n / 256)
      obtain ⟨a, ha'⟩ : ∃ a, hexC (n % 16).toNat = a := ⟨_, rfl⟩
      obtain ⟨b, hb'⟩ : ∃ a, hexC (n / 16 % 16).toNat = a := ⟨_, rfl⟩
      obtain ⟨c, hc'⟩ : ∃ a, hexC (n / 256 % 16).toNat = a := ⟨_, rfl⟩
      rw [ha'] at ha ⊢
      rw [hb'] at hb ⊢
      rw [hc'] at hc ⊢
      have hl3 : lowAll [a, b, c] = true := low_list ha hb hc (by simp)
      have hl6 : lowAll [a, a, b, b, c, c] = true := low_list ha hb hc (by simp)
      have V3 := Lib.hid (fun W => values15_any W _ _ (lexes_col [a, b, c] (by simp) hl3 (by simp)))
      have V6 := Lib.hid (fun W => values15_any W _ _ (lexes_col [a, a, b, b, c, c] (by simp) hl6 (by simp)))
      have P3 : Hid (parseS aColor [Val.of (colT [a, b, c])] = some (colB [a, a, b, b, c, c])) := Lib.hid (by rw [parse_col, color_three a b c hl3])
      have P6 : Hid (parseS aColor [Val.of (colT [a, a, b, b, c, c])] = some (colB [a, a, b, b, c, c])) := Lib.hid (by rw [parse_col, color_six _ hl6 rfl])
      have A3 := Lib.hid (app3 a b c)
      have A6 := Lib.hid (app6 a a b b c c)
      have za : (bt [a]).size ≤ 1 := by rw [bt_size]; exact Nat.le_refl _
      have zb : (bt [b]).size ≤ 1 := by rw [bt_size]; exact Nat.le_refl _
      have zc : (bt [c]).size ≤ 1 := by rw [bt_size]; exact Nat.le_refl _
      have F3 := Lib.hid (col_fits [a, b, c] (by simp))
      have F6 := Lib.hid (col_fits [a, a, b, b, c, c] (by simp))
      obtain ⟨T3, hT3⟩ : ∃ x, colB [a, b, c] = x := ⟨_, rfl⟩
      obtain ⟨T6, hT6⟩ : ∃ x, colB [a, a, b, b, c, c] = x := ⟨_, rfl⟩
      rw [hT3] at A3 V3
      rw [hT6] at A6 V6 P3 P6
      obtain ⟨A, hA⟩ : ∃ x, bt [a] = x := ⟨_, rfl⟩
      obtain ⟨B, hBb⟩ : ∃ x, bt [b] = x := ⟨_, rfl⟩
      obtain ⟨C, hC⟩ : ∃ x, bt [c] = x := ⟨_, rfl⟩
      rw [hA] at za A3 A6 ⊢
      rw [hBb] at zb A3 A6 ⊢
      rw [hC] at zc A3 A6 ⊢
      clear hA hBb hC hT3 hT6 ha hb hc ha' hb' hc' hl3 hl6
      go_wp2_with fail
      rw [A3.out]
      refine (V3.out _).mono ?_
      rintro e w6 ⟨v6, rfl, hv6, hb6⟩
      have hB6 := bNext hB4 hb6
      obtain ⟨va6, vc6, rfl, -⟩ := id hv6
      go_wp2_with fail
      refine (Parse_any w6 (HB.out.next hB6) aColor _ _ hv6 F3.out).mono ?_
      rintro e w7 ⟨rfl, hb7⟩
      rw [show (List.map Val.of [colT [a, b, c]]) = [Val.of (colT [a, b, c])] from rfl, P3.out]
      simp only [resS]
      have hB7 := bNext hB6 hb7
      clear hv6
      go_wp2_with fail
      rw [A6.out]
      refine (V6.out _).mono ?_
      rintro e w8 ⟨v8, rfl, hv8, hb8⟩
      have hB8 := bNext hB7 hb8
      obtain ⟨va8, vc8, rfl, -⟩ := id hv8
      go_wp2_with fail
      refine (Parse_any w8 (HB.out.next hB8) aColor _ _ hv8 F6.out).mono ?_
      rintro e w9 ⟨rfl, hb9⟩
      rw [show (List.map Val.of [colT [a, a, b, b, c, c]]) = [Val.of (colT [a, a, b, b, c, c])] from rfl, P6.out]
      simp only [resS]
      have hB9 := bNext hB8 hb9
      have e1 := strs_self T6
      have e2 : (T6.toList == ((⟨#[35]⟩ : ByteArray) ++ A ++ A ++ B ++ B ++ C ++ C).toList) = true := by rw [A6.out]; exact e1
      clear hv8
      go_wp2_with fail
      refine (lives15_any w9 (HB.out.next hB9)).mono ?_
      rintro e w10 ⟨rfl, hb10⟩
      go_wp2_with fail
      go_ret
      exact ⟨rfl, bNext hB9 hb10⟩
end Go.Proofs.YtpadcjcoafidgaaGreatDoor
/-! What a call's arguments hold: slices and structs of the reader's data, opened into rows of cells; the reach of what was read; arguments that read as they did. Over any program. -/
namespace Go.Proofs.YtpadcjcoafidgaaGreatDoor
open Go.RowKit Go.ChangeShapes Go.WideShapes

section
variable {H : Type} {enc : TypeId × Value → H} {P : Program} {W : World} {base : Nat} {sp : Nat → Bool} {held : Bool}

theorem mapM_get {α β : Type} {f : α → Option β} : ∀ {l : List α} {r : List β}, l.mapM f = some r → ∀ (i : Nat) (a : α), l[i]? = some a → ∃ b, r[i]? = some b ∧ f a = some b
  | [], _, _, i, a, hi => by simp at hi
  | x :: l, r, h, i, a, hi => by
    rw [List.mapM_cons] at h
    simp only [bind, Option.bind_eq_some_iff, pure, Option.some.injEq] at h
    obtain ⟨b, hb, r', hr, rfl⟩ := h
    cases i with
    | zero =>
      simp only [List.getElem?_cons_zero, Option.some.injEq] at hi
      subst hi
      exact ⟨b, rfl, hb⟩
    | succ i => exact mapM_get hr i a (by simpa using hi)
theorem mapM_len {α β : Type} {f : α → Option β} : ∀ {l : List α} {r : List β}, l.mapM f = some r → r.length = l.length
  | [], r, h => by
    simp at h
    subst h
    rfl
  | x :: l, r, h => by
    rw [List.mapM_cons] at h
    simp only [bind, Option.bind_eq_some_iff, pure, Option.some.injEq] at h
    obtain ⟨b, hb, r', hr, rfl⟩ := h
    simp [mapM_len hr]
/-- A struct: its fields, one by one. -/
theorem open_fields {t : TypeId} {fs : Array Field} {fuel : Nat} {cs : List Value} {x : DataW H × List MemPlace} (ht : P.underlying t = some (.struct fs)) (h : DataW.trod enc P W base sp held fuel t cs = some x) :
    ∃ (n : Nat) (ds : List (DataW H)), fuel = n + 1 ∧ cs.length = P.cellsOf t ∧ x.1 = .agg ds ∧ ds.length = fs.toList.length ∧
      ∀ (i : Nat) (f : Field), fs.toList[i]? = some f → ∃ y, ds[i]? = some y.1 ∧ DataW.trod enc P W base sp held n f.type ((cs.drop f.offset).take (P.cellsOf f.type)) = some y := by
  cases fuel with
  | zero => simp [DataW.trod] at h
  | succ n =>
    rw [DataW.trod_step] at h
    unfold DataW.trodStep at h
    simp only [ht] at h
    split at h
    · rename_i hl
      obtain ⟨xs, hx, rfl⟩ := Option.map_eq_some_iff.1 h
      refine ⟨n, xs.map (·.1), rfl, hl, rfl, by rw [List.length_map]; exact mapM_len hx, fun i f hf => ?_⟩
      obtain ⟨y, hy, hr⟩ := mapM_get hx i f hf
      exact ⟨y, by rw [List.getElem?_map, hy]; rfl, hr⟩
    · cases h
/-- A slice: its elements' rows of cells. -/
structure Rows0 (P : Program) (W : World) (e : TypeId) (v : Value) (rows : List (List Value)) : Prop where
  shape : ∃ a cap, v = .slice a rows.length cap ∧ rows.length ≤ cap ∧
    (rows ≠ [] → ∃ b off, a = some ⟨b, off, none⟩ ∧ b < W.heap.size ∧ ∀ (i j : Nat) (u : Value), (rows[i]?.getD [])[j]? = some u → W.cell? ⟨b, off + i * P.cellsOf e + j, none⟩ = some u)
  len : ∀ r ∈ rows, r.length = P.cellsOf e
theorem spot_none {a : Addr} {n : Nat} {u : Value} (h : W.cell? (a.add n) = some u) (hn : n = 0) : a.spot = none := by
  subst hn
  unfold Addr.add at h
  rw [if_pos rfl] at h
  unfold World.cell? at h
  split at h
  · split at h
    · cases h
    · rename_i hs
      simpa using hs
  · cases h
theorem open_elems {t e : TypeId} {fuel : Nat} {cs : List Value} {x : DataW H × List MemPlace} (ht : P.underlying t = some (.slice e)) (hpos : 0 < P.cellsOf e)
    (h : DataW.trod enc P W base sp held fuel t cs = some x) :
    ∃ (n : Nat) (v : Value) (rows : List (List Value)) (ds : List (DataW H)), fuel = n + 1 ∧ cs = [v] ∧ Rows0 P W e v rows ∧ ds.length = rows.length ∧ (x.1 = .nil ∧ rows = [] ∨ ∃ rest, x.1 = .slice ds rest) ∧
      ∀ (i : Nat) (r : List Value), rows[i]? = some r → ∃ y, ds[i]? = some y.1 ∧ DataW.trod enc P W base sp held n e r = some y := by
  rcases DataW.trod_slice ht h with ⟨rfl, rfl⟩ | ⟨a, len, cap, elems, rest, n, rfl, rfl, rfl, hb, hl, hm, hlen, hel, -, -⟩
  · cases fuel with
    | zero => simp [DataW.trod] at h
    | succ n => exact ⟨n, _, [], [], rfl, rfl, ⟨⟨none, 0, rfl, Nat.le_refl _, fun h => absurd rfl h⟩, fun r hr => by cases hr⟩, rfl, .inl ⟨rfl, rfl⟩, fun i r hr => by simp at hr⟩
  · have key : ∀ i, i < len → ∃ r y, W.cells? base (a.add (i * P.cellsOf e)) (P.cellsOf e) = some r ∧ elems[i]? = some y ∧ DataW.trod enc P W base sp held n e r = some y := by
      intro i hi
      have h1 := hel i hi
      rw [List.getElem?_eq_getElem (by omega), Option.bind_eq_some_iff] at h1
      obtain ⟨r, h1, h2⟩ := h1
      exact ⟨r, _, h1, List.getElem?_eq_getElem (by omega), h2⟩
    refine ⟨n, _, (List.range len).map fun i => (W.cells? base (a.add (i * P.cellsOf e)) (P.cellsOf e)).getD [], elems.map (·.1), rfl, rfl, ⟨⟨some a, cap, by simp, by simpa using hl, fun hne => ?_⟩, ?_⟩, by simp [hlen], .inr ⟨_, rfl⟩, ?_⟩
    · have hl0 : 0 < len := by
        rcases Nat.eq_zero_or_pos len with h0 | h0
        · rw [h0] at hne; exact absurd rfl hne
        · exact h0
      obtain ⟨r0, y0, h0, -, -⟩ := key 0 hl0
      obtain ⟨_, hl1, hc⟩ := World.cells?_some h0
      have h2 := hc 0 hpos
      have hlt := World.cells?_block h0 hpos
      obtain ⟨u, hu⟩ : ∃ u, r0[0]? = some u := ⟨_, List.getElem?_eq_getElem (by omega)⟩
      rw [hu, Nat.zero_mul] at h2
      have hs : a.spot = none := by
        have e0 : a.add 0 = a := by unfold Addr.add; rw [if_pos rfl]
        rw [e0] at h2
        exact spot_none (n := 0) h2 rfl
      obtain ⟨b, off, spot⟩ := a
      simp only at hs
      subst hs
      rw [add_plain] at hlt
      refine ⟨b, off, rfl, hlt, fun i j u hu => ?_⟩
      by_cases hi : i < len
      · obtain ⟨r, y, h1, -, -⟩ := key i hi
        rw [List.getElem?_map, List.getElem?_range hi] at hu
        simp only [Option.map_some, Option.getD_some, h1] at hu
        obtain ⟨_, hl1, hc⟩ := World.cells?_some h1
        have hj : j < P.cellsOf e := by rw [← hl1]; exact (List.getElem?_eq_some_iff.1 hu).1
        have h3 := hc j hj
        rw [hu, add_plain, add_plain] at h3
        exact h3
      · rw [List.getElem?_map, List.getElem?_eq_none (show (List.range len).length ≤ i by rw [List.length_range]; omega)] at hu
        simp at hu
    · intro r hr
      obtain ⟨i, hi, rfl⟩ := List.mem_map.1 hr
      obtain ⟨r, y, h1, -, -⟩ := key i (List.mem_range.1 hi)
      rw [h1]
      exact (World.cells?_some h1).2.1
    · intro i r hr
      have hi : i < len := by
        have := (List.getElem?_eq_some_iff.1 hr).1
        simpa using this
      obtain ⟨r', y, h1, h2, h3⟩ := key i hi
      rw [List.getElem?_map, List.getElem?_range hi] at hr
      simp only [Option.map_some, h1, Option.getD_some, Option.some.injEq] at hr
      subst hr
      exact ⟨y, by rw [List.getElem?_map, h2]; rfl, h3⟩
/-- WHAT WAS READ IS WITHIN THE REACH. -/
def Small (P : Program) (t : TypeId) (d : DataW H) : Prop := ∀ n ∈ d.weights P t, n ≤ reachBytes
theorem small_arg {ts : List TypeId} {ds : List (DataW H)} (h : (DataW.weightsEach P ts ds).all (· ≤ reachBytes) = true) {j : Nat} {t : TypeId} {d : DataW H} (ht : ts[j]? = some t) (hd : ds[j]? = some d) : Small P t d := by
  intro n hn
  have := List.all_eq_true.1 h _ (DataW.weights_mem_each ht hd n hn)
  simpa using this
theorem small_field {t : TypeId} {fs : Array Field} {parts : List (DataW H)} (ht : P.underlying t = some (.struct fs)) (h : Small P t (.agg parts)) {i : Nat} {f : Field} {d : DataW H} (hf : fs.toList[i]? = some f) (hd : parts[i]? = some d) : Small P f.type d := by
  intro n hn
  refine h n ?_
  simp only [DataW.weights, ht]
  exact DataW.weights_mem_each (by rw [List.getElem?_map, hf]; rfl) hd n hn
theorem small_mem {e : TypeId} : ∀ {ds : List (DataW H)} {i : Nat} {d : DataW H}, ds[i]? = some d → ∀ n ∈ d.weights P e, n ∈ DataW.weightsAll P e ds
  | [], _, _, hd, _, _ => by simp at hd
  | d0 :: ds, 0, d, hd, n, hn => by
    simp only [List.getElem?_cons_zero, Option.some.injEq] at hd
    subst hd
    simp only [DataW.weightsAll, List.mem_append]
    exact .inl hn
  | d0 :: ds, i + 1, d, hd, n, hn => by
    simp only [DataW.weightsAll, List.mem_append]
    exact .inr (small_mem (by simpa using hd) n hn)
theorem small_elem {t e : TypeId} {elems rest : List (DataW H)} (ht : P.underlying t = some (.slice e)) (h : Small P t (.slice elems rest)) {i : Nat} {d : DataW H} (hd : elems[i]? = some d) : Small P e d := by
  intro n hn
  refine h n ?_
  simp only [DataW.weights, ht, List.mem_cons, List.mem_append]
  exact .inr (.inl (small_mem hd n hn))
theorem small_len {t e : TypeId} {elems rest : List (DataW H)} (ht : P.underlying t = some (.slice e)) (h : Small P t (.slice elems rest)) : elems.length * P.bytesOf e ≤ 140737488351232 := by
  have := h ((elems.length + rest.length) * P.bytesOf e) (by simp [DataW.weights, ht])
  rw [Nat.add_mul] at this
  unfold reachBytes at this
  omega
theorem small_string {t : TypeId} {l : List UInt8} (h : Small P t (.lit (.string l) : DataW H)) : l.length ≤ 140737488351232 := by
  have := h l.length (by simp [DataW.weights])
  unfold reachBytes at this
  omega
/-- ARGUMENTS READ AS THEY DID where nothing old has turned. -/
theorem trodAll_below (hl : laidOutB P = true) {W' : World} (hb : Below W.heap.size W W') : ∀ {ts : List TypeId} {vs : List Value} {ds : List (DataW H)} {ps : List MemPlace},
    (∀ t ∈ ts, P.readableRec t = true ∧ t < P.types.size) → DataW.TrodAll enc P W 0 (fun _ => true) true ts vs ds ps → (∀ x ∈ ps, x.block < W.heap.size) →
    DataW.TrodAll enc P W' 0 (fun b => decide (b < W.heap.size)) true ts vs ds ps
  | [], vs, ds, ps, _, h, _ => by
    obtain ⟨rfl, rfl, rfl⟩ := trodAll_nil h
    exact trodAll_mk0
  | t :: ts, vs, ds, ps, hr, h, hlt => by
    obtain ⟨v, vs, d, ds, p, q, rfl, rfl, rfl, h1, h2⟩ := trodAll_cons h
    obtain ⟨r1, r2⟩ := hr t (List.mem_cons_self ..)
    exact ⟨p, q, Below.trod hl r1 r2 h1 hb (fun x hx => hlt x (List.mem_append_left _ hx)), trodAll_below hl hb (fun t ht => hr t (List.mem_cons_of_mem _ ht)) h2 (fun x hx => hlt x (List.mem_append_right _ hx)), rfl⟩
end
end Go.Proofs.YtpadcjcoafidgaaGreatDoor
/-! What the rows of this seat share: a world in which the listed variables lie as the program's text lays them. -/
namespace Go.Proofs.YtpadcjcoafidgaaGreatDoor
open Go.ChangeShapes Go.WideShapes Go.ChangeAt Go.RowKit

theorem ownKnob_none : ownKnob Tryz.prog.godebug = none := by kernel_rfl
def colourCells : List Value := (colourTbl.map fun p => [Value.string p.1, Value.string p.2]).flatten
theorem colourCells_at : ∀ i : Fin 8, colourCells[i.val * 2]? = some (.string (colourAt i.val).1) ∧ colourCells[i.val * 2 + 1]? = some (.string (colourAt i.val).2)
  | ⟨0, _⟩ => ⟨rfl, rfl⟩
  | ⟨1, _⟩ => ⟨rfl, rfl⟩
  | ⟨2, _⟩ => ⟨rfl, rfl⟩
  | ⟨3, _⟩ => ⟨rfl, rfl⟩
  | ⟨4, _⟩ => ⟨rfl, rfl⟩
  | ⟨5, _⟩ => ⟨rfl, rfl⟩
  | ⟨6, _⟩ => ⟨rfl, rfl⟩
  | ⟨7, _⟩ => ⟨rfl, rfl⟩
theorem coloursIn_of_laid {w : World} {l : List (String × DataW Unit)} (h : laidMet Tryz.prog l w) (hm : ("gouache/value.colours", Rows.laid_gouache_value_colours) ∈ l) : ColoursIn w := by
  obtain ⟨ty, fr, hh⟩ := var_of_laid h hm (g := 0) (t := 78) (by kernel_rfl) (by kernel_rfl) 5 (cs := colourCells) (by kernel_rfl)
  refine ⟨(Array.getElem?_eq_some_iff.1 hh).1, fun i hi => ?_⟩
  have := colourCells_at ⟨i, hi⟩
  simp only [World.cell?, hh]
  exact ⟨by simpa using this.1, by simpa using this.2⟩
theorem powIs_of_laid {w : World} {l : List (String × DataW Unit)} (h : laidMet Tryz.prog l w) (hm : ("internal/strconv.uint64pow10", Rows.laid_internal_strconv_uint64pow10) ∈ l) : Lib.TabIs Tryz.prog w "internal/strconv.uint64pow10" .u64 Lib.pow10Tab := by
  obtain ⟨ty, fr, hh⟩ := var_of_laid h hm (g := 4) (t := 200) (by kernel_rfl) (by kernel_rfl) 5 (cs := Lib.pow10Tab.map fun z => Value.int .u64 z) (by kernel_rfl)
  have hg : Tryz.prog.globalNamed "internal/strconv.uint64pow10" = some 4 := by kernel_rfl
  unfold Lib.TabIs World.var?
  rw [hg]
  simp [hh]
theorem base_of_laid {w : World} {l : List (String × DataW Unit)} (h : laidMet Tryz.prog l w) (hm : ("gouache/value.colours", Rows.laid_gouache_value_colours) ∈ l) (hp : ("internal/strconv.uint64pow10", Rows.laid_internal_strconv_uint64pow10) ∈ l) : Base w :=
  ⟨coloursIn_of_laid h hm, powIs_of_laid h hp⟩

/-- The cells of a variable, of its name, by the datum beside it. -/
noncomputable def cellsAs (g : Nat) (d : DataW Unit) : Array Value := ((plainAt Tryz.prog 8 (((Tryz.prog.globals[g]?).map (·.type)).getD 0) d).getD []).toArray
noncomputable def setVar (g : Nat) (d : DataW Unit) (h : Array Obj) : Array Obj := h.modify g fun
  | .cells _ t frozen => .cells (cellsAs g d) t frozen
  | o => o
/-- A world in which the listed variables lie as the program's text lays them. -/
noncomputable def laidWorld (os : Os) : World :=
  { World.holding Tryz.prog os ⟨#[], #[], []⟩ with heap := setVar 6 Rows.laid_unicode_utf8_acceptRanges (setVar 5 Rows.laid_unicode_utf8_first (setVar 2 Rows.laid_gouache_prop_shorts (setVar 0 Rows.laid_gouache_value_colours (setVar 4 Rows.laid_internal_strconv_uint64pow10 (setVar 7 Rows.laid_math_bits_deBruijn32tab (setVar 8 Rows.laid_math_bits_deBruijn64tab (setVar 1 Rows.laid_gouache_short_sides (World.holding Tryz.prog os ⟨#[], #[], []⟩).heap))))))) }
end Go.Proofs.YtpadcjcoafidgaaGreatDoor
/-! The arguments of this seat's laws, opened: texts, values with their kids, declarations; listed variables. -/
namespace Go.Proofs.YtpadcjcoafidgaaGreatDoor
open Go.RowKit Go.ChangeShapes Go.WideShapes Go.ChangeAt

section
variable {H : Type} {enc : TypeId × Value → H} {W : World} {base : Nat} {sp : Nat → Bool} {held : Bool}

theorem cells_string : Tryz.prog.cellsOf 9 = 1 := by kernel_rfl
theorem cells_val : Tryz.prog.cellsOf 26 = 6 := by kernel_rfl
theorem cells_tok : Tryz.prog.cellsOf 23 = 5 := by kernel_rfl
theorem cells_int : Tryz.prog.cellsOf 3 = 1 := by kernel_rfl
theorem cells_bool : Tryz.prog.cellsOf 4 = 1 := by kernel_rfl
theorem cells_vals : Tryz.prog.cellsOf 24 = 1 := by kernel_rfl
theorem bytes_val : Tryz.prog.bytesOf 26 = 72 := by kernel_rfl
theorem bytes_string : Tryz.prog.bytesOf 9 = 16 := by kernel_rfl
theorem laid_out : laidOutB Tryz.prog = true := by kernel_rfl
theorem trod_str1 {fuel : Nat} {v : Value} {x : DataW H × List MemPlace} (h : DataW.trod enc Tryz.prog W base sp held fuel 9 [v] = some x) : ∃ s : ByteArray, v = .string s ∧ x.1 = .lit (.string s.data.toList) := by
  obtain ⟨s, h1, rfl, -⟩ := DataW.trod_string Tryz.underlying9 h
  exact ⟨s, by simpa using h1, rfl⟩
theorem trod_int1 {fuel : Nat} {v : Value} {x : DataW H × List MemPlace} (h : DataW.trod enc Tryz.prog W base sp held fuel 3 [v] = some x) : ∃ n : Int, v = .int .i64 n := by
  obtain ⟨n, h1, -, -⟩ := DataW.trod_int Tryz.underlying3 h
  exact ⟨n, by simpa using h1⟩
theorem trod_bool1 {fuel : Nat} {v : Value} {x : DataW H × List MemPlace} (h : DataW.trod enc Tryz.prog W base sp held fuel 4 [v] = some x) : ∃ b : Bool, v = .bool b := by
  cases fuel with
  | zero => simp [DataW.trod] at h
  | succ n =>
    rw [DataW.trod_step] at h
    unfold DataW.trodStep at h
    simp only [Tryz.underlying4] at h
    split at h <;> simp_all
theorem size_toList (s : ByteArray) : s.data.toList.length = s.size := by rw [Array.length_toList]; rfl
/-- '[]string'. -/
theorem open_ss {fuel : Nat} {v : Value} {x : DataW H × List MemPlace} (h : DataW.trod enc Tryz.prog W base sp held fuel 42 [v] = some x) (hs : Small Tryz.prog 42 x.1) :
    ∃ l, Ss W v l ∧ l.length ≤ 140737488351232 ∧ ∀ s ∈ l, s.size ≤ 140737488351232 := by
  obtain ⟨n, v', rows, ds, -, e, hr, hl, hd, hx⟩ := open_elems Tryz.underlying42 (by rw [cells_string]; decide) h
  cases e
  have key : ∀ i, i < rows.length → ∃ s : ByteArray, rows[i]? = some [.string s] ∧ s.size ≤ 140737488351232 := by
    intro i hi
    obtain ⟨y, h1, h2⟩ := hx i rows[i] (List.getElem?_eq_getElem hi)
    have hlen := hr.len rows[i] (List.getElem_mem hi)
    rw [cells_string] at hlen
    obtain ⟨u, hu⟩ := List.length_eq_one_iff.1 hlen
    rw [hu] at h2
    obtain ⟨s, rfl, h3⟩ := trod_str1 h2
    refine ⟨s, by rw [List.getElem?_eq_getElem hi, hu], ?_⟩
    rcases hd with ⟨-, h0⟩ | ⟨rest, h0⟩
    · rw [h0] at hi; simp at hi
    · rw [h0] at hs
      have h4 := small_elem Tryz.underlying42 hs h1
      rw [h3] at h4
      have := small_string h4
      rwa [size_toList] at this
  obtain ⟨f, hf⟩ := Classical.axiomOfChoice (r := fun (i : Fin rows.length) (s : ByteArray) => rows[i.val]? = some [.string s] ∧ s.size ≤ 140737488351232) (fun i => key i.val i.isLt)
  have hlen : (List.ofFn f).length = rows.length := List.length_ofFn
  obtain ⟨a, cap, rfl, hcap, hc⟩ := hr.shape
  refine ⟨List.ofFn f, ⟨a, cap, by rw [hlen], by rw [hlen]; exact hcap, fun hne => ?_⟩, ?_, ?_⟩
  · obtain ⟨b, off, rfl, hb, hcell⟩ := hc (by intro e; exact hne (List.eq_nil_of_length_eq_zero (hlen.trans (by rw [e]; rfl))))
    refine ⟨b, off, rfl, hb, fun i hi => ?_⟩
    have hi' : i < rows.length := by rw [← hlen]; exact hi
    have h1 := hcell i 0 (.string (f ⟨i, hi'⟩)) (by rw [(hf ⟨i, hi'⟩).1]; rfl)
    rw [cells_string, Nat.mul_one, Nat.add_zero] at h1
    rw [h1, List.getElem_ofFn]
  · rw [hlen]
    rcases hd with ⟨-, h0⟩ | ⟨rest, h0⟩
    · rw [h0]; exact Nat.zero_le _
    · rw [h0] at hs
      have := small_len Tryz.underlying42 hs
      rw [bytes_string] at this
      omega
  · intro s hs'
    obtain ⟨i, rfl⟩ := List.mem_ofFn.1 hs'
    exact (hf i).2
set_option maxRecDepth 100000 in
theorem ss_of {r : Reach} {b0 : Nat} {v : Value} {d : DataW H} {ps : List MemPlace} (hval : Value.okWide Tryz.prog W r b0 42 v) (h : DataW.Trod enc Tryz.prog W base sp held 42 v d ps) (hs : Small Tryz.prog 42 d) : ∃ l, Ss W v l ∧ l.length ≤ 140737488351232 ∧ ∀ s ∈ l, s.size ≤ 140737488351232 := by
  obtain ⟨n, hn⟩ := h
  obtain ⟨a, len, cap, rfl⟩ := okWide_slice Tryz.underlying42 hval
  exact open_ss hn hs
theorem arr2 : Go.WideMaps.ArrKey Tryz.prog 43 3 2 := ⟨Tryz.underlying43, by kernel_rfl, cells_int, by kernel_rfl⟩
/-- A value's token is short enough. -/
def Val.Sm (x : Val) : Prop := x.tok.t.size ≤ 140737488351232 ∧ x.tok.u.size ≤ 140737488351232
theorem VD.up {w : World} : ∀ {n : Nat} {v : Value} {l : List Val}, VD w n v l → VD w (n + 1) v l
  | 0, _, _, h => h.elim
  | n + 1, v, l, ⟨h1, h2⟩ => ⟨h1, fun x hx => by
    obtain ⟨l', h⟩ := h2 x hx
    exact ⟨l', VD.up h⟩⟩
set_option maxRecDepth 100000 in
/-- A token's cells. -/
theorem open_tok {fuel : Nat} {cs : List Value} {x : DataW H × List MemPlace} (h : DataW.trod enc Tryz.prog W base sp held fuel 23 cs = some x) (hs : Small Tryz.prog 23 x.1) :
    ∃ t : Tok, cs = t.row ∧ t.t.size ≤ 140737488351232 ∧ t.u.size ≤ 140737488351232 := by
  obtain ⟨n, ds, -, hl, hx, -, hf⟩ := open_fields Tryz.underlying23 h
  rw [cells_tok] at hl
  obtain ⟨c0, c1, c2, c3, c4, rfl⟩ : ∃ a b c d e, cs = [a, b, c, d, e] := by
    match cs, hl with
    | [a, b, c, d, e], _ => exact ⟨a, b, c, d, e, rfl⟩
  rw [hx] at hs
  obtain ⟨y0, -, h0⟩ := hf 0 _ rfl
  obtain ⟨y1, d1, h1⟩ := hf 1 _ rfl
  obtain ⟨y2, d2, h2⟩ := hf 2 _ rfl
  obtain ⟨y3, -, h3⟩ := hf 3 _ rfl
  obtain ⟨y4, -, h4⟩ := hf 4 _ rfl
  simp only [cells_int, cells_string, cells_bool, List.drop_zero, List.drop_succ_cons, List.take_succ_cons, List.take_zero] at h0 h1 h2 h3 h4
  obtain ⟨k, rfl⟩ := trod_int1 h0
  obtain ⟨s1, rfl, e1⟩ := trod_str1 h1
  obtain ⟨s2, rfl, e2⟩ := trod_str1 h2
  obtain ⟨b3, rfl⟩ := trod_bool1 h3
  obtain ⟨b4, rfl⟩ := trod_bool1 h4
  have m1 := small_field Tryz.underlying23 hs (i := 1) rfl d1
  have m2 := small_field Tryz.underlying23 hs (i := 2) rfl d2
  rw [e1] at m1
  rw [e2] at m2
  have m1 := small_string m1
  have m2 := small_string m2
  rw [size_toList] at m1 m2
  exact ⟨⟨k, s1, s2, b3, b4⟩, rfl, m1, m2⟩
set_option maxRecDepth 100000 in
/-- A value's cells; '[]api.Value', to whatever depth. -/
theorem open_vals : ∀ (fuel : Nat) (v : Value) (x : DataW H × List MemPlace), DataW.trod enc Tryz.prog W base sp held fuel 24 [v] = some x → Small Tryz.prog 24 x.1 →
    ∃ l, VD W fuel v l ∧ ∀ y ∈ l, y.Sm
  | 0, _, _, h, _ => by simp [DataW.trod] at h
  | 1, v, x, h, hs => by
    obtain ⟨n, v', rows, ds, hn, e, hr, hl, hd, hx⟩ := open_elems Tryz.underlying24 (by rw [cells_val]; decide) h
    obtain rfl : n = 0 := by omega
    cases e
    have h0 : rows = [] := by
      cases rows with
      | nil => rfl
      | cons r rows =>
        obtain ⟨y, -, h2⟩ := hx 0 r rfl
        simp [DataW.trod] at h2
    subst h0
    obtain ⟨a, cap, rfl, hcap, -⟩ := hr.shape
    exact ⟨[], ⟨⟨a, cap, rfl, hcap, Nat.zero_le _, fun h => absurd rfl h⟩, fun x hx => by cases hx⟩, fun y hy => by cases hy⟩
  | fuel + 2, v, x, h, hs => by
    obtain ⟨n, v', rows, ds, hn, e, hr, hl, hd, hx⟩ := open_elems Tryz.underlying24 (by rw [cells_val]; decide) h
    obtain rfl : n = fuel + 1 := by omega
    cases e
    have key : ∀ i, i < rows.length → ∃ y : Val, rows[i]? = some y.row ∧ y.Sm ∧ ∃ l', VD W (fuel + 1) y.kids l' := by
      intro i hi
      obtain ⟨y, h1, h2⟩ := hx i rows[i] (List.getElem?_eq_getElem hi)
      have hsy : Small Tryz.prog 26 y.1 := by
        rcases hd with ⟨-, h0⟩ | ⟨rest, h0⟩
        · rw [h0] at hi; simp at hi
        · rw [h0] at hs
          exact small_elem Tryz.underlying24 hs h1
      obtain ⟨n, ds', hn, hl6, hx', -, hf⟩ := open_fields Tryz.underlying26 h2
      obtain rfl : n = fuel := by omega
      rw [cells_val] at hl6
      rw [hx'] at hsy
      obtain ⟨y0, d0, h0⟩ := hf 0 _ rfl
      obtain ⟨y1, d1, h1'⟩ := hf 1 _ rfl
      have s0 := small_field Tryz.underlying26 hsy (i := 0) rfl d0
      have s1 := small_field Tryz.underlying26 hsy (i := 1) rfl d1
      obtain ⟨c0, c1, c2, c3, c4, c5, hrow⟩ : ∃ a b c d e f, rows[i] = [a, b, c, d, e, f] := by
        generalize rows[i] = r at hl6
        match r, hl6 with
        | [a, b, c, d, e, f], _ => exact ⟨a, b, c, d, e, f, rfl⟩
      simp only [hrow, cells_tok, cells_vals, List.drop_zero, List.drop_succ_cons, List.take_succ_cons, List.take_zero] at h0 h1'
      obtain ⟨t, ht, m1, m2⟩ := open_tok h0 s0
      obtain ⟨l', hV, -⟩ := open_vals n c5 y1 h1' s1
      have hV1 := hV.vs
      obtain ⟨a, cap, e5, -⟩ := hV1
      refine ⟨⟨t, a, l'.length, cap⟩, ?_, ⟨m1, m2⟩, l', ?_⟩
      · rw [List.getElem?_eq_getElem hi, hrow, e5]
        show _ = some (t.row ++ _)
        rw [← ht]
        rfl
      · show VD W (n + 1) (.slice a l'.length cap) l'
        rw [← e5]
        exact hV.up
    obtain ⟨f, hf⟩ := Classical.axiomOfChoice (r := fun (i : Fin rows.length) (y : Val) => rows[i.val]? = some y.row ∧ y.Sm ∧ ∃ l', VD W (fuel + 1) y.kids l') (fun i => key i.val i.isLt)
    have hlen : (List.ofFn f).length = rows.length := List.length_ofFn
    obtain ⟨a, cap, rfl, hcap, hc⟩ := hr.shape
    refine ⟨List.ofFn f, ⟨⟨a, cap, by rw [hlen], by rw [hlen]; exact hcap, ?_, fun hne => ?_⟩, fun y hy => ?_⟩, fun y hy => ?_⟩
    · rw [hlen]
      rcases hd with ⟨-, h0⟩ | ⟨rest, h0⟩
      · rw [h0]; exact Nat.zero_le _
      · rw [h0] at hs
        have := small_len Tryz.underlying24 hs
        rw [bytes_val] at this
        omega
    · obtain ⟨b, off, rfl, hb, hcell⟩ := hc (by intro e; exact hne (List.eq_nil_of_length_eq_zero (hlen.trans (by rw [e]; rfl))))
      refine ⟨b, off, rfl, hb, fun i hi j u hu => ?_⟩
      have hi' : i < rows.length := by rw [← hlen]; exact hi
      rw [List.getElem_ofFn] at hu
      have h1 := hcell i j u (by rw [(hf ⟨i, hi'⟩).1]; exact hu)
      rw [cells_val] at h1
      exact h1
    · obtain ⟨i, rfl⟩ := List.mem_ofFn.1 hy
      exact (hf i).2.2
    · obtain ⟨i, rfl⟩ := List.mem_ofFn.1 hy
      exact (hf i).2.1
set_option maxRecDepth 100000 in
/-- One value's cells. -/
theorem open_val {fuel : Nat} {cs : List Value} {x : DataW H × List MemPlace} (h : DataW.trod enc Tryz.prog W base sp held fuel 26 cs = some x) (hs : Small Tryz.prog 26 x.1) :
    ∃ y : Val, cs = y.row ∧ y.Sm ∧ ∃ m l', VD W m y.kids l' := by
  obtain ⟨n, ds', hn, hl6, hx', -, hf⟩ := open_fields Tryz.underlying26 h
  rw [cells_val] at hl6
  rw [hx'] at hs
  obtain ⟨y0, d0, h0⟩ := hf 0 _ rfl
  obtain ⟨y1, d1, h1'⟩ := hf 1 _ rfl
  have s0 := small_field Tryz.underlying26 hs (i := 0) rfl d0
  have s1 := small_field Tryz.underlying26 hs (i := 1) rfl d1
  obtain ⟨c0, c1, c2, c3, c4, c5, rfl⟩ : ∃ a b c d e f, cs = [a, b, c, d, e, f] := by
    match cs, hl6 with
    | [a, b, c, d, e, f], _ => exact ⟨a, b, c, d, e, f, rfl⟩
  simp only [cells_tok, cells_vals, List.drop_zero, List.drop_succ_cons, List.take_succ_cons, List.take_zero] at h0 h1'
  obtain ⟨t, ht, m1, m2⟩ := open_tok h0 s0
  obtain ⟨l', hV, -⟩ := open_vals n c5 y1 h1' s1
  obtain ⟨a, cap, e5, -⟩ := hV.vs
  refine ⟨⟨t, a, l'.length, cap⟩, ?_, ⟨m1, m2⟩, n, l', ?_⟩
  · rw [e5]
    show _ = t.row ++ _
    rw [← ht]
    rfl
  · show VD W n (.slice a l'.length cap) l'
    rw [← e5]
    exact hV
set_option maxRecDepth 100000 in
theorem val_of {r : Reach} {b0 : Nat} {v : Value} {d : DataW H} {ps : List MemPlace} (hval : Value.okWide Tryz.prog W r b0 26 v) (h : DataW.Trod enc Tryz.prog W base sp held 26 v d ps) (hs : Small Tryz.prog 26 d) :
    ∃ y : Val, v = .agg #[.int .i64 y.tok.k, .string y.tok.t, .string y.tok.u, .bool y.tok.wh, .bool y.tok.fl, .slice y.ka y.kn y.kc] ∧ y.Sm ∧ ∃ m l', VD W m y.kids l' := by
  obtain ⟨n, hn⟩ := h
  have hv : ∃ cs, v = .agg cs := by
    unfold Value.okWide at hval
    rw [Tryz.underlying26] at hval
    obtain ⟨cs, h, -⟩ := hval
    exact ⟨cs, h⟩
  obtain ⟨cs, rfl⟩ := hv
  obtain ⟨y, hy, h1, h2⟩ := open_val hn hs
  refine ⟨y, ?_, h1, h2⟩
  have : cs = y.row.toArray := Array.toList_inj.1 hy
  rw [this]
  rfl
end
theorem sideCells_at : ∀ (a : Fin 4) (b : Fin 4), (sidesTbl.map (Value.int .i64))[a.val * 4 + b.val]? = some (.int .i64 (sideAt a.val b.val)) := by
  intro a b
  have h : a.val * 4 + b.val < sidesTbl.length := by
    have := a.isLt
    have := b.isLt
    show a.val * 4 + b.val < 16
    omega
  unfold sideAt
  rw [List.getElem?_map, List.getElem?_eq_getElem h]
  rfl
theorem sidesIn_of_laid {w : World} {l : List (String × DataW Unit)} (h : laidMet Tryz.prog l w) (hm : ("gouache/short.sides", Rows.laid_gouache_short_sides) ∈ l) : SidesIn w := by
  obtain ⟨ty, fr, hh⟩ := var_of_laid h hm (g := 1) (t := 103) (by kernel_rfl) (by kernel_rfl) 5 (cs := sidesTbl.map (Value.int .i64)) (by kernel_rfl)
  refine ⟨(Array.getElem?_eq_some_iff.1 hh).1, fun a b ha hb => ?_⟩
  have := sideCells_at ⟨a, ha⟩ ⟨b, hb⟩
  simp only [World.cell?, hh]
  simpa using this
end Go.Proofs.YtpadcjcoafidgaaGreatDoor
/-! gouachelaw15.ValueColors: whatever the value and the number, it returns true and changes nothing. Condition: the listed tables hold what the program's text lays (the card ties that). -/
namespace Go.Proofs.YtpadcjcoafidgaaGreatDoor.valueColors
open Go.ChangeShapes Go.WideShapes Go.ChangeAt Go.RowKit

set_option maxRecDepth 100000 in
/-- WHAT THE WALK GIVES, FOR EVERY ARGUMENT. -/
theorem contract (H : Type) (enc : TypeId × Value → H) (W : World) (base : Nat) (args : Array Value) (ds gs : List (DataW H)) (before : List MemPlace)
    (hval : ∀ (j : Nat) t v, Tryz.f3.params[j]? = some t → args[j]? = some v → Value.okWide Tryz.prog W .any base t v)
    (hW : DataW.Whole enc Tryz.prog Tryz.f3.params.toList Rows.valueColorsSpec.vars false W args.toList ds gs before)
    (hsz : (DataW.weightsEach Tryz.prog [26, 27] ds).all (· ≤ reachBytes) = true) (hL : laidMetH Tryz.prog Rows.valueColorsRow.laid W) :
    Calls Tryz.prog 3 args W fun e W' => ∃ v, e = .returned v ∧ Rows.valueColorsSpec.post enc Tryz.prog Tryz.f3 false true false false W args v W' := by
  have hW' := hW
  have hlt := hW.lt
  obtain ⟨p, q, hA0, hV, rfl, hfz, hnd⟩ := hW
  have hA : DataW.TrodAll enc Tryz.prog W 0 (fun _ => true) true Tryz.f3.params.toList args.toList ds p := hA0
  have hA1 := hA0
  rw [Tryz.params3] at hA hval
  obtain ⟨v0, v1, d0, d1, p0, p1, rfl, rfl, rfl, h0, h1⟩ := trodAll_two hA
  obtain ⟨rfl, rfl⟩ := trodVars_none hV
  have s0 : Small Tryz.prog 26 d0 := small_arg hsz (j := 0) rfl rfl
  have s1 : Small Tryz.prog 27 d1 := small_arg hsz (j := 1) rfl rfl
  obtain ⟨x, rfl, ⟨m1, m2⟩, m, l', hk⟩ := val_of (hval 0 26 v0 rfl rfl) h0 s0
  obtain ⟨n, rfl, -, -, wk⟩ := open_int Tryz.underlying27 (hval 1 27 v1 rfl rfl) h1
  have hk2 : 0 ≤ n ∧ n ≤ 18446744073709551615 := by
    simp [Lit.wf, IntKind.min, IntKind.max, IntKind.signed, IntKind.bits] at wk
    omega
  clear hA0
  simp only [List.append_nil] at hW' hlt
  have hB : Base W := base_of_laid hL (List.Mem.tail _ (List.Mem.tail _ (List.Mem.tail _ (List.Mem.tail _ (List.Mem.head _))))) (List.Mem.tail _ (List.Mem.tail _ (List.Mem.head _)))
  refine (valueColors_walk x m l' ⟨by omega, by omega⟩ n hk2.1 hk2.2 W hk hB).mono fun e W' ⟨he, hg⟩ => ?_
  subst he
  refine ⟨_, rfl, _, _, _, [], (p0 ++ p1), [], hW', ?_, ?_, ?_, hg.frame _, fun h => by cases h⟩
  · exact trodAll_mk1 (shut_bool Tryz.underlying4 true)
  · refine trodAll_below laid_out hg (fun t ht => ?_) hA1 hlt
    rw [Tryz.params3] at ht
    simp only [List.mem_cons, List.not_mem_nil, or_false] at ht
    rcases ht with rfl | rfl
    all_goals exact ⟨by kernel_rfl, of_decide_eq_true (by kernel_rfl)⟩
  · rfl

set_option maxRecDepth 100000 in
theorem met (os : Os) (args : Array Value) : laidMet Tryz.prog Rows.valueColorsRow.laid ((laidWorld os).forCall (fun _ _ => 0) ⟨#[], args, []⟩).memory :=
  laidMet_of_run' 8 (by kernel_rfl) (by kernel_rfl)
theorem reads (os : Os) {H : Type} (enc : TypeId × Value → H) : ∃ places, DataW.whole enc Tryz.prog ((laidWorld os).forCall (fun _ _ => 0) ⟨#[], #[.agg #[.int .i64 0, .string ⟨#[]⟩, .string ⟨#[]⟩, .bool false, .bool false, .slice none 0 0], .int .u64 0], []⟩).memory Tryz.f3.params.toList Rows.valueColorsSpec.vars false (#[.agg #[.int .i64 0, .string ⟨#[]⟩, .string ⟨#[]⟩, .bool false, .bool false, .slice none 0 0], .int .u64 0] : Array Value).toList 8 = some ([.agg [.agg [.lit (.int .i64 0), .lit (.string []), .lit (.string []), .lit (.bool false), .lit (.bool false)], .nil], .lit (.int .u64 0)], [], places) :=
  ⟨[], by kernel_rfl⟩

set_option maxRecDepth 100000 in
theorem lifted (os : Os) (started : os.Started) (H : Type) (enc : TypeId × Value → H) (F : Stop.Interp) :
    ReturnsInHanded {} Tryz.checked os 3 .any ((OpenSpec.ofChange Rows.valueColorsSpec).preRow enc Tryz.prog Tryz.f3 Rows.valueColorsRow.domain false Rows.valueColorsRow.laid) (((OpenSpec.ofChange Rows.valueColorsSpec).at F).post enc Tryz.prog Tryz.f3 false true false false) := by
  obtain ⟨places, hx⟩ := reads os enc
  refine returnsInHanded_of_row (C := Tryz.checked) (s := OpenSpec.ofChange Rows.valueColorsSpec) ownKnob_none started (by kernel_rfl) Tryz.func3
    (witness_row_at (enc := enc) (C := Tryz.checked) false (laidWorld os) #[.agg #[.int .i64 0, .string ⟨#[]⟩, .string ⟨#[]⟩, .bool false, .bool false, .slice none 0 0], .int .u64 0] rfl (by kernel_rfl) (by kernel_rfl) (by kernel_rfl)
      (OpenSpec.preRow_of_cond 8 hx (by kernel_rfl) (fun k hk => by cases hk) (by kernel_rfl) (met os _))) ?_
  intro W base args ds gs before hval hW _ _ hsz hL _ _
  have hg : gs = [] := by
    obtain ⟨p, q, _, hV, _⟩ := hW
    exact (trodVars_none hV).1
  subst hg
  have hsz' : (DataW.weightsEach Tryz.prog [26, 27] ds).all (· ≤ reachBytes) = true := by rw [List.append_nil] at hsz; exact hsz
  exact contract H enc W base args ds [] before hval hW hsz' hL

theorem said : Rows.ValueColorsSaid :=
  OpenClaim.holds_of_cond 3 Tryz.f3 rfl rfl rfl rfl rfl rfl rfl ⟨rfl, rfl, rfl, rfl, rfl⟩ rfl rfl rfl rfl rfl (by kernel_rfl) Tryz.func3 (by kernel_rfl)
    (of_decide_eq_true (by kernel_rfl)) (by unfold Func.isWrapper; first | (rw [if_pos (by decide +kernel)]; kernel_rfl) | (rw [if_neg (by decide +kernel)]; exact ⟨rfl, rfl⟩))
    (fun os started H enc _ F => by rw [OpenClaim.pre_eq_preRow]; exact lifted os started H enc F)

/-- No parameter wants a stand-in; the program's own looks are off: what the card asks. -/
theorem plain (f : FuncId) (fn : Func) (hf : Tryz.pinned.checked.prog.funcNamed "gouache/gouachelaw15.ValueColors" = some f) (hfn : Tryz.pinned.checked.prog.funcs[f]? = some fn) :
    false = Tryz.pinned.checked.prog.looks [] ∧ ∀ (j : Nat) t, fn.params[j]? = some t → Tryz.pinned.checked.prog.wantsStandIn t = false := by
  obtain rfl : f = 3 := Option.some.inj ((show Tryz.prog.funcNamed "gouache/gouachelaw15.ValueColors" = some 3 by kernel_rfl).symm.trans hf) |>.symm
  obtain rfl : fn = Tryz.f3 := (Option.some.inj (Tryz.func3.symm.trans hfn)).symm
  refine ⟨by kernel_rfl, fun j t ht => ?_⟩
  rw [Tryz.params3] at ht
  have ht' : t = 26 ∨ t = 27 := by simpa using Array.mem_of_getElem? ht
  rcases ht' with rfl | rfl
  · exact (show Tryz.prog.wantsStandIn 26 = false by kernel_rfl)
  · exact (show Tryz.prog.wantsStandIn 27 = false by kernel_rfl)

/-- THE CARD. -/
theorem card : Rows.ValueColorsCardSaid :=
  Claim7.holds_tied_plain_at .later [] _ _ _ _ said (fun _ h => by cases h) (by kernel_rfl) (fun _ h => by cases h) valueColors_row_tie rfl ⟨rfl, rfl⟩ (by kernel_rfl) rfl plain (by kernel_rfl)
end Go.Proofs.YtpadcjcoafidgaaGreatDoor.valueColors
