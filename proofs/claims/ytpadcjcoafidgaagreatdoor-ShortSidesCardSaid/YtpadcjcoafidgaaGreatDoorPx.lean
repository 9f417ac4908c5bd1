/- Texts of lengths with spaces between: their tokens; what they are read as. -/
import Derived.Test.YtpadcjcoafidgaaGreatDoorDigits
import Derived.Test.YtpadcjcoafidgaaGreatDoorLives16
import Derived.Test.YtpadcjcoafidgaaGreatDoorShapes
namespace Go.Proofs.YtpadcjcoafidgaaGreatDoor
open Go.RowKit

theorem decC_more (u : Nat) (h : u ≤ 1000000) : decC 20 u = decC 8 u := by
  rw [decC_eq 20 u (by omega), decC_eq 8 u (by omega)]
  rfl
theorem digS_itoa (n : Int) (h0 : 0 ≤ n) (h1 : n ≤ 1000000) : digS n = itoaS n := by
  unfold digS itoaS itoaC
  rw [if_neg (by omega), if_neg (by omega), decC_more _ (by omega)]
theorem decC_digit : ∀ (f u : Nat) (b : UInt8), b ∈ decC f u → 48 ≤ b.toNat ∧ b.toNat ≤ 57
  | 0, u, b, h => by cases h
  | f + 1, u, b, h => by
    have key : ∀ k, k < 10 → 48 ≤ (UInt8.ofNat (48 + k)).toNat ∧ (UInt8.ofNat (48 + k)).toNat ≤ 57 := by
      intro k hk
      rw [UInt8.toNat_ofNat']
      omega
    rw [decC] at h
    split at h
    · rw [List.mem_singleton.1 h]; exact key u (by omega)
    · rcases List.mem_append.1 h with h | h
      · exact decC_digit f _ b h
      · rw [List.mem_singleton.1 h]; exact key _ (by omega)
theorem decC_ne (f u : Nat) : decC (f + 1) u ≠ [] := by
  rw [decC]
  split <;> simp
theorem decC_len : ∀ (f u : Nat), (decC f u).length ≤ f
  | 0, u => Nat.le_refl _
  | f + 1, u => by
    rw [decC]
    split
    · simp
    · have := decC_len f (u / 10)
      simp
      omega
theorem decN_decC : ∀ (f u : Nat), u < 10 ^ f → u ≤ 1000000 → decN (decC f u) = (u : Int)
  | 0, u, h, _ => by
    simp at h
    subst h
    rfl
  | f + 1, u, h, h2 => by
    have key : ∀ k, k < 10 → (((UInt8.ofNat (48 + k)).toNat : Nat) : Int) = 48 + (k : Int) := by
      intro k hk
      rw [UInt8.toNat_ofNat']
      omega
    rw [decC]
    split
    · rename_i hu
      show decStep 0 _ = _
      unfold decStep
      rw [key u hu]
      omega
    · have ih := decN_decC f (u / 10) (by rw [Nat.pow_succ] at h; omega) (by omega)
      unfold decN at ih ⊢
      rw [List.foldl_append, ih]
      show decStep _ _ = _
      unfold decStep
      rw [key _ (Nat.mod_lt _ (by omega))]
      omega
/-- A length's token. -/
def dimT (n : Int) : Tok := ⟨12, itoaS n, pxS, true, false⟩
theorem itoaS_pos (n : Int) (h0 : 0 ≤ n) : (itoaS n).data.toList = decC 8 n.toNat := by
  show (itoaC n).toArray.toList = _
  unfold itoaC
  rw [if_neg (by omega)]
theorem head_digit (n : Int) (h0 : 0 ≤ n) (c : UInt8) (hc : c.toNat < 48) : tp (itoaS n) c = itoaS n := by
  have hl := itoaS_pos n h0
  unfold tp Lib.trimPrefix Lib.hasPrefix
  rw [hl]
  cases hd : decC 8 n.toNat with
  | nil => exact absurd hd (decC_ne 7 _)
  | cons a l =>
    have ha := decC_digit 8 n.toNat a (by rw [hd]; exact List.mem_cons_self ..)
    have hne : (c == a) = false := by
      rw [beq_eq_false_iff_ne]
      intro e
      rw [e] at hc
      omega
    have hp : List.isPrefixOf [c] (a :: l) = false := by simp [List.isPrefixOf, hne]
    rw [hp, if_neg (by decide), ← hd, ← hl]
theorem intDigs_dim (n : Int) (h0 : 0 ≤ n) : intDigs (itoaS n) = itoaS n ∧ tp (itoaS n) 43 = itoaS n := by
  have h1 := head_digit n h0 43 (by decide)
  have h2 := head_digit n h0 45 (by decide)
  refine ⟨?_, h1⟩
  unfold intDigs
  rw [h1, if_neg (Nat.lt_irrefl _), h2]
theorem dim_int (n : Int) (h0 : 0 ≤ n) (h1 : n ≤ 1000000) : intOk (dimT n) = true ∧ intN (dimT n) = n := by
  obtain ⟨e1, e2⟩ := intDigs_dim n h0
  have hl := itoaS_pos n h0
  have hne : eqB (itoaS n) noStr = false := by
    cases hq : eqB (itoaS n) noStr with
    | false => rfl
    | true =>
      have := (eqB_iff _ _).1 hq
      rw [this] at hl
      exact absurd hl.symm (decC_ne 7 _)
  have hbad : anyBad (itoaS n) = false := by
    unfold anyBad
    rw [hl, List.any_eq_false]
    intro b hb
    have := decC_digit 8 _ b hb
    unfold notDig isIn
    rw [decide_eq_true (by omega), decide_eq_true (by omega)]
    decide
  have hok : intOk (dimT n) = true := by
    unfold intOk dimT
    simp only [e1, hne, hbad]
    rfl
  refine ⟨hok, ?_⟩
  unfold intN
  rw [if_pos hok]
  show intVal (itoaS n) = n
  unfold intVal
  rw [e1, e2, if_pos (eqB_self _), hl, decN_decC 8 _ (by omega) (by omega)]
  omega
theorem part_dim (n : Int) (h0 : 0 ≤ n) (h1 : n ≤ 1000000) : partS fLenP (Val.of (dimT n)) = some (itoaS n ++ pxS) := by
  obtain ⟨e1, e2⟩ := dim_int n h0 h1
  unfold partS
  rw [if_neg (show ¬ 0 < (Val.of (dimT n)).kn from Nat.lt_irrefl 0), if_pos (by decide)]
  show toldS (intN (dimT n)) (intOk (dimT n)) fLenP pxS (lengthS (dimT n) (intN (dimT n))) = _
  have hlen : lengthS (dimT n) (intN (dimT n)) = true := by
    unfold lengthS dimT
    rw [if_pos rfl]
    show eqB (fold pxS) pxS = true
    decide +kernel
  rw [hlen, e1, e2]
  unfold toldS
  rw [decide_eq_false (by omega), if_pos (by decide)]
/-! ### The tokens -/
def dR (n : Int) : List Int := (decC 8 n.toNat).map fun b => (b.toNat : Int)
theorem dR_ne (n : Int) : dR n ≠ [] := by
  intro e
  exact decC_ne 7 n.toNat (List.map_eq_nil_iff.1 e)
theorem dR_digit (n : Int) : ∀ c ∈ dR n, isIn 48 57 c = true := by
  intro c hc
  obtain ⟨b, hb, rfl⟩ := List.mem_map.1 hc
  have := decC_digit 8 _ b hb
  unfold isIn
  rw [decide_eq_true (by omega), decide_eq_true (by omega)]
  rfl
theorem strOf_dR (n : Int) (h0 : 0 ≤ n) : strOf (dR n) = itoaS n := by
  have hl := itoaS_pos n h0
  apply ByteArray.ext
  apply Array.toList_inj.1
  rw [hl]
  unfold strOf dR
  rw [List.map_map]
  show (decC 8 n.toNat).map _ = _
  have : ∀ b : UInt8, (byteOf ∘ fun b : UInt8 => (b.toNat : Int)) b = b := fun b => by
    show UInt8.ofNat ((b.toNat : Int)).toNat = b
    rw [Int.toNat_natCast]
    simp
  rw [List.map_congr_left (fun b _ => this b), List.map_id']
def pxR : List Int := [112, 120]
/-- A length's runes, and what stands behind. -/
theorem step_dim (n : Int) (h0 : 0 ≤ n) (r : List Int) (hr : r = [] ∨ isPart (at_ r 0) = false) : step (dR n ++ 112 :: 120 :: r) = some (dimT n, (dR n).length + 2) := by
  have := step_px [] (dR n) r (.inl rfl) (dR_ne n) (dR_digit n) hr
  rw [List.nil_append] at this
  rw [this, List.nil_append, strOf_dR n h0]
  rfl
theorem drop_dim (n : Int) (r : List Int) : (dR n ++ 112 :: 120 :: r).drop ((dR n).length + 2) = r := by
  rw [← List.drop_drop, List.drop_left]
  rfl
theorem lex_dim (n : Int) (h0 : 0 ≤ n) (r : List Int) (hr : r = [] ∨ isPart (at_ r 0) = false) (f : Nat) (l : List Tok) (h : lexF f r = some l) : lexF (f + 1) (dR n ++ 112 :: 120 :: r) = some (dimT n :: l) :=
  lexF_step f _ _ _ l (by simp) (step_dim n h0 r hr) (by rw [drop_dim]; exact h)
theorem lex_sp (r : List Int) (hr : r = [] ∨ isBlank (at_ r 0) = false) (f : Nat) (l : List Tok) (h : lexF f r = some l) : lexF (f + 1) (32 :: r) = some (spaceT :: l) :=
  lexF_step f _ _ _ l (by simp) (step_blank r hr) h
theorem dR_at (n : Int) (r : List Int) : isBlank (at_ (dR n ++ r) 0) = false := by
  have hne := dR_ne n
  cases hd : dR n with
  | nil => exact absurd hd hne
  | cons a l =>
    have := dR_digit n a (by rw [hd]; exact List.mem_cons_self ..)
    show isBlank a = false
    have hb : 48 ≤ a ∧ a ≤ 57 := by simpa [isIn] using this
    simp [isBlank]
    omega
theorem lexF_nil (f : Nat) : lexF f [] = some [] := by cases f <;> rfl
theorem lex_two (a b : Int) (ha : 0 ≤ a) (hb : 0 ≤ b) (f : Nat) : lexF (f + 3) (dR a ++ 112 :: 120 :: 32 :: (dR b ++ [112, 120])) = some [dimT a, spaceT, dimT b] :=
  lex_dim a ha (32 :: _) (.inr rfl) _ _ (lex_sp _ (.inr (dR_at b _)) _ _ (lex_dim b hb [] (.inl rfl) _ _ (lexF_nil _)))
theorem lex_three (a b c : Int) (ha : 0 ≤ a) (hb : 0 ≤ b) (hc : 0 ≤ c) (f : Nat) : lexF (f + 5) (dR a ++ 112 :: 120 :: 32 :: (dR b ++ 112 :: 120 :: 32 :: (dR c ++ [112, 120]))) = some [dimT a, spaceT, dimT b, spaceT, dimT c] :=
  lex_dim a ha (32 :: _) (.inr rfl) _ _ (lex_sp _ (.inr (dR_at b _)) _ _ (lex_dim b hb (32 :: _) (.inr rfl) _ _ (lex_sp _ (.inr (dR_at c _)) _ _ (lex_dim c hc [] (.inl rfl) _ _ (lexF_nil _)))))
theorem dR_tame (n : Int) : ∀ c ∈ dR n, tm c := by
  intro c hc
  have := dR_digit n c hc
  have hb : 48 ≤ c ∧ c ≤ 57 := by simpa [isIn] using this
  exact .inl hb
theorem runes_app (a b : ByteArray) : runesOf (a ++ b) = runesOf a ++ runesOf b := by unfold runesOf; simp
theorem runes_itoa (n : Int) (h0 : 0 ≤ n) : runesOf (itoaS n) = dR n := by
  unfold runesOf dR
  rw [itoaS_pos n h0]
def spS : ByteArray := ⟨#[32]⟩
def pxOf (n : Int) : ByteArray := itoaS n ++ pxS
def twoS (a b : Int) : ByteArray := pxOf a ++ spS ++ pxOf b
def threeS (a b c : Int) : ByteArray := pxOf a ++ spS ++ pxOf b ++ spS ++ pxOf c
theorem runes_two (a b : Int) (ha : 0 ≤ a) (hb : 0 ≤ b) : runesOf (twoS a b) = dR a ++ 112 :: 120 :: 32 :: (dR b ++ [112, 120]) := by
  unfold twoS pxOf
  simp only [runes_app, runes_itoa a ha, runes_itoa b hb]
  rw [show runesOf pxS = [112, 120] by rfl, show runesOf spS = [32] by rfl]
  simp
theorem runes_three (a b c : Int) (ha : 0 ≤ a) (hb : 0 ≤ b) (hc : 0 ≤ c) : runesOf (threeS a b c) = dR a ++ 112 :: 120 :: 32 :: (dR b ++ 112 :: 120 :: 32 :: (dR c ++ [112, 120])) := by
  unfold threeS pxOf
  simp only [runes_app, runes_itoa a ha, runes_itoa b hb, runes_itoa c hc]
  rw [show runesOf pxS = [112, 120] by rfl, show runesOf spS = [32] by rfl]
  simp
theorem dR_len (n : Int) : (dR n).length ≤ 8 := by unfold dR; rw [List.length_map]; exact decC_len 8 _
theorem lexes_two (a b : Int) (ha : 0 ≤ a) (hb : 0 ≤ b) : Lexes (twoS a b) [dimT a, spaceT, dimT b] := by
  have hr := runes_two a b ha hb
  have l1 := dR_len a
  have l2 := dR_len b
  have hlen : (runesOf (twoS a b)).length = (dR a).length + 5 + (dR b).length := by rw [hr]; simp; omega
  refine ⟨?_, ?_, by rw [← runesOf_len, hlen]; omega, by simp⟩
  · rw [hr]
    intro c hc
    simp only [List.mem_append, List.mem_cons, List.not_mem_nil, or_false] at hc
    rcases hc with h | h | h | h | h | h | h
    · exact dR_tame a c h
    · subst h; decide
    · subst h; decide
    · subst h; decide
    · exact dR_tame b c h
    · subst h; decide
    · subst h; decide
  · unfold Go.Proofs.YtpadcjcoafidgaaGreatDoor.lex
    rw [hlen, show (dR a).length + 5 + (dR b).length = ((dR a).length + 2 + (dR b).length) + 3 by omega, hr]
    exact lex_two a b ha hb _
theorem lexes_three (a b c : Int) (ha : 0 ≤ a) (hb : 0 ≤ b) (hc : 0 ≤ c) : Lexes (threeS a b c) [dimT a, spaceT, dimT b, spaceT, dimT c] := by
  have hr := runes_three a b c ha hb hc
  have l1 := dR_len a
  have l2 := dR_len b
  have l3 := dR_len c
  have hlen : (runesOf (threeS a b c)).length = (dR a).length + 8 + (dR b).length + (dR c).length := by rw [hr]; simp; omega
  refine ⟨?_, ?_, by rw [← runesOf_len, hlen]; omega, by simp⟩
  · rw [hr]
    intro x hx
    simp only [List.mem_append, List.mem_cons, List.not_mem_nil, or_false] at hx
    rcases hx with h | h | h | h | h | h | h | h | h | h | h
    · exact dR_tame a x h
    · subst h; decide
    · subst h; decide
    · subst h; decide
    · exact dR_tame b x h
    · subst h; decide
    · subst h; decide
    · subst h; decide
    · exact dR_tame c x h
    · subst h; decide
    · subst h; decide
  · unfold Go.Proofs.YtpadcjcoafidgaaGreatDoor.lex
    rw [hlen, show (dR a).length + 8 + (dR b).length + (dR c).length = ((dR a).length + 3 + (dR b).length + (dR c).length) + 5 by omega, hr]
    exact lex_three a b c ha hb hc _
/-! ### What they are expanded to -/
def aPadding : ByteArray := ⟨#[112, 97, 100, 100, 105, 110, 103]⟩
def dimV (n : Int) : Val := Val.of (dimT n)
def spV : Val := Val.of spaceT
theorem isSp_dim (n : Int) : isSp (dimV n) = false := rfl
theorem isSp_sp : isSp spV = true := rfl
theorem trim_two (a b : Int) : trim [dimV a, spV, dimV b] = [dimV a, spV, dimV b] := by
  unfold trim
  rw [List.dropWhile_cons, isSp_dim, if_neg (by decide)]
  show ((dimV b :: spV :: dimV a :: []).dropWhile isSp).reverse = _
  rw [List.dropWhile_cons, isSp_dim, if_neg (by decide)]
  rfl
theorem trim_three (a b c : Int) : trim [dimV a, spV, dimV b, spV, dimV c] = [dimV a, spV, dimV b, spV, dimV c] := by
  unfold trim
  rw [List.dropWhile_cons, isSp_dim, if_neg (by decide)]
  show ((dimV c :: spV :: dimV b :: spV :: dimV a :: []).dropWhile isSp).reverse = _
  rw [List.dropWhile_cons, isSp_dim, if_neg (by decide)]
  rfl
theorem trim_one (n : Int) : trim [dimV n] = [dimV n] := by
  unfold trim
  rw [List.dropWhile_cons, isSp_dim, if_neg (by decide)]
  show ((dimV n :: []).dropWhile isSp).reverse = _
  rw [List.dropWhile_cons, isSp_dim, if_neg (by decide)]
  rfl
theorem parts_two (a b : Int) : partsS [dimV a, spV, dimV b] = some [dimV a, dimV b] := by
  unfold partsS
  rw [trim_two]
  simp [partsF, isSp_dim, isSp_sp]
theorem parts_three (a b c : Int) : partsS [dimV a, spV, dimV b, spV, dimV c] = some [dimV a, dimV b, dimV c] := by
  unfold partsS
  rw [trim_three]
  simp [partsF, isSp_dim, isSp_sp]
def padLongs : List ByteArray := longsOf aPadding
theorem pad_facts : padLongs.length = 4 ∧ (placeN aPadding).isNone = true ∧ eqB aPadding aOverflow = false ∧ padLongs.all (fun s => (placeN s).isSome && memB fLenP ((parts (findRow s).2.2.2).take 1)) = true := by decide +kernel
theorem parse_pad (s : ByteArray) (hs : s ∈ padLongs) (n : Int) (h0 : 0 ≤ n) (h1 : n ≤ 1000000) : parseS s [dimV n] = some (pxOf n) := by
  have h := List.all_eq_true.1 pad_facts.2.2.2 s hs
  rw [Bool.and_eq_true] at h
  rw [parseS_one (trim_one n), if_pos h.1]
  cases hp : parts (findRow s).2.2.2 with
  | nil =>
    rw [hp] at h
    have := h.2
    cases this
  | cons f fs =>
    rw [hp] at h
    have hf : f = fLenP := by
      have h2 := h.2
      unfold memB at h2
      simp only [List.take_succ_cons, List.take_zero, List.any_cons, List.any_nil, Bool.or_false] at h2
      exact ((eqB_iff _ _).1 h2).symm
    subst hf
    unfold firstPart
    rw [show partS fLenP (dimV n) = some (pxOf n) from part_dim n h0 h1]
theorem four_list {α : Type} (l : List α) (h : l.length = 4) : ∃ a b c d, l = [a, b, c, d] := by
  match l, h with
  | [a, b, c, d], _ => exact ⟨a, b, c, d, rfl⟩
theorem which_pad (n i : Int) : whichS aPadding n i = sidesS n i := by
  unfold whichS
  rw [pad_facts.2.2.1, if_neg (by decide)]
theorem spread_two (a b : Int) (ha : 0 ≤ a) (ha2 : a ≤ 1000000) (hb : 0 ≤ b) (hb2 : b ≤ 1000000) : spreadS aPadding padLongs [dimV a, spV, dimV b] = [pxOf a, pxOf b, pxOf a, pxOf b] := by
  obtain ⟨w, x, y, z, hl⟩ := four_list padLongs pad_facts.1
  unfold spreadS
  rw [parts_two]
  have hw := parse_pad w (by rw [hl]; simp) a ha ha2
  have hx := parse_pad x (by rw [hl]; simp) b hb hb2
  have hy := parse_pad y (by rw [hl]; simp) a ha ha2
  have hz := parse_pad z (by rw [hl]; simp) b hb hb2
  rw [hl]
  simp only [List.length_cons, List.length_nil, spreadF, which_pad]
  rw [show sidesS ((0 + 1 + 1 : Nat) : Int) ((0 : Nat) : Int) = 0 by decide, show sidesS ((0 + 1 + 1 : Nat) : Int) ((0 + 1 : Nat) : Int) = 1 by decide, show sidesS ((0 + 1 + 1 : Nat) : Int) ((0 + 1 + 1 : Nat) : Int) = 0 by decide, show sidesS ((0 + 1 + 1 : Nat) : Int) ((0 + 1 + 1 + 1 : Nat) : Int) = 1 by decide]
  simp [hw, hx, hy, hz]
theorem spread_three (a b c : Int) (ha : 0 ≤ a) (ha2 : a ≤ 1000000) (hb : 0 ≤ b) (hb2 : b ≤ 1000000) (hc : 0 ≤ c) (hc2 : c ≤ 1000000) : spreadS aPadding padLongs [dimV a, spV, dimV b, spV, dimV c] = [pxOf a, pxOf b, pxOf c, pxOf b] := by
  obtain ⟨w, x, y, z, hl⟩ := four_list padLongs pad_facts.1
  unfold spreadS
  rw [parts_three]
  have hw := parse_pad w (by rw [hl]; simp) a ha ha2
  have hx := parse_pad x (by rw [hl]; simp) b hb hb2
  have hy := parse_pad y (by rw [hl]; simp) c hc hc2
  have hz := parse_pad z (by rw [hl]; simp) b hb hb2
  rw [hl]
  simp only [List.length_cons, List.length_nil, spreadF, which_pad]
  rw [show sidesS ((0 + 1 + 1 + 1 : Nat) : Int) ((0 : Nat) : Int) = 0 by decide, show sidesS ((0 + 1 + 1 + 1 : Nat) : Int) ((0 + 1 : Nat) : Int) = 1 by decide, show sidesS ((0 + 1 + 1 + 1 : Nat) : Int) ((0 + 1 + 1 : Nat) : Int) = 2 by decide, show sidesS ((0 + 1 + 1 + 1 : Nat) : Int) ((0 + 1 + 1 + 1 : Nat) : Int) = 1 by decide]
  simp [hw, hx, hy, hz]
theorem wide_two (a b : Int) : wideS [dimV a, spV, dimV b] = noStr := wideS_not (by rw [trim_two]; simp)
theorem wide_three (a b c : Int) : wideS [dimV a, spV, dimV b, spV, dimV c] = noStr := wideS_not (by rw [trim_three]; simp)
theorem dim_fits (n : Int) (h0 : 0 ≤ n) : (dimV n).fits := by
  refine ⟨?_, show pxS.size ≤ 4294967295 by decide⟩
  show (itoaS n).size ≤ 4294967295
  have h := itoaS_pos n h0
  have h2 : (itoaS n).size = (itoaS n).data.toList.length := by rw [Array.length_toList]; rfl
  have := decC_len 8 n.toNat
  rw [h2, h]
  omega
theorem sp_fits : spV.fits := ⟨by decide, by decide⟩
end Go.Proofs.YtpadcjcoafidgaaGreatDoor
