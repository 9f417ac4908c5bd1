/- The walk of gouachelaw16.ShortSides. -/
import Derived.Test.YtpadcjcoafidgaaGreatDoorPx
import Derived.Deep.RegionHeld3
namespace Go.Proofs.YtpadcjcoafidgaaGreatDoor
open Go.RowKit

theorem strs_eq_self (a : ByteArray) : (a.toList == a.toList) = true := by simp
theorem pad_two (a b : Int) (ha : 0 ≤ a) (ha2 : a ≤ 1000000) (hb : 0 ≤ b) (hb2 : b ≤ 1000000) (w x y z : ByteArray) (hl : padLongs = [w, x, y, z]) : expandS aPadding [dimV a, spV, dimV b] false = [(w, pxOf a, false), (x, pxOf b, false), (y, pxOf a, false), (z, pxOf b, false)] := by
  unfold expandS
  rw [show longsOf aPadding = padLongs from rfl, spread_two a b ha ha2 hb hb2, hl]
  rfl
theorem pad_three (a b c : Int) (ha : 0 ≤ a) (ha2 : a ≤ 1000000) (hb : 0 ≤ b) (hb2 : b ≤ 1000000) (hc : 0 ≤ c) (hc2 : c ≤ 1000000) (w x y z : ByteArray) (hl : padLongs = [w, x, y, z]) : expandS aPadding [dimV a, spV, dimV b, spV, dimV c] false = [(w, pxOf a, false), (x, pxOf b, false), (y, pxOf c, false), (z, pxOf b, false)] := by
  unfold expandS
  rw [show longsOf aPadding = padLongs from rfl, spread_three a b c ha ha2 hb hb2 hc hc2, hl]
  rfl
theorem itoa_small (n : Int) (h0 : 0 ≤ n) : (itoaS n).size ≤ 8 := by
  have h := itoaS_pos n h0
  have h2 : (itoaS n).size = (itoaS n).data.toList.length := by rw [Array.length_toList]; rfl
  rw [h2, h]
  exact decC_len 8 _
/-- A slice of four longhands, and their values. -/
def Four (W : World) (v : Value) (p q r s : ByteArray) : Prop := ∃ b off c, v = .slice (some ⟨b, off, none⟩) 4 c ∧ b < W.heap.size ∧ W.cell? ⟨b, off + 1, none⟩ = some (.string p) ∧ W.cell? ⟨b, off + 3 + 1, none⟩ = some (.string q) ∧ W.cell? ⟨b, off + 6 + 1, none⟩ = some (.string r) ∧ W.cell? ⟨b, off + 9 + 1, none⟩ = some (.string s)
theorem Four.of {B : Nat} {W : World} {v : Value} {w x y z p q r s : ByteArray} (h : Rws B W 3 v (([(w, p, false), (x, q, false), (y, r, false), (z, s, false)] : List LongT).map LongT.row)) : Four W v p q r s := by
  obtain ⟨b, off, c, hv, _, hlt, hc⟩ := h.shape (by simp)
  exact ⟨b, off, c, hv, hlt, hc 0 1 _ rfl, hc 1 1 _ rfl, hc 2 1 _ rfl, hc 3 1 _ rfl⟩
theorem exp_two (a b : Int) (ha : 0 ≤ a) (ha2 : a ≤ 1000000) (hb : 0 ≤ b) (hb2 : b ≤ 1000000) (W : World) (hB : Base16 W) (v : Value) (hv : Vs W v [dimV a, spV, dimV b]) : ∀ x n c, v = .slice x n c →
    Calls Tryz.prog 25 #[.agg #[.string ⟨#[112, 97, 100, 100, 105, 110, 103]⟩, .slice x n c, .bool false]] W fun e w' => ∃ V, e = .returned V ∧ Four w' V (pxOf a) (pxOf b) (pxOf a) (pxOf b) ∧ Below W.heap.size W w' := by
  intro x n c hx
  obtain ⟨w1, x1, y1, z1, hl⟩ := four_list padLongs pad_facts.1
  refine (Expand_short W hB aPadding v _ false hv ?_ (wide_two a b) (Option.isNone_iff_eq_none.1 pad_facts.2.1) x n c hx).mono ?_
  · intro y hy
    simp only [List.mem_cons, List.not_mem_nil, or_false] at hy
    rcases hy with rfl | rfl | rfl
    · exact dim_fits a ha
    · exact sp_fits
    · exact dim_fits b hb
  · rintro e w' ⟨V, rfl, hr, hb⟩
    rw [pad_two a b ha ha2 (by assumption) hb2 w1 x1 y1 z1 hl] at hr
    exact ⟨V, rfl, Four.of hr, hb⟩
theorem exp_three (a b c' : Int) (ha : 0 ≤ a) (ha2 : a ≤ 1000000) (hb : 0 ≤ b) (hb2 : b ≤ 1000000) (hc : 0 ≤ c') (hc2 : c' ≤ 1000000) (W : World) (hB : Base16 W) (v : Value) (hv : Vs W v [dimV a, spV, dimV b, spV, dimV c']) : ∀ x n c, v = .slice x n c →
    Calls Tryz.prog 25 #[.agg #[.string ⟨#[112, 97, 100, 100, 105, 110, 103]⟩, .slice x n c, .bool false]] W fun e w' => ∃ V, e = .returned V ∧ Four w' V (pxOf a) (pxOf b) (pxOf c') (pxOf b) ∧ Below W.heap.size W w' := by
  intro x n c hx
  obtain ⟨w1, x1, y1, z1, hl⟩ := four_list padLongs pad_facts.1
  refine (Expand_short W hB aPadding v _ false hv ?_ (wide_three a b c') (Option.isNone_iff_eq_none.1 pad_facts.2.1) x n c hx).mono ?_
  · intro y hy
    simp only [List.mem_cons, List.not_mem_nil, or_false] at hy
    rcases hy with rfl | rfl | rfl | rfl | rfl
    · exact dim_fits a ha
    · exact sp_fits
    · exact dim_fits b hb
    · exact sp_fits
    · exact dim_fits c' hc
  · rintro e w' ⟨V, rfl, hr, hb'⟩
    rw [pad_three a b c' ha ha2 hb hb2 hc hc2 w1 x1 y1 z1 hl] at hr
    exact ⟨V, rfl, Four.of hr, hb'⟩
set_option maxRecDepth 100000 in
set_option maxHeartbeats 8000000 in
theorem shortSides_good (a b c : Int) (ha : 0 ≤ a) (ha2 : a ≤ 1000000) (hb : 0 ≤ b) (hb2 : b ≤ 1000000) (hc : 0 ≤ c) (hc2 : c ≤ 1000000) (w : World) (hB : Base16 w) :
    Calls Tryz.prog 7 #[.int .i64 a, .int .i64 b, .int .i64 c] w fun e w' => e = .returned (.bool true) ∧ Below w.heap.size w w' := by
  have HB := Lib.hid hB
  have za := itoa_small a ha
  have zb := itoa_small b hb
  have zc := itoa_small c hc
  have H2 := Lib.hid (exp_two a b ha ha2 hb hb2)
  have H3 := Lib.hid (exp_three a b c ha ha2 hb hb2 hc hc2)
  have V2 := Lib.hid (fun W => values16_any W (twoS a b) _ (lexes_two a b ha hb))
  have V3 := Lib.hid (fun W => values16_any W (threeS a b c) _ (lexes_three a b c ha hb hc))
  have d1 := digits16_any a (by omega)
  have d2 := digits16_any b (by omega)
  have d3 := digits16_any c (by omega)
  rw [digS_itoa a ha ha2] at d1
  rw [digS_itoa b hb hb2] at d2
  rw [digS_itoa c hc hc2] at d3
  have D1 := Lib.hid d1
  have D2 := Lib.hid d2
  have D3 := Lib.hid d3
  obtain ⟨PA, hPA⟩ : ∃ x, pxOf a = x := ⟨_, rfl⟩
  obtain ⟨PB, hPB⟩ : ∃ x, pxOf b = x := ⟨_, rfl⟩
  obtain ⟨PC, hPC⟩ : ∃ x, pxOf c = x := ⟨_, rfl⟩
  obtain ⟨T2, hT2⟩ : ∃ x, twoS a b = x := ⟨_, rfl⟩
  obtain ⟨T3, hT3⟩ : ∃ x, threeS a b c = x := ⟨_, rfl⟩
  rw [hPA, hPB] at H2
  rw [hPA, hPB, hPC] at H3
  rw [hT2] at V2
  rw [hT3] at V3
  unfold twoS at hT2
  unfold threeS at hT3
  rw [hPA, hPB] at hT2
  rw [hPA, hPB, hPC] at hT3
  unfold pxOf at hPA hPB hPC
  obtain ⟨A, hA⟩ : ∃ x, itoaS a = x := ⟨_, rfl⟩
  obtain ⟨B, hBb⟩ : ∃ x, itoaS b = x := ⟨_, rfl⟩
  obtain ⟨C, hCc⟩ : ∃ x, itoaS c = x := ⟨_, rfl⟩
  rw [hA] at hPA za D1
  rw [hBb] at hPB zb D2
  rw [hCc] at hPC zc D3
  have pA : A ++ (⟨#[112, 120]⟩ : ByteArray) = PA := hPA
  have pB : B ++ (⟨#[112, 120]⟩ : ByteArray) = PB := hPB
  have pC : C ++ (⟨#[112, 120]⟩ : ByteArray) = PC := hPC
  have s2 : ∀ x : ByteArray, (x ++ (⟨#[112, 120]⟩ : ByteArray)).size = x.size + 2 := fun x => by rw [ByteArray.size_append]; rfl
  have yA : PA.size ≤ 10 := by rw [← pA, s2]; omega
  have yB : PB.size ≤ 10 := by rw [← pB, s2]; omega
  have yC : PC.size ≤ 10 := by rw [← pC, s2]; omega
  have HT2 : Hid (PA ++ (⟨#[32]⟩ : ByteArray) ++ PB = T2) := Lib.hid hT2
  have HT3 : Hid (PA ++ (⟨#[32]⟩ : ByteArray) ++ PB ++ (⟨#[32]⟩ : ByteArray) ++ PC = T3) := Lib.hid hT3
  clear hB hPA hPB hPC hT2 hT3 hA hBb hCc d1 d2 d3 s2
  go_enter Tryz.func7, Tryz.ntmps7
  go_wp2_with fail
  refine (D1.out w).mono ?_
  rintro e w1 ⟨rfl, rfl⟩
  go_wp2_with fail
  refine (D2.out _).mono ?_
  rintro e w2 ⟨rfl, rfl⟩
  go_wp2_with fail
  refine (D3.out _).mono ?_
  rintro e w3 ⟨rfl, rfl⟩
  go_wp2_with fail
  obtain ⟨kv, hkv⟩ : ∃ k, w3.heap.size = k := ⟨_, rfl⟩
  have hO := (Own.new w3 #[.string PA, .string PB, .string PC] 9)
  have hN := (Own.new (w3.alloc (.cells #[.string PA, .string PB, .string PC] 9)) #[.int .i64 a, .int .i64 b, .int .i64 c] 3)
  have hb0 := bAlloc2 w3 (.cells #[.string PA, .string PB, .string PC] 9) (.cells #[.int .i64 a, .int .i64 b, .int .i64 c] 3)
  have hO2 := hO.next (bAlloc1 _ (.cells #[.int .i64 a, .int .i64 b, .int .i64 c] 3))
  simp only [World.size_alloc] at hN
  obtain ⟨W, hW⟩ : ∃ W, (w3.alloc (.cells #[.string PA, .string PB, .string PC] 9)).alloc (.cells #[.int .i64 a, .int .i64 b, .int .i64 c] 3) = W := ⟨_, rfl⟩
  rw [hW] at hN hO2 hb0 ⊢
  have HBW := Lib.hid (HB.out.next hb0)
  rw [hkv] at hN hO2 ⊢
  have n0 : W.cell? ⟨kv + 1, 0, none⟩ = some (.int .i64 a) := hN.m 0
  have n1 : W.cell? ⟨kv + 1, 1, none⟩ = some (.int .i64 b) := hN.m 1
  have n2 : W.cell? ⟨kv + 1, 2, none⟩ = some (.int .i64 c) := hN.m 2
  have x0 : W.cell? ⟨kv, 0, none⟩ = some (.string PA) := hO2.m 0
  have x1 : W.cell? ⟨kv, 0 + 1, none⟩ = some (.string PB) := hO2.m 1
  have x2 : W.cell? ⟨kv, 0 + 2, none⟩ = some (.string PC) := hO2.m 2
  clear hO hW hkv hN hO2
  go_loopw [9, 27] (fun _ iv wr => ∃ k : Nat, k ≤ 3 ∧ iv = .int .i64 k ∧ wr = W) (fun _ iv _ => 3 - (intOf iv).toNat)
  case atStart => exact ⟨0, by omega, rfl, rfl⟩
  case round =>
    obtain ⟨k, hk, rfl, hwr⟩ := hrel
    subst hwr
    obtain rfl | rfl | rfl | rfl : k = 0 ∨ k = 1 ∨ k = 2 ∨ k = 3 := by omega
    · have q : ¬ a < 0 := by omega
      have q' : ¬ 1000000 < a := by omega
      go_wp2_with fail
      go_roundw
      case rel => exact ⟨1, by omega, rfl, trivial⟩
      case measure => simp [intOf]
    · have q : ¬ b < 0 := by omega
      have q' : ¬ 1000000 < b := by omega
      go_wp2_with fail
      go_roundw
      case rel => exact ⟨2, by omega, rfl, trivial⟩
      case measure => simp [intOf]
    · have q : ¬ c < 0 := by omega
      have q' : ¬ 1000000 < c := by omega
      go_wp2_with fail
      go_roundw
      case rel => exact ⟨3, by omega, rfl, trivial⟩
      case measure => simp [intOf]
    · clear n0 n1 n2
      go_wp2_with fail
      have n1 : ¬ (9223372036854775807 < PA.size + 1) := by omega
      have n2 : ¬ (9223372036854775807 < PA.size + 1 + PB.size) := by omega
      have n3 : ¬ (9223372036854775807 < PA.size + 1 + PB.size + 1) := by omega
      have n4 : ¬ (9223372036854775807 < PA.size + 1 + PB.size + 1 + PC.size) := by omega
      go_region_held3 (fun w' => w'.cell? ⟨kv, 0, none⟩ = some (.string PA) ∧ w'.cell? ⟨kv, 0 + 1, none⟩ = some (.string PB) ∧ w'.cell? ⟨kv, 0 + 2, none⟩ = some (.string PC)) (go_keep)
        (first
          | (go_at_call 28; ((rw [HT3.out]; refine (V3.out _).mono ?_); rintro e w5 ⟨v5, rfl, hv5, hb5⟩; have hd5 := (below_drew' wr).trans hb5; have x05 := cell_later hd5 x0; have x15 := cell_later hd5 x1; have x25 := cell_later hd5 x2; have HB5 := HBW.out.next hd5; obtain ⟨va5, vc5, rfl, hh5⟩ := id hv5))
          | (go_at_call 25; ((refine (H3.out _ HB5 _ hv5 _ _ _ rfl).mono ?_); rintro e w6 ⟨v6, rfl, hf6, hb6⟩; have x06 := cell_later hb6 x05; have x16 := cell_later hb6 x15; have x26 := cell_later hb6 x25; have HB6 := HB5.next hb6)))
      have hB6 := bNext (bNext (bNext hb0 (below_drew' wr)) hb5) hb6
      clear x05 x15 x25 HB5 hh5 hv5 hb5 hd5 hb6 x0 x1 x2 n3 n4
      have HB6' := Lib.hid HB6
      go_wp2_with fail
      go_region_held3 (fun w' => w'.cell? ⟨kv, 0, none⟩ = some (.string PA) ∧ w'.cell? ⟨kv, 0 + 1, none⟩ = some (.string PB) ∧ w'.cell? ⟨kv, 0 + 2, none⟩ = some (.string PC)) (go_keep)
        (first
          | (go_at_call 28; ((rw [HT2.out]; refine (V2.out _).mono ?_); rintro e w7 ⟨v7, rfl, hv7, hb7⟩; have hd7 := (below_drew' w6).trans hb7; have x07 := cell_later hd7 x06; have x17 := cell_later hd7 x16; have x27 := cell_later hd7 x26; have HB7 := HB6'.out.next hd7; obtain ⟨va7, vc7, rfl, hh7⟩ := id hv7))
          | (go_at_call 25; ((refine (H2.out _ HB7 _ hv7 _ _ _ rfl).mono ?_); rintro e w8 ⟨v8, rfl, hf8, hb8⟩; have x08 := cell_later hb8 x07; have x18 := cell_later hb8 x17; have x28 := cell_later hb8 x27; have HB8 := Lib.hid (HB7.next hb8))))
      have hd8 := bNext (bNext (below_drew' w6) hb7) hb8
      have hB8 := bNext hB6 hd8
      obtain ⟨b6, o6, c6, rfl, hl6, p1, p2, p3, p4⟩ := hf6
      obtain ⟨b8, o8, c8, rfl, hl8, q1, q2, q3, q4⟩ := hf8
      have p1 := cell_later hd8 p1
      have p2 := cell_later hd8 p2
      have p3 := cell_later hd8 p3
      have p4 := cell_later hd8 p4
      have rA := strs_eq_self PA
      have rB := strs_eq_self PB
      have rC := strs_eq_self PC
      clear x07 x17 x27 HB7 hh7 hv7 hb7 hd7 hb8 x06 x16 x26 n1 n2 hd8 HB6 HB6'
      go_wp2_with fail
      have hsd : sidesS 3 3 = 1 := by decide
      simp only [List.append_eq, List.cons_append, List.nil_append]
      go_region_held3 (fun w' => w'.cell? ⟨kv, 0, none⟩ = some (.string PA) ∧ w'.cell? ⟨kv, 0 + 1, none⟩ = some (.string PB) ∧ w'.cell? ⟨kv, 0 + 2, none⟩ = some (.string PC) ∧ w'.cell? ⟨b6, o6 + 1, none⟩ = some (.string PA) ∧ w'.cell? ⟨b6, o6 + 3 + 1, none⟩ = some (.string PB) ∧ w'.cell? ⟨b6, o6 + 6 + 1, none⟩ = some (.string PC) ∧ w'.cell? ⟨b6, o6 + 9 + 1, none⟩ = some (.string PB) ∧ w'.cell? ⟨b8, o8 + 6 + 1, none⟩ = some (.string PA) ∧ w'.cell? ⟨b8, o8 + 9 + 1, none⟩ = some (.string PB)) (go_keep)
        (first
          | (go_at_call 22; ((refine (Sides_any _ (HB8.out.next (below_drew' w8)).sd 3 3).mono ?_); rintro e w9 ⟨he9, hw9⟩; subst hw9; subst he9; rw [hsd]))
          | (go_at_call 19; ((refine (lives16_any _ (HB8.out.next (below_drew' w8))).mono ?_); rintro e w10 ⟨rfl, hb10⟩; have hd10 := (below_drew' w8).trans hb10; have x08z := cell_later hd10 x08; have x18z := cell_later hd10 x18; have x28z := cell_later hd10 x28; have p1z := cell_later hd10 p1; have p2z := cell_later hd10 p2; have p3z := cell_later hd10 p3; have p4z := cell_later hd10 p4; have q3z := cell_later hd10 q3; have q4z := cell_later hd10 q4)))
      all_goals
        go_wp2_with fail
        go_ret
        exact ⟨rfl, bNext hB8 hd10⟩
end Go.Proofs.YtpadcjcoafidgaaGreatDoor
