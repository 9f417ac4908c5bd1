/- value.Color. -/
import Derived.Test.YtpadcjcoafidgaaGreatDoorHex
import Derived.Deep.RegionHeld3
namespace Go.Proofs.YtpadcjcoafidgaaGreatDoor
open Go.RowKit

/-- The colours that have names. -/
def colourTbl : List (ByteArray × ByteArray) := [
  (⟨#[98, 108, 97, 99, 107]⟩, ⟨#[35, 48, 48, 48, 48, 48, 48]⟩), (⟨#[119, 104, 105, 116, 101]⟩, ⟨#[35, 102, 102, 102, 102, 102, 102]⟩),
  (⟨#[114, 101, 100]⟩, ⟨#[35, 102, 102, 48, 48, 48, 48]⟩), (⟨#[103, 114, 101, 101, 110]⟩, ⟨#[35, 48, 48, 56, 48, 48, 48]⟩),
  (⟨#[98, 108, 117, 101]⟩, ⟨#[35, 48, 48, 48, 48, 102, 102]⟩), (⟨#[103, 114, 97, 121]⟩, ⟨#[35, 56, 48, 56, 48, 56, 48]⟩),
  (⟨#[121, 101, 108, 108, 111, 119]⟩, ⟨#[35, 102, 102, 102, 102, 48, 48]⟩), (⟨#[112, 117, 114, 112, 108, 101]⟩, ⟨#[35, 56, 48, 48, 48, 56, 48]⟩)]
def colourAt (i : Nat) : ByteArray × ByteArray := colourTbl[i]?.getD (noStr, noStr)
/-- They lie as the program's text lays them. -/
def ColoursIn (w : World) : Prop := 0 < w.heap.size ∧ ∀ i, i < 8 → w.cell? ⟨0, i * 2, none⟩ = some (.string (colourAt i).1) ∧ w.cell? ⟨0, i * 2 + 1, none⟩ = some (.string (colourAt i).2)
theorem ColoursIn.next {w w' : World} (h : ColoursIn w) (hb : Below w.heap.size w w') : ColoursIn w' :=
  ⟨Nat.lt_of_lt_of_le h.1 hb.size, fun i hi => ⟨(hb.cell (p := ⟨0, _, none⟩) h.1).trans (h.2 i hi).1, (hb.cell (p := ⟨0, _, none⟩) h.1).trans (h.2 i hi).2⟩⟩
theorem isName_any (x y s : ByteArray) (b : Nat) (w : World) (h : w.cell? ⟨b, 0, none⟩ = some (.string s)) :
    Calls Tryz.prog 42 #[.agg #[.string x, .string y], .pointer (some ⟨b, 0, none⟩)] w fun e w' => e = .returned (.bool (eqB x s)) ∧ Below w.heap.size w w' := by
  have hlt : b < w.heap.size := World.block_lt_of_cell? w _ h
  have h2 : ∀ o, (w.alloc o).cell? ⟨b, 0, none⟩ = some (.string s) := fun o => (World.cell?_alloc_lt _ _ _ hlt).trans h
  by_cases he : x = s
  · have hq : (x.toList == s.toList) = true := by rw [he]; simp
    have HE := Lib.hid ((eqB_iff x s).2 he)
    clear he
    go_enter Tryz.func42, Tryz.ntmps42
    go_wp2_with fail
    go_ret
    exact ⟨by rw [HE.out]; rfl, bAlloc1 _ _⟩
  · have hq : (x.toList == s.toList) = false := bytes_ne he
    have HE : Hid (eqB x s = false) := Lib.hid (by
      cases hh : eqB x s with
      | false => rfl
      | true => exact absurd ((eqB_iff x s).1 hh) he)
    clear he
    go_enter Tryz.func42, Tryz.ntmps42
    go_wp2_with fail
    go_ret
    exact ⟨by rw [HE.out]; rfl, bAlloc1 _ _⟩
/-- The place of a name. -/
def colIx (s : ByteArray) : Option Nat := colourTbl.findIdx? (fun p => eqB p.1 s)
def ixV (r : Option Nat) : Value := match r with
  | some n => .int .i64 (n : Int)
  | none => .int .i64 (-1)
theorem colIx_some {s : ByteArray} {k : Nat} (hk : k < 8) (h : eqB (colourAt k).1 s = true) (hl : ∀ i, i < k → eqB (colourAt i).1 s = false) : colIx s = some k := by
  have hk' : k < colourTbl.length := hk
  have e : ∀ j, (h : j < colourTbl.length) → colourAt j = colourTbl[j]'h := fun j h => by unfold colourAt; rw [List.getElem?_eq_getElem h]; rfl
  unfold colIx
  rw [List.findIdx?_eq_some_iff_getElem]
  refine ⟨hk', ?_, fun j hj => ?_⟩
  · rw [← e k hk']; exact h
  · rw [← e j (Nat.lt_trans hj hk'), hl j hj]; decide
theorem colIx_lt {s : ByteArray} {n : Nat} (h : colIx s = some n) : n < 8 := by
  unfold colIx at h
  rw [List.findIdx?_eq_some_iff_getElem] at h
  exact h.1
theorem colIx_none {s : ByteArray} (hl : ∀ i, i < 8 → eqB (colourAt i).1 s = false) : colIx s = none := by
  unfold colIx
  rw [List.findIdx?_eq_none_iff]
  intro x hx
  obtain ⟨i, hi, rfl⟩ := List.getElem_of_mem hx
  have := hl i hi
  unfold colourAt at this
  rw [List.getElem?_eq_getElem hi] at this
  exact this
set_option maxHeartbeats 1000000 in
theorem colIx_any (w : World) (hC : ColoursIn w) (s : ByteArray) (b : Nat) (h : w.cell? ⟨b, 0, none⟩ = some (.string s)) :
    Calls Tryz.prog 41 #[.slice (some ⟨0, 0, none⟩) 8 8, .func (.func 42) #[] #[.pointer (some ⟨b, 0, none⟩)]] w fun e w' => e = .returned (ixV (colIx s)) ∧ Below w.heap.size w w' := by
  have HC := Lib.hid hC
  have hlt : b < w.heap.size := World.block_lt_of_cell? w _ h
  have H := Lib.hid h
  clear hC h
  go_enter Tryz.func41, Tryz.ntmps41
  go_wp2_with fail
  go_loopw [5, 8] (fun _ iv wr => ∃ k : Nat, k ≤ 8 ∧ iv = .int .i64 k ∧ Hid (∀ i, i < k → eqB (colourAt i).1 s = false) ∧ Below w.heap.size w wr)
    (fun _ iv _ => 8 - (intOf iv).toNat)
  case atStart => exact ⟨0, by omega, rfl, Lib.hid (fun i hi => by omega), Below.refl _ _⟩
  case round =>
    obtain ⟨k, hk, rfl, HP, hB⟩ := hrel
    by_cases hlt8 : k < 8
    · have HC2 := HC.out.next hB
      obtain ⟨c0, c1⟩ := HC2.2 k hlt8
      have q1 : (0 : Int) ≤ (k : Int) := by omega
      have q2 : (k : Int) < 8 := by omega
      have hb0 := (hB.cell (p := ⟨b, 0, none⟩) hlt).trans H.out
      go_wp2_with fail
      refine (isName_any _ _ s b _ hb0).mono ?_
      rintro e w2 ⟨rfl, hb2⟩
      have hB2 := hB.trans (hb2.mono hB.size)
      clear c0 c1 hb0 hb2 HC2
      cases hq : eqB (colourAt k).1 s
      · go_wp2_with fail
        go_roundw
        case rel =>
          refine ⟨k + 1, by omega, by go_num, Lib.hid (fun i hi => ?_), hB2⟩
          by_cases hj : i = k
          · subst hj; exact hq
          · exact HP.out i (by omega)
        case measure => simp [intOf]; omega
      · have HX := Lib.hid (colIx_some hlt8 hq HP.out)
        go_wp2_with fail
        go_ret
        exact ⟨by rw [HX.out]; rfl, hB2⟩
    · obtain rfl : k = 8 := by omega
      have HX := Lib.hid (colIx_none HP.out)
      go_wp2_with fail
      go_ret
      exact ⟨by rw [HX.out]; rfl, hB⟩
/-- The colour of a token. -/
def hash6 (s : ByteArray) : ByteArray := ⟨(35 :: (Lib.repeatL (s.data.toList.take 1) 2 ++ Lib.repeatL ((s.data.toList.drop 1).take 1) 2 ++ Lib.repeatL (s.data.toList.drop 2) 2)).toArray⟩
def hashS (s : ByteArray) : ByteArray := ⟨(35 :: s.data.toList).toArray⟩
theorem hash_app (z : ByteArray) : (⟨#[35]⟩ : ByteArray) ++ z = hashS z := by
  apply ByteArray.ext
  apply Array.toList_inj.1
  unfold hashS
  simp
def badHex (s : ByteArray) : Bool := s.data.toList.any (fun b => notHex b.toNat)
def colorS (t : Tok) : Option ByteArray :=
  if t.k = 1 then (match colIx (fold t.t) with | some n => some (colourAt n).2 | none => none)
  else if t.k ≠ 4 then none
  else if badHex (fold t.t) = true then none
  else if (fold t.t).size = 3 then some (hash6 (fold t.t))
  else if (fold t.t).size = 6 then some (hashS (fold t.t))
  else none
/-- A text, or none. -/
def resS (r : Option ByteArray) : Value := match r with
  | some s => .tuple #[.string s, .bool true]
  | none => .tuple #[.string noStr, .bool false]
set_option maxRecDepth 100000 in
set_option maxHeartbeats 1000000 in
theorem Color_ident (w : World) (hC : ColoursIn w) (x : Val) (hx : x.fits) (h1 : x.tok.k = 1) :
    Calls Tryz.prog 13 #[.agg #[.int .i64 x.tok.k, .string x.tok.t, .string x.tok.u, .bool x.tok.wh, .bool x.tok.fl, .slice x.ka x.kn x.kc]] w fun e w' => e = .returned (resS (colorS x.tok)) ∧ Below w.heap.size w w' := by
  have HV : Hid (colorS x.tok = match colIx (fold x.tok.t) with | some n => some (colourAt n).2 | none => none) := Lib.hid (if_pos h1)
  have hid : identS x = fold x.tok.t := if_pos h1
  have HC := Lib.hid hC
  clear hC
  have k1 : ∀ o, (w.alloc o).heap.size = w.heap.size + 1 := fun o => by simp
  go_enter Tryz.func13, Tryz.ntmps13
  go_wp2_with fail
  rw [← h1]
  refine (ident_any x hx _).mono ?_
  rintro e w1 ⟨rfl, hb1⟩
  rw [hid]
  obtain ⟨z, hz⟩ : ∃ z, fold x.tok.t = z := ⟨_, rfl⟩
  rw [hz] at HV ⊢
  have hB1 := bNext (bAlloc1 _ _) hb1
  have HC1 := HC.out.next hB1
  have HC2 := Lib.hid (HC1.next (bAlloc1 w1 (.cells #[.string z] 9)))
  clear hb1 HC HC1 hz hid k1
  go_wp2_with fail
  refine (colIx_any _ HC2.out z _ (by simp)).mono ?_
  rintro e w2 ⟨rfl, hb2⟩
  have hB2 := bNext (bNext hB1 (bAlloc1 w1 (.cells #[.string z] 9))) hb2
  have HC3 := HC2.out.next hb2
  cases hc : colIx z with
  | none =>
    rw [hc] at HV
    have HW : Hid (resS (colorS x.tok) = .tuple #[.string noStr, .bool false]) := Lib.hid (by rw [HV.out]; rfl)
    simp only [ixV]
    go_wp2_with fail
    exact bodyPost_ret (v := .tuple #[.string noStr, .bool false]) (by simp [results, Tryz.results13, go_sem, noStr]) rfl ⟨by rw [HW.out], hB2⟩
  | some n =>
    have hn := colIx_lt hc
    obtain ⟨-, c1⟩ := HC3.2 n hn
    rw [hc] at HV
    have HW : Hid (resS (colorS x.tok) = .tuple #[.string (colourAt n).2, .bool true]) := Lib.hid (by rw [HV.out]; rfl)
    have q1 : (0 : Int) ≤ (n : Int) := by omega
    have q2 : (n : Int) < 8 := by omega
    have q3 : ¬ (n : Int) < 0 := by omega
    simp only [ixV]
    clear HC3 HC2 hc
    go_wp2_with fail
    exact bodyPost_ret (v := .tuple #[.string (colourAt n).2, .bool true]) (by simp [results, Tryz.results13, go_sem]) rfl ⟨by rw [HW.out], hB2⟩
def rep2S (s : ByteArray) : ByteArray := ⟨(Lib.repeatL s.data.toList 2).toArray⟩
theorem rep2 (s : ByteArray) (w : World) (h : s.size * 2 ≤ 140737488355328) : Calls Tryz.prog 47 #[.string s, .int .i64 2] w fun e w' => e = .returned (.string (rep2S s)) ∧ Below w.heap.size w w' := Tryz.strings_Repeat s 2 w (by decide) h
theorem hash6_app (z : ByteArray) (h : z.size = 3) : (⟨#[35]⟩ : ByteArray) ++ rep2S (z.extract 0 1) ++ rep2S (z.extract 1 2) ++ rep2S (z.extract 2 z.size) = hash6 z := by
  have e : ∀ a b, (z.extract a b).data.toList = (z.data.toList.drop a).take (b - a) := fun a b => by rw [← ByteArray.toList_eq, Lib.extract_toList]
  have hl : z.data.toList.length = 3 := by rw [Array.length_toList]; exact h
  apply ByteArray.ext
  apply Array.toList_inj.1
  unfold hash6 rep2S
  rw [e, e, e]
  have h3 : (z.data.toList.drop 2).take (z.size - 2) = z.data.toList.drop 2 := List.take_of_length_le (by rw [List.length_drop, hl, h]; exact Nat.le_refl _)
  rw [h3]
  simp
theorem below_drew' (w : World) : Below w.heap.size w w.drew := (Below.refl _ _).drew
set_option maxRecDepth 100000 in
set_option maxHeartbeats 1000000 in
theorem Color_other (w : World) (x : Val) (hx : x.fits) (h1 : x.tok.k ≠ 1) :
    Calls Tryz.prog 13 #[.agg #[.int .i64 x.tok.k, .string x.tok.t, .string x.tok.u, .bool x.tok.wh, .bool x.tok.fl, .slice x.ka x.kn x.kc]] w fun e w' => e = .returned (resS (colorS x.tok)) ∧ Below w.heap.size w w' := by
  by_cases h4 : x.tok.k = 4
  · have HV : Hid (colorS x.tok = if badHex (fold x.tok.t) = true then none else if (fold x.tok.t).size = 3 then some (hash6 (fold x.tok.t)) else if (fold x.tok.t).size = 6 then some (hashS (fold x.tok.t)) else none) := Lib.hid (by unfold colorS; rw [if_neg h1, if_neg (by omega)])
    have hzs : (fold x.tok.t).size ≤ 4294967295 := by rw [fold_size]; exact hx.1
    go_enter Tryz.func13, Tryz.ntmps13
    go_wp2_with fail
    refine (Fold_any _ _ hx.1).mono ?_
    rintro e w1 ⟨rfl, hb1⟩
    have c0 : w1.cell? ⟨w.heap.size, 0, none⟩ = some (.int .i64 4) := (hb1.cell (p := ⟨w.heap.size, 0, none⟩) (by simp)).trans (by simp)
    obtain ⟨z, hz⟩ : ∃ z, fold x.tok.t = z := ⟨_, rfl⟩
    rw [hz] at HV hzs ⊢
    have hB1 := bNext (bAlloc1 _ _) hb1
    have hpg : PredGrows Tryz.prog 44 #[] notHex w1 := fun W r hr _ => strange_any r hr W
    clear hb1 hz
    go_wp2_with fail
    refine (Tryz.strings_IndexFunc_grows 44 #[] (fun _ _ => rfl) notHex z _ hpg).mono ?_
    rintro e w3 ⟨rfl, hb3⟩
    have hidx := idx_all notHex notHex_high z
    obtain ⟨n, hn⟩ : ∃ n, Lib.idxFunc notHex true z = n := ⟨_, rfl⟩
    rw [hn] at hidx ⊢
    have HB3 := bNext hB1 hb3
    clear hb3 hB1 hpg hn c0
    cases hab : badHex z
    · have hn1 : ¬ 0 ≤ n := by have := hidx.2 hab; omega
      rw [hab, if_neg (by decide)] at HV
      clear hidx hab
      by_cases h3 : z.size = 3
      · rw [if_pos h3] at HV
        have h3' : (z.size : Int) = 3 := by omega
        go_wp2_with fail
        have hsz : ∀ a b, (rep2S (z.extract a b)).size ≤ 1000 := fun a b => by
          show (Lib.repeatL (z.extract a b).data.toList 2).toArray.size ≤ 1000
          rw [List.size_toArray, Lib.repeatL_length, Array.length_toList]
          have : (z.extract a b).size ≤ 3 := by rw [ByteArray.size_extract]; omega
          exact Nat.le_trans (Nat.mul_le_mul_left 2 this) (by decide)
        have hrp : ∀ (a b : Nat) (W : World), Calls Tryz.prog 47 #[.string (z.extract a b), .int .i64 2] W fun e w' => e = .returned (.string (rep2S (z.extract a b))) ∧ Below W.heap.size W w' := fun a b W => rep2 _ _ (by rw [ByteArray.size_extract]; omega)
        have hap := hash6_app z h3
        obtain ⟨r1, hr1⟩ : ∃ r, rep2S (z.extract 0 1) = r := ⟨_, rfl⟩
        obtain ⟨r2, hr2⟩ : ∃ r, rep2S (z.extract 1 2) = r := ⟨_, rfl⟩
        obtain ⟨r3, hr3⟩ : ∃ r, rep2S (z.extract 2 z.size) = r := ⟨_, rfl⟩
        have R1 := hrp 0 1
        have R2 := hrp 1 2
        have R3 := hrp 2 z.size
        have s1 := hsz 0 1
        have s2 := hsz 1 2
        have s3 := hsz 2 z.size
        rw [hr1] at R1 s1 hap
        rw [hr2] at R2 s2 hap
        rw [hr3] at R3 s3 hap
        have HAP := Lib.hid hap
        have z1 : (r1.size : Int) ≤ 1000 := by omega
        have z2 : (r2.size : Int) ≤ 1000 := by omega
        have z3 : (r3.size : Int) ≤ 1000 := by omega
        have HW : Hid (resS (colorS x.tok) = .tuple #[.string (hash6 z), .bool true]) := Lib.hid (by rw [HV.out]; rfl)
        have n1 : ¬ (9223372036854775807 < 1 + r1.size) := by omega
        have n2 : ¬ (9223372036854775807 < 1 + r1.size + r2.size) := by omega
        have n3 : ¬ (9223372036854775807 < 1 + r1.size + r2.size + r3.size) := by omega
        clear hr1 hr2 hr3 hrp hsz hap s1 s2 s3 h3 z1 z2 z3
        go_region_held3 (fun _ => True) (trivial)
          (first
            | (go_at_call 47; ((with_reducible refine (R1 _).mono ?_); rintro e w4 ⟨rfl, hb4⟩))
            | (go_at_call 47; ((with_reducible refine (R2 _).mono ?_); rintro e w5 ⟨rfl, hb5⟩))
            | (go_at_call 47; ((with_reducible refine (R3 _).mono ?_); rintro e w6 ⟨rfl, hb6⟩)))
        all_goals
          rw [HAP.out]
          have hB6 : Below w.heap.size w w6 := bNext (bNext (bNext (bNext HB3 (below_drew' w3)) hb4) hb5) hb6
          go_wp2_with fail
          exact bodyPost_ret (v := .tuple #[.string (hash6 z), .bool true]) (by simp [results, Tryz.results13, go_sem]) rfl ⟨by rw [HW.out], hB6⟩
      · rw [if_neg h3] at HV
        have h3' : ¬ (z.size : Int) = 3 := by omega
        by_cases h6 : z.size = 6
        · rw [if_pos h6] at HV
          have h6' : (z.size : Int) = 6 := by omega
          have HW : Hid (resS (colorS x.tok) = .tuple #[.string (hashS z), .bool true]) := Lib.hid (by rw [HV.out]; rfl)
          clear h3 h6
          go_wp2_with fail
          exact bodyPost_ret (v := .tuple #[.string (hashS z), .bool true]) (by simp [results, Tryz.results13, go_sem, hash_app]) rfl ⟨by rw [HW.out], HB3⟩
        · rw [if_neg h6] at HV
          have h6' : ¬ (z.size : Int) = 6 := by omega
          have HW : Hid (resS (colorS x.tok) = .tuple #[.string noStr, .bool false]) := Lib.hid (by rw [HV.out]; rfl)
          clear h3 h6
          go_wp2_with fail
          exact bodyPost_ret (v := .tuple #[.string noStr, .bool false]) (by simp [results, Tryz.results13, go_sem, noStr]) rfl ⟨by rw [HW.out], HB3⟩
    · have hn1 : 0 ≤ n := by
        rcases Int.lt_or_le n 0 with h | h
        · have := hidx.1 h; unfold badHex at hab; rw [this] at hab; cases hab
        · exact h
      have HW : Hid (resS (colorS x.tok) = .tuple #[.string noStr, .bool false]) := Lib.hid (by rw [HV.out, hab]; rfl)
      clear hidx hab
      go_wp2_with fail
      exact bodyPost_ret (v := .tuple #[.string noStr, .bool false]) (by simp [results, Tryz.results13, go_sem, noStr]) rfl ⟨by rw [HW.out], HB3⟩
  · have HW : Hid (resS (colorS x.tok) = .tuple #[.string noStr, .bool false]) := Lib.hid (by unfold colorS; rw [if_neg h1, if_pos h4]; rfl)
    go_enter Tryz.func13, Tryz.ntmps13
    go_wp2_with fail
    refine (Fold_any _ _ hx.1).mono ?_
    rintro e w1 ⟨rfl, hb1⟩
    have c0 : w1.cell? ⟨w.heap.size, 0, none⟩ = some (.int .i64 x.tok.k) := (hb1.cell (p := ⟨w.heap.size, 0, none⟩) (by simp)).trans (by simp)
    have hB1 := bNext (bAlloc1 _ _) hb1
    clear hb1
    go_wp2_with fail
    exact bodyPost_ret (v := .tuple #[.string noStr, .bool false]) (by simp [results, Tryz.results13, go_sem, noStr]) rfl ⟨by rw [HW.out], hB1⟩
theorem Color_any (w : World) (hC : ColoursIn w) (x : Val) (hx : x.fits) :
    Calls Tryz.prog 13 #[.agg #[.int .i64 x.tok.k, .string x.tok.t, .string x.tok.u, .bool x.tok.wh, .bool x.tok.fl, .slice x.ka x.kn x.kc]] w fun e w' => e = .returned (resS (colorS x.tok)) ∧ Below w.heap.size w w' := by
  by_cases h1 : x.tok.k = 1
  · exact Color_ident w hC x hx h1
  · exact Color_other w x hx h1
end Go.Proofs.YtpadcjcoafidgaaGreatDoor
