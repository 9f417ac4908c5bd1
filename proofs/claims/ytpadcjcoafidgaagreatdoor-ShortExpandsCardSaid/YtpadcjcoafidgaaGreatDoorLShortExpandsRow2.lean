/- Texts of this claim, laid together: RefPart, RefParse, RefCut, Ref16, Repeat, Wide, RefExpand, Great, RefAll, ShortExpandsWalk, Open, RowLibZ, OpenVal, OpenDecls. -/
import Derived.Test.YtpadcjcoafidgaaGreatDoorCards
import Derived.Test.YtpadcjcoafidgaaGreatDoorTie
import Derived.Test.YtpadcjcoafidgaaGreatDoorK1
import Derived.Test.YtpadcjcoafidgaaGreatDoorK5
import Derived.Test.YtpadcjcoafidgaaGreatDoorK6
import Derived.Test.YtpadcjcoafidgaaGreatDoorK7
import Derived.Test.YtpadcjcoafidgaaGreatDoorK8
import Derived.Test.YtpadcjcoafidgaaGreatDoorLShortExpandsRow1
import Derived.BigQuiet
import Derived.Deep.QuietTactic
import Derived.WalkKit
import Derived.IntWalk
import Derived.Laws.CopyOwn
import Derived.Deep.RegionHeld3
import Derived.Deep.RegionLaw
import Derived.Laws.AppendOwnNone
import Derived.Deep.Upon
import Derived.ProofKit
import Derived.OpenShut
import Derived.Deep.Slices
import Derived.Carry
import Derived.SizedLaws
import Derived.Deep.DeepHandedRow
import Derived.SevenTiedAt
import Derived.Lib.SmallJoins
import Derived.WideKeyPair
/-! gouacheref15.Part. -/
namespace Go.Proofs.YtpadcjcoafidgaaGreatDoor
open Go.RowKit

theorem itoaS_le (n : Int) (h0 : -1000000 ≤ n) (h1 : n ≤ 1000000) : (itoaS n).size ≤ 1000 := by
  have h := Lib.itoa_length_le n (by omega) (by omega)
  rw [itoaC_eq n h0 h1] at h
  have e : (itoaS n).size = (itoaC n).length := rfl
  omega
theorem append_noStr (z : ByteArray) : z ++ noStr = z := by
  apply ByteArray.ext
  apply Array.toList_inj.1
  simp [noStr]
theorem told_no {n : Int} {wh is : Bool} {form unit : ByteArray} (h : (is && wh && !(decide (n < 0) && Lib.hasSuffix form.data.toList plusG.data.toList)) = false) : resS (toldS n wh form unit is) = .tuple #[.string noStr, .bool false] := by
  unfold toldS; rw [h]; rfl
theorem told_yes {n : Int} {wh is : Bool} {form unit : ByteArray} (h : (is && wh && !(decide (n < 0) && Lib.hasSuffix form.data.toList plusG.data.toList)) = true) : resS (toldS n wh form unit is) = .tuple #[.string (itoaS n ++ unit), .bool true] := by
  unfold toldS; rw [h]; rfl
set_option maxHeartbeats 2000000 in
theorem refPart_len (w : World) (x : Val) (hx : x.fits) (hkn : ¬ 0 < x.kn) :
    Calls Tryz.prog 114 #[.string ⟨#[60, 108, 101, 110, 62]⟩, .agg #[.int .i64 x.tok.k, .string x.tok.t, .string x.tok.u, .bool x.tok.wh, .bool x.tok.fl, .slice x.ka x.kn x.kc]] w fun e w' => e = .returned (resS (partS ⟨#[60, 108, 101, 110, 62]⟩ x)) ∧ Below w.heap.size w w' := by
  obtain ⟨h0, h1⟩ := intN_range x.tok
  have hir := intRes_eq x.tok
  obtain ⟨n, hn⟩ : ∃ n, intN x.tok = n := ⟨_, rfl⟩
  obtain ⟨ok, hok⟩ : ∃ n, intOk x.tok = n := ⟨_, rfl⟩
  have HV : Hid (partS ⟨#[60, 108, 101, 110, 62]⟩ x = toldS n ok ⟨#[60, 108, 101, 110, 62]⟩ pxS (lengthS x.tok n)) := Lib.hid (by unfold partS; rw [if_neg hkn, hn, hok]; rfl)
  have hsf : Lib.hasSuffix (⟨#[60, 108, 101, 110, 62]⟩ : ByteArray).data.toList plusG.data.toList = false := by decide
  rw [hn, hok] at hir
  rw [hn] at h0 h1
  have HIR := Lib.hid hir
  have hz := itoaS_le n h0 h1
  have q1 : ¬ (0 : Int) < (x.kn : Int) := by omega
  clear hir hn hok hkn
  go_enter Tryz.func114, Tryz.ntmps114
  go_wp2_with fail
  refine (RefInt_any x.tok hx.1 _).mono ?_
  rintro e w1 ⟨rfl, hb1⟩
  rw [HIR.out]
  have hB1 := bNext (bAlloc2 w _ _) hb1
  have hld := fun o => (hb1.cell (p := ⟨w.heap.size + 1, o, none⟩) (by simp))
  have c0 := (hld 0).trans (show _ = some (.int .i64 x.tok.k) by simp)
  have c2 := (hld 2).trans (show _ = some (.string x.tok.u) by simp)
  have hlx := fun o => (hb1.cell (p := ⟨w.heap.size, o, none⟩) (by simp; omega))
  have d0 := (hlx 0).trans (show _ = some (.int .i64 x.tok.k) by simp)
  have d1 := (hlx 1).trans (show _ = some (.string x.tok.t) by simp)
  have d2 := (hlx 2).trans (show _ = some (.string x.tok.u) by simp)
  have d3 := (hlx 3).trans (show _ = some (.bool x.tok.wh) by simp)
  have d4 := (hlx 4).trans (show _ = some (.bool x.tok.fl) by simp)
  have d5 := (hlx 5).trans (show _ = some (.slice x.ka x.kn x.kc) by simp)
  clear hld hlx hb1 HIR
  go_wp2_with fail
  refine (RefDigits_any n h0 h1 _).mono ?_
  rintro e w2 ⟨rfl, rfl⟩
  obtain ⟨z, hzz⟩ : ∃ z, itoaS n = z := ⟨_, rfl⟩
  rw [hzz] at hz ⊢
  have HZ := Lib.hid hzz
  clear hzz
  cases ok with
  | false =>
    have HW : Hid (resS (partS ⟨#[60, 108, 101, 110, 62]⟩ x) = .tuple #[.string noStr, .bool false]) := Lib.hid (by rw [HV.out]; exact told_no (by rw [Bool.and_false]; rfl))
    clear d0 d1 d2 d3 d4 d5 c0 c2
    go_wp2_with fail
    exact bodyPost_ret (v := .tuple #[.string noStr, .bool false]) (by simp [results, Tryz.results114, go_sem, noStr]) rfl ⟨by rw [HW.out], hB1⟩
  | true =>
    by_cases hk : x.tok.k = 12
    · have HLn : Hid (lengthS x.tok n = eqB (fold x.tok.u) pxS) := Lib.hid (if_pos hk)
      rw [hk] at c0
      clear d0 d1 d2 d3 d4 d5
      have hlt := World.block_lt_of_cell? w2 _ c0
      have hx2 := hx.2
      clear hx
      go_wp2_with fail
      refine (RefFold_any _ _ hx2).mono ?_
      rintro e w3 ⟨rfl, hb3⟩
      have hB3 := bNext hB1 hb3
      have c0' := (hb3.cell (p := ⟨w.heap.size + 1, 0, none⟩) hlt).trans c0
      obtain ⟨y, hy⟩ : ∃ y, fold x.tok.u = y := ⟨_, rfl⟩
      rw [hy] at HLn ⊢
      clear hb3 c0 c2 hlt hy
      cases hq : eqB y pxS with
      | true =>
        have hp : (y.toList == [112, 120]) = true := (toList_lit y pxS _ rfl).trans hq
        rw [hq] at HLn
        clear hq
        by_cases hneg : n < 0
        · have HW : Hid (resS (partS ⟨#[60, 108, 101, 110, 62]⟩ x) = .tuple #[.string (z ++ ⟨#[112, 120]⟩), .bool true]) := Lib.hid (by rw [HV.out, told_yes (by rw [HLn.out, hsf, decide_eq_true hneg]; rfl), HZ.out]; rfl)
          go_wp2_with fail
          exact bodyPost_ret (v := .tuple #[.string (z ++ ⟨#[112, 120]⟩), .bool true]) (by simp [results, Tryz.results114, go_sem]) rfl ⟨by rw [HW.out], hB3⟩
        · have HW : Hid (resS (partS ⟨#[60, 108, 101, 110, 62]⟩ x) = .tuple #[.string (z ++ ⟨#[112, 120]⟩), .bool true]) := Lib.hid (by rw [HV.out, told_yes (by rw [HLn.out, hsf, decide_eq_false hneg]; rfl), HZ.out]; rfl)
          go_wp2_with fail
          exact bodyPost_ret (v := .tuple #[.string (z ++ ⟨#[112, 120]⟩), .bool true]) (by simp [results, Tryz.results114, go_sem]) rfl ⟨by rw [HW.out], hB3⟩
      | false =>
        have hp : (y.toList == [112, 120]) = false := (toList_lit y pxS _ rfl).trans hq
        rw [hq] at HLn
        clear hq
        have HW : Hid (resS (partS ⟨#[60, 108, 101, 110, 62]⟩ x) = .tuple #[.string noStr, .bool false]) := Lib.hid (by rw [HV.out]; exact told_no (by rw [HLn.out]; rfl))
        go_wp2_with fail
        exact bodyPost_ret (v := .tuple #[.string noStr, .bool false]) (by simp [results, Tryz.results114, go_sem, noStr]) rfl ⟨by rw [HW.out], hB3⟩
    · by_cases hk0 : x.tok.k = 10
      · by_cases hn0 : n = 0
        · have HLn : Hid (lengthS x.tok n = true) := Lib.hid (by unfold lengthS; rw [if_neg hk, decide_eq_true hk0, decide_eq_true hn0]; rfl)
          subst hn0
          rw [hk0] at c0
          have HW : Hid (resS (partS ⟨#[60, 108, 101, 110, 62]⟩ x) = .tuple #[.string (z ++ ⟨#[112, 120]⟩), .bool true]) := Lib.hid (by rw [HV.out, told_yes (by rw [HLn.out, hsf]; rfl), HZ.out]; rfl)
          clear d0 d1 d2 d3 d4 d5 c2 hk hk0 h0 h1
          go_wp2_with fail
          exact bodyPost_ret (v := .tuple #[.string (z ++ ⟨#[112, 120]⟩), .bool true]) (by simp [results, Tryz.results114, go_sem]) rfl ⟨by rw [HW.out], hB1⟩
        · have HLn : Hid (lengthS x.tok n = false) := Lib.hid (by unfold lengthS; rw [if_neg hk, decide_eq_true hk0, decide_eq_false hn0]; rfl)
          rw [hk0] at c0
          have hnb : (n == 0) = false := by simpa using hn0
          have HW : Hid (resS (partS ⟨#[60, 108, 101, 110, 62]⟩ x) = .tuple #[.string noStr, .bool false]) := Lib.hid (by rw [HV.out]; exact told_no (by rw [HLn.out]; rfl))
          clear d0 d1 d2 d3 d4 d5 c2 hk hk0
          go_wp2_with fail
          exact bodyPost_ret (v := .tuple #[.string noStr, .bool false]) (by simp [results, Tryz.results114, go_sem, noStr]) rfl ⟨by rw [HW.out], hB1⟩
      · have HLn : Hid (lengthS x.tok n = false) := Lib.hid (by unfold lengthS; rw [if_neg hk, decide_eq_false hk0]; rfl)
        have hk1 : (x.tok.k == 12) = false := by simpa using hk
        have hk2 : (x.tok.k == 10) = false := by simpa using hk0
        have HW : Hid (resS (partS ⟨#[60, 108, 101, 110, 62]⟩ x) = .tuple #[.string noStr, .bool false]) := Lib.hid (by rw [HV.out]; exact told_no (by rw [HLn.out]; rfl))
        clear d0 d1 d2 d3 d4 d5 c2 hk hk0
        go_wp2_with fail
        exact bodyPost_ret (v := .tuple #[.string noStr, .bool false]) (by simp [results, Tryz.results114, go_sem, noStr]) rfl ⟨by rw [HW.out], hB1⟩
set_option maxHeartbeats 2000000 in
theorem refPart_lenP (w : World) (x : Val) (hx : x.fits) (hkn : ¬ 0 < x.kn) :
    Calls Tryz.prog 114 #[.string ⟨#[60, 108, 101, 110, 43, 62]⟩, .agg #[.int .i64 x.tok.k, .string x.tok.t, .string x.tok.u, .bool x.tok.wh, .bool x.tok.fl, .slice x.ka x.kn x.kc]] w fun e w' => e = .returned (resS (partS ⟨#[60, 108, 101, 110, 43, 62]⟩ x)) ∧ Below w.heap.size w w' := by
  obtain ⟨h0, h1⟩ := intN_range x.tok
  have hir := intRes_eq x.tok
  obtain ⟨n, hn⟩ : ∃ n, intN x.tok = n := ⟨_, rfl⟩
  obtain ⟨ok, hok⟩ : ∃ n, intOk x.tok = n := ⟨_, rfl⟩
  have HV : Hid (partS ⟨#[60, 108, 101, 110, 43, 62]⟩ x = toldS n ok ⟨#[60, 108, 101, 110, 43, 62]⟩ pxS (lengthS x.tok n)) := Lib.hid (by unfold partS; rw [if_neg hkn, hn, hok]; rfl)
  have hsf : Lib.hasSuffix (⟨#[60, 108, 101, 110, 43, 62]⟩ : ByteArray).data.toList plusG.data.toList = true := by decide
  rw [hn, hok] at hir
  rw [hn] at h0 h1
  have HIR := Lib.hid hir
  have hz := itoaS_le n h0 h1
  have q1 : ¬ (0 : Int) < (x.kn : Int) := by omega
  clear hir hn hok hkn
  go_enter Tryz.func114, Tryz.ntmps114
  go_wp2_with fail
  refine (RefInt_any x.tok hx.1 _).mono ?_
  rintro e w1 ⟨rfl, hb1⟩
  rw [HIR.out]
  have hB1 := bNext (bAlloc2 w _ _) hb1
  have hld := fun o => (hb1.cell (p := ⟨w.heap.size + 1, o, none⟩) (by simp))
  have c0 := (hld 0).trans (show _ = some (.int .i64 x.tok.k) by simp)
  have c2 := (hld 2).trans (show _ = some (.string x.tok.u) by simp)
  have hlx := fun o => (hb1.cell (p := ⟨w.heap.size, o, none⟩) (by simp; omega))
  have d0 := (hlx 0).trans (show _ = some (.int .i64 x.tok.k) by simp)
  have d1 := (hlx 1).trans (show _ = some (.string x.tok.t) by simp)
  have d2 := (hlx 2).trans (show _ = some (.string x.tok.u) by simp)
  have d3 := (hlx 3).trans (show _ = some (.bool x.tok.wh) by simp)
  have d4 := (hlx 4).trans (show _ = some (.bool x.tok.fl) by simp)
  have d5 := (hlx 5).trans (show _ = some (.slice x.ka x.kn x.kc) by simp)
  clear hld hlx hb1 HIR
  go_wp2_with fail
  refine (RefDigits_any n h0 h1 _).mono ?_
  rintro e w2 ⟨rfl, rfl⟩
  obtain ⟨z, hzz⟩ : ∃ z, itoaS n = z := ⟨_, rfl⟩
  rw [hzz] at hz ⊢
  have HZ := Lib.hid hzz
  clear hzz
  cases ok with
  | false =>
    have HW : Hid (resS (partS ⟨#[60, 108, 101, 110, 43, 62]⟩ x) = .tuple #[.string noStr, .bool false]) := Lib.hid (by rw [HV.out]; exact told_no (by rw [Bool.and_false]; rfl))
    clear d0 d1 d2 d3 d4 d5 c0 c2
    go_wp2_with fail
    exact bodyPost_ret (v := .tuple #[.string noStr, .bool false]) (by simp [results, Tryz.results114, go_sem, noStr]) rfl ⟨by rw [HW.out], hB1⟩
  | true =>
    by_cases hk : x.tok.k = 12
    · have HLn : Hid (lengthS x.tok n = eqB (fold x.tok.u) pxS) := Lib.hid (if_pos hk)
      rw [hk] at c0
      clear d0 d1 d2 d3 d4 d5
      have hlt := World.block_lt_of_cell? w2 _ c0
      have hx2 := hx.2
      clear hx
      go_wp2_with fail
      refine (RefFold_any _ _ hx2).mono ?_
      rintro e w3 ⟨rfl, hb3⟩
      have hB3 := bNext hB1 hb3
      have c0' := (hb3.cell (p := ⟨w.heap.size + 1, 0, none⟩) hlt).trans c0
      obtain ⟨y, hy⟩ : ∃ y, fold x.tok.u = y := ⟨_, rfl⟩
      rw [hy] at HLn ⊢
      clear hb3 c0 c2 hlt hy
      cases hq : eqB y pxS with
      | true =>
        have hp : (y.toList == [112, 120]) = true := (toList_lit y pxS _ rfl).trans hq
        rw [hq] at HLn
        clear hq
        by_cases hneg : n < 0
        · have HW : Hid (resS (partS ⟨#[60, 108, 101, 110, 43, 62]⟩ x) = .tuple #[.string noStr, .bool false]) := Lib.hid (by rw [HV.out]; exact told_no (by rw [HLn.out, hsf, decide_eq_true hneg]; rfl))
          go_wp2_with fail
          exact bodyPost_ret (v := .tuple #[.string noStr, .bool false]) (by simp [results, Tryz.results114, go_sem, noStr]) rfl ⟨by rw [HW.out], hB3⟩
        · have HW : Hid (resS (partS ⟨#[60, 108, 101, 110, 43, 62]⟩ x) = .tuple #[.string (z ++ ⟨#[112, 120]⟩), .bool true]) := Lib.hid (by rw [HV.out, told_yes (by rw [HLn.out, hsf, decide_eq_false hneg]; rfl), HZ.out]; rfl)
          go_wp2_with fail
          exact bodyPost_ret (v := .tuple #[.string (z ++ ⟨#[112, 120]⟩), .bool true]) (by simp [results, Tryz.results114, go_sem]) rfl ⟨by rw [HW.out], hB3⟩
      | false =>
        have hp : (y.toList == [112, 120]) = false := (toList_lit y pxS _ rfl).trans hq
        rw [hq] at HLn
        clear hq
        have HW : Hid (resS (partS ⟨#[60, 108, 101, 110, 43, 62]⟩ x) = .tuple #[.string noStr, .bool false]) := Lib.hid (by rw [HV.out]; exact told_no (by rw [HLn.out]; rfl))
        go_wp2_with fail
        exact bodyPost_ret (v := .tuple #[.string noStr, .bool false]) (by simp [results, Tryz.results114, go_sem, noStr]) rfl ⟨by rw [HW.out], hB3⟩
    · by_cases hk0 : x.tok.k = 10
      · by_cases hn0 : n = 0
        · have HLn : Hid (lengthS x.tok n = true) := Lib.hid (by unfold lengthS; rw [if_neg hk, decide_eq_true hk0, decide_eq_true hn0]; rfl)
          subst hn0
          rw [hk0] at c0
          have HW : Hid (resS (partS ⟨#[60, 108, 101, 110, 43, 62]⟩ x) = .tuple #[.string (z ++ ⟨#[112, 120]⟩), .bool true]) := Lib.hid (by rw [HV.out, told_yes (by rw [HLn.out, hsf]; rfl), HZ.out]; rfl)
          clear d0 d1 d2 d3 d4 d5 c2 hk hk0 h0 h1
          go_wp2_with fail
          exact bodyPost_ret (v := .tuple #[.string (z ++ ⟨#[112, 120]⟩), .bool true]) (by simp [results, Tryz.results114, go_sem]) rfl ⟨by rw [HW.out], hB1⟩
        · have HLn : Hid (lengthS x.tok n = false) := Lib.hid (by unfold lengthS; rw [if_neg hk, decide_eq_true hk0, decide_eq_false hn0]; rfl)
          rw [hk0] at c0
          have hnb : (n == 0) = false := by simpa using hn0
          have HW : Hid (resS (partS ⟨#[60, 108, 101, 110, 43, 62]⟩ x) = .tuple #[.string noStr, .bool false]) := Lib.hid (by rw [HV.out]; exact told_no (by rw [HLn.out]; rfl))
          clear d0 d1 d2 d3 d4 d5 c2 hk hk0
          go_wp2_with fail
          exact bodyPost_ret (v := .tuple #[.string noStr, .bool false]) (by simp [results, Tryz.results114, go_sem, noStr]) rfl ⟨by rw [HW.out], hB1⟩
      · have HLn : Hid (lengthS x.tok n = false) := Lib.hid (by unfold lengthS; rw [if_neg hk, decide_eq_false hk0]; rfl)
        have hk1 : (x.tok.k == 12) = false := by simpa using hk
        have hk2 : (x.tok.k == 10) = false := by simpa using hk0
        have HW : Hid (resS (partS ⟨#[60, 108, 101, 110, 43, 62]⟩ x) = .tuple #[.string noStr, .bool false]) := Lib.hid (by rw [HV.out]; exact told_no (by rw [HLn.out]; rfl))
        clear d0 d1 d2 d3 d4 d5 c2 hk hk0
        go_wp2_with fail
        exact bodyPost_ret (v := .tuple #[.string noStr, .bool false]) (by simp [results, Tryz.results114, go_sem, noStr]) rfl ⟨by rw [HW.out], hB1⟩
set_option maxHeartbeats 2000000 in
theorem refPart_pct (w : World) (x : Val) (hx : x.fits) (hkn : ¬ 0 < x.kn) :
    Calls Tryz.prog 114 #[.string ⟨#[60, 112, 99, 116, 62]⟩, .agg #[.int .i64 x.tok.k, .string x.tok.t, .string x.tok.u, .bool x.tok.wh, .bool x.tok.fl, .slice x.ka x.kn x.kc]] w fun e w' => e = .returned (resS (partS ⟨#[60, 112, 99, 116, 62]⟩ x)) ∧ Below w.heap.size w w' := by
  obtain ⟨h0, h1⟩ := intN_range x.tok
  have hir := intRes_eq x.tok
  obtain ⟨n, hn⟩ : ∃ n, intN x.tok = n := ⟨_, rfl⟩
  obtain ⟨ok, hok⟩ : ∃ n, intOk x.tok = n := ⟨_, rfl⟩
  have HV : Hid (partS ⟨#[60, 112, 99, 116, 62]⟩ x = toldS n ok ⟨#[60, 112, 99, 116, 62]⟩ pcS (x.tok.k == 11)) := Lib.hid (by unfold partS; rw [if_neg hkn, hn, hok]; rfl)
  have hsf : Lib.hasSuffix (⟨#[60, 112, 99, 116, 62]⟩ : ByteArray).data.toList plusG.data.toList = false := by decide
  rw [hn, hok] at hir
  rw [hn] at h0 h1
  have HIR := Lib.hid hir
  have hz := itoaS_le n h0 h1
  have q1 : ¬ (0 : Int) < (x.kn : Int) := by omega
  clear hir hn hok hkn
  go_enter Tryz.func114, Tryz.ntmps114
  go_wp2_with fail
  refine (RefInt_any x.tok hx.1 _).mono ?_
  rintro e w1 ⟨rfl, hb1⟩
  rw [HIR.out]
  have hB1 := bNext (bAlloc2 w _ _) hb1
  have hld := fun o => (hb1.cell (p := ⟨w.heap.size + 1, o, none⟩) (by simp))
  have c0 := (hld 0).trans (show _ = some (.int .i64 x.tok.k) by simp)
  have c2 := (hld 2).trans (show _ = some (.string x.tok.u) by simp)
  have hlx := fun o => (hb1.cell (p := ⟨w.heap.size, o, none⟩) (by simp; omega))
  have d0 := (hlx 0).trans (show _ = some (.int .i64 x.tok.k) by simp)
  have d1 := (hlx 1).trans (show _ = some (.string x.tok.t) by simp)
  have d2 := (hlx 2).trans (show _ = some (.string x.tok.u) by simp)
  have d3 := (hlx 3).trans (show _ = some (.bool x.tok.wh) by simp)
  have d4 := (hlx 4).trans (show _ = some (.bool x.tok.fl) by simp)
  have d5 := (hlx 5).trans (show _ = some (.slice x.ka x.kn x.kc) by simp)
  clear hld hlx hb1 HIR
  go_wp2_with fail
  refine (RefDigits_any n h0 h1 _).mono ?_
  rintro e w2 ⟨rfl, rfl⟩
  obtain ⟨z, hzz⟩ : ∃ z, itoaS n = z := ⟨_, rfl⟩
  rw [hzz] at hz ⊢
  have HZ := Lib.hid hzz
  clear hzz
  cases ok with
  | false =>
    have HW : Hid (resS (partS ⟨#[60, 112, 99, 116, 62]⟩ x) = .tuple #[.string noStr, .bool false]) := Lib.hid (by rw [HV.out]; exact told_no (by rw [Bool.and_false]; rfl))
    clear d0 d1 d2 d3 d4 d5 c2
    go_wp2_with fail
    exact bodyPost_ret (v := .tuple #[.string noStr, .bool false]) (by simp [results, Tryz.results114, go_sem, noStr]) rfl ⟨by rw [HW.out], hB1⟩
  | true =>
    by_cases hk : x.tok.k = 11
    · have hkb : (x.tok.k != 11) = false := by simp [hk]
      have hkc : (x.tok.k == 11) = true := by simp [hk]
      by_cases hneg : n < 0
      · have HW : Hid (resS (partS ⟨#[60, 112, 99, 116, 62]⟩ x) = .tuple #[.string (z ++ ⟨#[37]⟩), .bool true]) := Lib.hid (by rw [HV.out, told_yes (by rw [hkc, hsf, decide_eq_true hneg]; rfl), HZ.out]; rfl)
        clear d0 d1 d2 d3 d4 d5 c2 hk hkc
        go_wp2_with fail
        exact bodyPost_ret (v := .tuple #[.string (z ++ ⟨#[37]⟩), .bool true]) (by simp [results, Tryz.results114, go_sem]) rfl ⟨by rw [HW.out], hB1⟩
      · have HW : Hid (resS (partS ⟨#[60, 112, 99, 116, 62]⟩ x) = .tuple #[.string (z ++ ⟨#[37]⟩), .bool true]) := Lib.hid (by rw [HV.out, told_yes (by rw [hkc, hsf, decide_eq_false hneg]; rfl), HZ.out]; rfl)
        clear d0 d1 d2 d3 d4 d5 c2 hk hkc
        go_wp2_with fail
        exact bodyPost_ret (v := .tuple #[.string (z ++ ⟨#[37]⟩), .bool true]) (by simp [results, Tryz.results114, go_sem]) rfl ⟨by rw [HW.out], hB1⟩
    · have hkb : (x.tok.k != 11) = true := by simpa using hk
      have hkc : (x.tok.k == 11) = false := by simpa using hk
      have HW : Hid (resS (partS ⟨#[60, 112, 99, 116, 62]⟩ x) = .tuple #[.string noStr, .bool false]) := Lib.hid (by rw [HV.out]; exact told_no (by rw [hkc]; rfl))
      clear d0 d1 d2 d3 d4 d5 c2 hk hkc
      go_wp2_with fail
      exact bodyPost_ret (v := .tuple #[.string noStr, .bool false]) (by simp [results, Tryz.results114, go_sem, noStr]) rfl ⟨by rw [HW.out], hB1⟩
set_option maxHeartbeats 2000000 in
theorem refPart_pctP (w : World) (x : Val) (hx : x.fits) (hkn : ¬ 0 < x.kn) :
    Calls Tryz.prog 114 #[.string ⟨#[60, 112, 99, 116, 43, 62]⟩, .agg #[.int .i64 x.tok.k, .string x.tok.t, .string x.tok.u, .bool x.tok.wh, .bool x.tok.fl, .slice x.ka x.kn x.kc]] w fun e w' => e = .returned (resS (partS ⟨#[60, 112, 99, 116, 43, 62]⟩ x)) ∧ Below w.heap.size w w' := by
  obtain ⟨h0, h1⟩ := intN_range x.tok
  have hir := intRes_eq x.tok
  obtain ⟨n, hn⟩ : ∃ n, intN x.tok = n := ⟨_, rfl⟩
  obtain ⟨ok, hok⟩ : ∃ n, intOk x.tok = n := ⟨_, rfl⟩
  have HV : Hid (partS ⟨#[60, 112, 99, 116, 43, 62]⟩ x = toldS n ok ⟨#[60, 112, 99, 116, 43, 62]⟩ pcS (x.tok.k == 11)) := Lib.hid (by unfold partS; rw [if_neg hkn, hn, hok]; rfl)
  have hsf : Lib.hasSuffix (⟨#[60, 112, 99, 116, 43, 62]⟩ : ByteArray).data.toList plusG.data.toList = true := by decide
  rw [hn, hok] at hir
  rw [hn] at h0 h1
  have HIR := Lib.hid hir
  have hz := itoaS_le n h0 h1
  have q1 : ¬ (0 : Int) < (x.kn : Int) := by omega
  clear hir hn hok hkn
  go_enter Tryz.func114, Tryz.ntmps114
  go_wp2_with fail
  refine (RefInt_any x.tok hx.1 _).mono ?_
  rintro e w1 ⟨rfl, hb1⟩
  rw [HIR.out]
  have hB1 := bNext (bAlloc2 w _ _) hb1
  have hld := fun o => (hb1.cell (p := ⟨w.heap.size + 1, o, none⟩) (by simp))
  have c0 := (hld 0).trans (show _ = some (.int .i64 x.tok.k) by simp)
  have c2 := (hld 2).trans (show _ = some (.string x.tok.u) by simp)
  have hlx := fun o => (hb1.cell (p := ⟨w.heap.size, o, none⟩) (by simp; omega))
  have d0 := (hlx 0).trans (show _ = some (.int .i64 x.tok.k) by simp)
  have d1 := (hlx 1).trans (show _ = some (.string x.tok.t) by simp)
  have d2 := (hlx 2).trans (show _ = some (.string x.tok.u) by simp)
  have d3 := (hlx 3).trans (show _ = some (.bool x.tok.wh) by simp)
  have d4 := (hlx 4).trans (show _ = some (.bool x.tok.fl) by simp)
  have d5 := (hlx 5).trans (show _ = some (.slice x.ka x.kn x.kc) by simp)
  clear hld hlx hb1 HIR
  go_wp2_with fail
  refine (RefDigits_any n h0 h1 _).mono ?_
  rintro e w2 ⟨rfl, rfl⟩
  obtain ⟨z, hzz⟩ : ∃ z, itoaS n = z := ⟨_, rfl⟩
  rw [hzz] at hz ⊢
  have HZ := Lib.hid hzz
  clear hzz
  cases ok with
  | false =>
    have HW : Hid (resS (partS ⟨#[60, 112, 99, 116, 43, 62]⟩ x) = .tuple #[.string noStr, .bool false]) := Lib.hid (by rw [HV.out]; exact told_no (by rw [Bool.and_false]; rfl))
    clear d0 d1 d2 d3 d4 d5 c2
    go_wp2_with fail
    exact bodyPost_ret (v := .tuple #[.string noStr, .bool false]) (by simp [results, Tryz.results114, go_sem, noStr]) rfl ⟨by rw [HW.out], hB1⟩
  | true =>
    by_cases hk : x.tok.k = 11
    · have hkb : (x.tok.k != 11) = false := by simp [hk]
      have hkc : (x.tok.k == 11) = true := by simp [hk]
      by_cases hneg : n < 0
      · have HW : Hid (resS (partS ⟨#[60, 112, 99, 116, 43, 62]⟩ x) = .tuple #[.string noStr, .bool false]) := Lib.hid (by rw [HV.out]; exact told_no (by rw [hkc, hsf, decide_eq_true hneg]; rfl))
        clear d0 d1 d2 d3 d4 d5 c2 hk hkc
        go_wp2_with fail
        exact bodyPost_ret (v := .tuple #[.string noStr, .bool false]) (by simp [results, Tryz.results114, go_sem, noStr]) rfl ⟨by rw [HW.out], hB1⟩
      · have HW : Hid (resS (partS ⟨#[60, 112, 99, 116, 43, 62]⟩ x) = .tuple #[.string (z ++ ⟨#[37]⟩), .bool true]) := Lib.hid (by rw [HV.out, told_yes (by rw [hkc, hsf, decide_eq_false hneg]; rfl), HZ.out]; rfl)
        clear d0 d1 d2 d3 d4 d5 c2 hk hkc
        go_wp2_with fail
        exact bodyPost_ret (v := .tuple #[.string (z ++ ⟨#[37]⟩), .bool true]) (by simp [results, Tryz.results114, go_sem]) rfl ⟨by rw [HW.out], hB1⟩
    · have hkb : (x.tok.k != 11) = true := by simpa using hk
      have hkc : (x.tok.k == 11) = false := by simpa using hk
      have HW : Hid (resS (partS ⟨#[60, 112, 99, 116, 43, 62]⟩ x) = .tuple #[.string noStr, .bool false]) := Lib.hid (by rw [HV.out]; exact told_no (by rw [hkc]; rfl))
      clear d0 d1 d2 d3 d4 d5 c2 hk hkc
      go_wp2_with fail
      exact bodyPost_ret (v := .tuple #[.string noStr, .bool false]) (by simp [results, Tryz.results114, go_sem, noStr]) rfl ⟨by rw [HW.out], hB1⟩
set_option maxHeartbeats 2000000 in
theorem refPart_int (w : World) (x : Val) (hx : x.fits) (hkn : ¬ 0 < x.kn) :
    Calls Tryz.prog 114 #[.string ⟨#[60, 105, 110, 116, 62]⟩, .agg #[.int .i64 x.tok.k, .string x.tok.t, .string x.tok.u, .bool x.tok.wh, .bool x.tok.fl, .slice x.ka x.kn x.kc]] w fun e w' => e = .returned (resS (partS ⟨#[60, 105, 110, 116, 62]⟩ x)) ∧ Below w.heap.size w w' := by
  obtain ⟨h0, h1⟩ := intN_range x.tok
  have hir := intRes_eq x.tok
  obtain ⟨n, hn⟩ : ∃ n, intN x.tok = n := ⟨_, rfl⟩
  obtain ⟨ok, hok⟩ : ∃ n, intOk x.tok = n := ⟨_, rfl⟩
  have HV : Hid (partS ⟨#[60, 105, 110, 116, 62]⟩ x = toldS n ok ⟨#[60, 105, 110, 116, 62]⟩ noStr (x.tok.k == 10)) := Lib.hid (by unfold partS; rw [if_neg hkn, hn, hok]; rfl)
  have hsf : Lib.hasSuffix (⟨#[60, 105, 110, 116, 62]⟩ : ByteArray).data.toList plusG.data.toList = false := by decide
  rw [hn, hok] at hir
  rw [hn] at h0 h1
  have HIR := Lib.hid hir
  have hz := itoaS_le n h0 h1
  have q1 : ¬ (0 : Int) < (x.kn : Int) := by omega
  clear hir hn hok hkn
  go_enter Tryz.func114, Tryz.ntmps114
  go_wp2_with fail
  refine (RefInt_any x.tok hx.1 _).mono ?_
  rintro e w1 ⟨rfl, hb1⟩
  rw [HIR.out]
  have hB1 := bNext (bAlloc2 w _ _) hb1
  have hld := fun o => (hb1.cell (p := ⟨w.heap.size + 1, o, none⟩) (by simp))
  have c0 := (hld 0).trans (show _ = some (.int .i64 x.tok.k) by simp)
  have c2 := (hld 2).trans (show _ = some (.string x.tok.u) by simp)
  have hlx := fun o => (hb1.cell (p := ⟨w.heap.size, o, none⟩) (by simp; omega))
  have d0 := (hlx 0).trans (show _ = some (.int .i64 x.tok.k) by simp)
  have d1 := (hlx 1).trans (show _ = some (.string x.tok.t) by simp)
  have d2 := (hlx 2).trans (show _ = some (.string x.tok.u) by simp)
  have d3 := (hlx 3).trans (show _ = some (.bool x.tok.wh) by simp)
  have d4 := (hlx 4).trans (show _ = some (.bool x.tok.fl) by simp)
  have d5 := (hlx 5).trans (show _ = some (.slice x.ka x.kn x.kc) by simp)
  clear hld hlx hb1 HIR
  go_wp2_with fail
  refine (RefDigits_any n h0 h1 _).mono ?_
  rintro e w2 ⟨rfl, rfl⟩
  obtain ⟨z, hzz⟩ : ∃ z, itoaS n = z := ⟨_, rfl⟩
  rw [hzz] at hz ⊢
  have HZ := Lib.hid hzz
  clear hzz
  cases ok with
  | false =>
    have HW : Hid (resS (partS ⟨#[60, 105, 110, 116, 62]⟩ x) = .tuple #[.string noStr, .bool false]) := Lib.hid (by rw [HV.out]; exact told_no (by rw [Bool.and_false]; rfl))
    clear d0 d1 d2 d3 d4 d5 c2
    go_wp2_with fail
    exact bodyPost_ret (v := .tuple #[.string noStr, .bool false]) (by simp [results, Tryz.results114, go_sem, noStr]) rfl ⟨by rw [HW.out], hB1⟩
  | true =>
    by_cases hk : x.tok.k = 10
    · have hkb : (x.tok.k != 10) = false := by simp [hk]
      have hkc : (x.tok.k == 10) = true := by simp [hk]
      by_cases hneg : n < 0
      · have HW : Hid (resS (partS ⟨#[60, 105, 110, 116, 62]⟩ x) = .tuple #[.string z, .bool true]) := Lib.hid (by rw [HV.out, told_yes (by rw [hkc, hsf, decide_eq_true hneg]; rfl), HZ.out, append_noStr])
        clear d0 d1 d2 d3 d4 d5 c2 hk hkc
        go_wp2_with fail
        exact bodyPost_ret (v := .tuple #[.string z, .bool true]) (by simp [results, Tryz.results114, go_sem]) rfl ⟨by rw [HW.out], hB1⟩
      · have HW : Hid (resS (partS ⟨#[60, 105, 110, 116, 62]⟩ x) = .tuple #[.string z, .bool true]) := Lib.hid (by rw [HV.out, told_yes (by rw [hkc, hsf, decide_eq_false hneg]; rfl), HZ.out, append_noStr])
        clear d0 d1 d2 d3 d4 d5 c2 hk hkc
        go_wp2_with fail
        exact bodyPost_ret (v := .tuple #[.string z, .bool true]) (by simp [results, Tryz.results114, go_sem]) rfl ⟨by rw [HW.out], hB1⟩
    · have hkb : (x.tok.k != 10) = true := by simpa using hk
      have hkc : (x.tok.k == 10) = false := by simpa using hk
      have HW : Hid (resS (partS ⟨#[60, 105, 110, 116, 62]⟩ x) = .tuple #[.string noStr, .bool false]) := Lib.hid (by rw [HV.out]; exact told_no (by rw [hkc]; rfl))
      clear d0 d1 d2 d3 d4 d5 c2 hk hkc
      go_wp2_with fail
      exact bodyPost_ret (v := .tuple #[.string noStr, .bool false]) (by simp [results, Tryz.results114, go_sem, noStr]) rfl ⟨by rw [HW.out], hB1⟩
set_option maxHeartbeats 2000000 in
theorem refPart_intP (w : World) (x : Val) (hx : x.fits) (hkn : ¬ 0 < x.kn) :
    Calls Tryz.prog 114 #[.string ⟨#[60, 105, 110, 116, 43, 62]⟩, .agg #[.int .i64 x.tok.k, .string x.tok.t, .string x.tok.u, .bool x.tok.wh, .bool x.tok.fl, .slice x.ka x.kn x.kc]] w fun e w' => e = .returned (resS (partS ⟨#[60, 105, 110, 116, 43, 62]⟩ x)) ∧ Below w.heap.size w w' := by
  obtain ⟨h0, h1⟩ := intN_range x.tok
  have hir := intRes_eq x.tok
  obtain ⟨n, hn⟩ : ∃ n, intN x.tok = n := ⟨_, rfl⟩
  obtain ⟨ok, hok⟩ : ∃ n, intOk x.tok = n := ⟨_, rfl⟩
  have HV : Hid (partS ⟨#[60, 105, 110, 116, 43, 62]⟩ x = toldS n ok ⟨#[60, 105, 110, 116, 43, 62]⟩ noStr (x.tok.k == 10)) := Lib.hid (by unfold partS; rw [if_neg hkn, hn, hok]; rfl)
  have hsf : Lib.hasSuffix (⟨#[60, 105, 110, 116, 43, 62]⟩ : ByteArray).data.toList plusG.data.toList = true := by decide
  rw [hn, hok] at hir
  rw [hn] at h0 h1
  have HIR := Lib.hid hir
  have hz := itoaS_le n h0 h1
  have q1 : ¬ (0 : Int) < (x.kn : Int) := by omega
  clear hir hn hok hkn
  go_enter Tryz.func114, Tryz.ntmps114
  go_wp2_with fail
  refine (RefInt_any x.tok hx.1 _).mono ?_
  rintro e w1 ⟨rfl, hb1⟩
  rw [HIR.out]
  have hB1 := bNext (bAlloc2 w _ _) hb1
  have hld := fun o => (hb1.cell (p := ⟨w.heap.size + 1, o, none⟩) (by simp))
  have c0 := (hld 0).trans (show _ = some (.int .i64 x.tok.k) by simp)
  have c2 := (hld 2).trans (show _ = some (.string x.tok.u) by simp)
  have hlx := fun o => (hb1.cell (p := ⟨w.heap.size, o, none⟩) (by simp; omega))
  have d0 := (hlx 0).trans (show _ = some (.int .i64 x.tok.k) by simp)
  have d1 := (hlx 1).trans (show _ = some (.string x.tok.t) by simp)
  have d2 := (hlx 2).trans (show _ = some (.string x.tok.u) by simp)
  have d3 := (hlx 3).trans (show _ = some (.bool x.tok.wh) by simp)
  have d4 := (hlx 4).trans (show _ = some (.bool x.tok.fl) by simp)
  have d5 := (hlx 5).trans (show _ = some (.slice x.ka x.kn x.kc) by simp)
  clear hld hlx hb1 HIR
  go_wp2_with fail
  refine (RefDigits_any n h0 h1 _).mono ?_
  rintro e w2 ⟨rfl, rfl⟩
  obtain ⟨z, hzz⟩ : ∃ z, itoaS n = z := ⟨_, rfl⟩
  rw [hzz] at hz ⊢
  have HZ := Lib.hid hzz
  clear hzz
  cases ok with
  | false =>
    have HW : Hid (resS (partS ⟨#[60, 105, 110, 116, 43, 62]⟩ x) = .tuple #[.string noStr, .bool false]) := Lib.hid (by rw [HV.out]; exact told_no (by rw [Bool.and_false]; rfl))
    clear d0 d1 d2 d3 d4 d5 c2
    go_wp2_with fail
    exact bodyPost_ret (v := .tuple #[.string noStr, .bool false]) (by simp [results, Tryz.results114, go_sem, noStr]) rfl ⟨by rw [HW.out], hB1⟩
  | true =>
    by_cases hk : x.tok.k = 10
    · have hkb : (x.tok.k != 10) = false := by simp [hk]
      have hkc : (x.tok.k == 10) = true := by simp [hk]
      by_cases hneg : n < 0
      · have HW : Hid (resS (partS ⟨#[60, 105, 110, 116, 43, 62]⟩ x) = .tuple #[.string noStr, .bool false]) := Lib.hid (by rw [HV.out]; exact told_no (by rw [hkc, hsf, decide_eq_true hneg]; rfl))
        clear d0 d1 d2 d3 d4 d5 c2 hk hkc
        go_wp2_with fail
        exact bodyPost_ret (v := .tuple #[.string noStr, .bool false]) (by simp [results, Tryz.results114, go_sem, noStr]) rfl ⟨by rw [HW.out], hB1⟩
      · have HW : Hid (resS (partS ⟨#[60, 105, 110, 116, 43, 62]⟩ x) = .tuple #[.string z, .bool true]) := Lib.hid (by rw [HV.out, told_yes (by rw [hkc, hsf, decide_eq_false hneg]; rfl), HZ.out, append_noStr])
        clear d0 d1 d2 d3 d4 d5 c2 hk hkc
        go_wp2_with fail
        exact bodyPost_ret (v := .tuple #[.string z, .bool true]) (by simp [results, Tryz.results114, go_sem]) rfl ⟨by rw [HW.out], hB1⟩
    · have hkb : (x.tok.k != 10) = true := by simpa using hk
      have hkc : (x.tok.k == 10) = false := by simpa using hk
      have HW : Hid (resS (partS ⟨#[60, 105, 110, 116, 43, 62]⟩ x) = .tuple #[.string noStr, .bool false]) := Lib.hid (by rw [HV.out]; exact told_no (by rw [hkc]; rfl))
      clear d0 d1 d2 d3 d4 d5 c2 hk hkc
      go_wp2_with fail
      exact bodyPost_ret (v := .tuple #[.string noStr, .bool false]) (by simp [results, Tryz.results114, go_sem, noStr]) rfl ⟨by rw [HW.out], hB1⟩
set_option maxHeartbeats 2000000 in
theorem refPart_col (w : World) (x : Val) (hx : x.fits) (hkn : ¬ 0 < x.kn) :
    Calls Tryz.prog 114 #[.string ⟨#[60, 99, 111, 108, 111, 114, 62]⟩, .agg #[.int .i64 x.tok.k, .string x.tok.t, .string x.tok.u, .bool x.tok.wh, .bool x.tok.fl, .slice x.ka x.kn x.kc]] w fun e w' => e = .returned (resS (partS ⟨#[60, 99, 111, 108, 111, 114, 62]⟩ x)) ∧ Below w.heap.size w w' := by
  obtain ⟨h0, h1⟩ := intN_range x.tok
  have hir := intRes_eq x.tok
  obtain ⟨n, hn⟩ : ∃ n, intN x.tok = n := ⟨_, rfl⟩
  obtain ⟨ok, hok⟩ : ∃ n, intOk x.tok = n := ⟨_, rfl⟩
  have HV : Hid (partS ⟨#[60, 99, 111, 108, 111, 114, 62]⟩ x = colorS x.tok) := Lib.hid (by unfold partS; rw [if_neg hkn, hn, hok]; rfl)
  rw [hn, hok] at hir
  rw [hn] at h0 h1
  have HIR := Lib.hid hir
  have hz := itoaS_le n h0 h1
  have q1 : ¬ (0 : Int) < (x.kn : Int) := by omega
  clear hir hn hok hkn
  go_enter Tryz.func114, Tryz.ntmps114
  go_wp2_with fail
  refine (RefInt_any x.tok hx.1 _).mono ?_
  rintro e w1 ⟨rfl, hb1⟩
  rw [HIR.out]
  have hB1 := bNext (bAlloc2 w _ _) hb1
  have hld := fun o => (hb1.cell (p := ⟨w.heap.size + 1, o, none⟩) (by simp))
  have c0 := (hld 0).trans (show _ = some (.int .i64 x.tok.k) by simp)
  have c2 := (hld 2).trans (show _ = some (.string x.tok.u) by simp)
  have hlx := fun o => (hb1.cell (p := ⟨w.heap.size, o, none⟩) (by simp; omega))
  have d0 := (hlx 0).trans (show _ = some (.int .i64 x.tok.k) by simp)
  have d1 := (hlx 1).trans (show _ = some (.string x.tok.t) by simp)
  have d2 := (hlx 2).trans (show _ = some (.string x.tok.u) by simp)
  have d3 := (hlx 3).trans (show _ = some (.bool x.tok.wh) by simp)
  have d4 := (hlx 4).trans (show _ = some (.bool x.tok.fl) by simp)
  have d5 := (hlx 5).trans (show _ = some (.slice x.ka x.kn x.kc) by simp)
  clear hld hlx hb1 HIR
  go_wp2_with fail
  refine (RefDigits_any n h0 h1 _).mono ?_
  rintro e w2 ⟨rfl, rfl⟩
  obtain ⟨z, hzz⟩ : ∃ z, itoaS n = z := ⟨_, rfl⟩
  rw [hzz] at hz ⊢
  have HZ := Lib.hid hzz
  clear hzz
  have hC := fun W => RefColor_any W x hx
  rw [← HV.out] at hC
  have HC := Lib.hid hC
  clear hC c0 c2 hz HV
  go_wp2_with fail
  refine (HC.out _).mono ?_
  rintro e w3 ⟨rfl, hb3⟩
  have hB3 := bNext hB1 hb3
  obtain ⟨r, hr⟩ : ∃ r, partS ⟨#[60, 99, 111, 108, 111, 114, 62]⟩ x = r := ⟨_, rfl⟩
  rw [hr] at HC ⊢
  have HRr := Lib.hid hr
  clear d0 d1 d2 d3 d4 d5 HC hr
  cases r with
  | none =>
    simp only [resS]
    go_wp2_with fail
    exact bodyPost_ret (v := .tuple #[.string noStr, .bool false]) (by simp [results, Tryz.results114, go_sem]) rfl ⟨by rw [HRr.out]; rfl, hB3⟩
  | some s =>
    simp only [resS]
    go_wp2_with fail
    exact bodyPost_ret (v := .tuple #[.string s, .bool true]) (by simp [results, Tryz.results114, go_sem]) rfl ⟨by rw [HRr.out]; rfl, hB3⟩
set_option maxHeartbeats 4000000 in
theorem refPart_word (w : World) (form : ByteArray) (e0 : eqB form fLen = false) (e1 : eqB form fLenP = false) (e2 : eqB form fPct = false) (e3 : eqB form fPctP = false) (e4 : eqB form fInt = false) (e5 : eqB form fIntP = false) (e6 : eqB form fCol = false) (x : Val) (hx : x.fits) (hkn : ¬ 0 < x.kn) :
    Calls Tryz.prog 114 #[.string form, .agg #[.int .i64 x.tok.k, .string x.tok.t, .string x.tok.u, .bool x.tok.wh, .bool x.tok.fl, .slice x.ka x.kn x.kc]] w fun e w' => e = .returned (resS (partS form x)) ∧ Below w.heap.size w w' := by
  obtain ⟨h0, h1⟩ := intN_range x.tok
  have hir := intRes_eq x.tok
  obtain ⟨n, hn⟩ : ∃ n, intN x.tok = n := ⟨_, rfl⟩
  obtain ⟨ok, hok⟩ : ∃ n, intOk x.tok = n := ⟨_, rfl⟩
  have HV : Hid (partS form x = if (decide (x.tok.k = 1) && eqB (identS x) form) = true then some form else none) := Lib.hid (by unfold partS; rw [if_neg hkn, e0, e1, e2, e3, e4, e5, e6]; rfl)
  have t0 : (form.toList == [60, 108, 101, 110, 62]) = false := (toList_lit form fLen _ rfl).trans e0
  have t1 : (form.toList == [60, 108, 101, 110, 43, 62]) = false := (toList_lit form fLenP _ rfl).trans e1
  have t2 : (form.toList == [60, 112, 99, 116, 62]) = false := (toList_lit form fPct _ rfl).trans e2
  have t3 : (form.toList == [60, 112, 99, 116, 43, 62]) = false := (toList_lit form fPctP _ rfl).trans e3
  have t4 : (form.toList == [60, 105, 110, 116, 62]) = false := (toList_lit form fInt _ rfl).trans e4
  have t5 : (form.toList == [60, 105, 110, 116, 43, 62]) = false := (toList_lit form fIntP _ rfl).trans e5
  have t6 : (form.toList == [60, 99, 111, 108, 111, 114, 62]) = false := (toList_lit form fCol _ rfl).trans e6
  clear e0 e1 e2 e3 e4 e5 e6
  rw [hn, hok] at hir
  rw [hn] at h0 h1
  have HIR := Lib.hid hir
  have hz := itoaS_le n h0 h1
  have q1 : ¬ (0 : Int) < (x.kn : Int) := by omega
  clear hir hn hok hkn
  go_enter Tryz.func114, Tryz.ntmps114
  go_wp2_with fail
  refine (RefInt_any x.tok hx.1 _).mono ?_
  rintro e w1 ⟨rfl, hb1⟩
  rw [HIR.out]
  have hB1 := bNext (bAlloc2 w _ _) hb1
  have hld := fun o => (hb1.cell (p := ⟨w.heap.size + 1, o, none⟩) (by simp))
  have c0 := (hld 0).trans (show _ = some (.int .i64 x.tok.k) by simp)
  have c2 := (hld 2).trans (show _ = some (.string x.tok.u) by simp)
  have hlx := fun o => (hb1.cell (p := ⟨w.heap.size, o, none⟩) (by simp; omega))
  have d0 := (hlx 0).trans (show _ = some (.int .i64 x.tok.k) by simp)
  have d1 := (hlx 1).trans (show _ = some (.string x.tok.t) by simp)
  have d2 := (hlx 2).trans (show _ = some (.string x.tok.u) by simp)
  have d3 := (hlx 3).trans (show _ = some (.bool x.tok.wh) by simp)
  have d4 := (hlx 4).trans (show _ = some (.bool x.tok.fl) by simp)
  have d5 := (hlx 5).trans (show _ = some (.slice x.ka x.kn x.kc) by simp)
  clear hld hlx hb1 HIR
  go_wp2_with fail
  refine (RefDigits_any n h0 h1 _).mono ?_
  rintro e w2 ⟨rfl, rfl⟩
  obtain ⟨z, hzz⟩ : ∃ z, itoaS n = z := ⟨_, rfl⟩
  rw [hzz] at hz ⊢
  have HZ := Lib.hid hzz
  clear hzz
  by_cases hk : x.tok.k = 1
  · have hI := fun W => refIdent_any x hx W
    obtain ⟨y, hy⟩ : ∃ y, identS x = y := ⟨_, rfl⟩
    rw [hy, hk] at hI
    rw [hy, decide_eq_true hk] at HV
    rw [hk] at c0 d0
    have HI := Lib.hid hI
    clear hI hy c2 hz
    have hlt := World.block_lt_of_cell? w2 _ d0
    by_cases hyf : y = form
    · have HW : Hid (resS (partS form x) = .tuple #[.string form, .bool true]) := Lib.hid (by rw [HV.out, (eqB_iff y form).2 hyf]; rfl)
      have hq : (y.toList == form.toList) = true := by rw [hyf]; simp
      have hq2 : (y.toList != form.toList) = false := by rw [hyf]; simp
      clear hyf HV
      go_wp2_with fail
      refine (HI.out _).mono ?_
      rintro e w3 ⟨rfl, hb3⟩
      have hB3 := bNext hB1 hb3
      clear hb3 d0 d1 d2 d3 d4 d5 c0 t0 t1 t2 t3 t4 t5 t6
      go_wp2_with fail
      exact bodyPost_ret (v := .tuple #[.string form, .bool true]) (by simp [results, Tryz.results114, go_sem]) rfl ⟨by rw [HW.out], hB3⟩
    · have HW : Hid (resS (partS form x) = .tuple #[.string noStr, .bool false]) := Lib.hid (by
        rw [HV.out, if_neg]
        · rfl
        · exact fun e => hyf ((eqB_iff y form).1 e))
      have hq : (y.toList == form.toList) = false := bytes_ne hyf
      have hq2 : (y.toList != form.toList) = true := by unfold bne; rw [hq]; rfl
      clear hyf HV
      go_wp2_with fail
      refine (HI.out _).mono ?_
      rintro e w3 ⟨rfl, hb3⟩
      have hB3 := bNext hB1 hb3
      clear hb3 d0 d1 d2 d3 d4 d5 c0 t0 t1 t2 t3 t4 t5 t6
      go_wp2_with fail
      exact bodyPost_ret (v := .tuple #[.string noStr, .bool false]) (by simp [results, Tryz.results114, go_sem, noStr]) rfl ⟨by rw [HW.out], hB3⟩
  · have HW : Hid (resS (partS form x) = .tuple #[.string noStr, .bool false]) := Lib.hid (by rw [HV.out, decide_eq_false hk]; rfl)
    have hk2 : (x.tok.k != 1) = true := by simpa using hk
    clear HV hk c2 hz
    go_wp2_with fail
    exact bodyPost_ret (v := .tuple #[.string noStr, .bool false]) (by simp [results, Tryz.results114, go_sem, noStr]) rfl ⟨by rw [HW.out], hB1⟩
theorem RefPart_any (w : World) (form : ByteArray) (x : Val) (hx : x.fits) :
    Calls Tryz.prog 114 #[.string form, .agg #[.int .i64 x.tok.k, .string x.tok.t, .string x.tok.u, .bool x.tok.wh, .bool x.tok.fl, .slice x.ka x.kn x.kc]] w fun e w' => e = .returned (resS (partS form x)) ∧ Below w.heap.size w w' := by
  by_cases hkn : 0 < x.kn
  · have HV : Hid (partS form x = none) := Lib.hid (if_pos hkn)
    have q1 : (0 : Int) < (x.kn : Int) := by omega
    go_enter Tryz.func114, Tryz.ntmps114
    go_wp2_with fail
    exact bodyPost_ret (v := .tuple #[.string noStr, .bool false]) (by simp [results, Tryz.results114, go_sem, noStr]) rfl ⟨by rw [HV.out]; rfl, bAlloc1 _ _⟩
  · cases e0 : eqB form fLen with
    | true => rw [(eqB_iff form fLen).1 e0]; exact refPart_len w x hx hkn
    | false =>
      cases e1 : eqB form fLenP with
      | true => rw [(eqB_iff form fLenP).1 e1]; exact refPart_lenP w x hx hkn
      | false =>
        cases e2 : eqB form fPct with
        | true => rw [(eqB_iff form fPct).1 e2]; exact refPart_pct w x hx hkn
        | false =>
          cases e3 : eqB form fPctP with
          | true => rw [(eqB_iff form fPctP).1 e3]; exact refPart_pctP w x hx hkn
          | false =>
            cases e4 : eqB form fInt with
            | true => rw [(eqB_iff form fInt).1 e4]; exact refPart_int w x hx hkn
            | false =>
              cases e5 : eqB form fIntP with
              | true => rw [(eqB_iff form fIntP).1 e5]; exact refPart_intP w x hx hkn
              | false =>
                cases e6 : eqB form fCol with
                | true => rw [(eqB_iff form fCol).1 e6]; exact refPart_col w x hx hkn
                | false => exact refPart_word w form e0 e1 e2 e3 e4 e5 e6 x hx hkn
end Go.Proofs.YtpadcjcoafidgaaGreatDoor
/-! gouacheref15.Parse. -/
namespace Go.Proofs.YtpadcjcoafidgaaGreatDoor
open Go.RowKit

set_option maxRecDepth 100000 in
set_option maxHeartbeats 4000000 in
theorem RefParse_any (w : World) (name : ByteArray) (v : Value) (l : List Val) (h : Vs w v l) (hf : ∀ x ∈ l, x.fits) :
    Calls Tryz.prog 74 #[.string name, v] w fun e w' => e = .returned (resS (parseS name l)) ∧ Below w.heap.size w w' := by
  go_enter Tryz.func74, Tryz.ntmps74
  go_wp2_with fail
  refine (refFind_any name w).mono ?_
  rintro e w1 ⟨rfl, hb1⟩
  obtain ⟨ok, hok⟩ : ∃ b, (placeN name).isSome = b := ⟨_, rfl⟩
  obtain ⟨⟨ra, rb, rc, rf⟩, hr⟩ : ∃ r, findRow name = r := ⟨_, rfl⟩
  have hrf : rf.size ≤ 1000 := by have := findRow_small name; rw [hr] at this; exact this
  rw [hok, hr]
  have hv1 := (h.next hb1).next (bAlloc1 w1 (.cells #[.string ra, .string rb, .bool rc, .string rf] 116))
  go_wp2_with fail
  refine (RefTrim_any _ _ l hv1).mono ?_
  rintro e w2 ⟨v1, rfl, hv2, hb2⟩
  have hld := fun o => (hb2.cell (p := ⟨w1.heap.size, o, none⟩) (by simp))
  have g0 := (hld 0).trans (show _ = some (.string ra) by simp)
  have g1 := (hld 1).trans (show _ = some (.string rb) by simp)
  have g2 := (hld 2).trans (show _ = some (.bool rc) by simp)
  have g3 := (hld 3).trans (show _ = some (.string rf) by simp)
  have hB2 := bNext (bNext hb1 (bAlloc1 w1 (.cells #[.string ra, .string rb, .bool rc, .string rf] 116))) hb2
  clear hld hv1 hb1 hb2 h
  by_cases h1 : (trim l).length = 1
  · obtain ⟨x, hx⟩ := List.length_eq_one_iff.1 h1
    have hxf := hf x (trim_mem (by rw [hx]; exact List.mem_singleton.2 rfl))
    have HP : Hid (parseS name l = if ok = true then firstPart (parts rf) x else none) := Lib.hid (by rw [parseS_one hx, hok, hr])
    rw [hx] at hv2
    have HV2 := Lib.hid hv2
    clear hx h1 hok hr hf
    cases ok with
    | false =>
      have HW : Hid (resS (parseS name l) = .tuple #[.string noStr, .bool false]) := Lib.hid (by rw [HP.out]; rfl)
      go_wp2_with fail
      exact bodyPost_ret (v := .tuple #[.string noStr, .bool false]) (by simp [results, Tryz.results74, go_sem, noStr]) rfl ⟨by rw [HW.out], hB2⟩
    | true =>
      have HPP : Hid (parseS name l = firstPart (parts rf) x) := Lib.hid (by rw [HP.out, if_pos rfl])
      obtain ⟨b, off, cap, rfl, hb, x0, x1, x2, x3, x4, x5⟩ := hv2.one
      clear hv2 HP
      go_wp2_with fail
      refine (refForms_any ra rb rf rc (by omega) _).mono ?_
      rintro e w3 ⟨v3, rfl, hs3, hb3⟩
      have hB4 := bNext hB2 hb3
      have HV4 := Lib.hid (HV2.out.next hb3)
      have hpl := parts_length rf
      have H3 := Lib.hid hs3
      obtain ⟨a3, c3, rfl, _⟩ := hs3.val
      clear hb3 HV2 hs3 x0 x1 x2 x3 x4 x5 g0 g1 g2 g3
      go_wp2_with fail
      go_loopw [9, 10, 11, 29] (fun _ _ _ iv wr => ∃ k : Nat, k ≤ (parts rf).length ∧ iv = .int .i64 k ∧ Hid (firstPart ((parts rf).drop k) x = firstPart (parts rf) x) ∧ Below w3.heap.size w3 wr)
        (fun _ _ _ iv _ => (parts rf).length - (intOf iv).toNat)
      case atStart => exact ⟨0, by omega, rfl, Lib.hid rfl, Below.refl _ _⟩
      case round =>
        obtain ⟨k, hk, rfl, HF, hb5⟩ := hrel
        have hB5 := bNext hB4 hb5
        by_cases hlt : k < (parts rf).length
        · have hne : parts rf ≠ [] := by intro e; rw [e] at hlt; simp at hlt
          obtain ⟨b1, o1, c1', e1, _, hbb, hc1⟩ := H3.out.at hne
          simp only [Value.slice.injEq] at e1
          obtain ⟨rfl, _, _⟩ := e1
          have f1 : wr.cell? ⟨b1, o1 + k, none⟩ = some (.string (parts rf)[k]) := (hb5.cell (p := ⟨b1, _, none⟩) hbb).trans (hc1 k hlt)
          have hps := parts_size rf k hlt
          obtain ⟨f, hf'⟩ : ∃ f, (parts rf)[k] = f := ⟨_, rfl⟩
          have hfd := firstPart_drop (x := x) hlt
          rw [hf'] at f1 hfd hps
          have HFD := Lib.hid hfd
          obtain ⟨b', off', cap', hvv, hb', x0, x1, x2, x3, x4, x5⟩ := (HV4.out.next hb5).one
          simp only [Value.slice.injEq, Option.some.injEq, Addr.mk.injEq, and_true] at hvv
          obtain ⟨⟨rfl, rfl⟩, _, rfl⟩ := hvv
          clear hc1 hf' hfd
          have q1 : (0 : Int) ≤ (k : Int) := by omega
          have q2 : (k : Int) < ((parts rf).length : Int) := by omega
          go_wp2_with fail
          refine (RefPart_any wr f x hxf).mono ?_
          rintro e w6 ⟨rfl, hb6⟩
          have hB6 := bNext hB5 hb6
          have hb36 := bNext hb5 hb6
          cases hr2 : partS f x with
          | none =>
            have HN : Hid (firstPart ((parts rf).drop (k + 1)) x = firstPart (parts rf) x) := Lib.hid (by rw [← HF.out, HFD.out, hr2])
            simp only [resS]
            clear x0 x1 x2 x3 x4 x5 f1
            go_wp2_with fail
            go_roundw
            case rel => exact ⟨k + 1, by omega, by go_num, HN, hb36⟩
            case measure => simp [intOf]; omega
          | some s =>
            have HW : Hid (resS (parseS name l) = .tuple #[.string s, .bool true]) := Lib.hid (by rw [HPP.out, ← HF.out, HFD.out, hr2]; rfl)
            simp only [resS]
            clear x0 x1 x2 x3 x4 x5 f1
            go_wp2_with fail
            exact bodyPost_ret (v := .tuple #[.string s, .bool true]) (by simp [results, Tryz.results74, go_sem]) rfl ⟨by rw [HW.out], hB6⟩
        · have hke : k = (parts rf).length := by omega
          have HW : Hid (resS (parseS name l) = .tuple #[.string noStr, .bool false]) := Lib.hid (by rw [HPP.out, ← HF.out, hke, List.drop_length]; rfl)
          have q2 : ¬ (k : Int) < ((parts rf).length : Int) := by omega
          clear hke
          go_wp2_with fail
          exact bodyPost_ret (v := .tuple #[.string noStr, .bool false]) (by simp [results, Tryz.results74, go_sem, noStr]) rfl ⟨by rw [HW.out], hB5⟩
  · have HW : Hid (resS (parseS name l) = .tuple #[.string noStr, .bool false]) := Lib.hid (by rw [parseS_not h1]; rfl)
    obtain ⟨a, cap, rfl, _⟩ := hv2
    have q1 : ¬ (((trim l).length : Int) = 1) := by omega
    clear h1 hok hr
    cases ok with
    | false =>
      go_wp2_with fail
      exact bodyPost_ret (v := .tuple #[.string noStr, .bool false]) (by simp [results, Tryz.results74, go_sem, noStr]) rfl ⟨by rw [HW.out], hB2⟩
    | true =>
      go_wp2_with fail
      exact bodyPost_ret (v := .tuple #[.string noStr, .bool false]) (by simp [results, Tryz.results74, go_sem, noStr]) rfl ⟨by rw [HW.out], hB2⟩
end Go.Proofs.YtpadcjcoafidgaaGreatDoor
/-! gouacheref16.cut. -/
namespace Go.Proofs.YtpadcjcoafidgaaGreatDoor
open Go.RowKit

set_option maxRecDepth 100000 in
set_option maxHeartbeats 4000000 in
theorem RefCut_any (w : World) (v : Value) (l : List Val) (h : Vs w v l) :
    Calls Tryz.prog 75 #[v] w fun e w' => ∃ V, e = .returned V ∧ Vs w' V ((partsS l).getD []) ∧ Below w.heap.size w w' := by
  go_enter Tryz.func75, Tryz.ntmps75
  go_wp2_with fail
  refine (RefTrim_any w _ l h).mono ?_
  rintro e w1 ⟨v1, rfl, hv1, hb1⟩
  have hlen := hv1.len
  obtain ⟨a1, cap1, rfl, _, _, hc1⟩ := hv1
  have HC := Lib.hid hc1
  have HP : Hid (partsS l = partsF true (trim l) []) := Lib.hid rfl
  obtain ⟨tl, htl⟩ : ∃ t, trim l = t := ⟨_, rfl⟩
  rw [htl] at HP HC hlen ⊢
  clear hc1 htl h
  go_wp2_with fail
  go_loopw [3, 4, 6, 7, 11] (fun out ap _ _ iv wr => ∃ (k : Nat) (acc : List Val) (b : Bool), k ≤ tl.length ∧ acc.length ≤ k ∧ iv = .int .i64 k ∧ ap = .bool b ∧ Hid (partsF b (tl.drop k) acc = partsS l) ∧
      wr.ownsRow w1.heap.size 26 6 out (acc.map Val.row).length (acc.map Val.row).flatten ∧ Below w1.heap.size w1 wr)
    (fun _ _ _ _ iv _ => tl.length - (intOf iv).toNat)
  case atStart => exact ⟨0, [], true, by omega, Nat.le_refl _, rfl, rfl, Lib.hid (by rw [List.drop_zero, HP.out]), ⟨by simp, .inl ⟨rfl, rfl⟩⟩, Below.refl _ _⟩
  case round =>
    obtain ⟨k, acc, b, hk, hal, rfl, rfl, HF, hown, hb⟩ := hrel
    by_cases hlt : k < tl.length
    · have hne : tl ≠ [] := by intro e; rw [e] at hlt; simp at hlt
      obtain ⟨bb, off, rfl, hbb, hcc⟩ := HC.out hne
      obtain ⟨x0, x1, x2, x3, x4, x5⟩ := Vs.cells hcc k hlt
      have x0 := (hb.cell (p := ⟨bb, _, none⟩) hbb).trans x0
      have x1 := (hb.cell (p := ⟨bb, _, none⟩) hbb).trans x1
      have x2 := (hb.cell (p := ⟨bb, _, none⟩) hbb).trans x2
      have x3 := (hb.cell (p := ⟨bb, _, none⟩) hbb).trans x3
      have x4 := (hb.cell (p := ⟨bb, _, none⟩) hbb).trans x4
      have x5 := (hb.cell (p := ⟨bb, _, none⟩) hbb).trans x5
      have hd := List.drop_eq_getElem_cons hlt
      obtain ⟨y, hy⟩ : ∃ y, tl[k] = y := ⟨_, rfl⟩
      rw [hy] at x0 x1 x2 x3 x4 x5 hd
      have HD : Hid (partsS l = if isSp y = true then partsF true (tl.drop (k + 1)) acc else if b = true then partsF false (tl.drop (k + 1)) (acc ++ [y]) else none) := Lib.hid (by rw [← HF.out, hd]; rfl)
      have q0 : (0 : Int) ≤ (k : Int) := by omega
      have q1 : (k : Int) < (tl.length : Int) := by omega
      have hsz := hb.size
      clear hcc hy hd
      by_cases hs : y.tok.k = 13
      · have HN : Hid (partsF true (tl.drop (k + 1)) acc = partsS l) := Lib.hid (by rw [HD.out, if_pos (by unfold isSp; rw [hs]; rfl)])
        have hb5 := hb.trans ((bAlloc1 wr (.cells #[.int .i64 13, .string y.tok.t, .string y.tok.u, .bool y.tok.wh, .bool y.tok.fl, .slice y.ka y.kn y.kc] 26)).mono hsz)
        have hown5 := hown.alloc (.cells #[.int .i64 13, .string y.tok.t, .string y.tok.u, .bool y.tok.wh, .bool y.tok.fl, .slice y.ka y.kn y.kc] 26)
        go_wp2_with fail
        go_roundw
        case rel => exact ⟨k + 1, acc, true, by omega, by omega, by go_num, rfl, HN, hown5, hb5⟩
        case measure => simp [intOf]; omega
      · have hsf : isSp y = false := by unfold isSp; simpa using hs
        have hkb : (y.tok.k == 13) = false := hsf
        cases b with
        | true =>
          have HN : Hid (partsF false (tl.drop (k + 1)) (acc ++ [y]) = partsS l) := Lib.hid (by rw [HD.out, hsf]; rfl)
          have hrl : (acc.map Val.row).length ≤ 1954687338211 := by rw [List.length_map]; omega
          have hap : (acc ++ [y]).map Val.row = acc.map Val.row ++ [y.row] := by simp
          have HAP := Lib.hid hap
          clear hap hsf
          go_wp2_with (at_builtin; refine wpList_append_row rfl _ _ 24 26 rfl w1.heap.size 6 72 _ Tryz.underlying24 infoVal rfl (by decide) _ (acc.map Val.row) y.row rfl ((hown.alloc _).alloc _) ⟨wr.heap.size + 1, 0, none⟩ 1 rfl rfl (cells_new2 wr _ _ _) y.row_one (by omega) (by decide) (by simp; omega) ?_; intro v' w6 hown6 hgrow hne6)
          go_roundw
          case rel => exact ⟨k + 1, acc ++ [y], false, by omega, by simp; omega, by go_num, rfl, HN, by rw [HAP.out]; exact hown6, (hb.trans ((bAlloc2 wr _ _).mono hsz)).grown hgrow (by simp; omega) (fun j e => (hown.lt j e).1)⟩
          case measure => simp [intOf]; omega
        | false =>
          have HN : Hid (partsS l = none) := Lib.hid (by rw [HD.out, hsf]; rfl)
          clear hsf
          go_wp2_with fail
          refine bodyPost_ret (v := .slice none 0 0) (by simp [results, Tryz.results75, go_sem]) rfl ⟨_, rfl, ?_, ?_⟩
          · rw [HN.out]; exact ⟨none, 0, rfl, Nat.le_refl _, Nat.zero_le _, fun h => absurd rfl h⟩
          · exact bNext hb1 (hb.trans ((bAlloc1 wr _).mono hsz))
    · have hke : k = tl.length := by omega
      have HN : Hid (partsS l = some acc) := Lib.hid (by rw [← HF.out, hke, List.drop_length]; rfl)
      have q1 : ¬ (k : Int) < (tl.length : Int) := by omega
      have hal2 : acc.length ≤ 1954687338211 := by omega
      clear hke
      go_wp2_with fail
      go_ret
      refine ⟨u3, rfl, ?_, bNext hb1 hb⟩
      rw [HN.out]
      exact Vs.of_owns hown hal2
end Go.Proofs.YtpadcjcoafidgaaGreatDoor
/-! gouacheref16: Sides, which, Join. -/
namespace Go.Proofs.YtpadcjcoafidgaaGreatDoor
open Go.RowKit

def sideRows : List (List Value) := [[.int .i64 0, .int .i64 0, .int .i64 0, .int .i64 0], [.int .i64 0, .int .i64 1, .int .i64 0, .int .i64 1], [.int .i64 0, .int .i64 1, .int .i64 2, .int .i64 1], [.int .i64 0, .int .i64 1, .int .i64 2, .int .i64 3]]
def sideCells : Array Value := #[.int .i64 0, .int .i64 0, .int .i64 0, .int .i64 0, .int .i64 0, .int .i64 1, .int .i64 0, .int .i64 1, .int .i64 0, .int .i64 1, .int .i64 2, .int .i64 1, .int .i64 0, .int .i64 1, .int .i64 2, .int .i64 3]
theorem run_side0 (w : World) : (Instr.index 103 (.agg sideCells) (.int .i64 0)).run Tryz.prog w = .ok (.agg #[.int .i64 0, .int .i64 0, .int .i64 0, .int .i64 0]) w := by kernel_rfl
theorem run_side1 (w : World) : (Instr.index 103 (.agg sideCells) (.int .i64 1)).run Tryz.prog w = .ok (.agg #[.int .i64 0, .int .i64 1, .int .i64 0, .int .i64 1]) w := by kernel_rfl
theorem run_side2 (w : World) : (Instr.index 103 (.agg sideCells) (.int .i64 2)).run Tryz.prog w = .ok (.agg #[.int .i64 0, .int .i64 1, .int .i64 2, .int .i64 1]) w := by kernel_rfl
theorem run_side3 (w : World) : (Instr.index 103 (.agg sideCells) (.int .i64 3)).run Tryz.prog w = .ok (.agg #[.int .i64 0, .int .i64 1, .int .i64 2, .int .i64 3]) w := by kernel_rfl
theorem run_four (a b c d : Int) (w : World) :
    (Instr.index 102 (.agg #[.int .i64 a, .int .i64 b, .int .i64 c, .int .i64 d]) (.int .i64 0)).run Tryz.prog w = .ok (.int .i64 a) w ∧
    (Instr.index 102 (.agg #[.int .i64 a, .int .i64 b, .int .i64 c, .int .i64 d]) (.int .i64 1)).run Tryz.prog w = .ok (.int .i64 b) w ∧
    (Instr.index 102 (.agg #[.int .i64 a, .int .i64 b, .int .i64 c, .int .i64 d]) (.int .i64 2)).run Tryz.prog w = .ok (.int .i64 c) w ∧
    (Instr.index 102 (.agg #[.int .i64 a, .int .i64 b, .int .i64 c, .int .i64 d]) (.int .i64 3)).run Tryz.prog w = .ok (.int .i64 d) w :=
  ⟨by kernel_rfl, by kernel_rfl, by kernel_rfl, by kernel_rfl⟩
set_option maxRecDepth 100000 in
set_option maxHeartbeats 4000000 in
theorem refSides_any (w : World) (n i : Int) :
    Calls Tryz.prog 23 #[.int .i64 n, .int .i64 i] w fun e w' => e = .returned (.int .i64 (sidesS n i)) ∧ w' = w := by
  by_cases h1 : n < 1
  · have HV : Hid (sidesS n i = -1) := Lib.hid (if_pos (.inl h1))
    go_enter Tryz.func23, Tryz.ntmps23
    go_wp2_with fail
    go_ret
    exact ⟨by rw [HV.out]; rfl, rfl⟩
  · by_cases h2 : 4 < n
    · have HV : Hid (sidesS n i = -1) := Lib.hid (if_pos (.inr (.inl h2)))
      go_enter Tryz.func23, Tryz.ntmps23
      go_wp2_with fail
      go_ret
      exact ⟨by rw [HV.out]; rfl, rfl⟩
    · by_cases h3 : i < 0
      · have HV : Hid (sidesS n i = -1) := Lib.hid (if_pos (.inr (.inr (.inl h3))))
        go_enter Tryz.func23, Tryz.ntmps23
        go_wp2_with fail
        go_ret
        exact ⟨by rw [HV.out]; rfl, rfl⟩
      · by_cases h4 : 4 ≤ i
        · have HV : Hid (sidesS n i = -1) := Lib.hid (if_pos (.inr (.inr (.inr h4))))
          have h4' : 3 < i := by omega
          go_enter Tryz.func23, Tryz.ntmps23
          go_wp2_with fail
          go_ret
          exact ⟨by rw [HV.out]; rfl, rfl⟩
        · have h5 : i = 0 ∨ i = 1 ∨ i = 2 ∨ i = 3 := by omega
          have hx := run_four
          obtain rfl | rfl | rfl | rfl : n = 1 ∨ n = 2 ∨ n = 3 ∨ n = 4 := by omega
          all_goals
            have s0 := run_side0
            have s1 := run_side1
            have s2 := run_side2
            have s3 := run_side3
            unfold sideCells at s0 s1 s2 s3
            clear h1 h2 h3 h4
            rcases h5 with rfl | rfl | rfl | rfl
            all_goals
              go_enter Tryz.func23, Tryz.ntmps23
              go_wp2_with fail
              go_ret
              exact ⟨rfl, rfl⟩
/-- gouacheref16.which at a number of parts that the longhands can have. -/
def refWhich (name : ByteArray) (n i : Int) : Int := if eqB name aOverflow = true then (if 2 < n then -1 else i * (n - 1)) else sidesS n i
theorem refWhich_eq (name : ByteArray) (n i : Int) (h : 1 ≤ n) : refWhich name n i = whichS name n i := by
  unfold refWhich whichS
  split
  · unfold overS
    split
    · rw [if_neg (by omega), if_neg (by omega)]
    · by_cases h1 : n = 1
      · subst h1; simp
      · have : n = 2 := by omega
        subst this; simp
  · rfl
set_option maxHeartbeats 1000000 in
theorem refWhich_any (w : World) (name : ByteArray) (n i : Int) (h1 : 1 ≤ n) (h2 : n ≤ 9000000000000000) (h3 : 0 ≤ i) (h4 : i ≤ 1000000) :
    Calls Tryz.prog 59 #[.string name, .int .i64 n, .int .i64 i] w fun e w' => e = .returned (.int .i64 (whichS name n i)) ∧ w' = w := by
  have t1 : (name.toList == [111, 118, 101, 114, 102, 108, 111, 119]) = eqB name aOverflow := toList_lit name aOverflow _ rfl
  have hE := refWhich_eq name n i h1
  cases he : eqB name aOverflow
  · rw [he] at t1
    have HV : Hid (whichS name n i = sidesS n i) := Lib.hid (by unfold whichS; rw [he]; rfl)
    clear he hE
    go_enter Tryz.func59, Tryz.ntmps59
    go_wp2_with fail
    refine (refSides_any w n i).mono ?_
    rintro e w1 ⟨rfl, rfl⟩
    go_wp2_with fail
    go_ret
    exact ⟨by rw [HV.out]; rfl, rfl⟩
  · rw [he] at t1
    by_cases hn : 2 < n
    · have HV : Hid (whichS name n i = -1) := Lib.hid (by rw [← hE]; unfold refWhich; rw [he, if_pos rfl, if_pos hn])
      clear he hE
      go_enter Tryz.func59, Tryz.ntmps59
      go_wp2_with fail
      go_ret
      exact ⟨by rw [HV.out]; rfl, rfl⟩
    · obtain rfl | rfl : n = 1 ∨ n = 2 := by omega
      · have HV : Hid (whichS name 1 i = 0) := Lib.hid (by rw [← hE]; unfold refWhich; rw [he]; simp)
        clear he hE hn
        go_enter Tryz.func59, Tryz.ntmps59
        go_wp2_with fail
        go_ret
        exact ⟨by rw [HV.out]; simp, rfl⟩
      · have HV : Hid (whichS name 2 i = i) := Lib.hid (by rw [← hE]; unfold refWhich; rw [he]; simp)
        clear he hE hn
        go_enter Tryz.func59, Tryz.ntmps59
        go_wp2_with fail
        go_ret
        exact ⟨by rw [HV.out]; simp, rfl⟩
theorem joinB_succ (l : List ByteArray) (k : Nat) (h1 : 1 ≤ k) (h : k < l.length) : joinB (l.take (k + 1)) = joinB (l.take k) ++ ((⟨#[32]⟩ : ByteArray) ++ l[k]) := by
  cases l with
  | nil => simp at h
  | cons a l =>
    obtain ⟨j, rfl⟩ : ∃ j, k = j + 1 := ⟨k - 1, by omega⟩
    have hj : j < l.length := by simpa using h
    have hs := Lib.joinTail_take_succ [32] (l.map (·.data.toList)) j l[j].data.toList (by simp [hj])
    unfold joinB
    simp only [List.take_succ_cons, List.map_cons, Lib.join_cons, List.map_take, List.getElem_cons_succ]
    rw [hs]
    apply ByteArray.ext
    apply Array.toList_inj.1
    simp [List.append_assoc]
theorem joinB_one (l : List ByteArray) (h : 0 < l.length) : joinB (l.take 1) = l[0] := by
  cases l with
  | nil => simp at h
  | cons a l =>
    unfold joinB
    simp only [List.take_succ_cons, List.take_zero, List.map_cons, List.map_nil, Lib.join_one, List.getElem_cons_zero]
theorem joinB_size (l : List ByteArray) (h : ∀ s ∈ l, s.size ≤ 100000) (hn : l.length ≤ 1000) : (joinB l).size ≤ 100001 * l.length := by
  have h1 : (joinB l).size = (Lib.join (l.map (·.data.toList)) [32]).length := by
    show (joinB l).data.size = _
    unfold joinB
    simp
  rw [h1]
  cases l with
  | nil => exact Nat.zero_le _
  | cons a l =>
    have h2 := lens_le (a :: l) h
    rw [List.map_cons] at h2 ⊢
    rw [Lib.join_length, List.length_map]
    simp only [List.length_cons, List.length_nil] at h2 hn ⊢
    omega
set_option maxRecDepth 100000 in
set_option maxHeartbeats 8000000 in
theorem RefJoin_any (w : World) (name : ByteArray) (lv : Value) (l : List ByteArray) (h : Ss w lv l) (hsz : ∀ s ∈ l, s.size ≤ 100000) (hll : l.length ≤ 1000) :
    Calls Tryz.prog 21 #[.string name, lv] w fun e w' => e = .returned (resS (joinS name l)) ∧ Below w.heap.size w w' := by
  obtain ⟨a, cap, rfl, hcap, hr⟩ := h
  have HR := Lib.hid hr
  have HZ := Lib.hid hsz
  clear hr hsz
  go_enter Tryz.func21, Tryz.ntmps21
  go_wp2_with fail
  refine (refLongs_any name w).mono ?_
  rintro e w1 ⟨lv1, rfl, hl1, hb1⟩
  obtain ⟨la, lc, rfl, -⟩ := hl1.val
  clear hl1
  by_cases hne : longsOf name = []
  · have HV : Hid (resS (joinS name l) = .tuple #[.string noStr, .bool false]) := Lib.hid (by unfold joinS; rw [if_pos (.inl hne)]; rfl)
    have hl0 : (((longsOf name).length : Int) == 0) = true := by rw [hne]; rfl
    clear hne
    go_wp2_with fail
    exact bodyPost_ret (v := .tuple #[.string noStr, .bool false]) (by simp [results, Tryz.results21, go_sem, noStr]) rfl ⟨by rw [HV.out], hb1⟩
  · have hl0 : (((longsOf name).length : Int) == 0) = false := by
      rw [beq_eq_false_iff_ne]
      intro e
      exact hne (List.eq_nil_of_length_eq_zero (by omega))
    by_cases hle : l.length = (longsOf name).length
    · have HJ0 : Hid (joinS name l = joinFrom name l l.length 1) := Lib.hid (by unfold joinS; rw [if_neg (by intro h; rcases h with h | h; exact hne h; exact h hle)])
      have HNN : Hid (∀ n i : Nat, 1 ≤ n → n ≤ l.length → i < l.length → 0 ≤ whichS name n i ∧ whichS name n i < n) := Lib.hid (fun n i h1 h2 h3 => ⟨which_nn name hne n i h1 (by omega) (by omega), which_lt name n i (by omega)⟩)
      obtain ⟨m, hm⟩ : ∃ m, (longsOf name).length = m := ⟨_, rfl⟩
      rw [hm] at hle hl0 ⊢
      subst hle
      have hlx : ((l.length : Int) == (l.length : Int)) = true := by simp
      clear hne hm
      go_wp2_with fail
      go_loopw [7, 8, 9, 10, 34] (fun nv _ _ _ _ wr => ∃ n : Nat, 1 ≤ n ∧ n ≤ l.length + 1 ∧ nv = .int .i64 n ∧ Hid (joinFrom name l (l.length + 1 - n) n = joinS name l) ∧ Below w.heap.size w wr)
        (fun nv _ _ _ _ _ => l.length + 1 - (intOf nv).toNat)
      case atStart => exact ⟨1, by omega, by omega, rfl, Lib.hid (by rw [HJ0.out]; rfl), hb1⟩
      case round =>
        obtain ⟨n, hn1, hn2, rfl, HJ, hb⟩ := hrel
        by_cases hn : n ≤ l.length
        · have HD : Hid (joinS name l = if fitsS name l n l.length = true then some (joinB (l.take n)) else joinFrom name l (l.length - n) (n + 1)) := Lib.hid (by
            rw [← HJ.out, show l.length + 1 - n = (l.length - n) + 1 by omega]; rfl)
          have q1 : (n : Int) ≤ (l.length : Int) := by omega
          have hszr := hb.size
          go_wp2_with fail
          go_loopw [8, 9, 10, 34] (fun fv _ _ iv wx => ∃ i : Nat, i ≤ l.length ∧ iv = .int .i64 i ∧ fv = .bool (fitsS name l n i) ∧ Below wr.heap.size wr wx) (fun _ _ _ iv _ => l.length - (intOf iv).toNat)
          case atStart => exact ⟨0, by omega, rfl, rfl, Below.refl _ _⟩
          case round =>
            obtain ⟨wo, rfl⟩ : ∃ wo : World, wo = wr := ⟨_, rfl⟩
            obtain ⟨i, hi, rfl, rfl, hb4⟩ := hrel
            have hB4 := bNext hb hb4
            by_cases hlt : i < l.length
            · have hlne : l ≠ [] := by intro e; rw [e] at hlt; simp at hlt
              obtain ⟨b2, o2, rfl, hb2, hcc⟩ := HR.out hlne
              obtain ⟨hnn, hlt2⟩ := HNN.out n i hn1 hn hlt
              obtain ⟨q, hq⟩ : ∃ q : Nat, whichS name (n : Int) (i : Int) = (q : Int) := ⟨(whichS name (n : Int) (i : Int)).toNat, by omega⟩
              have hql : q < l.length := by omega
              have y0 := (hB4.cell (p := ⟨b2, o2 + i, none⟩) hb2).trans (hcc i hlt)
              have y1 := (hB4.cell (p := ⟨b2, o2 + q, none⟩) hb2).trans (hcc q hql)
              have hfs := fits_succ name l n i
              rw [hq, Int.toNat_natCast, List.getElem?_eq_getElem hql, List.getElem?_eq_getElem hlt] at hfs
              simp only [Option.getD_some] at hfs
              obtain ⟨x, hx⟩ : ∃ x, l[q] = x := ⟨_, rfl⟩
              obtain ⟨y, hy⟩ : ∃ x, l[i] = x := ⟨_, rfl⟩
              rw [hx] at y1 hfs
              rw [hy] at y0 hfs
              have HFS := Lib.hid hfs
              have HQ := Lib.hid hq
              have p1 : (i : Int) < (l.length : Int) := by omega
              have p0 : (0 : Int) ≤ (i : Int) := by omega
              have p2 : (q : Int) < (l.length : Int) := by omega
              have p3 : (0 : Int) ≤ (q : Int) := by omega
              clear hcc hfs hx hy hnn hlt2 hq
              go_wp2_with fail
              refine (refWhich_any _ name n i (by omega) (by omega) (by omega) (by omega)).mono ?_
              rintro e w5 ⟨rfl, rfl⟩
              rw [HQ.out]
              cases hf : fitsS name l n i
              · have HN : Hid (fitsS name l n (i + 1) = false) := Lib.hid (by rw [HFS.out, hf]; rfl)
                clear y0 y1
                go_wp2_with fail
                go_region
                go_wp2_with fail
                go_roundw
                case rel => exact ⟨i + 1, by omega, by go_num, by rw [HN.out], bNext hb4 (below_drew' _)⟩
                case measure => simp [intOf]; omega
              · have HN : Hid (fitsS name l n (i + 1) = eqB x y) := Lib.hid (by rw [HFS.out, hf]; rfl)
                have hxy := toList_eqB x y
                obtain ⟨t, ht⟩ : ∃ t, eqB x y = t := ⟨_, rfl⟩
                rw [ht] at hxy HN
                clear ht
                go_wp2_with fail
                go_quiet (fail)
                go_wp2_with fail
                go_roundw
                case rel => exact ⟨i + 1, by omega, by go_num, by rw [HN.out], bDrew hb4 _⟩
                case measure => simp [intOf]; omega
            · have hie : i = l.length := by omega
              have p1 : ¬ (i : Int) < (l.length : Int) := by omega
              cases hf : fitsS name l n i
              · have HN : Hid (joinFrom name l (l.length + 1 - (n + 1)) (n + 1) = joinS name l) := Lib.hid (by
                  rw [HD.out, ← hie, hf, show i + 1 - (n + 1) = i - n by omega]; rfl)
                have hwn : IntKind.i64.wrap ((n : Int) + 1) = ((n + 1 : Nat) : Int) := by rw [Go.IntWalk.i64_in _ (by omega)]; omega
                clear hie
                go_wp2_with fail
                go_roundw
                case rel => exact ⟨n + 1, by omega, by omega, by go_num, HN, hB4⟩
                case measure => simp [intOf]; omega
              · have HW : Hid (resS (joinS name l) = .tuple #[.string (joinB (l.take n)), .bool true]) := Lib.hid (by rw [HD.out, ← hie, hf]; rfl)
                have hlne : l ≠ [] := by intro e; rw [e] at hn; simp at hn; omega
                obtain ⟨b2, o2, rfl, hb2, hcc⟩ := HR.out hlne
                have hl0 : 0 < l.length := by omega
                have y0 := (hB4.cell (p := ⟨b2, o2 + 0, none⟩) hb2).trans (hcc 0 hl0)
                have H1 := Lib.hid (joinB_one l hl0)
                have HCC : Hid (∀ (i : Nat) (hi : i < l.length), wo.cell? ⟨b2, o2 + i, none⟩ = some (.string l[i])) := Lib.hid (fun i hi => (hB4.cell (p := ⟨b2, o2 + i, none⟩) hb2).trans (hcc i hi))
                obtain ⟨x, hx⟩ : ∃ x, l[0] = x := ⟨_, rfl⟩
                rw [hx] at y0 H1
                rw [Nat.add_zero] at y0
                have p2 : (n : Int) ≤ (cap : Int) := by omega
                have p3 : (1 : Int) ≤ (n : Int) := by omega
                have p4 : (0 : Int) < (l.length : Int) := by omega
                clear hie hcc hx
                by_cases hcn : cap = 1
                · subst hcn
                  obtain rfl : n = 1 := by omega
                  go_wp2_with fail
                  go_loop [11, 13, 62] (fun sv _ iv => sv = .string x ∧ iv = .int .i64 0) (fun _ _ _ => 0)
                  case atStart => exact ⟨rfl, rfl⟩
                  case round =>
                    obtain ⟨rfl, rfl⟩ := hrel
                    go_wp2_with fail
                    exact bodyPost_ret (v := .tuple #[.string x, .bool true]) (by simp [results, Tryz.results21, go_sem]) rfl ⟨by rw [HW.out, H1.out], hB4⟩
                · have hcn' : ¬ (1 : Int) = (cap : Int) := by omega
                  go_wp2_with fail
                  go_loop [11, 13, 62] (fun sv _ iv => ∃ k : Nat, k + 1 ≤ n ∧ iv = .int .i64 k ∧ sv = .string (joinB (l.take (k + 1)))) (fun _ _ iv => n - 1 - (intOf iv).toNat)
                  case atStart => exact ⟨0, by omega, rfl, by rw [H1.out]⟩
                  case round =>
                    obtain ⟨k, hk, rfl, rfl⟩ := hrel
                    by_cases hlt : k + 1 < n
                    · have q2 : (k : Int) < ((n - 1 : Nat) : Int) := by omega
                      have q3 : (0 : Int) ≤ (k : Int) := by omega
                      have hkl : k + 1 < l.length := by omega
                      have y1 := HCC.out (k + 1) hkl
                      rw [show o2 + (k + 1) = o2 + 1 + k by omega] at y1
                      have HS := Lib.hid (joinB_succ l (k + 1) (by omega) hkl)
                      have z1 := HZ.out _ (List.getElem_mem hkl)
                      have z2 := joinB_size (l.take (k + 1)) (fun s hs => HZ.out s (List.mem_of_mem_take hs)) (by rw [List.length_take]; omega)
                      have z3 : (l.take (k + 1)).length ≤ 1000 := by rw [List.length_take]; omega
                      obtain ⟨y, hy⟩ : ∃ y, l[k + 1] = y := ⟨_, rfl⟩
                      obtain ⟨z, hz⟩ : ∃ z, joinB (l.take (k + 1)) = z := ⟨_, rfl⟩
                      have hz4 : z.size ≤ 100001000 := by rw [← hz]; omega
                      rw [hy] at y1 HS z1
                      rw [hz] at HS
                      rw [hz]
                      have n1 : ¬ (9223372036854775807 < 1 + y.size) := by omega
                      have n2 : ¬ (9223372036854775807 < z.size + (1 + y.size)) := by omega
                      clear hy hz z2 z3
                      go_wp2_with fail
                      go_round
                      case rel => exact ⟨k + 1, by omega, by go_num, by rw [HS.out]⟩
                      case measure => simp [intOf]; omega
                    · obtain rfl : n = k + 1 := by omega
                      have q2 : ¬ (k : Int) < ((k + 1 - 1 : Nat) : Int) := by omega
                      go_wp2_with fail
                      exact bodyPost_ret (v := .tuple #[.string (joinB (l.take (k + 1))), .bool true]) (by simp [results, Tryz.results21, go_sem]) rfl ⟨by rw [HW.out], hB4⟩
        · have HV : Hid (resS (joinS name l) = .tuple #[.string noStr, .bool false]) := Lib.hid (by
            rw [← HJ.out, show l.length + 1 - n = 0 by omega]; rfl)
          have q1 : ¬ (n : Int) ≤ (l.length : Int) := by omega
          go_wp2_with fail
          exact bodyPost_ret (v := .tuple #[.string noStr, .bool false]) (by simp [results, Tryz.results21, go_sem, noStr]) rfl ⟨by rw [HV.out], hb⟩
    · have HV : Hid (resS (joinS name l) = .tuple #[.string noStr, .bool false]) := Lib.hid (by unfold joinS; rw [if_pos (.inr hle)]; rfl)
      have hle' : ((l.length : Int) == ((longsOf name).length : Int)) = false := by rw [beq_eq_false_iff_ne]; omega
      clear hne
      go_wp2_with fail
      exact bodyPost_ret (v := .tuple #[.string noStr, .bool false]) (by simp [results, Tryz.results21, go_sem, noStr]) rfl ⟨by rw [HV.out], hb1⟩
end Go.Proofs.YtpadcjcoafidgaaGreatDoor
/-! slices.Repeat of one text, no, two or four times. -/
namespace Go.Proofs.YtpadcjcoafidgaaGreatDoor
open Go.RowKit

set_option maxRecDepth 100000 in
set_option maxHeartbeats 2000000 in
theorem Mul_10 (w : World) : Calls Tryz.prog 79 #[.int .u64 1, .int .u64 0] w fun e w' => e = .returned (.tuple #[.int .u64 0, .int .u64 0]) ∧ Below w.heap.size w w' := by
  go_enter Tryz.func79, Tryz.ntmps79
  go_wp2
  exact bodyPost_ret (v := .tuple #[.int .u64 0, .int .u64 0]) (by kernel_rfl) rfl ⟨rfl, Below.refl _ _⟩
set_option maxRecDepth 100000 in
set_option maxHeartbeats 2000000 in
theorem Mul_12 (w : World) : Calls Tryz.prog 79 #[.int .u64 1, .int .u64 2] w fun e w' => e = .returned (.tuple #[.int .u64 0, .int .u64 2]) ∧ Below w.heap.size w w' := by
  go_enter Tryz.func79, Tryz.ntmps79
  go_wp2
  exact bodyPost_ret (v := .tuple #[.int .u64 0, .int .u64 2]) (by kernel_rfl) rfl ⟨rfl, Below.refl _ _⟩
set_option maxRecDepth 100000 in
set_option maxHeartbeats 2000000 in
theorem Mul_14 (w : World) : Calls Tryz.prog 79 #[.int .u64 1, .int .u64 4] w fun e w' => e = .returned (.tuple #[.int .u64 0, .int .u64 4]) ∧ Below w.heap.size w w' := by
  go_enter Tryz.func79, Tryz.ntmps79
  go_wp2
  exact bodyPost_ret (v := .tuple #[.int .u64 0, .int .u64 4]) (by kernel_rfl) rfl ⟨rfl, Below.refl _ _⟩
theorem infoStrR : (Tryz.prog.info? 9).map (fun i => (i.zero, i.size, i.bytes)) = some (some (.string ⟨#[]⟩), 1, 16) := by kernel_rfl
theorem infoStrS : (Tryz.prog.info? 9).map (·.size) = some 1 := by kernel_rfl
theorem copied {w : World} {b n : Nat} {s : ByteArray} (h : w.cell? ⟨b, 0, none⟩ = some (.string s)) {j : Nat} {v : Value} (hv : (List.replicate (Nat.min 1 n) (Value.string s))[j]? = some v) : w.cell? ((⟨b, 0, none⟩ : Addr).add j) = some v := by
  rw [List.getElem?_replicate] at hv
  split at hv
  · rename_i hj
    have hj0 : j = 0 := by
      have : Nat.min 1 n ≤ 1 := Nat.min_le_left ..
      omega
    subst hj0
    simp only [Option.some.injEq] at hv
    rw [← hv]
    exact h
  · cases hv
/-- The cells of the slice that is filled: m are there. -/
def filled (n m : Nat) (s : ByteArray) : List Value := List.replicate m (.string s) ++ List.replicate (n - m) (.string ⟨#[]⟩)
theorem made_rep (n : Nat) : (madeCells (Value.string ⟨#[]⟩).cells n).toList = List.replicate n (.string ⟨#[]⟩) := by
  apply List.ext_getElem
  · simp [madeCells]
  · intro i h1 h2
    simp [madeCells, Value.cells]
    rw [Nat.mod_one]
    rfl
theorem made_heap {w : World} {B e g n : Nat} (h : w.ownsRow B e 1 (.slice (some ⟨g, 0, none⟩) n n) n (madeCells (Value.string ⟨#[]⟩).cells (n * 1)).toList) : w.heap[g]? = some (.cells (List.replicate n (Value.string ⟨#[]⟩)).toArray e (0, 0)) := by
  obtain ⟨_, ⟨hv, _⟩ | ⟨g', cap, cur, hv, hg, hh, hcap, hmax, hsz, htake⟩⟩ := h
  · cases hv
  · simp only [Value.slice.injEq, Option.some.injEq, Addr.mk.injEq, and_true, true_and] at hv
    obtain ⟨rfl, rfl⟩ := hv
    rw [Nat.mul_one, made_rep] at htake
    have : cur.toList = List.replicate n (Value.string ⟨#[]⟩) := by
      rw [← htake, List.take_of_length_le]
      rw [Array.length_toList, hsz]
      omega
    rw [hh, ← this]
theorem filled_len (n m : Nat) (s : ByteArray) (h : m ≤ n) : (filled n m s).length = n := by simp [filled]; omega
theorem filled_zero (n : Nat) (s : ByteArray) (h : 1 ≤ n) : splice (List.replicate n (Value.string ⟨#[]⟩)) 0 (List.replicate (Nat.min 1 n) (.string s)) = filled n 1 s := by
  rw [show Nat.min 1 n = 1 from Nat.min_eq_left h]
  simp [splice, filled]
theorem filled_more (n m k : Nat) (s : ByteArray) (h : m + k ≤ n) : splice (filled n m s) m (List.replicate k (.string s)) = filled n (m + k) s := by
  unfold splice filled
  rw [List.take_left' (by simp), List.length_replicate, List.drop_append, List.drop_eq_nil_of_le (by simp), List.nil_append, List.length_replicate, List.drop_replicate, ← List.append_assoc, List.replicate_append_replicate]
  congr 2
  omega
theorem filled_cell {w : World} {g n m : Nat} {s : ByteArray} {e : TypeId} (h : w.heap[g]? = some (.cells (filled n m s).toArray e (0, 0))) {k : Nat} (hk : k ≤ m) {j : Nat} {v : Value} (hv : (List.replicate k (Value.string s))[j]? = some v) : w.cell? ((⟨g, 0, none⟩ : Addr).add j) = some v := by
  have hj : j < k := by have := (List.getElem?_eq_some_iff.1 hv).1; simpa using this
  have hadd : (⟨g, 0, none⟩ : Addr).add j = ⟨g, j, none⟩ := by unfold Addr.add; split <;> simp_all
  rw [hadd]
  simp only [World.cell?, h]
  rw [List.getElem?_replicate, if_pos hj] at hv
  simp [filled, List.getElem?_append_left (show j < (List.replicate m (Value.string s)).length by simp; omega), show j < m by omega, ← Option.some.inj hv]
theorem filled_strs {B n g : Nat} {w : World} {s : ByteArray} {e : TypeId} (h : w.heap[g]? = some (.cells (filled n n s).toArray e (0, 0))) (hB : B ≤ g) (hn : n ≤ 1000) : Strs B w (.slice (some ⟨g, 0, none⟩) n n) (List.replicate n s) := by
  refine ⟨some ⟨g, 0, none⟩, n, by simp [sRows], by simp [sRows]; unfold maxLen; omega, fun _ => ⟨g, 0, rfl, hB, (Array.getElem?_eq_some_iff.1 h).1, fun i j x hx => ?_⟩⟩
  have h2 := flatten_get (m := 1) (sRows (List.replicate n s)) i j x (sRows_len _) hx
  rw [sRows_flatten, List.map_replicate] at h2
  have := filled_cell h (Nat.le_refl n) h2
  rw [show (⟨g, 0, none⟩ : Addr).add (i * 1 + j) = ⟨g, i * 1 + j, none⟩ by unfold Addr.add; split <;> simp_all] at this
  simpa using this
set_option maxRecDepth 100000 in
set_option maxHeartbeats 4000000 in
theorem Repeat_pos (n : Nat) (hn1 : 1 ≤ n) (hn : n ≤ 1000) (HM : ∀ w, Calls Tryz.prog 79 #[.int .u64 1, .int .u64 n] w fun e w' => e = .returned (.tuple #[.int .u64 0, .int .u64 n]) ∧ Below w.heap.size w w') (w : World) (b : Nat) (s : ByteArray) (h : w.cell? ⟨b, 0, none⟩ = some (.string s)) :
    Calls Tryz.prog 96 #[.slice (some ⟨b, 0, none⟩) 1 1, .int .i64 n] w fun e w' => ∃ V, e = .returned V ∧ Strs w.heap.size w' V (List.replicate n s) ∧ Below w.heap.size w w' := by
  obtain ⟨i0, hi, hz0, hz1, hz2⟩ := info_parts infoStrR
  have Hi := Lib.hid hi
  have Hz0 := Lib.hid hz0
  have Hz1 := Lib.hid hz1
  have Hz2 := Lib.hid hz2
  have HMM := Lib.hid HM
  have c1 : IntKind.u64.wrap (n : Int) = (n : Int) := by
    rw [show IntKind.u64.wrap (n : Int) = (n : Int) % 18446744073709551616 by simp [IntKind.wrap, IntKind.bits, IntKind.signed]]
    omega
  have c2 : IntKind.i64.wrap (n : Int) = (n : Int) := Go.IntWalk.i64_in _ (by omega)
  have q0 : ¬ (n : Int) < 0 := by omega
  have q1 : ¬ (9223372036854775807 : Int) < (n : Int) := by omega
  clear hi hz0 hz1 hz2 HM
  go_enter Tryz.func96, Tryz.ntmps96
  go_wp2_with fail
  refine (HMM.out w).mono ?_
  rintro e w1 ⟨rfl, hb1⟩
  have h1 := cell_later hb1 h
  have hrep : ∀ (m : Nat) (v : Value), v ∈ List.replicate m (Value.string s) → v.oneCell' = true := fun m v hv => by rw [(List.mem_replicate.1 hv).2]; rfl
  have hGle := hb1.size
  have HF0 := Lib.hid (filled_zero n s hn1)
  go_wp2_with (first
    | (refine wpList_make_full _ rfl _ _ 42 rfl w1.heap.size 9 i0 (.string ⟨#[]⟩) 1 Tryz.underlying42 Hi.out Hz0.out Hz1.out .i64 .i64 n n n rfl rfl rfl rfl (by rw [Hz2.out]; omega) (by unfold maxLen; omega) (Nat.le_refl _) ?_; intro w2 hown hg2; have hh2 := made_heap hown; have hw12 : Below w1.heap.size w1 w2 := (Below.refl w1.heap.size w1).grown hg2 (Nat.le_refl _) (fun k e => by cases e); have hB2 := bNext hb1 hw12; have h2 := cell_later hw12 h1)
    | (refine wpList_copy_splice (o := ⟨some 33, _, _, _, _, _⟩) rfl (.tmp 31) (.tmp 32) 42 42 rfl 9 Tryz.underlying42 infoStrS (some ⟨w1.heap.size, 0, none⟩) (some ⟨b, 0, none⟩) n n 1 1 rfl rfl w1.heap.size 0 (List.replicate n (Value.string ⟨#[]⟩)) 9 hh2 (List.replicate (Nat.min 1 n) (.string s)) List.length_replicate (fun _ => ⟨rfl, _, rfl, fun j v hv => copied h2 hv⟩) (by rw [List.length_replicate, List.length_replicate, Nat.zero_add]; exact Nat.min_le_right ..) (hrep _) w.heap.size w hB2 hGle ?_; intro w3 hh3 hb3))
  have HH3 : Hid (w3.heap[w1.heap.size]? = some (.cells (filled n 1 s).toArray 9 (0, 0))) := Lib.hid (by rw [← HF0.out]; exact hh3.out)
  obtain ⟨g, hg⟩ : ∃ g, w1.heap.size = g := ⟨_, rfl⟩
  rw [hg] at HH3 hGle ⊢
  clear hown hg2 hh2 hw12 hB2 h2 h1 hh3 HF0 hb1 hg c1 c2
  go_loopw [8] (fun nv wr => ∃ m : Nat, 1 ≤ m ∧ m ≤ n ∧ nv = .int .i64 m ∧ Hid (wr.heap[g]? = some (.cells (filled n m s).toArray 9 (0, 0))) ∧ Below w.heap.size w wr) (fun nv _ => n - (intOf nv).toNat)
  case atStart => exact ⟨1, Nat.le_refl _, hn1, rfl, HH3, hb3⟩
  case round =>
    obtain ⟨m, hm1, hm2, rfl, HH, hb⟩ := hrel
    by_cases hlt : m < n
    · have p1 : (m : Int) < (n : Int) := by omega
      have p2 : (0 : Int) ≤ (m : Int) := by omega
      have p3 : (m : Int) ≤ (n : Int) := by omega
      have p4 : ¬ (n = m) := by omega
      obtain ⟨k, hk, hk1, hk2⟩ : ∃ k, Nat.min m (n - m) = k ∧ 1 ≤ k ∧ m + k ≤ n := ⟨_, rfl, by show 1 ≤ min m (n - m); omega, by show m + min m (n - m) ≤ n; omega⟩
      have hkm : k ≤ m := by rw [← hk]; exact Nat.min_le_left ..
      have HK := Lib.hid hk
      have hw : IntKind.i64.wrap ((m : Int) + (k : Int)) = ((m + k : Nat) : Int) := by rw [Go.IntWalk.i64_in _ (by omega)]; omega
      have HL := Lib.hid (filled_len n m s hm2)
      have HM2 := Lib.hid (filled_more n m k s hk2)
      clear hk
      go_wp2_with fail
      have hhd : wr.drew.heap[g]? = some (.cells (filled n m s).toArray 9 (0, 0)) := HH.out
      have hcc : ∀ (j : Nat) (v : Value), (List.replicate k (Value.string s))[j]? = some v → wr.drew.cell? ((⟨g, 0, none⟩ : Addr).add j) = some v := fun j v hv => filled_cell hhd hkm hv
      have hfit : m + (List.replicate k (Value.string s)).length ≤ (filled n m s).toArray.size := by rw [List.length_replicate, List.size_toArray, HL.out]; exact hk2
      have hmn : (List.replicate k (Value.string s)).length = Nat.min m (n - m) := by rw [List.length_replicate]; exact HK.out.symm
      have hbd := hb.drew
      obtain ⟨W4, hrun, HW4, hb4⟩ : ∃ W4, Sem.run Tryz.prog (Builtin.copy_ #[42, 42] 3 #[.slice (some ⟨g, m, none⟩) (n - m) (n - m), .slice (some ⟨g, 0, none⟩) m n]) wr.drew = .ok (.int .i64 k) W4 ∧ Hid (W4.heap[g]? = some (.cells (filled n (m + k) s).toArray 9 (0, 0))) ∧ Below w.heap.size w W4 := by
        refine ⟨_, (run_copy_row (P := Tryz.prog) wr.drew 42 42 3 9 g m (n - m) (n - m) ⟨g, 0, none⟩ m n _ 9 (List.replicate k (.string s)) Tryz.underlying42 infoStrS hhd hmn hcc hfit (hrep k)).trans (by rw [List.length_replicate]; rfl), Lib.hid ?_, below_setRow hbd hGle _⟩
        rw [setRow_heap _ g _ _ _ _ hhd, ← HM2.out]
        simp [splice, List.append_assoc]
      clear hhd hcc hfit hmn hbd
      go_region
      go_wp2_with fail
      go_roundw
      case rel => exact ⟨m + k, by omega, hk2, by go_num, HW4, hb4⟩
      case measure => simp [intOf]; omega
    · obtain rfl : m = n := by omega
      have p1 : ¬ (m : Int) < (m : Int) := by omega
      go_wp2_with fail
      go_ret
      exact ⟨_, rfl, filled_strs HH.out hGle hn, hb⟩
set_option maxRecDepth 100000 in
set_option maxHeartbeats 4000000 in
theorem Repeat_zero (w : World) (b : Nat) (s : ByteArray) (h : w.cell? ⟨b, 0, none⟩ = some (.string s)) :
    Calls Tryz.prog 96 #[.slice (some ⟨b, 0, none⟩) 1 1, .int .i64 0] w fun e w' => ∃ V, e = .returned V ∧ Strs w.heap.size w' V [] ∧ Below w.heap.size w w' := by
  obtain ⟨i0, hi, hz0, hz1, hz2⟩ := info_parts infoStrR
  have Hi := Lib.hid hi
  have Hz0 := Lib.hid hz0
  have Hz1 := Lib.hid hz1
  have Hz2 := Lib.hid hz2
  clear hi hz0 hz1 hz2
  go_enter Tryz.func96, Tryz.ntmps96
  go_wp2_with fail
  refine (Mul_10 w).mono ?_
  rintro e w1 ⟨rfl, hb1⟩
  have h1 := cell_later hb1 h
  go_wp2_with (first
    | (refine wpList_make_full _ rfl _ _ 42 rfl w1.heap.size 9 i0 (.string ⟨#[]⟩) 1 Tryz.underlying42 Hi.out Hz0.out Hz1.out .i64 .i64 0 0 0 rfl rfl rfl rfl (by rw [Hz2.out]; omega) (by unfold maxLen; omega) (Nat.le_refl _) ?_; intro w2 hown hg2; have hw12 : Below w1.heap.size w1 w2 := (Below.refl w1.heap.size w1).grown hg2 (Nat.le_refl _) (fun k e => by cases e))
    | (refine wpList_copy_nothing (o := ⟨some 33, _, _, _, _, _⟩) rfl (.tmp 31) (.tmp 32) 42 42 rfl 9 Tryz.underlying42 infoStrS (some ⟨w1.heap.size, 0, none⟩) (some ⟨b, 0, none⟩) 0 0 1 1 rfl rfl rfl ?_))
  clear hown hg2
  go_loopw [8] (fun nv wr => nv = .int .i64 0 ∧ wr = w2) (fun _ _ => 0)
  case atStart => exact ⟨rfl, rfl⟩
  case round =>
    obtain ⟨rfl, hwr⟩ := hrel
    subst hwr
    go_wp2_with fail
    go_ret
    exact ⟨_, rfl, ⟨_, _, rfl, Nat.zero_le _, fun h => absurd rfl h⟩, bNext hb1 hw12⟩
theorem Repeat_any (n : Nat) (hn : n = 0 ∨ n = 2 ∨ n = 4) (w : World) (b : Nat) (s : ByteArray) (h : w.cell? ⟨b, 0, none⟩ = some (.string s)) :
    Calls Tryz.prog 96 #[.slice (some ⟨b, 0, none⟩) 1 1, .int .i64 n] w fun e w' => ∃ V, e = .returned V ∧ Strs w.heap.size w' V (List.replicate n s) ∧ Below w.heap.size w w' := by
  rcases hn with rfl | rfl | rfl
  · exact Repeat_zero w b s h
  · exact Repeat_pos 2 (by decide) (by decide) Mul_12 w b s h
  · exact Repeat_pos 4 (by decide) (by decide) Mul_14 w b s h
end Go.Proofs.YtpadcjcoafidgaaGreatDoor
/-! short.spread and short.Expand where a value for all stands; short.one; short.Expand of any declaration. -/
namespace Go.Proofs.YtpadcjcoafidgaaGreatDoor
open Go.RowKit

theorem longsOf_n (name : ByteArray) : (longsOf name).length = 0 ∨ (longsOf name).length = 2 ∨ (longsOf name).length = 4 := by
  by_cases h : longsOf name = []
  · rw [h]; exact .inl rfl
  · rcases longsOf_exact name h with ⟨-, h⟩ | ⟨-, h⟩
    · exact .inr (.inl h)
    · exact .inr (.inr h)
theorem str_ne {s : ByteArray} (h : eqB s noStr = false) : s.toList.isEmpty = false ∧ ¬ (s.toList = []) := by
  have hn : ¬ (s.toList = []) := by
    intro e
    have : eqB s noStr = true := by
      rw [← toList_eqB, e]
      rw [noStr, ByteArray.toList_eq]
      rfl
    rw [this] at h
    cases h
  refine ⟨?_, hn⟩
  cases hs : s.toList with
  | nil => exact absurd hs hn
  | cons a l => rfl
theorem str_eq {s : ByteArray} (h : eqB s noStr = true) : s = noStr := (eqB_iff _ _).1 h
theorem noStr_facts : noStr.toList = [] ∧ noStr.toList.isEmpty = true := by
  have h : noStr.toList = [] := by rw [noStr, ByteArray.toList_eq]
  exact ⟨h, by rw [h]; rfl⟩
set_option maxRecDepth 100000 in
set_option maxHeartbeats 4000000 in
theorem spread_wide (w : World) (name : ByteArray) (longs : List ByteArray) (lv v : Value) (l : List Val) (B : Nat) (hs : Strs B w lv longs) (hn : longs.length = 0 ∨ longs.length = 2 ∨ longs.length = 4) (h : Vs w v l) (hf : ∀ x ∈ l, x.fits) (hw : eqB (wideS l) noStr = false) :
    Calls Tryz.prog 61 #[.string name, lv, v] w fun e w' => ∃ V, e = .returned V ∧ Strs w.heap.size w' V (List.replicate longs.length (wideS l)) ∧ Below w.heap.size w w' := by
  obtain ⟨la, lc, rfl, _⟩ := hs.val
  have HW := Wide_any w v l h hf
  obtain ⟨s, hse⟩ : ∃ s, wideS l = s := ⟨_, rfl⟩
  rw [hse] at hw HW ⊢
  have HWW := Lib.hid HW
  obtain ⟨z1, z2⟩ := str_ne hw
  have HN := Lib.hid hn
  clear hs h hf HW hse hw hn
  go_enter Tryz.func61, Tryz.ntmps61
  go_wp2_with fail
  refine HWW.out.mono ?_
  rintro e w1 ⟨rfl, hb1⟩
  go_wp2_with fail
  refine (Repeat_any longs.length HN.out _ w1.heap.size s (by simp)).mono ?_
  rintro e w2 ⟨V, rfl, hV, hb2⟩
  go_wp2_with fail
  go_ret
  exact ⟨_, rfl, hV.base (by simp; exact Nat.le_succ_of_le hb1.size), bNext (bNext hb1 (bAlloc1 _ _)) hb2⟩
/-- short.spread of any values. -/
def spreadX (name : ByteArray) (longs : List ByteArray) (l : List Val) : List ByteArray := if eqB (wideS l) noStr = true then spreadS name longs l else List.replicate longs.length (wideS l)
theorem spreadX_len (name : ByteArray) (longs : List ByteArray) (l : List Val) : (spreadX name longs l).length ≤ longs.length := by
  unfold spreadX
  split
  · exact spreadS_len name longs l
  · simp
theorem spread_any (w : World) (hB : Base16 w) (name : ByteArray) (lv v : Value) (l : List Val) (B : Nat) (hs : Strs B w lv (longsOf name)) (h : Vs w v l) (hf : ∀ x ∈ l, x.fits) :
    Calls Tryz.prog 61 #[.string name, lv, v] w fun e w' => ∃ V, e = .returned V ∧ Strs w.heap.size w' V (spreadX name (longsOf name) l) ∧ Below w.heap.size w w' := by
  unfold spreadX
  cases hw : eqB (wideS l) noStr
  · exact spread_wide w name (longsOf name) lv v l B hs (longsOf_n name) h hf hw
  · exact spread_plain w hB name (longsOf name) lv v l B hs (by have := (longsOf_len name).1; omega) h hf (str_eq hw) (fun n i hi => which_lt name n i hi)
/-- A longhand's value. -/
def oneS (name : ByteArray) (l : List Val) : Option ByteArray := if eqB (wideS l) noStr = true then parseS name l else some (wideS l)
set_option maxRecDepth 100000 in
set_option maxHeartbeats 4000000 in
theorem one_any (w : World) (hB : Base w) (name : ByteArray) (v : Value) (l : List Val) (h : Vs w v l) (hf : ∀ x ∈ l, x.fits) :
    Calls Tryz.prog 60 #[.string name, v] w fun e w' => e = .returned (resS (oneS name l)) ∧ Below w.heap.size w w' := by
  have HW := Wide_any w v l h hf
  have HP := fun W (hb : Below w.heap.size w W) => Parse_any W (hB.next hb) name v l (h.next hb) hf
  have hO : oneS name l = if eqB (wideS l) noStr = true then parseS name l else some (wideS l) := rfl
  obtain ⟨a, c, rfl, -⟩ := h
  obtain ⟨s, hse⟩ : ∃ s, wideS l = s := ⟨_, rfl⟩
  rw [hse] at HW hO
  have HWW := Lib.hid HW
  have HPP := Lib.hid HP
  cases hw : eqB s noStr
  · obtain ⟨z1, z2⟩ := str_ne hw
    have HV : Hid (resS (oneS name l) = .tuple #[.string s, .bool true]) := Lib.hid (by rw [hO, hw]; rfl)
    clear HW HP hf hse hw hO hB
    go_enter Tryz.func60, Tryz.ntmps60
    go_wp2_with fail
    refine HWW.out.mono ?_
    rintro e w1 ⟨rfl, hb1⟩
    go_wp2_with fail
    exact bodyPost_ret (v := .tuple #[.string s, .bool true]) (by simp [results, Tryz.results60, go_sem]) rfl ⟨by rw [HV.out], hb1⟩
  · obtain rfl := str_eq hw
    obtain ⟨z1, z2⟩ := noStr_facts
    have HV : Hid (oneS name l = parseS name l) := Lib.hid (by rw [hO, hw]; rfl)
    clear HW HP hf hse hw hO hB
    go_enter Tryz.func60, Tryz.ntmps60
    go_wp2_with fail
    refine HWW.out.mono ?_
    rintro e w1 ⟨rfl, hb1⟩
    go_wp2_with fail
    refine (HPP.out _ hb1).mono ?_
    rintro e w2 ⟨rfl, hb2⟩
    cases hr : parseS name l with
    | none =>
      have HV2 : Hid (resS (oneS name l) = .tuple #[.string noStr, .bool false]) := Lib.hid (by rw [HV.out, hr]; rfl)
      simp only [resS]
      go_wp2_with fail
      exact bodyPost_ret (v := .tuple #[.string noStr, .bool false]) (by simp [results, Tryz.results60, go_sem, noStr]) rfl ⟨by rw [HV2.out], bNext hb1 hb2⟩
    | some t =>
      have HV2 : Hid (resS (oneS name l) = .tuple #[.string t, .bool true]) := Lib.hid (by rw [HV.out, hr]; rfl)
      simp only [resS]
      go_wp2_with fail
      exact bodyPost_ret (v := .tuple #[.string t, .bool true]) (by simp [results, Tryz.results60, go_sem]) rfl ⟨by rw [HV2.out], bNext hb1 hb2⟩
/-- The longhands of any declaration. -/
def expandA (name : ByteArray) (l : List Val) (imp : Bool) : List LongT := if (placeN name).isSome = true then (match oneS name l with
  | some s => [(name, s, imp)]
  | none => []) else longRows (longsOf name) (spreadX name (longsOf name) l) imp
theorem Rws.one3 (w : World) (x : LongT) (t : TypeId) : Rws w.heap.size (w.alloc (.cells x.row.toArray t)) 3 (.slice (some ⟨w.heap.size, 0, none⟩) 1 1) ([x].map LongT.row) := by
  refine ⟨_, 1, rfl, by show 1 ≤ maxLen; unfold maxLen; omega, fun _ => ⟨w.heap.size, 0, rfl, Nat.le_refl _, by simp, fun i j u hu => ?_⟩⟩
  cases i with
  | zero =>
    have hu' : x.row[j]? = some u := by simpa using hu
    have hn := heap_alloc_new w (.cells x.row.toArray t)
    simp only [World.cell?, hn, Nat.zero_add, Nat.zero_mul]
    simpa using hu'
  | succ i => simp at hu
set_option maxRecDepth 100000 in
set_option maxHeartbeats 8000000 in
theorem Expand_long (w : World) (hB : Base16 w) (name : ByteArray) (v : Value) (l : List Val) (imp : Bool) (h : Vs w v l) (hf : ∀ x ∈ l, x.fits) (k : Nat) (hn : placeN name = some k) :
    ∀ a n c, v = .slice a n c → Calls Tryz.prog 25 #[.agg #[.string name, .slice a n c, .bool imp]] w fun e w' => ∃ V, e = .returned V ∧ Rws w.heap.size w' 3 V ((match oneS name l with
      | some s => [(name, s, imp)]
      | none => ([] : List LongT)).map LongT.row) ∧ Below w.heap.size w w' := by
  intro a n c hv
  subst hv
  have HB := Lib.hid hB
  have hO := Own.new w #[.string name, .slice a n c, .bool imp] 48
  have hb0 := bAlloc1 w (.cells #[.string name, .slice a n c, .bool imp] 48)
  have h0 := h.next hb0
  have HO1 : Hid (∀ W, Below w.heap.size w W → Vs W (.slice a n c) l → Calls Tryz.prog 60 #[.string name, .slice a n c] W fun e w' => e = .returned (resS (oneS name l)) ∧ Below W.heap.size W w') := Lib.hid (fun W hb hv => one_any W (hB.next hb).base name _ l hv hf)
  obtain ⟨⟨ra, rb, rc, rf⟩, hr⟩ : ∃ r, findRow name = r := ⟨_, rfl⟩
  obtain ⟨o, ho⟩ : ∃ o, oneS name l = o := ⟨_, rfl⟩
  rw [ho] at HO1 ⊢
  clear hB h ho
  cases o with
  | none =>
    simp only [resS] at HO1
    go_enter Tryz.func25, Tryz.ntmps25
    go_wp2_with fail
    refine (Find_any name _).mono ?_
    rintro e w1 ⟨rfl, hb1⟩
    rw [hn, hr]
    simp only [Option.isSome_some]
    have hB1 := bNext hb0 hb1
    have hO2 := (hO.next hb1).next (bAlloc1 w1 (.cells #[.string ra, .string rb, .bool rc, .string rf] 39))
    have h2 := (h0.next hb1).next (bAlloc1 w1 (.cells #[.string ra, .string rb, .bool rc, .string rf] 39))
    have hB2 := bNext hB1 (bAlloc1 w1 (.cells #[.string ra, .string rb, .bool rc, .string rf] 39))
    have m2 := hO2.m
    clear hO hb0 hb1 h0 hB1 hr hn
    go_wp2_with fail
    refine (HO1.out _ hB2 h2).mono ?_
    rintro e w3 ⟨rfl, hb3⟩
    go_wp2_with fail
    go_ret
    exact ⟨_, rfl, Rws.nil _ _ _, bNext hB2 hb3⟩
  | some s =>
    simp only [resS] at HO1
    go_enter Tryz.func25, Tryz.ntmps25
    go_wp2_with fail
    refine (Find_any name _).mono ?_
    rintro e w1 ⟨rfl, hb1⟩
    rw [hn, hr]
    simp only [Option.isSome_some]
    have hB1 := bNext hb0 hb1
    have hO2 := (hO.next hb1).next (bAlloc1 w1 (.cells #[.string ra, .string rb, .bool rc, .string rf] 39))
    have h2 := (h0.next hb1).next (bAlloc1 w1 (.cells #[.string ra, .string rb, .bool rc, .string rf] 39))
    have hB2 := bNext hB1 (bAlloc1 w1 (.cells #[.string ra, .string rb, .bool rc, .string rf] 39))
    have m2 := hO2.m
    clear hO hb0 hb1 h0 hB1 hr hn
    go_wp2_with fail
    refine (HO1.out _ hB2 h2).mono ?_
    rintro e w3 ⟨rfl, hb3⟩
    have m3 := (hO2.next hb3).m
    have hB3 := bNext hB2 hb3
    clear m2 hB2
    go_wp2_with fail
    go_ret
    exact ⟨_, rfl, (Rws.one3 w3 (name, s, imp) 52).base hB3.size, bNext hB3 (bAlloc1 _ _)⟩
theorem Expand_any (w : World) (hB : Base16 w) (name : ByteArray) (v : Value) (l : List Val) (imp : Bool) (h : Vs w v l) (hf : ∀ x ∈ l, x.fits) :
    ∀ a n c, v = .slice a n c → Calls Tryz.prog 25 #[.agg #[.string name, .slice a n c, .bool imp]] w fun e w' => ∃ V, e = .returned V ∧ Rws w.heap.size w' 3 V ((expandA name l imp).map LongT.row) ∧ Below w.heap.size w w' := by
  unfold expandA
  cases hn : placeN name with
  | some k => exact Expand_long w hB name v l imp h hf k hn
  | none => exact Expand_gen w hB name v l imp h hn _ (spreadX_len name (longsOf name) l) (fun W B lv v hB hs hv => spread_any W hB name lv v l B hs hv hf)
end Go.Proofs.YtpadcjcoafidgaaGreatDoor
/-! gouacheref16.Expand. -/
namespace Go.Proofs.YtpadcjcoafidgaaGreatDoor
open Go.RowKit

theorem infoRefLong : (Tryz.prog.info? 115).map (fun i => (i.zero, i.size, i.bytes)) = some (some (.agg #[.string ⟨#[]⟩, .string ⟨#[]⟩, .bool false]), 3, 40) := by kernel_rfl
def oneRows (o : Option ByteArray) (name : ByteArray) (imp : Bool) : List LongT := match o with
  | some s => [(name, s, imp)]
  | none => []
theorem longRows_snoc (longs acc : List ByteArray) (s : ByteArray) (imp : Bool) (k : Nat) (hk : k < longs.length) (ha : acc.length = k) : (longRows (longs.take (k + 1)) (acc ++ [s]) imp).map LongT.row = (longRows (longs.take k) acc imp).map LongT.row ++ [LongT.row (longs[k], s, imp)] := by
  unfold longRows
  rw [List.take_succ_eq_append_getElem hk, List.zip_append (by rw [List.length_take]; omega)]
  simp
theorem longRows_end (longs acc : List ByteArray) (imp : Bool) (k : Nat) (hk : k = longs.length) : longRows (longs.take k) acc imp = longRows longs acc imp := by
  rw [hk, List.take_length]
theorem longRows_count (longs acc : List ByteArray) (imp : Bool) (k : Nat) (hk : k ≤ longs.length) (ha : acc.length = k) : ((longRows (longs.take k) acc imp).map LongT.row).length = k := by
  unfold longRows
  rw [List.length_map, List.length_map, List.length_zip, List.length_take]
  omega
theorem spreadS_empty (name : ByteArray) (longs : List ByteArray) (l : List Val) (h : (partsS l).getD [] = []) : spreadS name longs l = [] := by
  rw [spreadS_eq, h]
  split
  · cases longs with
    | nil => rfl
    | cons a r =>
      unfold spreadF
      split
      · rfl
      · rfl
  · rfl
theorem spreadS_full (name : ByteArray) (longs : List ByteArray) (l : List Val) (h : (partsS l).getD [] ≠ []) : spreadS name longs l = spreadF name ((partsS l).getD []) ((partsS l).getD []).length longs 0 [] := by
  rw [spreadS_eq, if_pos]
  cases hp : partsS l with
  | none => rw [hp] at h; exact absurd rfl h
  | some x => rfl
set_option maxRecDepth 100000 in
set_option maxHeartbeats 8000000 in
theorem refExpand_long (w : World) (name : ByteArray) (v : Value) (l : List Val) (imp : Bool) (h : Vs w v l) (hf : ∀ x ∈ l, x.fits) (k : Nat) (hn : placeN name = some k) :
    ∀ a n c, v = .slice a n c → Calls Tryz.prog 34 #[.agg #[.string name, .slice a n c, .bool imp]] w fun e w' => ∃ V, e = .returned V ∧ Rws w.heap.size w' 3 V ((oneRows (oneS name l) name imp).map LongT.row) ∧ Below w.heap.size w w' := by
  intro a n c hv
  subst hv
  have hO := Own.new w #[.string name, .slice a n c, .bool imp] 48
  have hb0 := bAlloc1 w (.cells #[.string name, .slice a n c, .bool imp] 48)
  have h0 := h.next hb0
  obtain ⟨⟨ra, rb, rc, rf⟩, hr⟩ : ∃ r, findRow name = r := ⟨_, rfl⟩
  have HO1 : Hid (oneS name l = if eqB (wideS l) noStr = true then parseS name l else some (wideS l)) := Lib.hid rfl
  obtain ⟨o, ho⟩ : ∃ o, oneS name l = o := ⟨_, rfl⟩
  rw [ho] at HO1 ⊢
  clear h ho
  go_enter Tryz.func34, Tryz.ntmps34
  go_wp2_with fail
  refine (refFind_any name _).mono ?_
  rintro e w1 ⟨rfl, hb1⟩
  rw [hn, hr]
  simp only [Option.isSome_some]
  have hB1 := bNext hb0 hb1
  have hO2 := (hO.next hb1).next (bAlloc1 w1 (.cells #[.string ra, .string rb, .bool rc, .string rf] 116))
  have h2 := (h0.next hb1).next (bAlloc1 w1 (.cells #[.string ra, .string rb, .bool rc, .string rf] 116))
  have hB2 := bNext hB1 (bAlloc1 w1 (.cells #[.string ra, .string rb, .bool rc, .string rf] 116))
  have m2 := hO2.m
  clear hO hb0 hb1 h0 hB1 hr hn
  go_wp2_with fail
  refine (RefWide_any _ _ l h2 hf).mono ?_
  rintro e w3 ⟨rfl, hb3⟩
  have hO3 := hO2.next hb3
  have m3 := hO3.m
  have hB3 := bNext hB2 hb3
  have h3 := h2.next hb3
  clear m2 hB2 h2 hO2 hb3
  cases hq : eqB (wideS l) noStr with
  | false =>
    obtain ⟨p1, p2⟩ := str_ne hq
    rw [hq] at HO1
    have HO2 : Hid (o = some (wideS l)) := Lib.hid HO1.out
    obtain ⟨s, hs⟩ : ∃ s, wideS l = s := ⟨_, rfl⟩
    rw [hs] at p1 p2 HO2 ⊢
    clear hq hs HO1
    go_wp2_with fail
    go_ret
    refine ⟨_, rfl, ?_, bNext hB3 (bAlloc1 _ _)⟩
    rw [HO2.out]
    exact (Rws.one3 w3 (name, s, imp) 115).base hB3.size
  | true =>
    rw [hq] at HO1
    have hw := str_eq hq
    rw [hw]
    obtain ⟨hz1, hz2⟩ := noStr_facts
    clear hq hw
    go_wp2_with fail
    refine (RefParse_any _ name _ l h3 hf).mono ?_
    rintro e w4 ⟨rfl, hb4⟩
    have m4 := (hO3.next hb4).m
    have hB4 := bNext hB3 hb4
    obtain ⟨r, hr⟩ : ∃ r, parseS name l = r := ⟨_, rfl⟩
    have HO2 : Hid (o = r) := Lib.hid (by rw [← hr]; exact HO1.out)
    rw [hr]
    clear hr m3 hO3 hB3 h3 hb4 HO1
    cases r with
    | none =>
      simp only [resS]
      go_wp2_with fail
      go_ret
      refine ⟨_, rfl, ?_, hB4⟩
      rw [HO2.out]
      exact Rws.nil _ _ _
    | some s =>
      simp only [resS]
      go_wp2_with fail
      go_ret
      refine ⟨_, rfl, ?_, bNext hB4 (bAlloc1 _ _)⟩
      rw [HO2.out]
      exact (Rws.one3 w4 (name, s, imp) 115).base hB4.size
set_option maxRecDepth 100000 in
set_option maxHeartbeats 8000000 in
theorem refExpand_wide (w : World) (name : ByteArray) (v : Value) (l : List Val) (imp : Bool) (h : Vs w v l) (hf : ∀ x ∈ l, x.fits) (hn : placeN name = none) (hq : eqB (wideS l) noStr = false) :
    ∀ a n c, v = .slice a n c → Calls Tryz.prog 34 #[.agg #[.string name, .slice a n c, .bool imp]] w fun e w' => ∃ V, e = .returned V ∧ Rws w.heap.size w' 3 V ((longRows (longsOf name) (List.replicate (longsOf name).length (wideS l)) imp).map LongT.row) ∧ Below w.heap.size w w' := by
  obtain ⟨E0, hE0⟩ : ∃ E, longRows (longsOf name) (List.replicate (longsOf name).length (wideS l)) imp = E := ⟨_, rfl⟩
  rw [hE0]
  have HE0 := Lib.hid hE0
  clear hE0
  intro a n c hv
  subst hv
  have hO := Own.new w #[.string name, .slice a n c, .bool imp] 48
  have hb0 := bAlloc1 w (.cells #[.string name, .slice a n c, .bool imp] 48)
  have h0 := h.next hb0
  have hrow : findRow name = noRow := by unfold findRow; rw [hn]
  clear h
  go_enter Tryz.func34, Tryz.ntmps34
  go_wp2_with fail
  refine (refFind_any name _).mono ?_
  rintro e w1 ⟨rfl, hb1⟩
  rw [hn, hrow]
  simp only [Option.isSome_none, noRow]
  have hB1 := bNext hb0 hb1
  have hO2 := (hO.next hb1).next (bAlloc1 w1 (.cells #[.string ⟨#[]⟩, .string ⟨#[]⟩, .bool false, .string ⟨#[]⟩] 116))
  have h2 := (h0.next hb1).next (bAlloc1 w1 (.cells #[.string ⟨#[]⟩, .string ⟨#[]⟩, .bool false, .string ⟨#[]⟩] 116))
  have hB2 := bNext hB1 (bAlloc1 w1 (.cells #[.string ⟨#[]⟩, .string ⟨#[]⟩, .bool false, .string ⟨#[]⟩] 116))
  have m2 := hO2.m
  clear hO hb0 hb1 h0 hB1 hrow
  go_wp2_with fail
  refine (RefCut_any _ _ l h2).mono ?_
  rintro e w3 ⟨pv, rfl, hp3, hb3⟩
  have hB3 := bNext hB2 hb3
  have hO3 := hO2.next hb3
  have h3 := h2.next hb3
  have m3 := hO3.m
  clear m2 hO2 h2 hB2 hb3
  go_wp2_with fail
  refine (refLongs_any name _).mono ?_
  rintro e w4 ⟨lv, rfl, hl4, hb4⟩
  have hB4 := bNext hB3 hb4
  have hO4 := Lib.hid (hO3.next hb4)
  have h4 := Lib.hid (h3.next hb4)
  have hp4 := Lib.hid (hp3.next hb4)
  have HL4 := Lib.hid hl4
  have hll := (longsOf_len name).1
  have HK : Hid (∀ (n i : Nat), i < (longsOf name).length → whichS name n i < n) := Lib.hid (fun n i hi => which_lt name n i hi)
  obtain ⟨la, lc, rfl, _⟩ := hl4.val
  obtain ⟨longs, hlongs⟩ : ∃ x, longsOf name = x := ⟨_, rfl⟩
  rw [hlongs] at HL4 hll HK HE0 ⊢
  have hDw : w.heap.size < w4.heap.size := hO4.out.lt
  clear m3 hO3 h3 hb4 hlongs hl4
  have HWd : ∀ W, Vs W (.slice a n c) l → Calls Tryz.prog 73 #[.slice a n c] W fun e w' => e = .returned (.string (wideS l)) ∧ Below W.heap.size W w' := fun W hv => RefWide_any W _ l hv hf
  have HWD := Lib.hid HWd
  obtain ⟨p1', p2'⟩ := str_ne hq
  obtain ⟨s, hs⟩ : ∃ s, wideS l = s := ⟨_, rfl⟩
  rw [hs] at p1' p2' HWD HE0
  obtain ⟨pa, pc, rfl, _⟩ := hp3
  clear HWd hq hs
  go_wp2_with fail
  go_loopw [8, 9, 10, 11, 12, 13, 14, 53] (fun out _ _ _ _ _ _ iv wr => ∃ (k : Nat) (acc : List ByteArray), k ≤ longs.length ∧ acc.length = k ∧ iv = .int .i64 k ∧ Hid (acc = List.replicate k s) ∧
      wr.ownsRow w4.heap.size 115 3 out ((longRows (longs.take k) acc imp).map LongT.row).length ((longRows (longs.take k) acc imp).map LongT.row).flatten ∧ Below w4.heap.size w4 wr)
    (fun _ _ _ _ _ _ _ iv _ => longs.length - (intOf iv).toNat)
  case atStart => exact ⟨0, [], by omega, rfl, rfl, Lib.hid rfl, ⟨rfl, .inl ⟨rfl, rfl⟩⟩, Below.refl _ _⟩
  case round =>
    obtain ⟨k, acc, hk, hal, rfl, HA, hown, hb⟩ := hrel
    by_cases hlt : k < longs.length
    · have hlne : longs ≠ [] := by intro e; rw [e] at hlt; simp at hlt
      obtain ⟨b2, o2, c2', e2, _, hbb2, hc2⟩ := Strs.at HL4.out hlne
      simp only [Value.slice.injEq] at e2
      obtain ⟨rfl, -, -⟩ := e2
      have f2 : wr.cell? ⟨b2, o2 + k, none⟩ = some (.string longs[k]) := (hb.cell (p := ⟨b2, _, none⟩) hbb2).trans (hc2 k hlt)
      have hO5 := hO4.out.next hb
      have m5 := hO5.m
      have h5 := h4.out.next hb
      have p0 : (0 : Int) ≤ (k : Int) := by omega
      have p2 : (k : Int) < (longs.length : Int) := by omega
      have hcount := longRows_count longs acc imp k hk hal
      have hsn := longRows_snoc longs acc s imp k hlt hal
      obtain ⟨y, hy⟩ : ∃ x, longs[k] = x := ⟨_, rfl⟩
      rw [hy] at f2 hsn
      have HSN := Lib.hid hsn
      have HC := Lib.hid hcount
      clear hc2 hy hsn hcount
      go_wp2_with fail
      refine (HWD.out _ h5).mono ?_
      rintro e w6 ⟨rfl, hb6⟩
      have hown6 := ownsRow_below hown hb6 (Nat.le_refl _)
      have hb46 := hb.trans (hb6.mono hb.size)
      have m6 := (hO5.next hb6).m
      have hcount := HC.out
      have hsz6 := hb46.size
      clear f2 m5 hO5 h5 hown hb6
      go_wp2_with (at_builtin; refine wpList_append_row rfl _ _ 65 115 rfl w4.heap.size 3 40 _ Tryz.underlying65 infoRefLong rfl (by decide) _ ((longRows (longs.take k) acc imp).map LongT.row) (LongT.row (y, s, imp)) rfl (hown6.alloc _) ⟨w6.heap.size, 0, none⟩ 1 rfl rfl (cells_new1 w6 _ _ _ rfl) (LongT.row_one _) (by rw [hcount]; omega) (by decide) (by simp; omega) ?_; intro v' w7 hown7 hgrow hne7)
      go_roundw
      case rel => exact ⟨k + 1, acc ++ [s], by omega, by simp; omega, by go_num, Lib.hid (by rw [HA.out, List.replicate_succ']), by rw [HSN.out]; exact hown7, (hb46.trans ((bAlloc1 w6 _).mono hsz6)).grown hgrow (by simp; omega) (fun j e => (hown6.lt j e).1)⟩
      case measure => simp [intOf]; omega
    · have hke : k = longs.length := by omega
      have HE := Lib.hid (longRows_end longs acc imp k hke)
      have q1 : ¬ (k : Int) < (longs.length : Int) := by omega
      have HAA : Hid (acc = List.replicate longs.length s) := Lib.hid (by rw [HA.out, hke])
      clear hke
      go_wp2_with fail
      go_ret
      refine ⟨_, rfl, ?_, bNext hB4 hb⟩
      rw [← HE0.out, ← HAA.out, ← HE.out]
      exact (Rws.of_owns hown rfl rfl (longRows_len _)).base hB4.size
set_option maxRecDepth 100000 in
set_option maxHeartbeats 8000000 in
theorem refExpand_empty (w : World) (name : ByteArray) (v : Value) (l : List Val) (imp : Bool) (h : Vs w v l) (hf : ∀ x ∈ l, x.fits) (hn : placeN name = none) (hq : eqB (wideS l) noStr = true) (hall : (partsS l).getD [] = []) :
    ∀ a n c, v = .slice a n c → Calls Tryz.prog 34 #[.agg #[.string name, .slice a n c, .bool imp]] w fun e w' => ∃ V, e = .returned V ∧ Rws w.heap.size w' 3 V ((longRows (longsOf name) (spreadS name (longsOf name) l) imp).map LongT.row) ∧ Below w.heap.size w w' := by
  rw [spreadS_empty name (longsOf name) l hall, show longRows (longsOf name) [] imp = [] by unfold longRows; rw [List.zip_nil_right]; rfl]
  intro a n c hv
  subst hv
  have hO := Own.new w #[.string name, .slice a n c, .bool imp] 48
  have hb0 := bAlloc1 w (.cells #[.string name, .slice a n c, .bool imp] 48)
  have h0 := h.next hb0
  have hrow : findRow name = noRow := by unfold findRow; rw [hn]
  clear h
  go_enter Tryz.func34, Tryz.ntmps34
  go_wp2_with fail
  refine (refFind_any name _).mono ?_
  rintro e w1 ⟨rfl, hb1⟩
  rw [hn, hrow]
  simp only [Option.isSome_none, noRow]
  have hB1 := bNext hb0 hb1
  have hO2 := (hO.next hb1).next (bAlloc1 w1 (.cells #[.string ⟨#[]⟩, .string ⟨#[]⟩, .bool false, .string ⟨#[]⟩] 116))
  have h2 := (h0.next hb1).next (bAlloc1 w1 (.cells #[.string ⟨#[]⟩, .string ⟨#[]⟩, .bool false, .string ⟨#[]⟩] 116))
  have hB2 := bNext hB1 (bAlloc1 w1 (.cells #[.string ⟨#[]⟩, .string ⟨#[]⟩, .bool false, .string ⟨#[]⟩] 116))
  have m2 := hO2.m
  clear hO hb0 hb1 h0 hB1 hrow
  go_wp2_with fail
  refine (RefCut_any _ _ l h2).mono ?_
  rintro e w3 ⟨pv, rfl, hp3, hb3⟩
  have hB3 := bNext hB2 hb3
  have hO3 := hO2.next hb3
  have h3 := h2.next hb3
  have m3 := hO3.m
  clear m2 hO2 h2 hB2 hb3
  go_wp2_with fail
  refine (refLongs_any name _).mono ?_
  rintro e w4 ⟨lv, rfl, hl4, hb4⟩
  have hB4 := bNext hB3 hb4
  have hO4 := Lib.hid (hO3.next hb4)
  have h4 := Lib.hid (h3.next hb4)
  have hp4 := Lib.hid (hp3.next hb4)
  have HL4 := Lib.hid hl4
  have hll := (longsOf_len name).1
  have HK : Hid (∀ (n i : Nat), i < (longsOf name).length → whichS name n i < n) := Lib.hid (fun n i hi => which_lt name n i hi)
  obtain ⟨la, lc, rfl, _⟩ := hl4.val
  obtain ⟨longs, hlongs⟩ : ∃ x, longsOf name = x := ⟨_, rfl⟩
  rw [hlongs] at HL4 hll HK ⊢
  have hDw : w.heap.size < w4.heap.size := hO4.out.lt
  clear m3 hO3 h3 hb4 hlongs hl4
  have HWd : ∀ W, Vs W (.slice a n c) l → Calls Tryz.prog 73 #[.slice a n c] W fun e w' => e = .returned (.string (wideS l)) ∧ Below W.heap.size W w' := fun W hv => RefWide_any W _ l hv hf
  rw [str_eq hq] at HWd
  have HWD := Lib.hid HWd
  obtain ⟨hz1, hz2⟩ := noStr_facts
  rw [hall] at hp3 hp4
  obtain ⟨pa, pc, rfl, _⟩ := hp3
  clear HWd hq hall
  go_wp2_with fail
  go_loopw [8, 9, 10, 11, 12, 13, 14, 53] (fun out _ _ _ _ _ _ iv wr => out = .slice none 0 0 ∧ iv = .int .i64 0 ∧ wr = w4)
    (fun _ _ _ _ _ _ _ iv _ => longs.length - (intOf iv).toNat)
  case atStart => exact ⟨rfl, rfl, rfl⟩
  case round =>
    obtain ⟨rfl, rfl, rfl⟩ := hrel
    by_cases hlt : 0 < longs.length
    · have hlne : longs ≠ [] := by intro e; rw [e] at hlt; simp at hlt
      obtain ⟨b2, o2, c2', e2, _, hbb2, hc2⟩ := Strs.at HL4.out hlne
      simp only [Value.slice.injEq] at e2
      obtain ⟨rfl, -, -⟩ := e2
      have f2 : wr.cell? ⟨b2, o2, none⟩ = some (.string longs[0]) := hc2 0 hlt
      have m5 := hO4.out.m
      have p2 : (0 : Int) < (longs.length : Int) := by omega
      clear hc2
      go_wp2_with fail
      refine (HWD.out _ h4.out).mono ?_
      rintro e w6 ⟨rfl, hb6⟩
      clear f2 m5
      go_wp2_with fail
      go_ret
      exact ⟨_, rfl, Rws.nil _ _ _, bNext hB4 hb6⟩
    · have q1 : ¬ (0 : Int) < (longs.length : Int) := by omega
      go_wp2_with fail
      go_ret
      exact ⟨_, rfl, Rws.nil _ _ _, hB4⟩
set_option maxRecDepth 100000 in
set_option maxHeartbeats 8000000 in
theorem refExpand_plain (w : World) (name : ByteArray) (v : Value) (l : List Val) (imp : Bool) (h : Vs w v l) (hf : ∀ x ∈ l, x.fits) (hn : placeN name = none) (hq : eqB (wideS l) noStr = true) (hall : (partsS l).getD [] ≠ []) :
    ∀ a n c, v = .slice a n c → Calls Tryz.prog 34 #[.agg #[.string name, .slice a n c, .bool imp]] w fun e w' => ∃ V, e = .returned V ∧ Rws w.heap.size w' 3 V ((longRows (longsOf name) (spreadS name (longsOf name) l) imp).map LongT.row) ∧ Below w.heap.size w w' := by
  have HS0 := Lib.hid (spreadS_full name (longsOf name) l hall)
  have hF := parts_fits hf
  obtain ⟨E0, hE0⟩ : ∃ E, longRows (longsOf name) (spreadS name (longsOf name) l) imp = E := ⟨_, rfl⟩
  rw [hE0]
  have HE0 := Lib.hid hE0
  clear hE0
  intro a n c hv
  subst hv
  have hO := Own.new w #[.string name, .slice a n c, .bool imp] 48
  have hb0 := bAlloc1 w (.cells #[.string name, .slice a n c, .bool imp] 48)
  have h0 := h.next hb0
  have hrow : findRow name = noRow := by unfold findRow; rw [hn]
  clear h
  go_enter Tryz.func34, Tryz.ntmps34
  go_wp2_with fail
  refine (refFind_any name _).mono ?_
  rintro e w1 ⟨rfl, hb1⟩
  rw [hn, hrow]
  simp only [Option.isSome_none, noRow]
  have hB1 := bNext hb0 hb1
  have hO2 := (hO.next hb1).next (bAlloc1 w1 (.cells #[.string ⟨#[]⟩, .string ⟨#[]⟩, .bool false, .string ⟨#[]⟩] 116))
  have h2 := (h0.next hb1).next (bAlloc1 w1 (.cells #[.string ⟨#[]⟩, .string ⟨#[]⟩, .bool false, .string ⟨#[]⟩] 116))
  have hB2 := bNext hB1 (bAlloc1 w1 (.cells #[.string ⟨#[]⟩, .string ⟨#[]⟩, .bool false, .string ⟨#[]⟩] 116))
  have m2 := hO2.m
  clear hO hb0 hb1 h0 hB1 hrow
  go_wp2_with fail
  refine (RefCut_any _ _ l h2).mono ?_
  rintro e w3 ⟨pv, rfl, hp3, hb3⟩
  have hB3 := bNext hB2 hb3
  have hO3 := hO2.next hb3
  have h3 := h2.next hb3
  have m3 := hO3.m
  clear m2 hO2 h2 hB2 hb3
  go_wp2_with fail
  refine (refLongs_any name _).mono ?_
  rintro e w4 ⟨lv, rfl, hl4, hb4⟩
  have hB4 := bNext hB3 hb4
  have hO4 := Lib.hid (hO3.next hb4)
  have h4 := Lib.hid (h3.next hb4)
  have hp4 := Lib.hid (hp3.next hb4)
  have HL4 := Lib.hid hl4
  have hll := (longsOf_len name).1
  have HK : Hid (∀ (n i : Nat), i < (longsOf name).length → whichS name n i < n) := Lib.hid (fun n i hi => which_lt name n i hi)
  obtain ⟨la, lc, rfl, _⟩ := hl4.val
  obtain ⟨longs, hlongs⟩ : ∃ x, longsOf name = x := ⟨_, rfl⟩
  rw [hlongs] at HL4 hll HK HE0 HS0 ⊢
  have hDw : w.heap.size < w4.heap.size := hO4.out.lt
  clear m3 hO3 h3 hb4 hlongs hl4
  have HWd : ∀ W, Vs W (.slice a n c) l → Calls Tryz.prog 73 #[.slice a n c] W fun e w' => e = .returned (.string (wideS l)) ∧ Below W.heap.size W w' := fun W hv => RefWide_any W _ l hv hf
  rw [str_eq hq] at HWd
  have HWD := Lib.hid HWd
  obtain ⟨hz1, hz2⟩ := noStr_facts
  obtain ⟨all, hall2⟩ : ∃ x, (partsS l).getD [] = x := ⟨_, rfl⟩
  rw [hall2] at hp3 hp4 hF HS0 hall
  obtain ⟨pa, pc, rfl, hpc, hal, _⟩ := hp3
  obtain ⟨pa2, pc2, hpv, -, -, hpr⟩ := hp4.out
  obtain ⟨pb, po, hpa, hpb, hpcell⟩ := hpr hall
  simp only [Value.slice.injEq] at hpv
  obtain ⟨rfl, -, rfl⟩ := hpv
  subst hpa
  have HPC := Lib.hid hpcell
  have hal0 : 0 < all.length := List.length_pos_iff.2 hall
  have hal1 : ¬ ((all.length : Int) = 0) := by omega
  have hal2 : (all.length : Int) ≤ (pc : Int) := by omega
  clear HWd hq hall2 hpr hpcell hp4
  go_wp2_with fail
  go_loopw [8, 9, 10, 11, 12, 13, 14, 53] (fun out _ _ _ _ _ _ iv wr => ∃ (k : Nat) (acc : List ByteArray), k ≤ longs.length ∧ acc.length = k ∧ iv = .int .i64 k ∧ Hid (spreadF name all all.length (longs.drop k) k acc = spreadS name longs l) ∧
      wr.ownsRow w4.heap.size 115 3 out ((longRows (longs.take k) acc imp).map LongT.row).length ((longRows (longs.take k) acc imp).map LongT.row).flatten ∧ Below w4.heap.size w4 wr)
    (fun _ _ _ _ _ _ _ iv _ => longs.length - (intOf iv).toNat)
  case atStart => exact ⟨0, [], by omega, rfl, rfl, Lib.hid (by rw [HS0.out]; rfl), ⟨rfl, .inl ⟨rfl, rfl⟩⟩, Below.refl _ _⟩
  case round =>
    obtain ⟨k, acc, hk, hacc, rfl, HF, hown, hb⟩ := hrel
    by_cases hlt : k < longs.length
    · have hlne : longs ≠ [] := by intro e; rw [e] at hlt; simp at hlt
      obtain ⟨b2, o2, c2', e2, _, hbb2, hc2⟩ := Strs.at HL4.out hlne
      simp only [Value.slice.injEq] at e2
      obtain ⟨rfl, -, -⟩ := e2
      have f2 : wr.cell? ⟨b2, o2 + k, none⟩ = some (.string longs[k]) := (hb.cell (p := ⟨b2, _, none⟩) hbb2).trans (hc2 k hlt)
      have hO5 := hO4.out.next hb
      have m5 := hO5.m
      have h5 := h4.out.next hb
      have p0 : (0 : Int) ≤ (k : Int) := by omega
      have p2 : (k : Int) < (longs.length : Int) := by omega
      have hcount := longRows_count longs acc imp k hk hacc
      have HSN0 := Lib.hid (fun s => longRows_snoc longs acc s imp k hlt hacc)
      have hkl := HK.out all.length k hlt
      have hd := List.drop_eq_getElem_cons hlt
      obtain ⟨y, hy⟩ : ∃ x, longs[k] = x := ⟨_, rfl⟩
      rw [hy] at f2 HSN0 hd
      have HD := Lib.hid hd
      have HC := Lib.hid hcount
      clear hc2 hy hcount hd
      go_wp2_with fail
      refine (HWD.out _ h5).mono ?_
      rintro e w5 ⟨rfl, hb5⟩
      have hown5 := ownsRow_below hown hb5 (Nat.le_refl _)
      have hb45 := hb.trans (hb5.mono hb.size)
      have hO6 := hO5.next hb5
      have m6 := hO6.m
      clear f2 m5 hO5 h5 hown hb5
      go_wp2_with fail
      refine (refWhich_any _ name (all.length : Int) (k : Int) (by omega) (by omega) (by omega) (by omega)).mono ?_
      rintro e w6 ⟨rfl, rfl⟩
      obtain ⟨kk, hkk⟩ : ∃ q, whichS name (all.length : Int) (k : Int) = q := ⟨_, rfl⟩
      rw [hkk] at hkl ⊢
      have hkk2 := HF.out
      rw [HD.out, spreadF, hkk] at hkk2
      have HN : Hid (spreadS name longs l = if kk < 0 then [] else match all[kk.toNat]? with
        | none => []
        | some x => match parseS y [x] with
          | none => []
          | some s => spreadF name all all.length (longs.drop (k + 1)) (k + 1) (acc ++ [s])) := Lib.hid hkk2.symm
      by_cases hk0 : kk < 0
      · have HR : Hid (spreadS name longs l = []) := Lib.hid (by rw [HN.out, if_pos hk0])
        clear m6 hkk2
        go_wp2_with fail
        go_ret
        refine ⟨_, rfl, ?_, bNext hB4 hb45⟩
        rw [← HE0.out, HR.out, show longRows longs [] imp = [] by unfold longRows; rw [List.zip_nil_right]; rfl]
        exact Rws.nil _ _ _
      · obtain ⟨q, rfl⟩ : ∃ q : Nat, kk = (q : Int) := ⟨kk.toNat, by omega⟩
        have hq : q < all.length := by omega
        have hget : all[q]? = some all[q] := List.getElem?_eq_getElem hq
        have HN2 : Hid (spreadS name longs l = match parseS y [all[q]] with
          | none => []
          | some s => spreadF name all all.length (longs.drop (k + 1)) (k + 1) (acc ++ [s])) := Lib.hid (by rw [HN.out, if_neg hk0, Int.toNat_natCast, hget])
        have hxf := hF _ (List.getElem_mem hq)
        have hVs : Vs w6 (.slice (some ⟨pb, po + q * 6, none⟩) 1 (pc - q)) [all[q]] := by
          have h1 := Vs.sub (cellsX hb45 hpb HPC.out) q 1 (po + q * 6) (fun _ => rfl) (by omega) (by omega) (by have := hb45.size; omega) hpc hal
          rw [show (all.drop q).take 1 = [all[q]] by rw [List.drop_eq_getElem_cons hq]; rfl] at h1
          exact h1
        have w1' : IntKind.i64.wrap ((q : Int) + 1) = ((q + 1 : Nat) : Int) := by rw [Go.IntWalk.i64_in _ (by omega)]; omega
        have p1 : (0 : Int) ≤ (q : Int) := by omega
        have p3 : (q : Int) ≤ ((q + 1 : Nat) : Int) := by omega
        have p4 : ((q + 1 : Nat) : Int) ≤ (pc : Int) := by omega
        clear hk0 hget HN m6 hkk2
        go_wp2_with fail
        refine (RefParse_any _ y _ [all[q]] hVs (fun x hx => by rw [List.mem_singleton.1 hx]; exact hxf)).mono ?_
        rintro e w8 ⟨rfl, hb8⟩
        have hb48 := hb45.trans (hb8.mono hb45.size)
        have hown8 := ownsRow_below hown5 hb8 (Nat.le_refl _)
        have m8 := (hO6.next hb8).m
        have hsz8 := hb48.size
        have hcount := HC.out
        clear hVs hown5 hb8 hO6
        cases hr : parseS y [all[q]] with
        | none =>
          have HR : Hid (spreadS name longs l = []) := Lib.hid (by rw [HN2.out, hr])
          simp only [resS]
          clear m8
          go_wp2_with fail
          go_ret
          refine ⟨_, rfl, ?_, bNext hB4 hb48⟩
          rw [← HE0.out, HR.out, show longRows longs [] imp = [] by unfold longRows; rw [List.zip_nil_right]; rfl]
          exact Rws.nil _ _ _
        | some s =>
          have HN3 : Hid (spreadF name all all.length (longs.drop (k + 1)) (k + 1) (acc ++ [s]) = spreadS name longs l) := Lib.hid (by rw [HN2.out, hr])
          have HSN := Lib.hid (HSN0.out s)
          simp only [resS]
          go_wp2_with (at_builtin; refine wpList_append_row rfl _ _ 65 115 rfl w4.heap.size 3 40 _ Tryz.underlying65 infoRefLong rfl (by decide) _ ((longRows (longs.take k) acc imp).map LongT.row) (LongT.row (y, s, imp)) rfl (hown8.alloc _) ⟨w8.heap.size, 0, none⟩ 1 rfl rfl (cells_new1 w8 _ _ _ rfl) (LongT.row_one _) (by rw [hcount]; omega) (by decide) (by simp; omega) ?_; intro v' w7 hown7 hgrow hne7)
          go_roundw
          case rel => exact ⟨k + 1, acc ++ [s], by omega, by simp; omega, by go_num, HN3, by rw [HSN.out]; exact hown7, (hb48.trans ((bAlloc1 w8 _).mono hsz8)).grown hgrow (by simp; omega) (fun j e => (hown8.lt j e).1)⟩
          case measure => simp [intOf]; omega
    · have hke : k = longs.length := by omega
      have HE := Lib.hid (longRows_end longs acc imp k hke)
      have q1 : ¬ (k : Int) < (longs.length : Int) := by omega
      have HAA : Hid (spreadS name longs l = acc) := Lib.hid (by rw [← HF.out, hke, List.drop_length]; rfl)
      clear hke
      go_wp2_with fail
      go_ret
      refine ⟨_, rfl, ?_, bNext hB4 hb⟩
      rw [← HE0.out, HAA.out, ← HE.out]
      exact (Rws.of_owns hown rfl rfl (longRows_len _)).base hB4.size
theorem RefExpand_any (w : World) (name : ByteArray) (v : Value) (l : List Val) (imp : Bool) (h : Vs w v l) (hf : ∀ x ∈ l, x.fits) :
    ∀ a n c, v = .slice a n c → Calls Tryz.prog 34 #[.agg #[.string name, .slice a n c, .bool imp]] w fun e w' => ∃ V, e = .returned V ∧ Rws w.heap.size w' 3 V ((expandA name l imp).map LongT.row) ∧ Below w.heap.size w w' := by
  unfold expandA
  cases hn : placeN name with
  | some k => exact refExpand_long w name v l imp h hf k hn
  | none =>
    unfold spreadX
    cases hq : eqB (wideS l) noStr with
    | false => exact refExpand_wide w name v l imp h hf hn hq
    | true =>
      by_cases hall : (partsS l).getD [] = []
      · exact refExpand_empty w name v l imp h hf hn hq hall
      · exact refExpand_plain w name v l imp h hf hn hq hall
end Go.Proofs.YtpadcjcoafidgaaGreatDoor
/-! gouacheref03.Deep, gouacheref03.Count, gouachelaw15.great, gouachelaw16.great: each returns; what is not great has short tokens. -/
namespace Go.Proofs.YtpadcjcoafidgaaGreatDoor
open Go.RowKit

/-- The kids of a value, as the slice that it holds. -/
def Val.kids (x : Val) : Value := .slice x.ka x.kn x.kc
/-- Values that are nested less than n deep. -/
def VD (w : World) : Nat → Value → List Val → Prop
  | 0, _, _ => False
  | n + 1, v, l => Vs w v l ∧ ∀ x ∈ l, ∃ l', VD w n x.kids l'
theorem VD.below {C : Nat} {w w' : World} (hb : Below C w w') (hC : w.heap.size ≤ C) : ∀ {n : Nat} {v : Value} {l : List Val}, VD w n v l → VD w' n v l
  | 0, _, _, h => h.elim
  | n + 1, v, l, ⟨h1, h2⟩ => ⟨h1.below hb hC, fun x hx => by
    obtain ⟨l', h⟩ := h2 x hx
    exact ⟨l', VD.below hb hC h⟩⟩
theorem VD.next {w w' : World} {n : Nat} {v : Value} {l : List Val} (h : VD w n v l) (hb : Below w.heap.size w w') : VD w' n v l := h.below hb (Nat.le_refl _)
theorem VD.vs {w : World} {n : Nat} {v : Value} {l : List Val} (h : VD w n v l) : Vs w v l := by
  cases n with
  | zero => exact h.elim
  | succ n => exact h.1
/-- A bool is returned. -/
def SomeB (w : World) (e : Ending) (w' : World) : Prop := ∃ b, e = .returned (.bool b) ∧ Below w.heap.size w w'
def SomeI (w : World) (e : Ending) (w' : World) : Prop := ∃ n, e = .returned (.int .i64 n) ∧ Below w.heap.size w w'
set_option maxRecDepth 100000 in
set_option maxHeartbeats 4000000 in
theorem Deep_any : ∀ (n : Nat) (w : World) (v : Value) (l : List Val) (most : Int), VD w n v l →
    Calls Tryz.prog 38 #[v, .int .i64 most] w (SomeB w)
  | 0, _, _, _, _, h => h.elim
  | n + 1, w, v, l, most, h => by
    have IH := Lib.hid (Deep_any n)
    have HD := Lib.hid h
    obtain ⟨a, cap, rfl, hcap, hl, hr⟩ := h.1
    have HR := Lib.hid hr
    clear h hr
    go_enter Tryz.func38, Tryz.ntmps38
    go_wp2_with fail
    go_loopw [6, 9] (fun _ iv wr => ∃ k : Nat, k ≤ l.length ∧ iv = .int .i64 k ∧ Below w.heap.size w wr) (fun _ iv _ => l.length - (intOf iv).toNat)
    case atStart => exact ⟨0, by omega, rfl, Below.refl _ _⟩
    case round =>
      obtain ⟨k, hk, rfl, hb⟩ := hrel
      by_cases hlt : k < l.length
      · have hne : l ≠ [] := by intro e; rw [e] at hlt; simp at hlt
        obtain ⟨bb, off, rfl, hbb, hcc⟩ := HR.out hne
        obtain ⟨x0, x1, x2, x3, x4, x5⟩ := Vs.cells (cellsX hb hbb hcc) k hlt
        obtain ⟨l', hkids⟩ := HD.out.2 _ (List.getElem_mem hlt)
        have HK := Lib.hid ((hkids.next hb).next (bAlloc1 wr (.cells #[.int .i64 l[k].tok.k, .string l[k].tok.t, .string l[k].tok.u, .bool l[k].tok.wh, .bool l[k].tok.fl, .slice l[k].ka l[k].kn l[k].kc] 26)))
        have hb1 := bNext hb (bAlloc1 wr (.cells #[.int .i64 l[k].tok.k, .string l[k].tok.t, .string l[k].tok.u, .bool l[k].tok.wh, .bool l[k].tok.fl, .slice l[k].ka l[k].kn l[k].kc] 26))
        obtain ⟨y, hy⟩ : ∃ y, l[k] = y := ⟨_, rfl⟩
        rw [hy] at x0 x1 x2 x3 x4 x5 HK hb1
        have q0 : (0 : Int) ≤ (k : Int) := by omega
        have q1 : (k : Int) < (l.length : Int) := by omega
        clear hcc hkids hy
        by_cases hkn : 0 < y.kn
        · have p1 : (0 : Int) < (y.kn : Int) := by omega
          by_cases hm : most < 1
          · go_wp2_with fail
            go_ret
            exact ⟨_, rfl, hb1⟩
          · go_wp2_with fail
            refine (IH.out _ _ l' _ HK.out).mono ?_
            rintro e w2 ⟨b, rfl, hb2⟩
            have hB2 := bNext hb1 hb2
            cases b with
            | true =>
              go_wp2_with fail
              go_ret
              exact ⟨_, rfl, hB2⟩
            | false =>
              clear x0 x1 x2 x3 x4 x5
              go_wp2_with fail
              go_roundw
              case rel => exact ⟨k + 1, by omega, by go_num, hB2⟩
              case measure => simp [intOf]; omega
        · have p1 : ¬ (0 : Int) < (y.kn : Int) := by omega
          go_wp2_with fail
          go_roundw
          case rel => exact ⟨k + 1, by omega, by go_num, hb1⟩
          case measure => simp [intOf]; omega
      · have q1 : ¬ (k : Int) < (l.length : Int) := by omega
        go_wp2_with fail
        go_ret
        exact ⟨_, rfl, hb⟩
set_option maxRecDepth 100000 in
set_option maxHeartbeats 4000000 in
theorem Count_any : ∀ (n : Nat) (w : World) (v : Value) (l : List Val), VD w n v l →
    Calls Tryz.prog 39 #[v] w (SomeI w)
  | 0, _, _, _, h => h.elim
  | n + 1, w, v, l, h => by
    have IH := Lib.hid (Count_any n)
    have HD := Lib.hid h
    obtain ⟨a, cap, rfl, hcap, hl, hr⟩ := h.1
    have HR := Lib.hid hr
    clear h hr
    go_enter Tryz.func39, Tryz.ntmps39
    go_wp2_with fail
    go_loopw [3, 5, 8] (fun nv _ iv wr => ∃ (k : Nat) (m : Int), k ≤ l.length ∧ iv = .int .i64 k ∧ nv = .int .i64 m ∧ Below w.heap.size w wr) (fun _ _ iv _ => l.length - (intOf iv).toNat)
    case atStart => exact ⟨0, 0, by omega, rfl, rfl, Below.refl _ _⟩
    case round =>
      obtain ⟨k, m, hk, rfl, rfl, hb⟩ := hrel
      by_cases hlt : k < l.length
      · have hne : l ≠ [] := by intro e; rw [e] at hlt; simp at hlt
        obtain ⟨bb, off, rfl, hbb, hcc⟩ := HR.out hne
        obtain ⟨x0, x1, x2, x3, x4, x5⟩ := Vs.cells (cellsX hb hbb hcc) k hlt
        obtain ⟨l', hkids⟩ := HD.out.2 _ (List.getElem_mem hlt)
        have HK := Lib.hid ((hkids.next hb).next (bAlloc1 wr (.cells #[.int .i64 l[k].tok.k, .string l[k].tok.t, .string l[k].tok.u, .bool l[k].tok.wh, .bool l[k].tok.fl, .slice l[k].ka l[k].kn l[k].kc] 26)))
        have hb1 := bNext hb (bAlloc1 wr (.cells #[.int .i64 l[k].tok.k, .string l[k].tok.t, .string l[k].tok.u, .bool l[k].tok.wh, .bool l[k].tok.fl, .slice l[k].ka l[k].kn l[k].kc] 26))
        obtain ⟨y, hy⟩ : ∃ y, l[k] = y := ⟨_, rfl⟩
        rw [hy] at x0 x1 x2 x3 x4 x5 HK hb1
        have q0 : (0 : Int) ≤ (k : Int) := by omega
        have q1 : (k : Int) < (l.length : Int) := by omega
        clear hcc hkids hy
        go_wp2_with fail
        refine (IH.out _ _ l' HK.out).mono ?_
        rintro e w2 ⟨c, rfl, hb2⟩
        have hB2 := bNext hb1 hb2
        clear x0 x1 x2 x3 x4 x5
        go_wp2_with fail
        go_roundw
        case rel => exact ⟨k + 1, _, by omega, by go_num, rfl, hB2⟩
        case measure => simp [intOf]; omega
      · have q1 : ¬ (k : Int) < (l.length : Int) := by omega
        go_wp2_with fail
        go_ret
        exact ⟨_, rfl, hb⟩
/-- A bool is returned; false: the tokens are short. -/
def GreatB (w : World) (l : List Val) (e : Ending) (w' : World) : Prop := ∃ b, e = .returned (.bool b) ∧ (b = false → ∀ x ∈ l, x.tok.t.size + x.tok.u.size ≤ 500) ∧ Below w.heap.size w w'
theorem GreatB.mk {w : World} {l : List Val} (b : Bool) (h : b = false → ∀ x ∈ l, x.tok.t.size + x.tok.u.size ≤ 500) {w' : World} (hb : Below w.heap.size w w') : GreatB w l (.returned (.bool b)) w' := ⟨b, rfl, h, hb⟩
set_option maxRecDepth 100000 in
set_option maxHeartbeats 4000000 in
theorem great15_any (n : Nat) (w : World) (v : Value) (l : List Val) (h : VD w n v l) (hsz : ∀ x ∈ l, x.tok.t.size ≤ 281474976710656 ∧ x.tok.u.size ≤ 281474976710656) :
    Calls Tryz.prog 11 #[v] w (GreatB w l) := by
  have HD := Lib.hid h
  have HZ := Lib.hid hsz
  obtain ⟨a, cap, rfl, hcap, hl, hr⟩ := h.vs
  have HR := Lib.hid hr
  clear h hr hsz
  go_enter Tryz.func11, Tryz.ntmps11
  go_wp2_with fail
  go_loopw [4, 7] (fun _ iv wr => ∃ k : Nat, k ≤ l.length ∧ iv = .int .i64 k ∧ Hid (∀ x ∈ l.take k, x.tok.t.size + x.tok.u.size ≤ 500) ∧ Below w.heap.size w wr) (fun _ iv _ => l.length - (intOf iv).toNat)
  case atStart => exact ⟨0, by omega, rfl, Lib.hid (fun x hx => by simp at hx), Below.refl _ _⟩
  case round =>
    obtain ⟨k, hk, rfl, HS, hb⟩ := hrel
    by_cases hlt : k < l.length
    · have hne : l ≠ [] := by intro e; rw [e] at hlt; simp at hlt
      obtain ⟨bb, off, rfl, hbb, hcc⟩ := HR.out hne
      obtain ⟨x0, x1, x2, x3, x4, x5⟩ := Vs.cells (cellsX hb hbb hcc) k hlt
      obtain ⟨z1, z2⟩ := HZ.out _ (List.getElem_mem hlt)
      have hb1 := bNext hb (bAlloc1 wr (.cells #[.int .i64 l[k].tok.k, .string l[k].tok.t, .string l[k].tok.u, .bool l[k].tok.wh, .bool l[k].tok.fl, .slice l[k].ka l[k].kn l[k].kc] 26))
      have HT := Lib.hid (List.take_succ_eq_append_getElem hlt)
      obtain ⟨y, hy⟩ : ∃ y, l[k] = y := ⟨_, rfl⟩
      rw [hy] at x0 x1 x2 x3 x4 x5 hb1 z1 z2 HT
      have q0 : (0 : Int) ≤ (k : Int) := by omega
      have q1 : (k : Int) < (l.length : Int) := by omega
      clear hcc hy
      by_cases hs : y.tok.t.size + y.tok.u.size ≤ 500
      · have p1 : ¬ (500 : Int) < (y.tok.t.size : Int) + (y.tok.u.size : Int) := by omega
        have HS2 : Hid (∀ x ∈ l.take (k + 1), x.tok.t.size + x.tok.u.size ≤ 500) := Lib.hid (fun x hx => by
          rw [HT.out] at hx
          rcases List.mem_append.1 hx with hx | hx
          · exact HS.out x hx
          · rw [List.mem_singleton.1 hx]; exact hs)
        clear hs
        go_wp2_with fail
        go_roundw
        case rel => exact ⟨k + 1, by omega, by go_num, HS2, hb1⟩
        case measure => simp [intOf]; omega
      · have p1 : (500 : Int) < (y.tok.t.size : Int) + (y.tok.u.size : Int) := by omega
        clear hs
        go_wp2_with fail
        go_ret
        exact GreatB.mk _ (fun h => by cases h) hb1
    · have hke : k = l.length := by omega
      have q1 : ¬ (k : Int) < (l.length : Int) := by omega
      have HS2 : Hid (∀ x ∈ l, x.tok.t.size + x.tok.u.size ≤ 500) := Lib.hid (fun x hx => HS.out x (by rw [hke, List.take_length]; exact hx))
      clear hke
      go_wp2_with fail
      refine (Deep_any n _ _ l _ (HD.out.next hb)).mono ?_
      rintro e w2 ⟨b, rfl, hb2⟩
      have hB2 := bNext hb hb2
      cases b with
      | true =>
        go_wp2_with fail
        go_ret
        exact GreatB.mk _ (fun _ => HS2.out) hB2
      | false =>
        go_wp2_with fail
        refine (Count_any n _ _ l (HD.out.next hB2)).mono ?_
        rintro e w3 ⟨c, rfl, hb3⟩
        go_wp2_with fail
        go_ret
        exact GreatB.mk _ (fun _ => HS2.out) (bNext hB2 hb3)
set_option maxRecDepth 100000 in
set_option maxHeartbeats 4000000 in
theorem great16_any (n : Nat) (w : World) (v : Value) (l : List Val) (h : VD w n v l) (hsz : ∀ x ∈ l, x.tok.t.size ≤ 281474976710656 ∧ x.tok.u.size ≤ 281474976710656) :
    Calls Tryz.prog 24 #[v] w (GreatB w l) := by
  have HD := Lib.hid h
  have HZ := Lib.hid hsz
  obtain ⟨a, cap, rfl, hcap, hl, hr⟩ := h.vs
  have HR := Lib.hid hr
  clear h hr hsz
  go_enter Tryz.func24, Tryz.ntmps24
  go_wp2_with fail
  go_loopw [4, 7] (fun _ iv wr => ∃ k : Nat, k ≤ l.length ∧ iv = .int .i64 k ∧ Hid (∀ x ∈ l.take k, x.tok.t.size + x.tok.u.size ≤ 500) ∧ Below w.heap.size w wr) (fun _ iv _ => l.length - (intOf iv).toNat)
  case atStart => exact ⟨0, by omega, rfl, Lib.hid (fun x hx => by simp at hx), Below.refl _ _⟩
  case round =>
    obtain ⟨k, hk, rfl, HS, hb⟩ := hrel
    by_cases hlt : k < l.length
    · have hne : l ≠ [] := by intro e; rw [e] at hlt; simp at hlt
      obtain ⟨bb, off, rfl, hbb, hcc⟩ := HR.out hne
      obtain ⟨x0, x1, x2, x3, x4, x5⟩ := Vs.cells (cellsX hb hbb hcc) k hlt
      obtain ⟨z1, z2⟩ := HZ.out _ (List.getElem_mem hlt)
      have hb1 := bNext hb (bAlloc1 wr (.cells #[.int .i64 l[k].tok.k, .string l[k].tok.t, .string l[k].tok.u, .bool l[k].tok.wh, .bool l[k].tok.fl, .slice l[k].ka l[k].kn l[k].kc] 26))
      have HT := Lib.hid (List.take_succ_eq_append_getElem hlt)
      obtain ⟨y, hy⟩ : ∃ y, l[k] = y := ⟨_, rfl⟩
      rw [hy] at x0 x1 x2 x3 x4 x5 hb1 z1 z2 HT
      have q0 : (0 : Int) ≤ (k : Int) := by omega
      have q1 : (k : Int) < (l.length : Int) := by omega
      clear hcc hy
      by_cases hs : y.tok.t.size + y.tok.u.size ≤ 500
      · have p1 : ¬ (500 : Int) < (y.tok.t.size : Int) + (y.tok.u.size : Int) := by omega
        have HS2 : Hid (∀ x ∈ l.take (k + 1), x.tok.t.size + x.tok.u.size ≤ 500) := Lib.hid (fun x hx => by
          rw [HT.out] at hx
          rcases List.mem_append.1 hx with hx | hx
          · exact HS.out x hx
          · rw [List.mem_singleton.1 hx]; exact hs)
        clear hs
        go_wp2_with fail
        go_roundw
        case rel => exact ⟨k + 1, by omega, by go_num, HS2, hb1⟩
        case measure => simp [intOf]; omega
      · have p1 : (500 : Int) < (y.tok.t.size : Int) + (y.tok.u.size : Int) := by omega
        clear hs
        go_wp2_with fail
        go_ret
        exact GreatB.mk _ (fun h => by cases h) hb1
    · have hke : k = l.length := by omega
      have q1 : ¬ (k : Int) < (l.length : Int) := by omega
      have HS2 : Hid (∀ x ∈ l, x.tok.t.size + x.tok.u.size ≤ 500) := Lib.hid (fun x hx => HS.out x (by rw [hke, List.take_length]; exact hx))
      clear hke
      go_wp2_with fail
      refine (Deep_any n _ _ l _ (HD.out.next hb)).mono ?_
      rintro e w2 ⟨b, rfl, hb2⟩
      have hB2 := bNext hb hb2
      cases b with
      | true =>
        go_wp2_with fail
        go_ret
        exact GreatB.mk _ (fun _ => HS2.out) hB2
      | false =>
        go_wp2_with fail
        refine (Count_any n _ _ l (HD.out.next hB2)).mono ?_
        rintro e w3 ⟨c, rfl, hb3⟩
        go_wp2_with fail
        go_ret
        exact GreatB.mk _ (fun _ => HS2.out) (bNext hB2 hb3)
end Go.Proofs.YtpadcjcoafidgaaGreatDoor
/-! gouachelaw16.same; short.All, gouacheref16.All. -/
namespace Go.Proofs.YtpadcjcoafidgaaGreatDoor
open Go.RowKit

/-- A declaration. -/
structure DeclT where
  name : ByteArray
  a : Option Addr
  c : Nat
  l : List Val
  imp : Bool
def DeclT.row (d : DeclT) : List Value := [.string d.name, .slice d.a d.l.length d.c, .bool d.imp]
/-- The declarations that a slice holds. -/
def Ds (w : World) (v : Value) (ds : List DeclT) : Prop :=
  ∃ a cap, v = .slice a ds.length cap ∧ ds.length ≤ 9223372036854775807 ∧ (ds ≠ [] → ∃ b off, a = some ⟨b, off, none⟩ ∧ b < w.heap.size ∧ ∀ (i : Nat) (hi : i < ds.length) (j : Nat) (x : Value), ds[i].row[j]? = some x → w.cell? ⟨b, off + i * 3 + j, none⟩ = some x)
theorem Ds.next {w w' : World} {v : Value} {ds : List DeclT} (h : Ds w v ds) (hb : Below w.heap.size w w') : Ds w' v ds := by
  obtain ⟨a, cap, hv, hl, hr⟩ := h
  refine ⟨a, cap, hv, hl, fun hne => ?_⟩
  obtain ⟨b, off, ha, hlt, hc⟩ := hr hne
  exact ⟨b, off, ha, Nat.lt_of_lt_of_le hlt hb.size, fun i hi j x hx => (hb.cell (p := ⟨b, _, none⟩) hlt).trans (hc i hi j x hx)⟩
theorem Ds.at {w : World} {b off : Nat} {ds : List DeclT} (hc : ∀ (i : Nat) (hi : i < ds.length) (j : Nat) (x : Value), ds[i].row[j]? = some x → w.cell? ⟨b, off + i * 3 + j, none⟩ = some x) (i : Nat) (hi : i < ds.length) :
    w.cell? ⟨b, off + i * 3, none⟩ = some (.string ds[i].name) ∧ w.cell? ⟨b, off + i * 3 + 1, none⟩ = some (.slice ds[i].a ds[i].l.length ds[i].c) ∧ w.cell? ⟨b, off + i * 3 + 2, none⟩ = some (.bool ds[i].imp) :=
  ⟨hc i hi 0 _ rfl, hc i hi 1 _ rfl, hc i hi 2 _ rfl⟩
theorem flatten_len {m : Nat} : ∀ (rows : List (List Value)), (∀ r ∈ rows, r.length = m) → rows.flatten.length = rows.length * m
  | [], _ => by simp
  | r :: rows, h => by
    rw [List.flatten_cons, List.length_append, h r (List.mem_cons_self ..), flatten_len rows (fun y hy => h y (List.mem_cons_of_mem _ hy)), List.length_cons, Nat.succ_mul]
    omega
theorem flatten_at {m : Nat} (hm : 0 < m) : ∀ (rows : List (List Value)) (j : Nat) (x : Value), (∀ r ∈ rows, r.length = m) → rows.flatten[j]? = some x → (rows[j / m]?.getD [])[j % m]? = some x
  | [], j, x, _, h => by simp at h
  | r :: rows, j, x, hr, h => by
    have hl := hr r (List.mem_cons_self ..)
    rw [List.flatten_cons] at h
    by_cases hj : j < m
    · rw [List.getElem?_append_left (by omega)] at h
      rw [Nat.div_eq_of_lt hj, Nat.mod_eq_of_lt hj]
      exact h
    · rw [List.getElem?_append_right (by omega), hl] at h
      have ih := flatten_at hm rows (j - m) x (fun y hy => hr y (List.mem_cons_of_mem _ hy)) h
      have h1 : j / m = (j - m) / m + 1 := by rw [← Nat.add_div_right _ hm, Nat.sub_add_cancel (by omega)]
      have h2 : j % m = (j - m) % m := by rw [← Nat.add_mod_right (j - m) m, Nat.sub_add_cancel (by omega)]
      rw [h1, h2, List.getElem?_cons_succ]
      exact ih
/-- 'append(out, rows...)': the call's own rows, and any other ones. -/
theorem wpList_append_rows {P : Program} {w : World} {ops : Array Oper} {rest : List Oper} {o : Oper} {a : Act} {Q : Exit → Act → World → Prop} (hgd : o.guard = none) (s x : Operand) (t e : TypeId)
    (ho : o.op = .call { callee := .builtin .append, args := #[s, x], argTypes := #[t, t] })
    (base m bytes : Nat) (z : Value) (ht : P.underlying t = some (.slice e)) (hinfo : (P.info? e).map (fun i => (i.zero, i.size, i.bytes)) = some (some z, m, bytes)) (hzs : z.cells.size = m) (hm : 0 < m)
    (v : Value) (rows : List (List Value)) (hs : a.eval s = v) (hown : w.ownsRow base e m v rows.length rows.flatten)
    (X : Value) (r2 : List (List Value)) (B : Nat) (hx : a.eval x = X) (hX : Rws B w m X r2) (hr : ∀ r ∈ r2, r.length = m) (h1 : ∀ u ∈ r2.flatten, u.oneCell' = true)
    (hlen : (rows.length + r2.length) * bytes ≤ 140737488355328) (hby : 0 < bytes) (hbase : base ≤ w.heap.size)
    (h : ∀ v' w', w'.ownsRow base e m v' (rows ++ r2).length (rows ++ r2).flatten → w.grownBy w' v.ownBlock → wpList P ops Q rest (a.put o.dst v') w') : wpList P ops Q (o :: rest) a w := by
  obtain ⟨i0, hi, hz0, hz1, hz2⟩ := info_parts hinfo
  have hml : rows.length + r2.length ≤ maxLen := by
    have := Nat.le_trans (Nat.le_mul_of_pos_right (rows.length + r2.length) hby) hlen
    unfold maxLen
    omega
  obtain ⟨ad, cap, rfl, -, hc⟩ := hX
  cases ad with
  | none =>
    have hr0 : r2 = [] := by
      cases r2 with
      | nil => rfl
      | cons y l =>
        obtain ⟨b, off, ha, _⟩ := hc (by simp)
        cases ha
    subst hr0
    rw [List.append_nil] at h
    have hv : ∃ b n c, v = .slice b n c ∧ n ≤ c := by
      obtain ⟨_, ⟨hv, h0⟩ | ⟨g, cap, cur, hv, hg, hh, hcap, hmax, hsz, htake⟩⟩ := hown
      · exact ⟨_, _, _, hv, Nat.le_refl _⟩
      · exact ⟨_, _, _, hv, hcap⟩
    obtain ⟨vb, vn, vc, rfl, hle⟩ := hv
    refine wpList_plain hgd fun K hK => ?_
    have hrun := run_append_nothing (P := P) w t t o.type e i0 ht hi vb vn vc hle _ (Src.ofNil (size := i0.size) w ht cap)
    unfold Oper.wp
    simp only [List.length_nil] at hx
    simp [execOp, ho, resolve, invoke, builtin, hs, hx, hrun, Result.andThen]
    exact hK _ _ (h _ _ hown ⟨rfl, rfl, rfl, Nat.le_refl _, fun _ _ _ => rfl⟩)
  | some ad =>
    refine wpList_append_own w hgd s x t ho base e i0 z m bytes ht hi hz0 hz1 hz2 hzs hm v rows.length _ hs hown ad r2.length cap r2.flatten hx (flatten_len r2 hr) (fun j u hu => ?_) h1 hml hlen hbase (fun v' w' ho' hg' _ => h v' w' (by rw [List.length_append, List.flatten_append]; exact ho') hg')
    have hne : r2 ≠ [] := by intro e; subst e; simp at hu
    obtain ⟨b, off, ha, -, -, hcc⟩ := hc hne
    cases ha
    have h2 := hcc (j / m) (j % m) u (flatten_at hm r2 j u hr hu)
    have hadd : (⟨b, off, none⟩ : Addr).add j = ⟨b, off + j, none⟩ := by unfold Addr.add; split <;> simp_all
    rw [hadd]
    rw [show off + j / m * m + j % m = off + j by rw [Nat.add_assoc, Nat.div_add_mod' j m]] at h2
    exact h2
theorem strs_refl (a : ByteArray) : (a.toList == a.toList) = true := by simp
/-- The longhands of all of them. -/
def allA (ds : List DeclT) : List LongT := ds.flatMap fun d => expandA d.name d.l d.imp
theorem allA_snoc (ds : List DeclT) (k : Nat) (h : k < ds.length) : (allA (ds.take (k + 1))).map LongT.row = (allA (ds.take k)).map LongT.row ++ (expandA ds[k].name ds[k].l ds[k].imp).map LongT.row := by
  unfold allA
  rw [List.take_succ_eq_append_getElem h, List.flatMap_append, List.map_append]
  simp
theorem expandA_len (name : ByteArray) (l : List Val) (imp : Bool) : (expandA name l imp).length ≤ 4 := by
  unfold expandA
  split
  · split <;> simp
  · have h1 := spreadX_len name (longsOf name) l
    have h2 := (longsOf_len name).1
    rw [longRows_len2 _ _ _ h1]
    omega
theorem allA_len : ∀ (ds : List DeclT), (allA ds).length ≤ ds.length * 4
  | [] => Nat.le_refl _
  | d :: ds => by
    have h1 := expandA_len d.name d.l d.imp
    have h2 := allA_len ds
    unfold allA at h2 ⊢
    rw [List.flatMap_cons, List.length_append, List.length_cons]
    omega
theorem rows_one (l : List LongT) : ∀ u ∈ (l.map LongT.row).flatten, u.oneCell' = true := by
  intro u hu
  obtain ⟨r, hr, hur⟩ := List.mem_flatten.1 hu
  obtain ⟨x, -, rfl⟩ := List.mem_map.1 hr
  exact x.row_one u hur
set_option maxRecDepth 100000 in
set_option maxHeartbeats 4000000 in
theorem same_rows (w : World) (av bv : Value) (B1 B2 : Nat) (l : List LongT) (ha : Rws B1 w 3 av (l.map LongT.row)) (hb : Rws B2 w 3 bv (l.map LongT.row)) (hl : l.length ≤ 1000) :
    Calls Tryz.prog 33 #[av, bv] w fun e w' => e = .returned (.bool true) ∧ Below w.heap.size w w' := by
  obtain ⟨a1, c1, rfl, -, hr1⟩ := ha
  obtain ⟨a2, c2, rfl, -, hr2⟩ := hb
  have H1 := Lib.hid hr1
  have H2 := Lib.hid hr2
  rw [List.length_map]
  clear hr1 hr2
  go_enter Tryz.func33, Tryz.ntmps33
  go_wp2_with fail
  go_loopw [5, 13] (fun _ iv wr => ∃ k : Nat, k ≤ l.length ∧ iv = .int .i64 k ∧ Below w.heap.size w wr) (fun _ iv _ => l.length - (intOf iv).toNat)
  case atStart => exact ⟨0, by omega, rfl, Below.refl _ _⟩
  case round =>
    obtain ⟨k, hk, rfl, hb⟩ := hrel
    by_cases hlt : k < l.length
    · have hne : l.map LongT.row ≠ [] := by intro e; rw [List.map_eq_nil_iff.1 e] at hlt; simp at hlt
      obtain ⟨b1, o1, rfl, -, hb1, hc1⟩ := H1.out hne
      obtain ⟨b2, o2, rfl, -, hb2, hc2⟩ := H2.out hne
      have hg : ((l.map LongT.row)[k]?.getD []) = LongT.row l[k] := by rw [List.getElem?_map, List.getElem?_eq_getElem hlt]; rfl
      have c1 := fun j x hx => (hb.cell (p := ⟨b1, o1 + k * 3 + j, none⟩) hb1).trans (hc1 k j x (by rw [hg]; exact hx))
      have c2 := fun j x hx => (hb.cell (p := ⟨b2, o2 + k * 3 + j, none⟩) hb2).trans (hc2 k j x (by rw [hg]; exact hx))
      obtain ⟨⟨y, z, i⟩, hy⟩ : ∃ y, l[k] = y := ⟨_, rfl⟩
      rw [hy] at c1 c2
      have x0 : wr.cell? ⟨b1, o1 + k * 3, none⟩ = some (.string y) := c1 0 _ rfl
      have x1 : wr.cell? ⟨b1, o1 + k * 3 + 1, none⟩ = some (.string z) := c1 1 _ rfl
      have x2 : wr.cell? ⟨b1, o1 + k * 3 + 2, none⟩ = some (.bool i) := c1 2 _ rfl
      have y0 : wr.cell? ⟨b2, o2 + k * 3, none⟩ = some (.string y) := c2 0 _ rfl
      have y1 : wr.cell? ⟨b2, o2 + k * 3 + 1, none⟩ = some (.string z) := c2 1 _ rfl
      have y2 : wr.cell? ⟨b2, o2 + k * 3 + 2, none⟩ = some (.bool i) := c2 2 _ rfl
      have e1 := strs_refl y
      have e2 := strs_refl z
      have p0 : (0 : Int) ≤ (k : Int) := by omega
      have p1 : (k : Int) < (l.length : Int) := by omega
      clear hc1 hc2 hy hg c1 c2 hne
      go_wp2_with fail
      go_quiet (fail)
      go_wp2_with fail
      go_roundw
      case rel => exact ⟨k + 1, by omega, by go_num, bDrew hb _⟩
      case measure => simp [intOf]; omega
    · have p1 : ¬ (k : Int) < (l.length : Int) := by omega
      go_wp2_with fail
      go_ret
      exact ⟨rfl, hb⟩
set_option maxRecDepth 100000 in
set_option maxHeartbeats 4000000 in
theorem ShortAll_any (w : World) (hB : Base16 w) (v : Value) (ds : List DeclT) (h : Ds w v ds) (hn : ds.length ≤ 40) (hv : ∀ d ∈ ds, Vs w (.slice d.a d.l.length d.c) d.l ∧ ∀ x ∈ d.l, x.fits) :
    Calls Tryz.prog 35 #[v] w fun e w' => ∃ V, e = .returned V ∧ Rws w.heap.size w' 3 V ((allA ds).map LongT.row) ∧ Below w.heap.size w w' := by
  obtain ⟨a, cap, rfl, -, hr⟩ := h
  have HR := Lib.hid hr
  have HV := Lib.hid hv
  have HB := Lib.hid hB
  clear hB
  clear hr hv
  go_enter Tryz.func35, Tryz.ntmps35
  go_wp2_with fail
  go_loopw [3, 5, 8] (fun out _ iv wr => ∃ k : Nat, k ≤ ds.length ∧ iv = .int .i64 k ∧ wr.ownsRow w.heap.size 52 3 out ((allA (ds.take k)).map LongT.row).length ((allA (ds.take k)).map LongT.row).flatten ∧ Below w.heap.size w wr)
    (fun _ _ iv _ => ds.length - (intOf iv).toNat)
  case atStart => exact ⟨0, by omega, rfl, ⟨rfl, .inl ⟨rfl, rfl⟩⟩, Below.refl _ _⟩
  case round =>
    obtain ⟨k, hk, rfl, hown, hb⟩ := hrel
    by_cases hlt : k < ds.length
    · have hne : ds ≠ [] := by intro e; rw [e] at hlt; simp at hlt
      obtain ⟨b, off, rfl, hbl, hc⟩ := HR.out hne
      obtain ⟨x0, x1, x2⟩ := Ds.at (fun i hi j x hx => (hb.cell (p := ⟨b, _, none⟩) hbl).trans (hc i hi j x hx)) k hlt
      obtain ⟨hvs, hfx⟩ := HV.out _ (List.getElem_mem hlt)
      have hsn := allA_snoc ds k hlt
      have hal := allA_len (ds.take k)
      rw [List.length_take] at hal
      obtain ⟨⟨name, da, dc, l, imp⟩, hd⟩ : ∃ d, ds[k] = d := ⟨_, rfl⟩
      rw [hd] at x0 x1 x2 hvs hfx hsn
      have HSN := Lib.hid hsn
      have hel := expandA_len name l imp
      have hb5 := hb.trans ((bAlloc1 wr (.cells #[.string name, .slice da l.length dc, .bool imp] 48)).mono hb.size)
      have HVS := Lib.hid (hvs.next hb5)
      have HW := Lib.hid (HB.out.next hb5)
      have p0 : (0 : Int) ≤ (k : Int) := by omega
      have p1 : (k : Int) < (ds.length : Int) := by omega
      have hszw := hb5.size
      have hown5 := hown.alloc (.cells #[.string name, .slice da l.length dc, .bool imp] 48)
      clear hc hd hsn hvs hne
      go_wp2_with fail
      refine (Expand_any _ HW.out name _ l imp HVS.out hfx _ _ _ rfl).mono ?_
      rintro e w6 ⟨V6, rfl, hr6, hb6⟩
      have hown6 := ownsRow_below hown5 hb6 (Nat.le_refl _)
      have hb26 := hb5.trans (hb6.mono hszw)
      have hsz6 := hb26.size
      clear hown5 hown x0 x1 x2 hb hb5
      go_wp2_with (at_builtin; refine wpList_append_rows rfl _ _ 49 52 rfl w.heap.size 3 40 _ Tryz.underlying49 infoLong rfl (by decide) _ ((allA (ds.take k)).map LongT.row) rfl hown6 V6 ((expandA name l imp).map LongT.row) _ rfl hr6 (longRows_len _) (rows_one _) (by rw [List.length_map, List.length_map]; omega) (by decide) hsz6 ?_; intro v' w7 hown7 hgrow)
      go_roundw
      case rel => exact ⟨k + 1, by omega, by go_num, by rw [HSN.out]; exact hown7, hb26.grown hgrow hsz6 (fun j e => (hown6.lt j e).1)⟩
      case measure => simp [intOf]; omega
    · have hke : k = ds.length := by omega
      have p1 : ¬ (k : Int) < (ds.length : Int) := by omega
      rw [List.take_of_length_le (by omega)] at hown
      clear hke
      go_wp2_with fail
      go_ret
      exact ⟨_, rfl, Rws.of_owns hown rfl rfl (longRows_len _), hb⟩
set_option maxRecDepth 100000 in
set_option maxHeartbeats 4000000 in
theorem RefShortAll_any (w : World) (v : Value) (ds : List DeclT) (h : Ds w v ds) (hn : ds.length ≤ 40) (hv : ∀ d ∈ ds, Vs w (.slice d.a d.l.length d.c) d.l ∧ ∀ x ∈ d.l, x.fits) :
    Calls Tryz.prog 36 #[v] w fun e w' => ∃ V, e = .returned V ∧ Rws w.heap.size w' 3 V ((allA ds).map LongT.row) ∧ Below w.heap.size w w' := by
  obtain ⟨a, cap, rfl, -, hr⟩ := h
  have HR := Lib.hid hr
  have HV := Lib.hid hv
  clear hr hv
  go_enter Tryz.func36, Tryz.ntmps36
  go_wp2_with fail
  go_loopw [3, 5, 8] (fun out _ iv wr => ∃ k : Nat, k ≤ ds.length ∧ iv = .int .i64 k ∧ wr.ownsRow w.heap.size 115 3 out ((allA (ds.take k)).map LongT.row).length ((allA (ds.take k)).map LongT.row).flatten ∧ Below w.heap.size w wr)
    (fun _ _ iv _ => ds.length - (intOf iv).toNat)
  case atStart => exact ⟨0, by omega, rfl, ⟨rfl, .inl ⟨rfl, rfl⟩⟩, Below.refl _ _⟩
  case round =>
    obtain ⟨k, hk, rfl, hown, hb⟩ := hrel
    by_cases hlt : k < ds.length
    · have hne : ds ≠ [] := by intro e; rw [e] at hlt; simp at hlt
      obtain ⟨b, off, rfl, hbl, hc⟩ := HR.out hne
      obtain ⟨x0, x1, x2⟩ := Ds.at (fun i hi j x hx => (hb.cell (p := ⟨b, _, none⟩) hbl).trans (hc i hi j x hx)) k hlt
      obtain ⟨hvs, hfx⟩ := HV.out _ (List.getElem_mem hlt)
      have hsn := allA_snoc ds k hlt
      have hal := allA_len (ds.take k)
      rw [List.length_take] at hal
      obtain ⟨⟨name, da, dc, l, imp⟩, hd⟩ : ∃ d, ds[k] = d := ⟨_, rfl⟩
      rw [hd] at x0 x1 x2 hvs hfx hsn
      have HSN := Lib.hid hsn
      have hel := expandA_len name l imp
      have hb5 := hb.trans ((bAlloc1 wr (.cells #[.string name, .slice da l.length dc, .bool imp] 48)).mono hb.size)
      have HVS := Lib.hid (hvs.next hb5)
      have p0 : (0 : Int) ≤ (k : Int) := by omega
      have p1 : (k : Int) < (ds.length : Int) := by omega
      have hszw := hb5.size
      have hown5 := hown.alloc (.cells #[.string name, .slice da l.length dc, .bool imp] 48)
      clear hc hd hsn hvs hne
      go_wp2_with fail
      refine (RefExpand_any _ name _ l imp HVS.out hfx _ _ _ rfl).mono ?_
      rintro e w6 ⟨V6, rfl, hr6, hb6⟩
      have hown6 := ownsRow_below hown5 hb6 (Nat.le_refl _)
      have hb26 := hb5.trans (hb6.mono hszw)
      have hsz6 := hb26.size
      clear hown5 hown x0 x1 x2 hb hb5
      go_wp2_with (at_builtin; refine wpList_append_rows rfl _ _ 65 115 rfl w.heap.size 3 40 _ Tryz.underlying65 infoRefLong rfl (by decide) _ ((allA (ds.take k)).map LongT.row) rfl hown6 V6 ((expandA name l imp).map LongT.row) _ rfl hr6 (longRows_len _) (rows_one _) (by rw [List.length_map, List.length_map]; omega) (by decide) hsz6 ?_; intro v' w7 hown7 hgrow)
      go_roundw
      case rel => exact ⟨k + 1, by omega, by go_num, by rw [HSN.out]; exact hown7, hb26.grown hgrow hsz6 (fun j e => (hown6.lt j e).1)⟩
      case measure => simp [intOf]; omega
    · have hke : k = ds.length := by omega
      have p1 : ¬ (k : Int) < (ds.length : Int) := by omega
      rw [List.take_of_length_le (by omega)] at hown
      clear hke
      go_wp2_with fail
      go_ret
      exact ⟨_, rfl, Rws.of_owns hown rfl rfl (longRows_len _), hb⟩
end Go.Proofs.YtpadcjcoafidgaaGreatDoor
/-! The walk of gouachelaw16.ShortExpands. -/
namespace Go.Proofs.YtpadcjcoafidgaaGreatDoor
open Go.RowKit

set_option maxRecDepth 100000 in
set_option maxHeartbeats 16000000 in
theorem shortExpands_walk (v : Value) (ds : List DeclT) (w : World) (h : Ds w v ds) (hv : ∀ d ∈ ds, d.name.size ≤ 281474976710656 ∧ (∃ m, VD w m (.slice d.a d.l.length d.c) d.l) ∧ ∀ x ∈ d.l, x.tok.t.size ≤ 281474976710656 ∧ x.tok.u.size ≤ 281474976710656) (hB : Base16 w) :
    Calls Tryz.prog 9 #[v] w fun e w' => e = .returned (.bool true) ∧ Below w.heap.size w w' := by
  have HB := Lib.hid hB
  have HD := Lib.hid h
  have HV := Lib.hid hv
  obtain ⟨a, cap, rfl, hmax, hr⟩ := h
  have HR := Lib.hid hr
  clear hB hv hr
  by_cases hn : 40 < ds.length
  · have q : (40 : Int) < (ds.length : Int) := by omega
    go_enter Tryz.func9, Tryz.ntmps9
    go_wp2_with fail
    refine (lives16_any _ HB.out).mono ?_
    rintro e w1 ⟨rfl, hb1⟩
    go_wp2_with fail
    go_ret
    exact ⟨rfl, hb1⟩
  · have q : ¬ (40 : Int) < (ds.length : Int) := by omega
    go_enter Tryz.func9, Tryz.ntmps9
    go_wp2_with fail
    go_loopw [4, 11] (fun _ iv wr => ∃ k : Nat, k ≤ ds.length ∧ iv = .int .i64 k ∧ Hid (∀ i (h : i < ds.length), i < k → ∀ x ∈ ds[i].l, x.fits) ∧ Below w.heap.size w wr)
      (fun _ iv _ => ds.length - (intOf iv).toNat)
    case atStart => exact ⟨0, by omega, rfl, Lib.hid (fun i _ hi => by omega), Below.refl _ _⟩
    case round =>
      obtain ⟨k, hk, rfl, HP, hb⟩ := hrel
      by_cases hlt : k < ds.length
      · have hne : ds ≠ [] := by intro e; rw [e] at hlt; simp at hlt
        obtain ⟨b, off, rfl, hbl, hc⟩ := HR.out hne
        obtain ⟨x0, x1, x2⟩ := Ds.at (fun i hi j x hx => (hb.cell (p := ⟨b, _, none⟩) hbl).trans (hc i hi j x hx)) k hlt
        obtain ⟨hsn, ⟨m, hvd⟩, hsz⟩ := HV.out _ (List.getElem_mem hlt)
        obtain ⟨d, hd⟩ : ∃ d, ds[k] = d := ⟨_, rfl⟩
        have HDD := Lib.hid hd
        obtain ⟨name, da, dc, l, imp⟩ := d
        rw [hd] at x0 x1 x2 hvd hsz hsn
        have hbx := bAlloc1 wr (.cells #[.string name, .slice da l.length dc, .bool imp] 48)
        have hb5 := hb.trans (hbx.mono hb.size)
        have HVD := Lib.hid (hvd.next hb5)
        have HSZ := Lib.hid hsz
        have HW := Lib.hid (HB.out.next hb5)
        have hO := Own.new wr #[.string name, .slice da l.length dc, .bool imp] 48
        have p0 : (0 : Int) ≤ (k : Int) := by omega
        have p1 : (k : Int) < (ds.length : Int) := by omega
        have hsz5 := hb5.size
        clear hc hd hvd hsz hne hbx
        by_cases hnm : 500 < name.size
        · have q2 : (500 : Int) < (name.size : Int) := by omega
          go_wp2_with fail
          refine (lives16_any _ HW.out).mono ?_
          rintro e w6 ⟨rfl, hb6⟩
          go_wp2_with fail
          go_ret
          exact ⟨rfl, hb5.trans (hb6.mono hsz5)⟩
        · have q2 : ¬ (500 : Int) < (name.size : Int) := by omega
          go_wp2_with fail
          refine (great16_any m _ _ l HVD.out HSZ.out).mono ?_
          rintro e w6 ⟨bb, rfl, hs, hb6⟩
          have hb26 := hb5.trans (hb6.mono hsz5)
          have hO6 := hO.next hb6
          have HW6 := Lib.hid (HW.out.next hb6)
          have hv6 := HVD.out.vs.next hb6
          have hsz6 := hb26.size
          cases bb with
          | true =>
            clear x0 x1 x2
            go_wp2_with fail
            refine (lives16_any _ HW6.out).mono ?_
            rintro e w7 ⟨rfl, hb7⟩
            go_wp2_with fail
            go_ret
            exact ⟨rfl, hb26.trans (hb7.mono hsz6)⟩
          | false =>
            have hf : ∀ x ∈ l, x.fits := fun x hx => by
              have := hs rfl x hx
              exact ⟨by omega, by omega⟩
            have HP2 : Hid (∀ i (h : i < ds.length), i < k + 1 → ∀ x ∈ ds[i].l, x.fits) := Lib.hid (fun i hi hik => by
              by_cases he : i = k
              · subst he; rw [HDD.out]; exact hf
              · exact HP.out i hi (by omega))
            have HE1 : Hid (∀ W, Below w6.heap.size w6 W → Calls Tryz.prog 25 #[.agg #[.string name, .slice da l.length dc, .bool imp]] W fun e w' => ∃ V, e = .returned V ∧ Rws W.heap.size w' 3 V ((expandA name l imp).map LongT.row) ∧ Below W.heap.size W w') := Lib.hid (fun W hW => Expand_any W (HW6.out.next hW) name _ l imp (hv6.next hW) hf _ _ _ rfl)
            have HE2 : Hid (∀ W, Below w6.heap.size w6 W → Calls Tryz.prog 34 #[.agg #[.string name, .slice da l.length dc, .bool imp]] W fun e w' => ∃ V, e = .returned V ∧ Rws W.heap.size w' 3 V ((expandA name l imp).map LongT.row) ∧ Below W.heap.size W w') := Lib.hid (fun W hW => RefExpand_any W name _ l imp (hv6.next hW) hf _ _ _ rfl)
            have hel := expandA_len name l imp
            obtain ⟨E, hE⟩ : ∃ E, expandA name l imp = E := ⟨_, rfl⟩
            rw [hE] at HE1 HE2 hel
            have HS : Hid (∀ W av bv B1 B2, Rws B1 W 3 av (E.map LongT.row) → Rws B2 W 3 bv (E.map LongT.row) → Calls Tryz.prog 33 #[av, bv] W fun e w' => e = .returned (.bool true) ∧ Below W.heap.size W w') := Lib.hid (fun W av bv B1 B2 h1 h2 => same_rows W av bv B1 B2 E h1 h2 (by omega))
            obtain ⟨N, hN⟩ : ∃ N, wr.heap.size = N := ⟨_, rfl⟩
            have z0 : w6.cell? ⟨N, 0, none⟩ = some (.string name) := by rw [← hN]; exact hO6.m 0
            have z1 : w6.cell? ⟨N, 0 + 1, none⟩ = some (.slice da l.length dc) := by rw [← hN]; exact hO6.m 1
            have z2 : w6.cell? ⟨N, 0 + 2, none⟩ = some (.bool imp) := by rw [← hN]; exact hO6.m 2
            clear x0 x1 x2 hE hf hs hO hO6 hv6 hb6 hb5 hsz5 hb
            go_wp2_with fail
            clear hN
            go_region_held3 (fun w' => w'.cell? ⟨N, 0, none⟩ = some (.string name) ∧ w'.cell? ⟨N, 0 + 1, none⟩ = some (.slice da l.length dc) ∧ w'.cell? ⟨N, 0 + 2, none⟩ = some (.bool imp)) (go_keep)
              (first
                | (have _g := hb8; go_at_call 25; ((with_reducible refine (HE1.out _ (bNext (below_drew' w6) hb8)).mono ?_); rintro e w7 ⟨V7, rfl, hr7, hb7⟩; have hr78 := hr7; have hr87 := hr8.below hb7 (Nat.le_refl _); have hb9 := bNext (bNext (below_drew' w6) hb8) hb7; have z07 := cell_later hb7 z08; have z17 := cell_later hb7 z18; have z27 := cell_later hb7 z28))
                | (go_at_call 25; ((with_reducible refine (HE1.out _ (below_drew' w6)).mono ?_); rintro e w7 ⟨V7, rfl, hr7, hb7⟩; have z07 := cell_later ((below_drew' w6).trans hb7) z0; have z17 := cell_later ((below_drew' w6).trans hb7) z1; have z27 := cell_later ((below_drew' w6).trans hb7) z2))
                | (have _g := hb7; go_at_call 34; ((with_reducible refine (HE2.out _ (bNext (below_drew' w6) hb7)).mono ?_); rintro e w8 ⟨V8, rfl, hr8, hb8⟩; have hr87 := hr8; have hr78 := hr7.below hb8 (Nat.le_refl _); have hb9 := bNext (bNext (below_drew' w6) hb7) hb8; have z08 := cell_later hb8 z07; have z18 := cell_later hb8 z17; have z28 := cell_later hb8 z27))
                | (go_at_call 34; ((with_reducible refine (HE2.out _ (below_drew' w6)).mono ?_); rintro e w8 ⟨V8, rfl, hr8, hb8⟩; have z08 := cell_later ((below_drew' w6).trans hb8) z0; have z18 := cell_later ((below_drew' w6).trans hb8) z1; have z28 := cell_later ((below_drew' w6).trans hb8) z2))
                | (go_at_call 33; ((with_reducible refine (HS.out _ _ _ _ _ hr78 hr87).mono ?_); rintro e w10 ⟨rfl, hb10⟩; have z010 := cell_later hb10 z08; have z110 := cell_later hb10 z18; have z210 := cell_later hb10 z28)))
            all_goals
              have hb11 := hb26.trans ((bNext hb9 hb10).mono hsz6)
              clear hr7 hr8 hr78 hr87 hb9 hb10 hb7 hb8 z0 z1 z2
              go_wp2_with fail
              go_roundw
              case rel => exact ⟨k + 1, by omega, by go_num, HP2, hb11⟩
              case measure => simp [intOf]; omega
      · have hke : k = ds.length := by omega
        have p1 : ¬ (k : Int) < (ds.length : Int) := by omega
        have HF : Hid (∀ d ∈ ds, ∀ x ∈ d.l, x.fits) := Lib.hid (fun d hd => by
          obtain ⟨i, hi, rfl⟩ := List.getElem_of_mem hd
          exact HP.out i hi (by omega))
        have hb1 := hb
        clear hke HP
        go_wp2_with fail
        refine (ShortAll_any wr (HB.out.next hb1) _ ds (HD.out.next hb1) (by omega) (fun d hd => ?_)).mono ?_
        · obtain ⟨-, ⟨m, hvd⟩, -⟩ := HV.out d hd
          exact ⟨(hvd.next hb1).vs, HF.out d hd⟩
        rintro e w2 ⟨V2, rfl, hr2, hb2⟩
        have hb12 := hb1.trans (hb2.mono hb1.size)
        go_wp2_with fail
        refine (RefShortAll_any w2 _ ds (HD.out.next hb12) (by omega) (fun d hd => ?_)).mono ?_
        · obtain ⟨-, ⟨m, hvd⟩, -⟩ := HV.out d hd
          exact ⟨(hvd.next hb12).vs, HF.out d hd⟩
        rintro e w3 ⟨V3, rfl, hr3, hb3⟩
        have hb13 := hb12.trans (hb3.mono hb12.size)
        have hr23 := hr2.below hb3 (Nat.le_refl _)
        have hal := allA_len ds
        go_wp2_with fail
        refine (same_rows w3 _ _ _ _ (allA ds) hr23 hr3 (by omega)).mono ?_
        rintro e w4 ⟨rfl, hb4⟩
        have hb14 := hb13.trans (hb4.mono hb13.size)
        have HW4 := Lib.hid (HB.out.next hb14)
        have hsz4 := hb14.size
        clear hr2 hr3 hr23
        go_wp2_with fail
        refine (lives16_any _ HW4.out).mono ?_
        rintro e w5 ⟨rfl, hb5⟩
        go_wp2_with fail
        go_ret
        exact ⟨rfl, hb14.trans (hb5.mono hsz4)⟩
end Go.Proofs.YtpadcjcoafidgaaGreatDoor
/-! What a call's arguments hold: slices and structs of the reader's data, opened into rows of cells; the reach of what was read; arguments that read as they did. Over any program. -/
namespace Go.Proofs.YtpadcjcoafidgaaGreatDoor
open Go.RowKit Go.ChangeShapes Go.WideShapes

section
variable {H : Type} {enc : TypeId × Value → H} {P : Program} {W : World} {base : Nat} {sp : Nat → Bool} {held : Bool}

theorem mapM_get {α β : Type} {f : α → Option β} : ∀ {l : List α} {r : List β}, l.mapM f = some r → ∀ (i : Nat) (a : α), l[i]? = some a → ∃ b, r[i]? = some b ∧ f a = some b
  | [], _, _, i, a, hi => by simp at hi
  | x :: l, r, h, i, a, hi => by
    rw [List.mapM_cons] at h
    simp only [bind, Option.bind_eq_some_iff, pure, Option.some.injEq] at h
    obtain ⟨b, hb, r', hr, rfl⟩ := h
    cases i with
    | zero =>
      simp only [List.getElem?_cons_zero, Option.some.injEq] at hi
      subst hi
      exact ⟨b, rfl, hb⟩
    | succ i => exact mapM_get hr i a (by simpa using hi)
theorem mapM_len {α β : Type} {f : α → Option β} : ∀ {l : List α} {r : List β}, l.mapM f = some r → r.length = l.length
  | [], r, h => by
    simp at h
    subst h
    rfl
  | x :: l, r, h => by
    rw [List.mapM_cons] at h
    simp only [bind, Option.bind_eq_some_iff, pure, Option.some.injEq] at h
    obtain ⟨b, hb, r', hr, rfl⟩ := h
    simp [mapM_len hr]
/-- A struct: its fields, one by one. -/
theorem open_fields {t : TypeId} {fs : Array Field} {fuel : Nat} {cs : List Value} {x : DataW H × List MemPlace} (ht : P.underlying t = some (.struct fs)) (h : DataW.trod enc P W base sp held fuel t cs = some x) :
    ∃ (n : Nat) (ds : List (DataW H)), fuel = n + 1 ∧ cs.length = P.cellsOf t ∧ x.1 = .agg ds ∧ ds.length = fs.toList.length ∧
      ∀ (i : Nat) (f : Field), fs.toList[i]? = some f → ∃ y, ds[i]? = some y.1 ∧ DataW.trod enc P W base sp held n f.type ((cs.drop f.offset).take (P.cellsOf f.type)) = some y := by
  cases fuel with
  | zero => simp [DataW.trod] at h
  | succ n =>
    rw [DataW.trod_step] at h
    unfold DataW.trodStep at h
    simp only [ht] at h
    split at h
    · rename_i hl
      obtain ⟨xs, hx, rfl⟩ := Option.map_eq_some_iff.1 h
      refine ⟨n, xs.map (·.1), rfl, hl, rfl, by rw [List.length_map]; exact mapM_len hx, fun i f hf => ?_⟩
      obtain ⟨y, hy, hr⟩ := mapM_get hx i f hf
      exact ⟨y, by rw [List.getElem?_map, hy]; rfl, hr⟩
    · cases h
/-- A slice: its elements' rows of cells. -/
structure Rows0 (P : Program) (W : World) (e : TypeId) (v : Value) (rows : List (List Value)) : Prop where
  shape : ∃ a cap, v = .slice a rows.length cap ∧ rows.length ≤ cap ∧
    (rows ≠ [] → ∃ b off, a = some ⟨b, off, none⟩ ∧ b < W.heap.size ∧ ∀ (i j : Nat) (u : Value), (rows[i]?.getD [])[j]? = some u → W.cell? ⟨b, off + i * P.cellsOf e + j, none⟩ = some u)
  len : ∀ r ∈ rows, r.length = P.cellsOf e
theorem spot_none {a : Addr} {n : Nat} {u : Value} (h : W.cell? (a.add n) = some u) (hn : n = 0) : a.spot = none := by
  subst hn
  unfold Addr.add at h
  rw [if_pos rfl] at h
  unfold World.cell? at h
  split at h
  · split at h
    · cases h
    · rename_i hs
      simpa using hs
  · cases h
theorem open_elems {t e : TypeId} {fuel : Nat} {cs : List Value} {x : DataW H × List MemPlace} (ht : P.underlying t = some (.slice e)) (hpos : 0 < P.cellsOf e)
    (h : DataW.trod enc P W base sp held fuel t cs = some x) :
    ∃ (n : Nat) (v : Value) (rows : List (List Value)) (ds : List (DataW H)), fuel = n + 1 ∧ cs = [v] ∧ Rows0 P W e v rows ∧ ds.length = rows.length ∧ (x.1 = .nil ∧ rows = [] ∨ ∃ rest, x.1 = .slice ds rest) ∧
      ∀ (i : Nat) (r : List Value), rows[i]? = some r → ∃ y, ds[i]? = some y.1 ∧ DataW.trod enc P W base sp held n e r = some y := by
  rcases DataW.trod_slice ht h with ⟨rfl, rfl⟩ | ⟨a, len, cap, elems, rest, n, rfl, rfl, rfl, hb, hl, hm, hlen, hel, -, -⟩
  · cases fuel with
    | zero => simp [DataW.trod] at h
    | succ n => exact ⟨n, _, [], [], rfl, rfl, ⟨⟨none, 0, rfl, Nat.le_refl _, fun h => absurd rfl h⟩, fun r hr => by cases hr⟩, rfl, .inl ⟨rfl, rfl⟩, fun i r hr => by simp at hr⟩
  · have key : ∀ i, i < len → ∃ r y, W.cells? base (a.add (i * P.cellsOf e)) (P.cellsOf e) = some r ∧ elems[i]? = some y ∧ DataW.trod enc P W base sp held n e r = some y := by
      intro i hi
      have h1 := hel i hi
      rw [List.getElem?_eq_getElem (by omega), Option.bind_eq_some_iff] at h1
      obtain ⟨r, h1, h2⟩ := h1
      exact ⟨r, _, h1, List.getElem?_eq_getElem (by omega), h2⟩
    refine ⟨n, _, (List.range len).map fun i => (W.cells? base (a.add (i * P.cellsOf e)) (P.cellsOf e)).getD [], elems.map (·.1), rfl, rfl, ⟨⟨some a, cap, by simp, by simpa using hl, fun hne => ?_⟩, ?_⟩, by simp [hlen], .inr ⟨_, rfl⟩, ?_⟩
    · have hl0 : 0 < len := by
        rcases Nat.eq_zero_or_pos len with h0 | h0
        · rw [h0] at hne; exact absurd rfl hne
        · exact h0
      obtain ⟨r0, y0, h0, -, -⟩ := key 0 hl0
      obtain ⟨_, hl1, hc⟩ := World.cells?_some h0
      have h2 := hc 0 hpos
      have hlt := World.cells?_block h0 hpos
      obtain ⟨u, hu⟩ : ∃ u, r0[0]? = some u := ⟨_, List.getElem?_eq_getElem (by omega)⟩
      rw [hu, Nat.zero_mul] at h2
      have hs : a.spot = none := by
        have e0 : a.add 0 = a := by unfold Addr.add; rw [if_pos rfl]
        rw [e0] at h2
        exact spot_none (n := 0) h2 rfl
      obtain ⟨b, off, spot⟩ := a
      simp only at hs
      subst hs
      rw [add_plain] at hlt
      refine ⟨b, off, rfl, hlt, fun i j u hu => ?_⟩
      by_cases hi : i < len
      · obtain ⟨r, y, h1, -, -⟩ := key i hi
        rw [List.getElem?_map, List.getElem?_range hi] at hu
        simp only [Option.map_some, Option.getD_some, h1] at hu
        obtain ⟨_, hl1, hc⟩ := World.cells?_some h1
        have hj : j < P.cellsOf e := by rw [← hl1]; exact (List.getElem?_eq_some_iff.1 hu).1
        have h3 := hc j hj
        rw [hu, add_plain, add_plain] at h3
        exact h3
      · rw [List.getElem?_map, List.getElem?_eq_none (show (List.range len).length ≤ i by rw [List.length_range]; omega)] at hu
        simp at hu
    · intro r hr
      obtain ⟨i, hi, rfl⟩ := List.mem_map.1 hr
      obtain ⟨r, y, h1, -, -⟩ := key i (List.mem_range.1 hi)
      rw [h1]
      exact (World.cells?_some h1).2.1
    · intro i r hr
      have hi : i < len := by
        have := (List.getElem?_eq_some_iff.1 hr).1
        simpa using this
      obtain ⟨r', y, h1, h2, h3⟩ := key i hi
      rw [List.getElem?_map, List.getElem?_range hi] at hr
      simp only [Option.map_some, h1, Option.getD_some, Option.some.injEq] at hr
      subst hr
      exact ⟨y, by rw [List.getElem?_map, h2]; rfl, h3⟩
/-- WHAT WAS READ IS WITHIN THE REACH. -/
def Small (P : Program) (t : TypeId) (d : DataW H) : Prop := ∀ n ∈ d.weights P t, n ≤ reachBytes
theorem small_arg {ts : List TypeId} {ds : List (DataW H)} (h : (DataW.weightsEach P ts ds).all (· ≤ reachBytes) = true) {j : Nat} {t : TypeId} {d : DataW H} (ht : ts[j]? = some t) (hd : ds[j]? = some d) : Small P t d := by
  intro n hn
  have := List.all_eq_true.1 h _ (DataW.weights_mem_each ht hd n hn)
  simpa using this
theorem small_field {t : TypeId} {fs : Array Field} {parts : List (DataW H)} (ht : P.underlying t = some (.struct fs)) (h : Small P t (.agg parts)) {i : Nat} {f : Field} {d : DataW H} (hf : fs.toList[i]? = some f) (hd : parts[i]? = some d) : Small P f.type d := by
  intro n hn
  refine h n ?_
  simp only [DataW.weights, ht]
  exact DataW.weights_mem_each (by rw [List.getElem?_map, hf]; rfl) hd n hn
theorem small_mem {e : TypeId} : ∀ {ds : List (DataW H)} {i : Nat} {d : DataW H}, ds[i]? = some d → ∀ n ∈ d.weights P e, n ∈ DataW.weightsAll P e ds
  | [], _, _, hd, _, _ => by simp at hd
  | d0 :: ds, 0, d, hd, n, hn => by
    simp only [List.getElem?_cons_zero, Option.some.injEq] at hd
    subst hd
    simp only [DataW.weightsAll, List.mem_append]
    exact .inl hn
  | d0 :: ds, i + 1, d, hd, n, hn => by
    simp only [DataW.weightsAll, List.mem_append]
    exact .inr (small_mem (by simpa using hd) n hn)
theorem small_elem {t e : TypeId} {elems rest : List (DataW H)} (ht : P.underlying t = some (.slice e)) (h : Small P t (.slice elems rest)) {i : Nat} {d : DataW H} (hd : elems[i]? = some d) : Small P e d := by
  intro n hn
  refine h n ?_
  simp only [DataW.weights, ht, List.mem_cons, List.mem_append]
  exact .inr (.inl (small_mem hd n hn))
theorem small_len {t e : TypeId} {elems rest : List (DataW H)} (ht : P.underlying t = some (.slice e)) (h : Small P t (.slice elems rest)) : elems.length * P.bytesOf e ≤ 140737488351232 := by
  have := h ((elems.length + rest.length) * P.bytesOf e) (by simp [DataW.weights, ht])
  rw [Nat.add_mul] at this
  unfold reachBytes at this
  omega
theorem small_string {t : TypeId} {l : List UInt8} (h : Small P t (.lit (.string l) : DataW H)) : l.length ≤ 140737488351232 := by
  have := h l.length (by simp [DataW.weights])
  unfold reachBytes at this
  omega
/-- ARGUMENTS READ AS THEY DID where nothing old has turned. -/
theorem trodAll_below (hl : laidOutB P = true) {W' : World} (hb : Below W.heap.size W W') : ∀ {ts : List TypeId} {vs : List Value} {ds : List (DataW H)} {ps : List MemPlace},
    (∀ t ∈ ts, P.readableRec t = true ∧ t < P.types.size) → DataW.TrodAll enc P W 0 (fun _ => true) true ts vs ds ps → (∀ x ∈ ps, x.block < W.heap.size) →
    DataW.TrodAll enc P W' 0 (fun b => decide (b < W.heap.size)) true ts vs ds ps
  | [], vs, ds, ps, _, h, _ => by
    obtain ⟨rfl, rfl, rfl⟩ := trodAll_nil h
    exact trodAll_mk0
  | t :: ts, vs, ds, ps, hr, h, hlt => by
    obtain ⟨v, vs, d, ds, p, q, rfl, rfl, rfl, h1, h2⟩ := trodAll_cons h
    obtain ⟨r1, r2⟩ := hr t (List.mem_cons_self ..)
    exact ⟨p, q, Below.trod hl r1 r2 h1 hb (fun x hx => hlt x (List.mem_append_left _ hx)), trodAll_below hl hb (fun t ht => hr t (List.mem_cons_of_mem _ ht)) h2 (fun x hx => hlt x (List.mem_append_right _ hx)), rfl⟩
end
end Go.Proofs.YtpadcjcoafidgaaGreatDoor
/-! What the rows of this seat share: a world in which the listed variables lie as the program's text lays them. -/
namespace Go.Proofs.YtpadcjcoafidgaaGreatDoor
open Go.ChangeShapes Go.WideShapes Go.ChangeAt Go.RowKit

theorem ownKnob_none : ownKnob Tryz.prog.godebug = none := by kernel_rfl
def colourCells : List Value := (colourTbl.map fun p => [Value.string p.1, Value.string p.2]).flatten
theorem colourCells_at : ∀ i : Fin 8, colourCells[i.val * 2]? = some (.string (colourAt i.val).1) ∧ colourCells[i.val * 2 + 1]? = some (.string (colourAt i.val).2)
  | ⟨0, _⟩ => ⟨rfl, rfl⟩
  | ⟨1, _⟩ => ⟨rfl, rfl⟩
  | ⟨2, _⟩ => ⟨rfl, rfl⟩
  | ⟨3, _⟩ => ⟨rfl, rfl⟩
  | ⟨4, _⟩ => ⟨rfl, rfl⟩
  | ⟨5, _⟩ => ⟨rfl, rfl⟩
  | ⟨6, _⟩ => ⟨rfl, rfl⟩
  | ⟨7, _⟩ => ⟨rfl, rfl⟩
theorem coloursIn_of_laid {w : World} {l : List (String × DataW Unit)} (h : laidMet Tryz.prog l w) (hm : ("gouache/value.colours", Rows.laid_gouache_value_colours) ∈ l) : ColoursIn w := by
  obtain ⟨ty, fr, hh⟩ := var_of_laid h hm (g := 0) (t := 78) (by kernel_rfl) (by kernel_rfl) 5 (cs := colourCells) (by kernel_rfl)
  refine ⟨(Array.getElem?_eq_some_iff.1 hh).1, fun i hi => ?_⟩
  have := colourCells_at ⟨i, hi⟩
  simp only [World.cell?, hh]
  exact ⟨by simpa using this.1, by simpa using this.2⟩
theorem powIs_of_laid {w : World} {l : List (String × DataW Unit)} (h : laidMet Tryz.prog l w) (hm : ("internal/strconv.uint64pow10", Rows.laid_internal_strconv_uint64pow10) ∈ l) : Lib.TabIs Tryz.prog w "internal/strconv.uint64pow10" .u64 Lib.pow10Tab := by
  obtain ⟨ty, fr, hh⟩ := var_of_laid h hm (g := 4) (t := 200) (by kernel_rfl) (by kernel_rfl) 5 (cs := Lib.pow10Tab.map fun z => Value.int .u64 z) (by kernel_rfl)
  have hg : Tryz.prog.globalNamed "internal/strconv.uint64pow10" = some 4 := by kernel_rfl
  unfold Lib.TabIs World.var?
  rw [hg]
  simp [hh]
theorem base_of_laid {w : World} {l : List (String × DataW Unit)} (h : laidMet Tryz.prog l w) (hm : ("gouache/value.colours", Rows.laid_gouache_value_colours) ∈ l) (hp : ("internal/strconv.uint64pow10", Rows.laid_internal_strconv_uint64pow10) ∈ l) : Base w :=
  ⟨coloursIn_of_laid h hm, powIs_of_laid h hp⟩

/-- The cells of a variable, of its name, by the datum beside it. -/
noncomputable def cellsAs (g : Nat) (d : DataW Unit) : Array Value := ((plainAt Tryz.prog 8 (((Tryz.prog.globals[g]?).map (·.type)).getD 0) d).getD []).toArray
noncomputable def setVar (g : Nat) (d : DataW Unit) (h : Array Obj) : Array Obj := h.modify g fun
  | .cells _ t frozen => .cells (cellsAs g d) t frozen
  | o => o
/-- A world in which the listed variables lie as the program's text lays them. -/
noncomputable def laidWorld (os : Os) : World :=
  { World.holding Tryz.prog os ⟨#[], #[], []⟩ with heap := setVar 6 Rows.laid_unicode_utf8_acceptRanges (setVar 5 Rows.laid_unicode_utf8_first (setVar 2 Rows.laid_gouache_prop_shorts (setVar 0 Rows.laid_gouache_value_colours (setVar 4 Rows.laid_internal_strconv_uint64pow10 (setVar 7 Rows.laid_math_bits_deBruijn32tab (setVar 8 Rows.laid_math_bits_deBruijn64tab (setVar 1 Rows.laid_gouache_short_sides (World.holding Tryz.prog os ⟨#[], #[], []⟩).heap))))))) }
end Go.Proofs.YtpadcjcoafidgaaGreatDoor
/-! The arguments of this seat's laws, opened: texts, values with their kids, declarations; listed variables. -/
namespace Go.Proofs.YtpadcjcoafidgaaGreatDoor
open Go.RowKit Go.ChangeShapes Go.WideShapes Go.ChangeAt

section
variable {H : Type} {enc : TypeId × Value → H} {W : World} {base : Nat} {sp : Nat → Bool} {held : Bool}

theorem cells_string : Tryz.prog.cellsOf 9 = 1 := by kernel_rfl
theorem cells_val : Tryz.prog.cellsOf 26 = 6 := by kernel_rfl
theorem cells_tok : Tryz.prog.cellsOf 23 = 5 := by kernel_rfl
theorem cells_int : Tryz.prog.cellsOf 3 = 1 := by kernel_rfl
theorem cells_bool : Tryz.prog.cellsOf 4 = 1 := by kernel_rfl
theorem cells_vals : Tryz.prog.cellsOf 24 = 1 := by kernel_rfl
theorem bytes_val : Tryz.prog.bytesOf 26 = 72 := by kernel_rfl
theorem bytes_string : Tryz.prog.bytesOf 9 = 16 := by kernel_rfl
theorem laid_out : laidOutB Tryz.prog = true := by kernel_rfl
theorem trod_str1 {fuel : Nat} {v : Value} {x : DataW H × List MemPlace} (h : DataW.trod enc Tryz.prog W base sp held fuel 9 [v] = some x) : ∃ s : ByteArray, v = .string s ∧ x.1 = .lit (.string s.data.toList) := by
  obtain ⟨s, h1, rfl, -⟩ := DataW.trod_string Tryz.underlying9 h
  exact ⟨s, by simpa using h1, rfl⟩
theorem trod_int1 {fuel : Nat} {v : Value} {x : DataW H × List MemPlace} (h : DataW.trod enc Tryz.prog W base sp held fuel 3 [v] = some x) : ∃ n : Int, v = .int .i64 n := by
  obtain ⟨n, h1, -, -⟩ := DataW.trod_int Tryz.underlying3 h
  exact ⟨n, by simpa using h1⟩
theorem trod_bool1 {fuel : Nat} {v : Value} {x : DataW H × List MemPlace} (h : DataW.trod enc Tryz.prog W base sp held fuel 4 [v] = some x) : ∃ b : Bool, v = .bool b := by
  cases fuel with
  | zero => simp [DataW.trod] at h
  | succ n =>
    rw [DataW.trod_step] at h
    unfold DataW.trodStep at h
    simp only [Tryz.underlying4] at h
    split at h <;> simp_all
theorem size_toList (s : ByteArray) : s.data.toList.length = s.size := by rw [Array.length_toList]; rfl
/-- '[]string'. -/
theorem open_ss {fuel : Nat} {v : Value} {x : DataW H × List MemPlace} (h : DataW.trod enc Tryz.prog W base sp held fuel 42 [v] = some x) (hs : Small Tryz.prog 42 x.1) :
    ∃ l, Ss W v l ∧ l.length ≤ 140737488351232 ∧ ∀ s ∈ l, s.size ≤ 140737488351232 := by
  obtain ⟨n, v', rows, ds, -, e, hr, hl, hd, hx⟩ := open_elems Tryz.underlying42 (by rw [cells_string]; decide) h
  cases e
  have key : ∀ i, i < rows.length → ∃ s : ByteArray, rows[i]? = some [.string s] ∧ s.size ≤ 140737488351232 := by
    intro i hi
    obtain ⟨y, h1, h2⟩ := hx i rows[i] (List.getElem?_eq_getElem hi)
    have hlen := hr.len rows[i] (List.getElem_mem hi)
    rw [cells_string] at hlen
    obtain ⟨u, hu⟩ := List.length_eq_one_iff.1 hlen
    rw [hu] at h2
    obtain ⟨s, rfl, h3⟩ := trod_str1 h2
    refine ⟨s, by rw [List.getElem?_eq_getElem hi, hu], ?_⟩
    rcases hd with ⟨-, h0⟩ | ⟨rest, h0⟩
    · rw [h0] at hi; simp at hi
    · rw [h0] at hs
      have h4 := small_elem Tryz.underlying42 hs h1
      rw [h3] at h4
      have := small_string h4
      rwa [size_toList] at this
  obtain ⟨f, hf⟩ := Classical.axiomOfChoice (r := fun (i : Fin rows.length) (s : ByteArray) => rows[i.val]? = some [.string s] ∧ s.size ≤ 140737488351232) (fun i => key i.val i.isLt)
  have hlen : (List.ofFn f).length = rows.length := List.length_ofFn
  obtain ⟨a, cap, rfl, hcap, hc⟩ := hr.shape
  refine ⟨List.ofFn f, ⟨a, cap, by rw [hlen], by rw [hlen]; exact hcap, fun hne => ?_⟩, ?_, ?_⟩
  · obtain ⟨b, off, rfl, hb, hcell⟩ := hc (by intro e; exact hne (List.eq_nil_of_length_eq_zero (hlen.trans (by rw [e]; rfl))))
    refine ⟨b, off, rfl, hb, fun i hi => ?_⟩
    have hi' : i < rows.length := by rw [← hlen]; exact hi
    have h1 := hcell i 0 (.string (f ⟨i, hi'⟩)) (by rw [(hf ⟨i, hi'⟩).1]; rfl)
    rw [cells_string, Nat.mul_one, Nat.add_zero] at h1
    rw [h1, List.getElem_ofFn]
  · rw [hlen]
    rcases hd with ⟨-, h0⟩ | ⟨rest, h0⟩
    · rw [h0]; exact Nat.zero_le _
    · rw [h0] at hs
      have := small_len Tryz.underlying42 hs
      rw [bytes_string] at this
      omega
  · intro s hs'
    obtain ⟨i, rfl⟩ := List.mem_ofFn.1 hs'
    exact (hf i).2
set_option maxRecDepth 100000 in
theorem ss_of {r : Reach} {b0 : Nat} {v : Value} {d : DataW H} {ps : List MemPlace} (hval : Value.okWide Tryz.prog W r b0 42 v) (h : DataW.Trod enc Tryz.prog W base sp held 42 v d ps) (hs : Small Tryz.prog 42 d) : ∃ l, Ss W v l ∧ l.length ≤ 140737488351232 ∧ ∀ s ∈ l, s.size ≤ 140737488351232 := by
  obtain ⟨n, hn⟩ := h
  obtain ⟨a, len, cap, rfl⟩ := okWide_slice Tryz.underlying42 hval
  exact open_ss hn hs
theorem arr2 : Go.WideMaps.ArrKey Tryz.prog 43 3 2 := ⟨Tryz.underlying43, by kernel_rfl, cells_int, by kernel_rfl⟩
/-- A value's token is short enough. -/
def Val.Sm (x : Val) : Prop := x.tok.t.size ≤ 140737488351232 ∧ x.tok.u.size ≤ 140737488351232
theorem VD.up {w : World} : ∀ {n : Nat} {v : Value} {l : List Val}, VD w n v l → VD w (n + 1) v l
  | 0, _, _, h => h.elim
  | n + 1, v, l, ⟨h1, h2⟩ => ⟨h1, fun x hx => by
    obtain ⟨l', h⟩ := h2 x hx
    exact ⟨l', VD.up h⟩⟩
set_option maxRecDepth 100000 in
/-- A token's cells. -/
theorem open_tok {fuel : Nat} {cs : List Value} {x : DataW H × List MemPlace} (h : DataW.trod enc Tryz.prog W base sp held fuel 23 cs = some x) (hs : Small Tryz.prog 23 x.1) :
    ∃ t : Tok, cs = t.row ∧ t.t.size ≤ 140737488351232 ∧ t.u.size ≤ 140737488351232 := by
  obtain ⟨n, ds, -, hl, hx, -, hf⟩ := open_fields Tryz.underlying23 h
  rw [cells_tok] at hl
  obtain ⟨c0, c1, c2, c3, c4, rfl⟩ : ∃ a b c d e, cs = [a, b, c, d, e] := by
    match cs, hl with
    | [a, b, c, d, e], _ => exact ⟨a, b, c, d, e, rfl⟩
  rw [hx] at hs
  obtain ⟨y0, -, h0⟩ := hf 0 _ rfl
  obtain ⟨y1, d1, h1⟩ := hf 1 _ rfl
  obtain ⟨y2, d2, h2⟩ := hf 2 _ rfl
  obtain ⟨y3, -, h3⟩ := hf 3 _ rfl
  obtain ⟨y4, -, h4⟩ := hf 4 _ rfl
  simp only [cells_int, cells_string, cells_bool, List.drop_zero, List.drop_succ_cons, List.take_succ_cons, List.take_zero] at h0 h1 h2 h3 h4
  obtain ⟨k, rfl⟩ := trod_int1 h0
  obtain ⟨s1, rfl, e1⟩ := trod_str1 h1
  obtain ⟨s2, rfl, e2⟩ := trod_str1 h2
  obtain ⟨b3, rfl⟩ := trod_bool1 h3
  obtain ⟨b4, rfl⟩ := trod_bool1 h4
  have m1 := small_field Tryz.underlying23 hs (i := 1) rfl d1
  have m2 := small_field Tryz.underlying23 hs (i := 2) rfl d2
  rw [e1] at m1
  rw [e2] at m2
  have m1 := small_string m1
  have m2 := small_string m2
  rw [size_toList] at m1 m2
  exact ⟨⟨k, s1, s2, b3, b4⟩, rfl, m1, m2⟩
set_option maxRecDepth 100000 in
/-- A value's cells; '[]api.Value', to whatever depth. -/
theorem open_vals : ∀ (fuel : Nat) (v : Value) (x : DataW H × List MemPlace), DataW.trod enc Tryz.prog W base sp held fuel 24 [v] = some x → Small Tryz.prog 24 x.1 →
    ∃ l, VD W fuel v l ∧ ∀ y ∈ l, y.Sm
  | 0, _, _, h, _ => by simp [DataW.trod] at h
  | 1, v, x, h, hs => by
    obtain ⟨n, v', rows, ds, hn, e, hr, hl, hd, hx⟩ := open_elems Tryz.underlying24 (by rw [cells_val]; decide) h
    obtain rfl : n = 0 := by omega
    cases e
    have h0 : rows = [] := by
      cases rows with
      | nil => rfl
      | cons r rows =>
        obtain ⟨y, -, h2⟩ := hx 0 r rfl
        simp [DataW.trod] at h2
    subst h0
    obtain ⟨a, cap, rfl, hcap, -⟩ := hr.shape
    exact ⟨[], ⟨⟨a, cap, rfl, hcap, Nat.zero_le _, fun h => absurd rfl h⟩, fun x hx => by cases hx⟩, fun y hy => by cases hy⟩
  | fuel + 2, v, x, h, hs => by
    obtain ⟨n, v', rows, ds, hn, e, hr, hl, hd, hx⟩ := open_elems Tryz.underlying24 (by rw [cells_val]; decide) h
    obtain rfl : n = fuel + 1 := by omega
    cases e
    have key : ∀ i, i < rows.length → ∃ y : Val, rows[i]? = some y.row ∧ y.Sm ∧ ∃ l', VD W (fuel + 1) y.kids l' := by
      intro i hi
      obtain ⟨y, h1, h2⟩ := hx i rows[i] (List.getElem?_eq_getElem hi)
      have hsy : Small Tryz.prog 26 y.1 := by
        rcases hd with ⟨-, h0⟩ | ⟨rest, h0⟩
        · rw [h0] at hi; simp at hi
        · rw [h0] at hs
          exact small_elem Tryz.underlying24 hs h1
      obtain ⟨n, ds', hn, hl6, hx', -, hf⟩ := open_fields Tryz.underlying26 h2
      obtain rfl : n = fuel := by omega
      rw [cells_val] at hl6
      rw [hx'] at hsy
      obtain ⟨y0, d0, h0⟩ := hf 0 _ rfl
      obtain ⟨y1, d1, h1'⟩ := hf 1 _ rfl
      have s0 := small_field Tryz.underlying26 hsy (i := 0) rfl d0
      have s1 := small_field Tryz.underlying26 hsy (i := 1) rfl d1
      obtain ⟨c0, c1, c2, c3, c4, c5, hrow⟩ : ∃ a b c d e f, rows[i] = [a, b, c, d, e, f] := by
        generalize rows[i] = r at hl6
        match r, hl6 with
        | [a, b, c, d, e, f], _ => exact ⟨a, b, c, d, e, f, rfl⟩
      simp only [hrow, cells_tok, cells_vals, List.drop_zero, List.drop_succ_cons, List.take_succ_cons, List.take_zero] at h0 h1'
      obtain ⟨t, ht, m1, m2⟩ := open_tok h0 s0
      obtain ⟨l', hV, -⟩ := open_vals n c5 y1 h1' s1
      have hV1 := hV.vs
      obtain ⟨a, cap, e5, -⟩ := hV1
      refine ⟨⟨t, a, l'.length, cap⟩, ?_, ⟨m1, m2⟩, l', ?_⟩
      · rw [List.getElem?_eq_getElem hi, hrow, e5]
        show _ = some (t.row ++ _)
        rw [← ht]
        rfl
      · show VD W (n + 1) (.slice a l'.length cap) l'
        rw [← e5]
        exact hV.up
    obtain ⟨f, hf⟩ := Classical.axiomOfChoice (r := fun (i : Fin rows.length) (y : Val) => rows[i.val]? = some y.row ∧ y.Sm ∧ ∃ l', VD W (fuel + 1) y.kids l') (fun i => key i.val i.isLt)
    have hlen : (List.ofFn f).length = rows.length := List.length_ofFn
    obtain ⟨a, cap, rfl, hcap, hc⟩ := hr.shape
    refine ⟨List.ofFn f, ⟨⟨a, cap, by rw [hlen], by rw [hlen]; exact hcap, ?_, fun hne => ?_⟩, fun y hy => ?_⟩, fun y hy => ?_⟩
    · rw [hlen]
      rcases hd with ⟨-, h0⟩ | ⟨rest, h0⟩
      · rw [h0]; exact Nat.zero_le _
      · rw [h0] at hs
        have := small_len Tryz.underlying24 hs
        rw [bytes_val] at this
        omega
    · obtain ⟨b, off, rfl, hb, hcell⟩ := hc (by intro e; exact hne (List.eq_nil_of_length_eq_zero (hlen.trans (by rw [e]; rfl))))
      refine ⟨b, off, rfl, hb, fun i hi j u hu => ?_⟩
      have hi' : i < rows.length := by rw [← hlen]; exact hi
      rw [List.getElem_ofFn] at hu
      have h1 := hcell i j u (by rw [(hf ⟨i, hi'⟩).1]; exact hu)
      rw [cells_val] at h1
      exact h1
    · obtain ⟨i, rfl⟩ := List.mem_ofFn.1 hy
      exact (hf i).2.2
    · obtain ⟨i, rfl⟩ := List.mem_ofFn.1 hy
      exact (hf i).2.1
set_option maxRecDepth 100000 in
theorem vals_of {r : Reach} {b0 : Nat} {v : Value} {d : DataW H} {ps : List MemPlace} (hval : Value.okWide Tryz.prog W r b0 24 v) (h : DataW.Trod enc Tryz.prog W base sp held 24 v d ps) (hs : Small Tryz.prog 24 d) :
    ∃ m l, VD W m v l ∧ ∀ y ∈ l, y.Sm := by
  obtain ⟨n, hn⟩ := h
  obtain ⟨a, len, cap, rfl⟩ := okWide_slice Tryz.underlying24 hval
  obtain ⟨l, h1, h2⟩ := open_vals n _ _ hn hs
  exact ⟨n, l, h1, h2⟩
set_option maxRecDepth 100000 in
/-- One value's cells. -/
theorem open_val {fuel : Nat} {cs : List Value} {x : DataW H × List MemPlace} (h : DataW.trod enc Tryz.prog W base sp held fuel 26 cs = some x) (hs : Small Tryz.prog 26 x.1) :
    ∃ y : Val, cs = y.row ∧ y.Sm ∧ ∃ m l', VD W m y.kids l' := by
  obtain ⟨n, ds', hn, hl6, hx', -, hf⟩ := open_fields Tryz.underlying26 h
  rw [cells_val] at hl6
  rw [hx'] at hs
  obtain ⟨y0, d0, h0⟩ := hf 0 _ rfl
  obtain ⟨y1, d1, h1'⟩ := hf 1 _ rfl
  have s0 := small_field Tryz.underlying26 hs (i := 0) rfl d0
  have s1 := small_field Tryz.underlying26 hs (i := 1) rfl d1
  obtain ⟨c0, c1, c2, c3, c4, c5, rfl⟩ : ∃ a b c d e f, cs = [a, b, c, d, e, f] := by
    match cs, hl6 with
    | [a, b, c, d, e, f], _ => exact ⟨a, b, c, d, e, f, rfl⟩
  simp only [cells_tok, cells_vals, List.drop_zero, List.drop_succ_cons, List.take_succ_cons, List.take_zero] at h0 h1'
  obtain ⟨t, ht, m1, m2⟩ := open_tok h0 s0
  obtain ⟨l', hV, -⟩ := open_vals n c5 y1 h1' s1
  obtain ⟨a, cap, e5, -⟩ := hV.vs
  refine ⟨⟨t, a, l'.length, cap⟩, ?_, ⟨m1, m2⟩, n, l', ?_⟩
  · rw [e5]
    show _ = t.row ++ _
    rw [← ht]
    rfl
  · show VD W n (.slice a l'.length cap) l'
    rw [← e5]
    exact hV
set_option maxRecDepth 100000 in
theorem val_of {r : Reach} {b0 : Nat} {v : Value} {d : DataW H} {ps : List MemPlace} (hval : Value.okWide Tryz.prog W r b0 26 v) (h : DataW.Trod enc Tryz.prog W base sp held 26 v d ps) (hs : Small Tryz.prog 26 d) :
    ∃ y : Val, v = .agg #[.int .i64 y.tok.k, .string y.tok.t, .string y.tok.u, .bool y.tok.wh, .bool y.tok.fl, .slice y.ka y.kn y.kc] ∧ y.Sm ∧ ∃ m l', VD W m y.kids l' := by
  obtain ⟨n, hn⟩ := h
  have hv : ∃ cs, v = .agg cs := by
    unfold Value.okWide at hval
    rw [Tryz.underlying26] at hval
    obtain ⟨cs, h, -⟩ := hval
    exact ⟨cs, h⟩
  obtain ⟨cs, rfl⟩ := hv
  obtain ⟨y, hy, h1, h2⟩ := open_val hn hs
  refine ⟨y, ?_, h1, h2⟩
  have : cs = y.row.toArray := Array.toList_inj.1 hy
  rw [this]
  rfl
theorem cells_decl : Tryz.prog.cellsOf 48 = 3 := by kernel_rfl
set_option maxRecDepth 100000 in
/-- A declaration's cells. -/
theorem open_decl {fuel : Nat} {cs : List Value} {x : DataW H × List MemPlace} (h : DataW.trod enc Tryz.prog W base sp held fuel 48 cs = some x) (hs : Small Tryz.prog 48 x.1) :
    ∃ s a c m l b, cs = [.string s, .slice a l.length c, .bool b] ∧ s.size ≤ 140737488351232 ∧ VD W m (.slice a l.length c) l ∧ ∀ y ∈ l, y.Sm := by
  obtain ⟨n, ds', hn, hl3, hx', -, hf⟩ := open_fields Tryz.underlying48 h
  rw [cells_decl] at hl3
  rw [hx'] at hs
  obtain ⟨y0, d0, h0⟩ := hf 0 _ rfl
  obtain ⟨y1, d1, h1⟩ := hf 1 _ rfl
  obtain ⟨y2, -, h2⟩ := hf 2 _ rfl
  have s0 := small_field Tryz.underlying48 hs (i := 0) rfl d0
  have s1 := small_field Tryz.underlying48 hs (i := 1) rfl d1
  obtain ⟨c0, c1, c2, rfl⟩ : ∃ a b c, cs = [a, b, c] := by
    match cs, hl3 with
    | [a, b, c], _ => exact ⟨a, b, c, rfl⟩
  simp only [cells_string, cells_vals, cells_bool, List.drop_zero, List.drop_succ_cons, List.take_succ_cons, List.take_zero] at h0 h1 h2
  obtain ⟨s, rfl, e0⟩ := trod_str1 h0
  obtain ⟨b, rfl⟩ := trod_bool1 h2
  obtain ⟨l, hV, hS⟩ := open_vals n c1 y1 h1 s1
  obtain ⟨a, cap, rfl, -⟩ := hV.vs
  rw [e0] at s0
  have s0 := small_string s0
  rw [size_toList] at s0
  exact ⟨s, a, cap, n, l, b, rfl, s0, hV, hS⟩
set_option maxRecDepth 100000 in
theorem decl_of {r : Reach} {b0 : Nat} {v : Value} {d : DataW H} {ps : List MemPlace} (hval : Value.okWide Tryz.prog W r b0 48 v) (h : DataW.Trod enc Tryz.prog W base sp held 48 v d ps) (hs : Small Tryz.prog 48 d) :
    ∃ s a c m l b, v = .agg #[.string s, .slice a l.length c, .bool b] ∧ s.size ≤ 140737488351232 ∧ VD W m (.slice a l.length c) l ∧ ∀ y ∈ l, y.Sm := by
  obtain ⟨n, hn⟩ := h
  have hv : ∃ cs, v = .agg cs := by
    unfold Value.okWide at hval
    rw [Tryz.underlying48] at hval
    obtain ⟨cs, h, -⟩ := hval
    exact ⟨cs, h⟩
  obtain ⟨cs, rfl⟩ := hv
  obtain ⟨s, a, c, m, l, b, hy, h1, h2, h3⟩ := open_decl hn hs
  refine ⟨s, a, c, m, l, b, ?_, h1, h2, h3⟩
  have : cs = #[.string s, .slice a l.length c, .bool b] := Array.toList_inj.1 hy
  rw [this]
end
theorem sideCells_at : ∀ (a : Fin 4) (b : Fin 4), (sidesTbl.map (Value.int .i64))[a.val * 4 + b.val]? = some (.int .i64 (sideAt a.val b.val)) := by
  intro a b
  have h : a.val * 4 + b.val < sidesTbl.length := by
    have := a.isLt
    have := b.isLt
    show a.val * 4 + b.val < 16
    omega
  unfold sideAt
  rw [List.getElem?_map, List.getElem?_eq_getElem h]
  rfl
theorem sidesIn_of_laid {w : World} {l : List (String × DataW Unit)} (h : laidMet Tryz.prog l w) (hm : ("gouache/short.sides", Rows.laid_gouache_short_sides) ∈ l) : SidesIn w := by
  obtain ⟨ty, fr, hh⟩ := var_of_laid h hm (g := 1) (t := 103) (by kernel_rfl) (by kernel_rfl) 5 (cs := sidesTbl.map (Value.int .i64)) (by kernel_rfl)
  refine ⟨(Array.getElem?_eq_some_iff.1 hh).1, fun a b ha hb => ?_⟩
  have := sideCells_at ⟨a, ha⟩ ⟨b, hb⟩
  simp only [World.cell?, hh]
  simpa using this
end Go.Proofs.YtpadcjcoafidgaaGreatDoor
/-! '[]api.Decl', opened. -/
namespace Go.Proofs.YtpadcjcoafidgaaGreatDoor
open Go.ChangeShapes Go.WideShapes Go.ChangeAt Go.RowKit

theorem cells_decl2 : Tryz.prog.cellsOf 48 = 3 := by kernel_rfl
theorem bytes_decl : Tryz.prog.bytesOf 48 = 48 := by kernel_rfl
variable {H : Type} {enc : TypeId × Value → H} {W : World} {base : Nat} {sp : Nat → Bool} {held : Bool}
def DeclT.Good (W : World) (d : DeclT) : Prop := d.name.size ≤ 140737488351232 ∧ (∃ m, VD W m (.slice d.a d.l.length d.c) d.l) ∧ ∀ y ∈ d.l, y.Sm
set_option maxRecDepth 100000 in
theorem open_ds {fuel : Nat} {v : Value} {x : DataW H × List MemPlace} (h : DataW.trod enc Tryz.prog W base sp held fuel 63 [v] = some x) (hs : Small Tryz.prog 63 x.1) :
    ∃ ds, Ds W v ds ∧ ∀ d ∈ ds, d.Good W := by
  obtain ⟨n, v', rows, es, -, e, hr, hl, hd, hx⟩ := open_elems Tryz.underlying63 (by rw [cells_decl2]; decide) h
  cases e
  have key : ∀ i, i < rows.length → ∃ d : DeclT, rows[i]? = some d.row ∧ d.Good W := by
    intro i hi
    obtain ⟨y, h1, h2⟩ := hx i rows[i] (List.getElem?_eq_getElem hi)
    have hsy : Small Tryz.prog 48 y.1 := by
      rcases hd with ⟨-, h0⟩ | ⟨rest, h0⟩
      · rw [h0] at hi; simp at hi
      · rw [h0] at hs
        exact small_elem Tryz.underlying63 hs h1
    obtain ⟨s, a, c, m, l, b, hrow, hs1, hV, hsm⟩ := open_decl h2 hsy
    exact ⟨⟨s, a, c, l, b⟩, by rw [List.getElem?_eq_getElem hi, hrow]; rfl, hs1, ⟨m, hV⟩, hsm⟩
  obtain ⟨f, hf⟩ := Classical.axiomOfChoice (r := fun (i : Fin rows.length) (d : DeclT) => rows[i.val]? = some d.row ∧ d.Good W) (fun i => key i.val i.isLt)
  have hlen : (List.ofFn f).length = rows.length := List.length_ofFn
  obtain ⟨a, cap, rfl, hcap, hc⟩ := hr.shape
  refine ⟨List.ofFn f, ⟨a, cap, by rw [hlen], ?_, fun hne => ?_⟩, ?_⟩
  · rw [hlen]
    rcases hd with ⟨-, h0⟩ | ⟨rest, h0⟩
    · rw [h0]; exact Nat.zero_le _
    · rw [h0] at hs
      have := small_len Tryz.underlying63 hs
      rw [bytes_decl] at this
      omega
  · obtain ⟨b, off, rfl, hb, hcell⟩ := hc (by intro e; exact hne (List.eq_nil_of_length_eq_zero (hlen.trans (by rw [e]; rfl))))
    refine ⟨b, off, rfl, hb, fun i hi j u hu => ?_⟩
    have hi' : i < rows.length := by rw [← hlen]; exact hi
    rw [List.getElem_ofFn] at hu
    have h1 := hcell i j u (by rw [(hf ⟨i, hi'⟩).1]; exact hu)
    rw [cells_decl2] at h1
    exact h1
  · intro d hd'
    obtain ⟨i, rfl⟩ := List.mem_ofFn.1 hd'
    exact (hf i).2
set_option maxRecDepth 100000 in
theorem ds_of {r : Reach} {b0 : Nat} {v : Value} {d : DataW H} {ps : List MemPlace} (hval : Value.okWide Tryz.prog W r b0 63 v) (h : DataW.Trod enc Tryz.prog W base sp held 63 v d ps) (hs : Small Tryz.prog 63 d) : ∃ ds, Ds W v ds ∧ ∀ d ∈ ds, d.Good W := by
  obtain ⟨n, hn⟩ := h
  obtain ⟨a, len, cap, rfl⟩ := okWide_slice Tryz.underlying63 hval
  exact open_ds hn hs
end Go.Proofs.YtpadcjcoafidgaaGreatDoor
