/- value.Part. -/
import Derived.Test.YtpadcjcoafidgaaGreatDoorTold
import Derived.Deep.RegionHeld3
namespace Go.Proofs.YtpadcjcoafidgaaGreatDoor
open Go.RowKit

def fLen : ByteArray := ⟨#[60, 108, 101, 110, 62]⟩
def fLenP : ByteArray := ⟨#[60, 108, 101, 110, 43, 62]⟩
def fPct : ByteArray := ⟨#[60, 112, 99, 116, 62]⟩
def fPctP : ByteArray := ⟨#[60, 112, 99, 116, 43, 62]⟩
def fInt : ByteArray := ⟨#[60, 105, 110, 116, 62]⟩
def fIntP : ByteArray := ⟨#[60, 105, 110, 116, 43, 62]⟩
def fCol : ByteArray := ⟨#[60, 99, 111, 108, 111, 114, 62]⟩
def pcS : ByteArray := ⟨#[37]⟩
def intN (t : Tok) : Int := if intOk t = true then intVal t.t else 0
theorem intN_range (t : Tok) : -1000000 ≤ intN t ∧ intN t ≤ 1000000 := by
  unfold intN
  split
  · rename_i h
    unfold intOk at h
    have hb : anyBad (intDigs t.t) = false := by
      cases hb : anyBad (intDigs t.t) with
      | false => rfl
      | true => rw [hb] at h; simp at h
    have := dec_range _ hb
    unfold intVal
    split <;> omega
  · omega
theorem intRes_eq (t : Tok) : intRes t = .tuple #[.int .i64 (intN t), .bool (intOk t)] := rfl
def partS (form : ByteArray) (x : Val) : Option ByteArray :=
  if 0 < x.kn then none
  else if (eqB form fLen || eqB form fLenP) = true then toldS (intN x.tok) (intOk x.tok) form pxS (lengthS x.tok (intN x.tok))
  else if (eqB form fPct || eqB form fPctP) = true then toldS (intN x.tok) (intOk x.tok) form pcS (x.tok.k == 11)
  else if (eqB form fInt || eqB form fIntP) = true then toldS (intN x.tok) (intOk x.tok) form noStr (x.tok.k == 10)
  else if eqB form fCol = true then colorS x.tok
  else if (decide (x.tok.k = 1) && eqB (identS x) form) = true then some form else none

set_option maxRecDepth 100000 in
set_option maxHeartbeats 4000000 in
theorem VPart_any (w : World) (hB : Base w) (form : ByteArray) (hf : form.size ≤ 4294967295) (x : Val) (hx : x.fits) :
    Calls Tryz.prog 31 #[.string form, .agg #[.int .i64 x.tok.k, .string x.tok.t, .string x.tok.u, .bool x.tok.wh, .bool x.tok.fl, .slice x.ka x.kn x.kc]] w fun e w' => e = .returned (resS (partS form x)) ∧ Below w.heap.size w w' := by
  by_cases hkn : 0 < x.kn
  · have HV : Hid (partS form x = none) := Lib.hid (if_pos hkn)
    have q1 : (0 : Int) < (x.kn : Int) := by omega
    go_enter Tryz.func31, Tryz.ntmps31
    go_wp2_with fail
    exact bodyPost_ret (v := .tuple #[.string noStr, .bool false]) (by simp [results, Tryz.results31, go_sem, noStr]) rfl ⟨by rw [HV.out]; rfl, bAlloc2 _ _ _⟩
  · obtain ⟨h0, h1⟩ := intN_range x.tok
    have hir := intRes_eq x.tok
    obtain ⟨n, hn⟩ : ∃ n, intN x.tok = n := ⟨_, rfl⟩
    obtain ⟨ok, hok⟩ : ∃ n, intOk x.tok = n := ⟨_, rfl⟩
    have HS : Hid (partS form x = if (eqB form fLen || eqB form fLenP) = true then toldS n ok form pxS (lengthS x.tok n)
        else if (eqB form fPct || eqB form fPctP) = true then toldS n ok form pcS (x.tok.k == 11)
        else if (eqB form fInt || eqB form fIntP) = true then toldS n ok form noStr (x.tok.k == 10)
        else if eqB form fCol = true then colorS x.tok
        else if (decide (x.tok.k = 1) && eqB (identS x) form) = true then some form else none) := Lib.hid (by unfold partS; rw [if_neg hkn, hn, hok])
    rw [hn, hok] at hir
    rw [hn] at h0 h1
    have HIR := Lib.hid hir
    have HB := Lib.hid hB
    have q1 : ¬ (0 : Int) < (x.kn : Int) := by omega
    clear hB hir hn hok hkn
    go_enter Tryz.func31, Tryz.ntmps31
    go_wp2_with fail
    refine (Int_any x.tok hx.1 _).mono ?_
    rintro e w1 ⟨rfl, hb1⟩
    rw [HIR.out]
    have HB1 := HB.out.next (bNext (bAlloc2 w (.cells #[.string form] 9) (.cells #[.int .i64 x.tok.k, .string x.tok.t, .string x.tok.u, .bool x.tok.wh, .bool x.tok.fl, .slice x.ka x.kn x.kc] 26)) hb1)
    have hB1 := bNext (bAlloc2 w (.cells #[.string form] 9) (.cells #[.int .i64 x.tok.k, .string x.tok.t, .string x.tok.u, .bool x.tok.wh, .bool x.tok.fl, .slice x.ka x.kn x.kc] 26)) hb1
    have f0 : Own w.heap.size ((w.alloc (.cells #[.string form] 9)).alloc (.cells #[.int .i64 x.tok.k, .string x.tok.t, .string x.tok.u, .bool x.tok.wh, .bool x.tok.fl, .slice x.ka x.kn x.kc] 26)) #[.string form] := (Own.new w #[.string form] 9).next (bAlloc1 _ _)
    have x0 : Own (w.heap.size + 1) ((w.alloc (.cells #[.string form] 9)).alloc (.cells #[.int .i64 x.tok.k, .string x.tok.t, .string x.tok.u, .bool x.tok.wh, .bool x.tok.fl, .slice x.ka x.kn x.kc] 26)) #[.int .i64 x.tok.k, .string x.tok.t, .string x.tok.u, .bool x.tok.wh, .bool x.tok.fl, .slice x.ka x.kn x.kc] := by
      have := Own.new (w.alloc (.cells #[.string form] 9)) #[.int .i64 x.tok.k, .string x.tok.t, .string x.tok.u, .bool x.tok.wh, .bool x.tok.fl, .slice x.ka x.kn x.kc] 26
      simpa using this
    have f1 := f0.next hb1
    have x1 := x0.next hb1
    have HB2 : Hid (Base ((w1.alloc (.cells #[.int .i64 n] 3)).alloc (.cells #[.bool ok] 4))) := Lib.hid (HB1.next (bAlloc2 _ _ _))
    have hB2 : Below w.heap.size w ((w1.alloc (.cells #[.int .i64 n] 3)).alloc (.cells #[.bool ok] 4)) := bNext hB1 (bAlloc2 _ _ _)
    have HO6 : Hid (Own w1.heap.size ((w1.alloc (.cells #[.int .i64 n] 3)).alloc (.cells #[.bool ok] 4)) #[.int .i64 n]) := Lib.hid ((Own.new w1 #[.int .i64 n] 3).next (bAlloc1 _ _))
    have HO7 : Hid (Own (w1.heap.size + 1) ((w1.alloc (.cells #[.int .i64 n] 3)).alloc (.cells #[.bool ok] 4)) #[.bool ok]) := Lib.hid (by
      have := Own.new (w1.alloc (.cells #[.int .i64 n] 3)) #[.bool ok] 4
      simpa using this)
    have HOf := Lib.hid (f1.next (bAlloc2 w1 (.cells #[.int .i64 n] 3) (.cells #[.bool ok] 4)))
    have HOx := Lib.hid (x1.next (bAlloc2 w1 (.cells #[.int .i64 n] 3) (.cells #[.bool ok] 4)))
    have gf := HOf.out.m
    clear hb1 HB1 hB1 f0 x0 f1 x1 HIR HB
    have gx := HOx.out.m
    have g6 := HO6.out.m
    cases e1 : eqB form fLen
    · cases e2 : eqB form fLenP
      · cases e3 : eqB form fPct
        · cases e4 : eqB form fPctP
          · cases e5 : eqB form fInt
            · cases e6 : eqB form fIntP
              · cases e7 : eqB form fCol
                · have t1 : (form.toList == [60, 108, 101, 110, 62]) = false := (toList_lit form fLen _ rfl).trans e1
                  have t2 : (form.toList == [60, 108, 101, 110, 43, 62]) = false := (toList_lit form fLenP _ rfl).trans e2
                  have t3 : (form.toList == [60, 112, 99, 116, 62]) = false := (toList_lit form fPct _ rfl).trans e3
                  have t4 : (form.toList == [60, 112, 99, 116, 43, 62]) = false := (toList_lit form fPctP _ rfl).trans e4
                  have t5 : (form.toList == [60, 105, 110, 116, 62]) = false := (toList_lit form fInt _ rfl).trans e5
                  have t6 : (form.toList == [60, 105, 110, 116, 43, 62]) = false := (toList_lit form fIntP _ rfl).trans e6
                  have t7 : (form.toList == [60, 99, 111, 108, 111, 114, 62]) = false := (toList_lit form fCol _ rfl).trans e7

                  by_cases hk : x.tok.k = 1
                  · have HV : Hid (partS form x = if eqB (identS x) form = true then some form else none) := Lib.hid (by rw [HS.out, e1, e2, e3, e4, e5, e6, e7, decide_eq_true hk]; rfl)
                    go_wp2_with fail
                    obtain ⟨W2, hW2⟩ : ∃ W2, (w1.alloc (.cells #[.int .i64 n] 3)).alloc (.cells #[.bool ok] 4) = W2 := ⟨_, rfl⟩
                    rw [hW2] at HB2 hB2 HOx HOf ⊢
                    clear gx gf g6 HO6 HO7 hW2
                    have c0 : W2.cell? ⟨w.heap.size + 1, 0, none⟩ = some (.int .i64 1) := (HOx.out.m 0).trans (by rw [← hk]; rfl)
                    have c1 : W2.cell? ⟨w.heap.size + 1, 0 + 1, none⟩ = some (.string x.tok.t) := HOx.out.m 1
                    have c2 : W2.cell? ⟨w.heap.size + 1, 0 + 2, none⟩ = some (.string x.tok.u) := HOx.out.m 2
                    have c3 : W2.cell? ⟨w.heap.size + 1, 0 + 3, none⟩ = some (.bool x.tok.wh) := HOx.out.m 3
                    have c4 : W2.cell? ⟨w.heap.size + 1, 0 + 4, none⟩ = some (.bool x.tok.fl) := HOx.out.m 4
                    have c5 : W2.cell? ⟨w.heap.size + 1, 0 + 5, none⟩ = some (.slice x.ka x.kn x.kc) := HOx.out.m 5
                    have cf : W2.cell? ⟨w.heap.size, 0, none⟩ = some (.string form) := HOf.out.m 0
                    have hl1 := HOx.out.lt
                    have hl2 := HOf.out.lt
                    have hid : ∀ W, Calls Tryz.prog 40 #[.agg #[.int .i64 1, .string x.tok.t, .string x.tok.u, .bool x.tok.wh, .bool x.tok.fl, .slice x.ka x.kn x.kc]] W fun e w' => e = .returned (.string (identS x)) ∧ Below W.heap.size W w' := fun W => by
                      have := ident_any x hx W
                      rwa [hk] at this
                    obtain ⟨z, hz⟩ : ∃ z, identS x = z := ⟨_, rfl⟩
                    rw [hz] at HV hid
                    have HID := Lib.hid hid
                    clear hid hz
                    by_cases hzf : z = form
                    · have hq : (z.toList == form.toList) = true := by rw [hzf]; simp
                      have HW : Hid (partS form x = some form) := Lib.hid (by rw [HV.out, (eqB_iff z form).2 hzf]; rfl)
                      clear hzf
                      go_region_held3 (fun w' => w'.cell? ⟨w.heap.size + 1, 0, none⟩ = some (.int .i64 1) ∧ w'.cell? ⟨w.heap.size + 1, 0 + 1, none⟩ = some (.string x.tok.t) ∧ w'.cell? ⟨w.heap.size + 1, 0 + 2, none⟩ = some (.string x.tok.u) ∧ w'.cell? ⟨w.heap.size + 1, 0 + 3, none⟩ = some (.bool x.tok.wh) ∧ w'.cell? ⟨w.heap.size + 1, 0 + 4, none⟩ = some (.bool x.tok.fl) ∧ w'.cell? ⟨w.heap.size + 1, 0 + 5, none⟩ = some (.slice x.ka x.kn x.kc) ∧ w'.cell? ⟨w.heap.size, 0, none⟩ = some (.string form)) (go_keep)
                        (first
                          | (go_at_call 40; ((with_reducible refine (HID.out _).mono ?_); rintro e w3 ⟨rfl, hb3⟩; have c30 := cell_later ((below_drew' W2).trans hb3) c0; have c31 := cell_later ((below_drew' W2).trans hb3) c1; have c32 := cell_later ((below_drew' W2).trans hb3) c2; have c33 := cell_later ((below_drew' W2).trans hb3) c3; have c34 := cell_later ((below_drew' W2).trans hb3) c4; have c35 := cell_later ((below_drew' W2).trans hb3) c5; have c3f := cell_later ((below_drew' W2).trans hb3) cf)))
                      all_goals
                        have hB3 := bNext (bNext hB2 (below_drew' W2)) hb3
                        go_wp2_with fail
                        exact bodyPost_ret (v := .tuple #[.string form, .bool true]) (by simp [results, Tryz.results31, go_sem]) rfl ⟨by rw [HW.out]; rfl, hB3⟩
                    · have hq : (z.toList == form.toList) = false := bytes_ne hzf
                      have HW : Hid (partS form x = none) := Lib.hid (by
                        rw [HV.out, if_neg]
                        exact fun e => hzf ((eqB_iff z form).1 e))
                      clear hzf
                      go_region_held3 (fun w' => w'.cell? ⟨w.heap.size + 1, 0, none⟩ = some (.int .i64 1) ∧ w'.cell? ⟨w.heap.size + 1, 0 + 1, none⟩ = some (.string x.tok.t) ∧ w'.cell? ⟨w.heap.size + 1, 0 + 2, none⟩ = some (.string x.tok.u) ∧ w'.cell? ⟨w.heap.size + 1, 0 + 3, none⟩ = some (.bool x.tok.wh) ∧ w'.cell? ⟨w.heap.size + 1, 0 + 4, none⟩ = some (.bool x.tok.fl) ∧ w'.cell? ⟨w.heap.size + 1, 0 + 5, none⟩ = some (.slice x.ka x.kn x.kc) ∧ w'.cell? ⟨w.heap.size, 0, none⟩ = some (.string form)) (go_keep)
                        (first
                          | (go_at_call 40; ((with_reducible refine (HID.out _).mono ?_); rintro e w3 ⟨rfl, hb3⟩; have c30 := cell_later ((below_drew' W2).trans hb3) c0; have c31 := cell_later ((below_drew' W2).trans hb3) c1; have c32 := cell_later ((below_drew' W2).trans hb3) c2; have c33 := cell_later ((below_drew' W2).trans hb3) c3; have c34 := cell_later ((below_drew' W2).trans hb3) c4; have c35 := cell_later ((below_drew' W2).trans hb3) c5; have c3f := cell_later ((below_drew' W2).trans hb3) cf)))
                      all_goals
                        have hB3 := bNext (bNext hB2 (below_drew' W2)) hb3
                        go_wp2_with fail
                        exact bodyPost_ret (v := .tuple #[.string noStr, .bool false]) (by simp [results, Tryz.results31, go_sem, noStr]) rfl ⟨by rw [HW.out]; rfl, hB3⟩
                  · have HV : Hid (partS form x = none) := Lib.hid (by rw [HS.out, e1, e2, e3, e4, e5, e6, e7, decide_eq_false hk]; rfl)
                    have hk2 : (x.tok.k != 1) = true := by simpa using hk
                    go_wp2_with fail
                    obtain ⟨W2, hW2⟩ : ∃ W2, (w1.alloc (.cells #[.int .i64 n] 3)).alloc (.cells #[.bool ok] 4) = W2 := ⟨_, rfl⟩
                    rw [hW2] at HB2 hB2 HOx HOf ⊢
                    clear gx gf g6 HO6 HO7 hW2
                    have c0 : W2.cell? ⟨w.heap.size + 1, 0, none⟩ = some (.int .i64 x.tok.k) := HOx.out.m 0
                    go_region
                    go_wp2_with fail
                    exact bodyPost_ret (v := .tuple #[.string noStr, .bool false]) (by simp [results, Tryz.results31, go_sem, noStr]) rfl ⟨by rw [HV.out]; rfl, bNext hB2 (below_drew' W2)⟩
                · have t1 : (form.toList == [60, 108, 101, 110, 62]) = false := (toList_lit form fLen _ rfl).trans e1
                  have t2 : (form.toList == [60, 108, 101, 110, 43, 62]) = false := (toList_lit form fLenP _ rfl).trans e2
                  have t3 : (form.toList == [60, 112, 99, 116, 62]) = false := (toList_lit form fPct _ rfl).trans e3
                  have t4 : (form.toList == [60, 112, 99, 116, 43, 62]) = false := (toList_lit form fPctP _ rfl).trans e4
                  have t5 : (form.toList == [60, 105, 110, 116, 62]) = false := (toList_lit form fInt _ rfl).trans e5
                  have t6 : (form.toList == [60, 105, 110, 116, 43, 62]) = false := (toList_lit form fIntP _ rfl).trans e6
                  have t7 : (form.toList == [60, 99, 111, 108, 111, 114, 62]) = true := (toList_lit form fCol _ rfl).trans e7

                  have HV : Hid (partS form x = colorS x.tok) := Lib.hid (by rw [HS.out, e1, e2, e3, e4, e5, e6, e7]; rfl)
                  go_wp2_with fail
                  refine (Color_any _ HB2.out.col x hx).mono ?_
                  rintro e w4 ⟨rfl, hb4⟩
                  rw [← HV.out]
                  have hBB4 := bNext hB2 hb4
                  cases hr : partS form x with
                  | none =>
                    simp only [resS]
                    go_wp2_with fail
                    exact bodyPost_ret (v := .tuple #[.string noStr, .bool false]) (by simp [results, Tryz.results31, go_sem]) rfl ⟨by first | rfl | (rw [hr]; rfl), hBB4⟩
                  | some s =>
                    simp only [resS]
                    go_wp2_with fail
                    exact bodyPost_ret (v := .tuple #[.string s, .bool true]) (by simp [results, Tryz.results31, go_sem]) rfl ⟨by first | rfl | (rw [hr]; rfl), hBB4⟩
              · have t1 : (form.toList == [60, 108, 101, 110, 62]) = false := (toList_lit form fLen _ rfl).trans e1
                have t2 : (form.toList == [60, 108, 101, 110, 43, 62]) = false := (toList_lit form fLenP _ rfl).trans e2
                have t3 : (form.toList == [60, 112, 99, 116, 62]) = false := (toList_lit form fPct _ rfl).trans e3
                have t4 : (form.toList == [60, 112, 99, 116, 43, 62]) = false := (toList_lit form fPctP _ rfl).trans e4
                have t5 : (form.toList == [60, 105, 110, 116, 62]) = false := (toList_lit form fInt _ rfl).trans e5
                have t6 : (form.toList == [60, 105, 110, 116, 43, 62]) = true := (toList_lit form fIntP _ rfl).trans e6

                have HV : Hid (partS form x = toldS n ok form noStr (x.tok.k == 10)) := Lib.hid (by rw [HS.out, e1, e2, e3, e4, e5, e6]; rfl)
                have m6 := HO6.out.m 0
                have m7 := HO7.out.m 0
                have mf := HOf.out.m 0
                go_wp2_with fail
                refine (told_any _ HB2.out noStr form _ ok n h0 h1 (by decide) (by omega) _ _ _ m7 m6 mf).mono ?_
                rintro e w4 ⟨rfl, hb4⟩
                rw [← HV.out]
                have hBB4 := bNext hB2 hb4
                cases hr : partS form x with
                | none =>
                  simp only [resS]
                  go_wp2_with fail
                  exact bodyPost_ret (v := .tuple #[.string noStr, .bool false]) (by simp [results, Tryz.results31, go_sem]) rfl ⟨by first | rfl | (rw [hr]; rfl), hBB4⟩
                | some s =>
                  simp only [resS]
                  go_wp2_with fail
                  exact bodyPost_ret (v := .tuple #[.string s, .bool true]) (by simp [results, Tryz.results31, go_sem]) rfl ⟨by first | rfl | (rw [hr]; rfl), hBB4⟩
            · have t1 : (form.toList == [60, 108, 101, 110, 62]) = false := (toList_lit form fLen _ rfl).trans e1
              have t2 : (form.toList == [60, 108, 101, 110, 43, 62]) = false := (toList_lit form fLenP _ rfl).trans e2
              have t3 : (form.toList == [60, 112, 99, 116, 62]) = false := (toList_lit form fPct _ rfl).trans e3
              have t4 : (form.toList == [60, 112, 99, 116, 43, 62]) = false := (toList_lit form fPctP _ rfl).trans e4
              have t5 : (form.toList == [60, 105, 110, 116, 62]) = true := (toList_lit form fInt _ rfl).trans e5

              have HV : Hid (partS form x = toldS n ok form noStr (x.tok.k == 10)) := Lib.hid (by rw [HS.out, e1, e2, e3, e4, e5]; rfl)
              have m6 := HO6.out.m 0
              have m7 := HO7.out.m 0
              have mf := HOf.out.m 0
              go_wp2_with fail
              refine (told_any _ HB2.out noStr form _ ok n h0 h1 (by decide) (by omega) _ _ _ m7 m6 mf).mono ?_
              rintro e w4 ⟨rfl, hb4⟩
              rw [← HV.out]
              have hBB4 := bNext hB2 hb4
              cases hr : partS form x with
              | none =>
                simp only [resS]
                go_wp2_with fail
                exact bodyPost_ret (v := .tuple #[.string noStr, .bool false]) (by simp [results, Tryz.results31, go_sem]) rfl ⟨by first | rfl | (rw [hr]; rfl), hBB4⟩
              | some s =>
                simp only [resS]
                go_wp2_with fail
                exact bodyPost_ret (v := .tuple #[.string s, .bool true]) (by simp [results, Tryz.results31, go_sem]) rfl ⟨by first | rfl | (rw [hr]; rfl), hBB4⟩
          · have t1 : (form.toList == [60, 108, 101, 110, 62]) = false := (toList_lit form fLen _ rfl).trans e1
            have t2 : (form.toList == [60, 108, 101, 110, 43, 62]) = false := (toList_lit form fLenP _ rfl).trans e2
            have t3 : (form.toList == [60, 112, 99, 116, 62]) = false := (toList_lit form fPct _ rfl).trans e3
            have t4 : (form.toList == [60, 112, 99, 116, 43, 62]) = true := (toList_lit form fPctP _ rfl).trans e4

            have HV : Hid (partS form x = toldS n ok form pcS (x.tok.k == 11)) := Lib.hid (by rw [HS.out, e1, e2, e3, e4]; rfl)
            have m6 := HO6.out.m 0
            have m7 := HO7.out.m 0
            have mf := HOf.out.m 0
            go_wp2_with fail
            refine (told_any _ HB2.out pcS form _ ok n h0 h1 (by decide) (by omega) _ _ _ m7 m6 mf).mono ?_
            rintro e w4 ⟨rfl, hb4⟩
            rw [← HV.out]
            have hBB4 := bNext hB2 hb4
            cases hr : partS form x with
            | none =>
              simp only [resS]
              go_wp2_with fail
              exact bodyPost_ret (v := .tuple #[.string noStr, .bool false]) (by simp [results, Tryz.results31, go_sem]) rfl ⟨by first | rfl | (rw [hr]; rfl), hBB4⟩
            | some s =>
              simp only [resS]
              go_wp2_with fail
              exact bodyPost_ret (v := .tuple #[.string s, .bool true]) (by simp [results, Tryz.results31, go_sem]) rfl ⟨by first | rfl | (rw [hr]; rfl), hBB4⟩
        · have t1 : (form.toList == [60, 108, 101, 110, 62]) = false := (toList_lit form fLen _ rfl).trans e1
          have t2 : (form.toList == [60, 108, 101, 110, 43, 62]) = false := (toList_lit form fLenP _ rfl).trans e2
          have t3 : (form.toList == [60, 112, 99, 116, 62]) = true := (toList_lit form fPct _ rfl).trans e3

          have HV : Hid (partS form x = toldS n ok form pcS (x.tok.k == 11)) := Lib.hid (by rw [HS.out, e1, e2, e3]; rfl)
          have m6 := HO6.out.m 0
          have m7 := HO7.out.m 0
          have mf := HOf.out.m 0
          go_wp2_with fail
          refine (told_any _ HB2.out pcS form _ ok n h0 h1 (by decide) (by omega) _ _ _ m7 m6 mf).mono ?_
          rintro e w4 ⟨rfl, hb4⟩
          rw [← HV.out]
          have hBB4 := bNext hB2 hb4
          cases hr : partS form x with
          | none =>
            simp only [resS]
            go_wp2_with fail
            exact bodyPost_ret (v := .tuple #[.string noStr, .bool false]) (by simp [results, Tryz.results31, go_sem]) rfl ⟨by first | rfl | (rw [hr]; rfl), hBB4⟩
          | some s =>
            simp only [resS]
            go_wp2_with fail
            exact bodyPost_ret (v := .tuple #[.string s, .bool true]) (by simp [results, Tryz.results31, go_sem]) rfl ⟨by first | rfl | (rw [hr]; rfl), hBB4⟩
      · have t1 : (form.toList == [60, 108, 101, 110, 62]) = false := (toList_lit form fLen _ rfl).trans e1
        have t2 : (form.toList == [60, 108, 101, 110, 43, 62]) = true := (toList_lit form fLenP _ rfl).trans e2

        have HV : Hid (partS form x = toldS n ok form pxS (lengthS x.tok n)) := Lib.hid (by rw [HS.out, e1, e2]; rfl)
        go_wp2_with fail
        refine (length_any x.tok n hx.2 _).mono ?_
        rintro e w3 ⟨rfl, hb3⟩
        have HB3 := Lib.hid (HB2.out.next hb3)
        have m6 := (HO6.out.next hb3).m 0
        have m7 := (HO7.out.next hb3).m 0
        have mf := (HOf.out.next hb3).m 0
        have hBB3 := bNext hB2 hb3
        clear gx g6 gf hb3 hB2
        go_wp2_with fail
        refine (told_any w3 HB3.out pxS form _ ok n h0 h1 (by decide) (by omega) _ _ _ m7 m6 mf).mono ?_
        rintro e w4 ⟨rfl, hb4⟩
        rw [← HV.out]
        have hBB4 := bNext hBB3 hb4
        cases hr : partS form x with
        | none =>
          simp only [resS]
          go_wp2_with fail
          exact bodyPost_ret (v := .tuple #[.string noStr, .bool false]) (by simp [results, Tryz.results31, go_sem]) rfl ⟨by first | rfl | (rw [hr]; rfl), hBB4⟩
        | some s =>
          simp only [resS]
          go_wp2_with fail
          exact bodyPost_ret (v := .tuple #[.string s, .bool true]) (by simp [results, Tryz.results31, go_sem]) rfl ⟨by first | rfl | (rw [hr]; rfl), hBB4⟩
    · have t1 : (form.toList == [60, 108, 101, 110, 62]) = true := (toList_lit form fLen _ rfl).trans e1

      have HV : Hid (partS form x = toldS n ok form pxS (lengthS x.tok n)) := Lib.hid (by rw [HS.out, e1]; rfl)
      go_wp2_with fail
      refine (length_any x.tok n hx.2 _).mono ?_
      rintro e w3 ⟨rfl, hb3⟩
      have HB3 := Lib.hid (HB2.out.next hb3)
      have m6 := (HO6.out.next hb3).m 0
      have m7 := (HO7.out.next hb3).m 0
      have mf := (HOf.out.next hb3).m 0
      have hBB3 := bNext hB2 hb3
      clear gx g6 gf hb3 hB2
      go_wp2_with fail
      refine (told_any w3 HB3.out pxS form _ ok n h0 h1 (by decide) (by omega) _ _ _ m7 m6 mf).mono ?_
      rintro e w4 ⟨rfl, hb4⟩
      rw [← HV.out]
      have hBB4 := bNext hBB3 hb4
      cases hr : partS form x with
      | none =>
        simp only [resS]
        go_wp2_with fail
        exact bodyPost_ret (v := .tuple #[.string noStr, .bool false]) (by simp [results, Tryz.results31, go_sem]) rfl ⟨by first | rfl | (rw [hr]; rfl), hBB4⟩
      | some s =>
        simp only [resS]
        go_wp2_with fail
        exact bodyPost_ret (v := .tuple #[.string s, .bool true]) (by simp [results, Tryz.results31, go_sem]) rfl ⟨by first | rfl | (rw [hr]; rfl), hBB4⟩
end Go.Proofs.YtpadcjcoafidgaaGreatDoor
