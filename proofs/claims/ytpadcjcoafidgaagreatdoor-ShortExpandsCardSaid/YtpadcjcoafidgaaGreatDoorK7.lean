/- Texts of this seat, laid together: Part, Parse, TextParse, Lives15. -/
import Derived.Test.YtpadcjcoafidgaaGreatDoorK3
import Derived.Test.YtpadcjcoafidgaaGreatDoorK5
import Derived.Test.YtpadcjcoafidgaaGreatDoorK6
import Derived.Deep.RegionHeld3
/-! value.Part. -/
namespace Go.Proofs.YtpadcjcoafidgaaGreatDoor
open Go.RowKit

def fLen : ByteArray := ⟨#[60, 108, 101, 110, 62]⟩
def fLenP : ByteArray := ⟨#[60, 108, 101, 110, 43, 62]⟩
def fPct : ByteArray := ⟨#[60, 112, 99, 116, 62]⟩
def fPctP : ByteArray := ⟨#[60, 112, 99, 116, 43, 62]⟩
def fInt : ByteArray := ⟨#[60, 105, 110, 116, 62]⟩
def fIntP : ByteArray := ⟨#[60, 105, 110, 116, 43, 62]⟩
def fCol : ByteArray := ⟨#[60, 99, 111, 108, 111, 114, 62]⟩
def pcS : ByteArray := ⟨#[37]⟩
def intN (t : Tok) : Int := if intOk t = true then intVal t.t else 0
theorem intN_range (t : Tok) : -1000000 ≤ intN t ∧ intN t ≤ 1000000 := by
  unfold intN
  split
  · rename_i h
    unfold intOk at h
    have hb : anyBad (intDigs t.t) = false := by
      cases hb : anyBad (intDigs t.t) with
      | false => rfl
      | true => rw [hb] at h; simp at h
    have := dec_range _ hb
    unfold intVal
    split <;> omega
  · omega
theorem intRes_eq (t : Tok) : intRes t = .tuple #[.int .i64 (intN t), .bool (intOk t)] := rfl
def partS (form : ByteArray) (x : Val) : Option ByteArray :=
  if 0 < x.kn then none
  else if (eqB form fLen || eqB form fLenP) = true then toldS (intN x.tok) (intOk x.tok) form pxS (lengthS x.tok (intN x.tok))
  else if (eqB form fPct || eqB form fPctP) = true then toldS (intN x.tok) (intOk x.tok) form pcS (x.tok.k == 11)
  else if (eqB form fInt || eqB form fIntP) = true then toldS (intN x.tok) (intOk x.tok) form noStr (x.tok.k == 10)
  else if eqB form fCol = true then colorS x.tok
  else if (decide (x.tok.k = 1) && eqB (identS x) form) = true then some form else none

set_option maxRecDepth 100000 in
set_option maxHeartbeats 4000000 in
theorem VPart_any (w : World) (hB : Base w) (form : ByteArray) (hf : form.size ≤ 4294967295) (x : Val) (hx : x.fits) :
    Calls Tryz.prog 31 #[.string form, .agg #[.int .i64 x.tok.k, .string x.tok.t, .string x.tok.u, .bool x.tok.wh, .bool x.tok.fl, .slice x.ka x.kn x.kc]] w fun e w' => e = .returned (resS (partS form x)) ∧ Below w.heap.size w w' := by
  by_cases hkn : 0 < x.kn
  · have HV : Hid (partS form x = none) := Lib.hid (if_pos hkn)
    have q1 : (0 : Int) < (x.kn : Int) := by omega
    go_enter Tryz.func31, Tryz.ntmps31
    go_wp2_with fail
    exact bodyPost_ret (v := .tuple #[.string noStr, .bool false]) (by simp [results, Tryz.results31, go_sem, noStr]) rfl ⟨by rw [HV.out]; rfl, bAlloc2 _ _ _⟩
  · obtain ⟨h0, h1⟩ := intN_range x.tok
    have hir := intRes_eq x.tok
    obtain ⟨n, hn⟩ : ∃ n, intN x.tok = n := ⟨_, rfl⟩
    obtain ⟨ok, hok⟩ : ∃ n, intOk x.tok = n := ⟨_, rfl⟩
    have HS : Hid (partS form x = if (eqB form fLen || eqB form fLenP) = true then toldS n ok form pxS (lengthS x.tok n)
        else if (eqB form fPct || eqB form fPctP) = true then toldS n ok form pcS (x.tok.k == 11)
        else if (eqB form fInt || eqB form fIntP) = true then toldS n ok form noStr (x.tok.k == 10)
        else if eqB form fCol = true then colorS x.tok
        else if (decide (x.tok.k = 1) && eqB (identS x) form) = true then some form else none) := Lib.hid (by unfold partS; rw [if_neg hkn, hn, hok])
    rw [hn, hok] at hir
    rw [hn] at h0 h1
    have HIR := Lib.hid hir
    have HB := Lib.hid hB
    have q1 : ¬ (0 : Int) < (x.kn : Int) := by omega
    clear hB hir hn hok hkn
    go_enter Tryz.func31, Tryz.ntmps31
    go_wp2_with fail
    refine (Int_any x.tok hx.1 _).mono ?_
    rintro e w1 ⟨rfl, hb1⟩
    rw [HIR.out]
    have HB1 := HB.out.next (bNext (bAlloc2 w (.cells #[.string form] 9) (.cells #[.int .i64 x.tok.k, .string x.tok.t, .string x.tok.u, .bool x.tok.wh, .bool x.tok.fl, .slice x.ka x.kn x.kc] 26)) hb1)
    have hB1 := bNext (bAlloc2 w (.cells #[.string form] 9) (.cells #[.int .i64 x.tok.k, .string x.tok.t, .string x.tok.u, .bool x.tok.wh, .bool x.tok.fl, .slice x.ka x.kn x.kc] 26)) hb1
    have f0 : Own w.heap.size ((w.alloc (.cells #[.string form] 9)).alloc (.cells #[.int .i64 x.tok.k, .string x.tok.t, .string x.tok.u, .bool x.tok.wh, .bool x.tok.fl, .slice x.ka x.kn x.kc] 26)) #[.string form] := (Own.new w #[.string form] 9).next (bAlloc1 _ _)
    have x0 : Own (w.heap.size + 1) ((w.alloc (.cells #[.string form] 9)).alloc (.cells #[.int .i64 x.tok.k, .string x.tok.t, .string x.tok.u, .bool x.tok.wh, .bool x.tok.fl, .slice x.ka x.kn x.kc] 26)) #[.int .i64 x.tok.k, .string x.tok.t, .string x.tok.u, .bool x.tok.wh, .bool x.tok.fl, .slice x.ka x.kn x.kc] := by
      have := Own.new (w.alloc (.cells #[.string form] 9)) #[.int .i64 x.tok.k, .string x.tok.t, .string x.tok.u, .bool x.tok.wh, .bool x.tok.fl, .slice x.ka x.kn x.kc] 26
      simpa using this
    have f1 := f0.next hb1
    have x1 := x0.next hb1
    have HB2 : Hid (Base ((w1.alloc (.cells #[.int .i64 n] 3)).alloc (.cells #[.bool ok] 4))) := Lib.hid (HB1.next (bAlloc2 _ _ _))
    have hB2 : Below w.heap.size w ((w1.alloc (.cells #[.int .i64 n] 3)).alloc (.cells #[.bool ok] 4)) := bNext hB1 (bAlloc2 _ _ _)
    have HO6 : Hid (Own w1.heap.size ((w1.alloc (.cells #[.int .i64 n] 3)).alloc (.cells #[.bool ok] 4)) #[.int .i64 n]) := Lib.hid ((Own.new w1 #[.int .i64 n] 3).next (bAlloc1 _ _))
    have HO7 : Hid (Own (w1.heap.size + 1) ((w1.alloc (.cells #[.int .i64 n] 3)).alloc (.cells #[.bool ok] 4)) #[.bool ok]) := Lib.hid (by
      have := Own.new (w1.alloc (.cells #[.int .i64 n] 3)) #[.bool ok] 4
      simpa using this)
    have HOf := Lib.hid (f1.next (bAlloc2 w1 (.cells #[.int .i64 n] 3) (.cells #[.bool ok] 4)))
    have HOx := Lib.hid (x1.next (bAlloc2 w1 (.cells #[.int .i64 n] 3) (.cells #[.bool ok] 4)))
    have gf := HOf.out.m
    clear hb1 HB1 hB1 f0 x0 f1 x1 HIR HB
    have gx := HOx.out.m
    have g6 := HO6.out.m
    cases e1 : eqB form fLen
    · cases e2 : eqB form fLenP
      · cases e3 : eqB form fPct
        · cases e4 : eqB form fPctP
          · cases e5 : eqB form fInt
            · cases e6 : eqB form fIntP
              · cases e7 : eqB form fCol
                · have t1 : (form.toList == [60, 108, 101, 110, 62]) = false := (toList_lit form fLen _ rfl).trans e1
                  have t2 : (form.toList == [60, 108, 101, 110, 43, 62]) = false := (toList_lit form fLenP _ rfl).trans e2
                  have t3 : (form.toList == [60, 112, 99, 116, 62]) = false := (toList_lit form fPct _ rfl).trans e3
                  have t4 : (form.toList == [60, 112, 99, 116, 43, 62]) = false := (toList_lit form fPctP _ rfl).trans e4
                  have t5 : (form.toList == [60, 105, 110, 116, 62]) = false := (toList_lit form fInt _ rfl).trans e5
                  have t6 : (form.toList == [60, 105, 110, 116, 43, 62]) = false := (toList_lit form fIntP _ rfl).trans e6
                  have t7 : (form.toList == [60, 99, 111, 108, 111, 114, 62]) = false := (toList_lit form fCol _ rfl).trans e7

                  by_cases hk : x.tok.k = 1
                  · have HV : Hid (partS form x = if eqB (identS x) form = true then some form else none) := Lib.hid (by rw [HS.out, e1, e2, e3, e4, e5, e6, e7, decide_eq_true hk]; rfl)
                    go_wp2_with fail
                    obtain ⟨W2, hW2⟩ : ∃ W2, (w1.alloc (.cells #[.int .i64 n] 3)).alloc (.cells #[.bool ok] 4) = W2 := ⟨_, rfl⟩
                    rw [hW2] at HB2 hB2 HOx HOf ⊢
                    clear gx gf g6 HO6 HO7 hW2
                    have c0 : W2.cell? ⟨w.heap.size + 1, 0, none⟩ = some (.int .i64 1) := (HOx.out.m 0).trans (by rw [← hk]; rfl)
                    have c1 : W2.cell? ⟨w.heap.size + 1, 0 + 1, none⟩ = some (.string x.tok.t) := HOx.out.m 1
                    have c2 : W2.cell? ⟨w.heap.size + 1, 0 + 2, none⟩ = some (.string x.tok.u) := HOx.out.m 2
                    have c3 : W2.cell? ⟨w.heap.size + 1, 0 + 3, none⟩ = some (.bool x.tok.wh) := HOx.out.m 3
                    have c4 : W2.cell? ⟨w.heap.size + 1, 0 + 4, none⟩ = some (.bool x.tok.fl) := HOx.out.m 4
                    have c5 : W2.cell? ⟨w.heap.size + 1, 0 + 5, none⟩ = some (.slice x.ka x.kn x.kc) := HOx.out.m 5
                    have cf : W2.cell? ⟨w.heap.size, 0, none⟩ = some (.string form) := HOf.out.m 0
                    have hl1 := HOx.out.lt
                    have hl2 := HOf.out.lt
                    have hid : ∀ W, Calls Tryz.prog 40 #[.agg #[.int .i64 1, .string x.tok.t, .string x.tok.u, .bool x.tok.wh, .bool x.tok.fl, .slice x.ka x.kn x.kc]] W fun e w' => e = .returned (.string (identS x)) ∧ Below W.heap.size W w' := fun W => by
                      have := ident_any x hx W
                      rwa [hk] at this
                    obtain ⟨z, hz⟩ : ∃ z, identS x = z := ⟨_, rfl⟩
                    rw [hz] at HV hid
                    have HID := Lib.hid hid
                    clear hid hz
                    by_cases hzf : z = form
                    · have hq : (z.toList == form.toList) = true := by rw [hzf]; simp
                      have HW : Hid (partS form x = some form) := Lib.hid (by rw [HV.out, (eqB_iff z form).2 hzf]; rfl)
                      clear hzf
                      go_region_held3 (fun w' => w'.cell? ⟨w.heap.size + 1, 0, none⟩ = some (.int .i64 1) ∧ w'.cell? ⟨w.heap.size + 1, 0 + 1, none⟩ = some (.string x.tok.t) ∧ w'.cell? ⟨w.heap.size + 1, 0 + 2, none⟩ = some (.string x.tok.u) ∧ w'.cell? ⟨w.heap.size + 1, 0 + 3, none⟩ = some (.bool x.tok.wh) ∧ w'.cell? ⟨w.heap.size + 1, 0 + 4, none⟩ = some (.bool x.tok.fl) ∧ w'.cell? ⟨w.heap.size + 1, 0 + 5, none⟩ = some (.slice x.ka x.kn x.kc) ∧ w'.cell? ⟨w.heap.size, 0, none⟩ = some (.string form)) (go_keep)
                        (first
                          | (go_at_call 40; ((with_reducible refine (HID.out _).mono ?_); rintro e w3 ⟨rfl, hb3⟩; have c30 := cell_later ((below_drew' W2).trans hb3) c0; have c31 := cell_later ((below_drew' W2).trans hb3) c1; have c32 := cell_later ((below_drew' W2).trans hb3) c2; have c33 := cell_later ((below_drew' W2).trans hb3) c3; have c34 := cell_later ((below_drew' W2).trans hb3) c4; have c35 := cell_later ((below_drew' W2).trans hb3) c5; have c3f := cell_later ((below_drew' W2).trans hb3) cf)))
                      all_goals
                        have hB3 := bNext (bNext hB2 (below_drew' W2)) hb3
                        go_wp2_with fail
                        exact bodyPost_ret (v := .tuple #[.string form, .bool true]) (by simp [results, Tryz.results31, go_sem]) rfl ⟨by rw [HW.out]; rfl, hB3⟩
                    · have hq : (z.toList == form.toList) = false := bytes_ne hzf
                      have HW : Hid (partS form x = none) := Lib.hid (by
                        rw [HV.out, if_neg]
                        exact fun e => hzf ((eqB_iff z form).1 e))
                      clear hzf
                      go_region_held3 (fun w' => w'.cell? ⟨w.heap.size + 1, 0, none⟩ = some (.int .i64 1) ∧ w'.cell? ⟨w.heap.size + 1, 0 + 1, none⟩ = some (.string x.tok.t) ∧ w'.cell? ⟨w.heap.size + 1, 0 + 2, none⟩ = some (.string x.tok.u) ∧ w'.cell? ⟨w.heap.size + 1, 0 + 3, none⟩ = some (.bool x.tok.wh) ∧ w'.cell? ⟨w.heap.size + 1, 0 + 4, none⟩ = some (.bool x.tok.fl) ∧ w'.cell? ⟨w.heap.size + 1, 0 + 5, none⟩ = some (.slice x.ka x.kn x.kc) ∧ w'.cell? ⟨w.heap.size, 0, none⟩ = some (.string form)) (go_keep)
                        (first
                          | (go_at_call 40; ((with_reducible refine (HID.out _).mono ?_); rintro e w3 ⟨rfl, hb3⟩; have c30 := cell_later ((below_drew' W2).trans hb3) c0; have c31 := cell_later ((below_drew' W2).trans hb3) c1; have c32 := cell_later ((below_drew' W2).trans hb3) c2; have c33 := cell_later ((below_drew' W2).trans hb3) c3; have c34 := cell_later ((below_drew' W2).trans hb3) c4; have c35 := cell_later ((below_drew' W2).trans hb3) c5; have c3f := cell_later ((below_drew' W2).trans hb3) cf)))
                      all_goals
                        have hB3 := bNext (bNext hB2 (below_drew' W2)) hb3
                        go_wp2_with fail
                        exact bodyPost_ret (v := .tuple #[.string noStr, .bool false]) (by simp [results, Tryz.results31, go_sem, noStr]) rfl ⟨by rw [HW.out]; rfl, hB3⟩
                  · have HV : Hid (partS form x = none) := Lib.hid (by rw [HS.out, e1, e2, e3, e4, e5, e6, e7, decide_eq_false hk]; rfl)
                    have hk2 : (x.tok.k != 1) = true := by simpa using hk
                    go_wp2_with fail
                    obtain ⟨W2, hW2⟩ : ∃ W2, (w1.alloc (.cells #[.int .i64 n] 3)).alloc (.cells #[.bool ok] 4) = W2 := ⟨_, rfl⟩
                    rw [hW2] at HB2 hB2 HOx HOf ⊢
                    clear gx gf g6 HO6 HO7 hW2
                    have c0 : W2.cell? ⟨w.heap.size + 1, 0, none⟩ = some (.int .i64 x.tok.k) := HOx.out.m 0
                    go_region
                    go_wp2_with fail
                    exact bodyPost_ret (v := .tuple #[.string noStr, .bool false]) (by simp [results, Tryz.results31, go_sem, noStr]) rfl ⟨by rw [HV.out]; rfl, bNext hB2 (below_drew' W2)⟩
                · have t1 : (form.toList == [60, 108, 101, 110, 62]) = false := (toList_lit form fLen _ rfl).trans e1
                  have t2 : (form.toList == [60, 108, 101, 110, 43, 62]) = false := (toList_lit form fLenP _ rfl).trans e2
                  have t3 : (form.toList == [60, 112, 99, 116, 62]) = false := (toList_lit form fPct _ rfl).trans e3
                  have t4 : (form.toList == [60, 112, 99, 116, 43, 62]) = false := (toList_lit form fPctP _ rfl).trans e4
                  have t5 : (form.toList == [60, 105, 110, 116, 62]) = false := (toList_lit form fInt _ rfl).trans e5
                  have t6 : (form.toList == [60, 105, 110, 116, 43, 62]) = false := (toList_lit form fIntP _ rfl).trans e6
                  have t7 : (form.toList == [60, 99, 111, 108, 111, 114, 62]) = true := (toList_lit form fCol _ rfl).trans e7

                  have HV : Hid (partS form x = colorS x.tok) := Lib.hid (by rw [HS.out, e1, e2, e3, e4, e5, e6, e7]; rfl)
                  go_wp2_with fail
                  refine (Color_any _ HB2.out.col x hx).mono ?_
                  rintro e w4 ⟨rfl, hb4⟩
                  rw [← HV.out]
                  have hBB4 := bNext hB2 hb4
                  cases hr : partS form x with
                  | none =>
                    simp only [resS]
                    go_wp2_with fail
                    exact bodyPost_ret (v := .tuple #[.string noStr, .bool false]) (by simp [results, Tryz.results31, go_sem]) rfl ⟨by first | rfl | (rw [hr]; rfl), hBB4⟩
                  | some s =>
                    simp only [resS]
                    go_wp2_with fail
                    exact bodyPost_ret (v := .tuple #[.string s, .bool true]) (by simp [results, Tryz.results31, go_sem]) rfl ⟨by first | rfl | (rw [hr]; rfl), hBB4⟩
              · have t1 : (form.toList == [60, 108, 101, 110, 62]) = false := (toList_lit form fLen _ rfl).trans e1
                have t2 : (form.toList == [60, 108, 101, 110, 43, 62]) = false := (toList_lit form fLenP _ rfl).trans e2
                have t3 : (form.toList == [60, 112, 99, 116, 62]) = false := (toList_lit form fPct _ rfl).trans e3
                have t4 : (form.toList == [60, 112, 99, 116, 43, 62]) = false := (toList_lit form fPctP _ rfl).trans e4
                have t5 : (form.toList == [60, 105, 110, 116, 62]) = false := (toList_lit form fInt _ rfl).trans e5
                have t6 : (form.toList == [60, 105, 110, 116, 43, 62]) = true := (toList_lit form fIntP _ rfl).trans e6

                have HV : Hid (partS form x = toldS n ok form noStr (x.tok.k == 10)) := Lib.hid (by rw [HS.out, e1, e2, e3, e4, e5, e6]; rfl)
                have m6 := HO6.out.m 0
                have m7 := HO7.out.m 0
                have mf := HOf.out.m 0
                go_wp2_with fail
                refine (told_any _ HB2.out noStr form _ ok n h0 h1 (by decide) (by omega) _ _ _ m7 m6 mf).mono ?_
                rintro e w4 ⟨rfl, hb4⟩
                rw [← HV.out]
                have hBB4 := bNext hB2 hb4
                cases hr : partS form x with
                | none =>
                  simp only [resS]
                  go_wp2_with fail
                  exact bodyPost_ret (v := .tuple #[.string noStr, .bool false]) (by simp [results, Tryz.results31, go_sem]) rfl ⟨by first | rfl | (rw [hr]; rfl), hBB4⟩
                | some s =>
                  simp only [resS]
                  go_wp2_with fail
                  exact bodyPost_ret (v := .tuple #[.string s, .bool true]) (by simp [results, Tryz.results31, go_sem]) rfl ⟨by first | rfl | (rw [hr]; rfl), hBB4⟩
            · have t1 : (form.toList == [60, 108, 101, 110, 62]) = false := (toList_lit form fLen _ rfl).trans e1
              have t2 : (form.toList == [60, 108, 101, 110, 43, 62]) = false := (toList_lit form fLenP _ rfl).trans e2
              have t3 : (form.toList == [60, 112, 99, 116, 62]) = false := (toList_lit form fPct _ rfl).trans e3
              have t4 : (form.toList == [60, 112, 99, 116, 43, 62]) = false := (toList_lit form fPctP _ rfl).trans e4
              have t5 : (form.toList == [60, 105, 110, 116, 62]) = true := (toList_lit form fInt _ rfl).trans e5

              have HV : Hid (partS form x = toldS n ok form noStr (x.tok.k == 10)) := Lib.hid (by rw [HS.out, e1, e2, e3, e4, e5]; rfl)
              have m6 := HO6.out.m 0
              have m7 := HO7.out.m 0
              have mf := HOf.out.m 0
              go_wp2_with fail
              refine (told_any _ HB2.out noStr form _ ok n h0 h1 (by decide) (by omega) _ _ _ m7 m6 mf).mono ?_
              rintro e w4 ⟨rfl, hb4⟩
              rw [← HV.out]
              have hBB4 := bNext hB2 hb4
              cases hr : partS form x with
              | none =>
                simp only [resS]
                go_wp2_with fail
                exact bodyPost_ret (v := .tuple #[.string noStr, .bool false]) (by simp [results, Tryz.results31, go_sem]) rfl ⟨by first | rfl | (rw [hr]; rfl), hBB4⟩
              | some s =>
                simp only [resS]
                go_wp2_with fail
                exact bodyPost_ret (v := .tuple #[.string s, .bool true]) (by simp [results, Tryz.results31, go_sem]) rfl ⟨by first | rfl | (rw [hr]; rfl), hBB4⟩
          · have t1 : (form.toList == [60, 108, 101, 110, 62]) = false := (toList_lit form fLen _ rfl).trans e1
            have t2 : (form.toList == [60, 108, 101, 110, 43, 62]) = false := (toList_lit form fLenP _ rfl).trans e2
            have t3 : (form.toList == [60, 112, 99, 116, 62]) = false := (toList_lit form fPct _ rfl).trans e3
            have t4 : (form.toList == [60, 112, 99, 116, 43, 62]) = true := (toList_lit form fPctP _ rfl).trans e4

            have HV : Hid (partS form x = toldS n ok form pcS (x.tok.k == 11)) := Lib.hid (by rw [HS.out, e1, e2, e3, e4]; rfl)
            have m6 := HO6.out.m 0
            have m7 := HO7.out.m 0
            have mf := HOf.out.m 0
            go_wp2_with fail
            refine (told_any _ HB2.out pcS form _ ok n h0 h1 (by decide) (by omega) _ _ _ m7 m6 mf).mono ?_
            rintro e w4 ⟨rfl, hb4⟩
            rw [← HV.out]
            have hBB4 := bNext hB2 hb4
            cases hr : partS form x with
            | none =>
              simp only [resS]
              go_wp2_with fail
              exact bodyPost_ret (v := .tuple #[.string noStr, .bool false]) (by simp [results, Tryz.results31, go_sem]) rfl ⟨by first | rfl | (rw [hr]; rfl), hBB4⟩
            | some s =>
              simp only [resS]
              go_wp2_with fail
              exact bodyPost_ret (v := .tuple #[.string s, .bool true]) (by simp [results, Tryz.results31, go_sem]) rfl ⟨by first | rfl | (rw [hr]; rfl), hBB4⟩
        · have t1 : (form.toList == [60, 108, 101, 110, 62]) = false := (toList_lit form fLen _ rfl).trans e1
          have t2 : (form.toList == [60, 108, 101, 110, 43, 62]) = false := (toList_lit form fLenP _ rfl).trans e2
          have t3 : (form.toList == [60, 112, 99, 116, 62]) = true := (toList_lit form fPct _ rfl).trans e3

          have HV : Hid (partS form x = toldS n ok form pcS (x.tok.k == 11)) := Lib.hid (by rw [HS.out, e1, e2, e3]; rfl)
          have m6 := HO6.out.m 0
          have m7 := HO7.out.m 0
          have mf := HOf.out.m 0
          go_wp2_with fail
          refine (told_any _ HB2.out pcS form _ ok n h0 h1 (by decide) (by omega) _ _ _ m7 m6 mf).mono ?_
          rintro e w4 ⟨rfl, hb4⟩
          rw [← HV.out]
          have hBB4 := bNext hB2 hb4
          cases hr : partS form x with
          | none =>
            simp only [resS]
            go_wp2_with fail
            exact bodyPost_ret (v := .tuple #[.string noStr, .bool false]) (by simp [results, Tryz.results31, go_sem]) rfl ⟨by first | rfl | (rw [hr]; rfl), hBB4⟩
          | some s =>
            simp only [resS]
            go_wp2_with fail
            exact bodyPost_ret (v := .tuple #[.string s, .bool true]) (by simp [results, Tryz.results31, go_sem]) rfl ⟨by first | rfl | (rw [hr]; rfl), hBB4⟩
      · have t1 : (form.toList == [60, 108, 101, 110, 62]) = false := (toList_lit form fLen _ rfl).trans e1
        have t2 : (form.toList == [60, 108, 101, 110, 43, 62]) = true := (toList_lit form fLenP _ rfl).trans e2

        have HV : Hid (partS form x = toldS n ok form pxS (lengthS x.tok n)) := Lib.hid (by rw [HS.out, e1, e2]; rfl)
        go_wp2_with fail
        refine (length_any x.tok n hx.2 _).mono ?_
        rintro e w3 ⟨rfl, hb3⟩
        have HB3 := Lib.hid (HB2.out.next hb3)
        have m6 := (HO6.out.next hb3).m 0
        have m7 := (HO7.out.next hb3).m 0
        have mf := (HOf.out.next hb3).m 0
        have hBB3 := bNext hB2 hb3
        clear gx g6 gf hb3 hB2
        go_wp2_with fail
        refine (told_any w3 HB3.out pxS form _ ok n h0 h1 (by decide) (by omega) _ _ _ m7 m6 mf).mono ?_
        rintro e w4 ⟨rfl, hb4⟩
        rw [← HV.out]
        have hBB4 := bNext hBB3 hb4
        cases hr : partS form x with
        | none =>
          simp only [resS]
          go_wp2_with fail
          exact bodyPost_ret (v := .tuple #[.string noStr, .bool false]) (by simp [results, Tryz.results31, go_sem]) rfl ⟨by first | rfl | (rw [hr]; rfl), hBB4⟩
        | some s =>
          simp only [resS]
          go_wp2_with fail
          exact bodyPost_ret (v := .tuple #[.string s, .bool true]) (by simp [results, Tryz.results31, go_sem]) rfl ⟨by first | rfl | (rw [hr]; rfl), hBB4⟩
    · have t1 : (form.toList == [60, 108, 101, 110, 62]) = true := (toList_lit form fLen _ rfl).trans e1

      have HV : Hid (partS form x = toldS n ok form pxS (lengthS x.tok n)) := Lib.hid (by rw [HS.out, e1]; rfl)
      go_wp2_with fail
      refine (length_any x.tok n hx.2 _).mono ?_
      rintro e w3 ⟨rfl, hb3⟩
      have HB3 := Lib.hid (HB2.out.next hb3)
      have m6 := (HO6.out.next hb3).m 0
      have m7 := (HO7.out.next hb3).m 0
      have mf := (HOf.out.next hb3).m 0
      have hBB3 := bNext hB2 hb3
      clear gx g6 gf hb3 hB2
      go_wp2_with fail
      refine (told_any w3 HB3.out pxS form _ ok n h0 h1 (by decide) (by omega) _ _ _ m7 m6 mf).mono ?_
      rintro e w4 ⟨rfl, hb4⟩
      rw [← HV.out]
      have hBB4 := bNext hBB3 hb4
      cases hr : partS form x with
      | none =>
        simp only [resS]
        go_wp2_with fail
        exact bodyPost_ret (v := .tuple #[.string noStr, .bool false]) (by simp [results, Tryz.results31, go_sem]) rfl ⟨by first | rfl | (rw [hr]; rfl), hBB4⟩
      | some s =>
        simp only [resS]
        go_wp2_with fail
        exact bodyPost_ret (v := .tuple #[.string s, .bool true]) (by simp [results, Tryz.results31, go_sem]) rfl ⟨by first | rfl | (rw [hr]; rfl), hBB4⟩
end Go.Proofs.YtpadcjcoafidgaaGreatDoor
/-! value.Parse. -/
namespace Go.Proofs.YtpadcjcoafidgaaGreatDoor
open Go.RowKit

def firstPart : List ByteArray → Val → Option ByteArray
  | [], _ => none
  | f :: fs, x => match partS f x with
    | some s => some s
    | none => firstPart fs x
def parseS (name : ByteArray) (l : List Val) : Option ByteArray := match trim l with
  | [x] => if (placeN name).isSome = true then firstPart (parts (findRow name).2.2.2) x else none
  | _ => none
theorem parseS_one {name : ByteArray} {l : List Val} {x : Val} (h : trim l = [x]) : parseS name l = if (placeN name).isSome = true then firstPart (parts (findRow name).2.2.2) x else none := by unfold parseS; rw [h]
theorem parseS_not {name : ByteArray} {l : List Val} (h : (trim l).length ≠ 1) : parseS name l = none := by
  unfold parseS
  split
  · rename_i x hx; rw [hx] at h; exact absurd rfl h
  · rfl
theorem firstPart_drop {fs : List ByteArray} {x : Val} {k : Nat} (hk : k < fs.length) : firstPart (fs.drop k) x = match partS fs[k] x with
    | some s => some s
    | none => firstPart (fs.drop (k + 1)) x := by
  rw [List.drop_eq_getElem_cons hk, firstPart]
theorem findRow_small (s : ByteArray) : (findRow s).2.2.2.size ≤ 1000 := by
  unfold findRow
  split
  · rename_i k _
    by_cases hk : k < 48
    · have : ∀ n : Fin 48, (rowAt n.val).2.2.2.size ≤ 1000 := by decide +kernel
      exact this ⟨k, hk⟩
    · unfold rowAt
      rw [List.getElem?_eq_none (by rw [tbl_length]; omega)]
      decide
  · decide
set_option maxRecDepth 100000 in
set_option maxHeartbeats 4000000 in
theorem Parse_any (w : World) (hB : Base w) (name : ByteArray) (v : Value) (l : List Val) (h : Vs w v l) (hf : ∀ x ∈ l, x.fits) :
    Calls Tryz.prog 16 #[.string name, v] w fun e w' => e = .returned (resS (parseS name l)) ∧ Below w.heap.size w w' := by
  have HB := Lib.hid hB
  clear hB
  go_enter Tryz.func16, Tryz.ntmps16
  go_wp2_with fail
  refine (Trim_any w _ l h).mono ?_
  rintro e w1 ⟨v1, rfl, hv1, hb1⟩
  go_wp2_with fail
  refine (Find_any name w1).mono ?_
  rintro e w2 ⟨rfl, hb2⟩
  have hv2 := hv1.next hb2
  have hB2 := bNext hb1 hb2
  clear hv1 hb1 hb2 h
  obtain ⟨ok, hok⟩ : ∃ b, (placeN name).isSome = b := ⟨_, rfl⟩
  obtain ⟨⟨ra, rb, rc, rf⟩, hr⟩ : ∃ r, findRow name = r := ⟨_, rfl⟩
  have hrf : rf.size ≤ 1000 := by have := findRow_small name; rw [hr] at this; exact this
  rw [hok, hr]
  by_cases h1 : (trim l).length = 1
  · obtain ⟨x, hx⟩ := List.length_eq_one_iff.1 h1
    have hxf := hf x (trim_mem (by rw [hx]; exact List.mem_singleton.2 rfl))
    have HP : Hid (parseS name l = if ok = true then firstPart (parts rf) x else none) := Lib.hid (by rw [parseS_one hx, hok, hr])
    rw [hx] at hv2
    have HV2 := Lib.hid hv2
    clear hx h1 hok hr hf
    cases ok with
    | false =>
      have HW : Hid (resS (parseS name l) = .tuple #[.string noStr, .bool false]) := Lib.hid (by rw [HP.out]; rfl)
      go_wp2_with fail
      exact bodyPost_ret (v := .tuple #[.string noStr, .bool false]) (by simp [results, Tryz.results16, go_sem, noStr]) rfl ⟨by rw [HW.out], bNext hB2 (bAlloc1 _ _)⟩
    | true =>
      have HPP : Hid (parseS name l = firstPart (parts rf) x) := Lib.hid (by rw [HP.out, if_pos rfl])
      obtain ⟨b, off, cap, rfl, hb, x0, x1, x2, x3, x4, x5⟩ := hv2.one
      have HB3 := (HB.out.next hB2).next (bAlloc1 w2 (.cells #[.string ra, .string rb, .bool rc, .string rf] 39))
      have hB3 := bNext hB2 (bAlloc1 w2 (.cells #[.string ra, .string rb, .bool rc, .string rf] 39))
      clear hv2 HP
      go_wp2_with fail
      refine (Forms_any ra rb rf rc (by omega) _).mono ?_
      rintro e w3 ⟨v3, rfl, hs3, hb3⟩
      have HB4 := Lib.hid (HB3.next hb3)
      have hB4 := bNext hB3 hb3
      have HV4 := Lib.hid ((HV2.out.next (bAlloc1 w2 (.cells #[.string ra, .string rb, .bool rc, .string rf] 39))).next hb3)
      have hpl := parts_length rf
      have H3 := Lib.hid hs3
      obtain ⟨a3, c3, rfl, _⟩ := hs3.val
      clear HB3 hB3 hb3 HB HV2 hs3 x0 x1 x2 x3 x4 x5
      go_wp2_with fail
      go_loopw [9, 10, 11, 29] (fun _ _ _ iv wr => ∃ k : Nat, k ≤ (parts rf).length ∧ iv = .int .i64 k ∧ Hid (firstPart ((parts rf).drop k) x = firstPart (parts rf) x) ∧ Below w3.heap.size w3 wr)
        (fun _ _ _ iv _ => (parts rf).length - (intOf iv).toNat)
      case atStart => exact ⟨0, by omega, rfl, Lib.hid rfl, Below.refl _ _⟩
      case round =>
        obtain ⟨k, hk, rfl, HF, hb5⟩ := hrel
        have hB5 := bNext hB4 hb5
        by_cases hlt : k < (parts rf).length
        · have hne : parts rf ≠ [] := by intro e; rw [e] at hlt; simp at hlt
          obtain ⟨b1, o1, c1', e1, _, hbb, hc1⟩ := H3.out.at hne
          simp only [Value.slice.injEq] at e1
          obtain ⟨rfl, _, _⟩ := e1
          have f1 : wr.cell? ⟨b1, o1 + k, none⟩ = some (.string (parts rf)[k]) := (hb5.cell (p := ⟨b1, _, none⟩) hbb).trans (hc1 k hlt)
          have hps := parts_size rf k hlt
          obtain ⟨f, hf'⟩ : ∃ f, (parts rf)[k] = f := ⟨_, rfl⟩
          have hfd := firstPart_drop (x := x) hlt
          rw [hf'] at f1 hfd hps
          have HFD := Lib.hid hfd
          obtain ⟨b', off', cap', hvv, hb', x0, x1, x2, x3, x4, x5⟩ := (HV4.out.next hb5).one
          simp only [Value.slice.injEq, Option.some.injEq, Addr.mk.injEq, and_true] at hvv
          obtain ⟨⟨rfl, rfl⟩, _, rfl⟩ := hvv
          have HB5 := HB4.out.next hb5
          clear hc1 hf' hfd
          have q1 : (0 : Int) ≤ (k : Int) := by omega
          have q2 : (k : Int) < ((parts rf).length : Int) := by omega
          go_wp2_with fail
          refine (VPart_any wr HB5 f (by omega) x hxf).mono ?_
          rintro e w6 ⟨rfl, hb6⟩
          have hB6 := bNext hB5 hb6
          have hb36 := bNext hb5 hb6
          cases hr2 : partS f x with
          | none =>
            have HN : Hid (firstPart ((parts rf).drop (k + 1)) x = firstPart (parts rf) x) := Lib.hid (by rw [← HF.out, HFD.out, hr2])
            simp only [resS]
            clear x0 x1 x2 x3 x4 x5 f1
            go_wp2_with fail
            go_roundw
            case rel => exact ⟨k + 1, by omega, by go_num, HN, hb36⟩
            case measure => simp [intOf]; omega
          | some s =>
            have HW : Hid (resS (parseS name l) = .tuple #[.string s, .bool true]) := Lib.hid (by rw [HPP.out, ← HF.out, HFD.out, hr2]; rfl)
            simp only [resS]
            clear x0 x1 x2 x3 x4 x5 f1
            go_wp2_with fail
            exact bodyPost_ret (v := .tuple #[.string s, .bool true]) (by simp [results, Tryz.results16, go_sem]) rfl ⟨by rw [HW.out], hB6⟩
        · have hke : k = (parts rf).length := by omega
          have HW : Hid (resS (parseS name l) = .tuple #[.string noStr, .bool false]) := Lib.hid (by rw [HPP.out, ← HF.out, hke, List.drop_length]; rfl)
          have q2 : ¬ (k : Int) < ((parts rf).length : Int) := by omega
          clear hke
          go_wp2_with fail
          exact bodyPost_ret (v := .tuple #[.string noStr, .bool false]) (by simp [results, Tryz.results16, go_sem, noStr]) rfl ⟨by rw [HW.out], hB5⟩
  · have HW : Hid (resS (parseS name l) = .tuple #[.string noStr, .bool false]) := Lib.hid (by rw [parseS_not h1]; rfl)
    obtain ⟨a, cap, rfl, _⟩ := hv2
    have q1 : ¬ (((trim l).length : Int) = 1) := by omega
    clear h1 hok hr
    cases ok with
    | false =>
      go_wp2_with fail
      exact bodyPost_ret (v := .tuple #[.string noStr, .bool false]) (by simp [results, Tryz.results16, go_sem, noStr]) rfl ⟨by rw [HW.out], bNext hB2 (bAlloc1 _ _)⟩
    | true =>
      go_wp2_with fail
      exact bodyPost_ret (v := .tuple #[.string noStr, .bool false]) (by simp [results, Tryz.results16, go_sem, noStr]) rfl ⟨by rw [HW.out], bNext hB2 (bAlloc1 _ _)⟩
end Go.Proofs.YtpadcjcoafidgaaGreatDoor
/-! Texts whose tokens and values are computed. -/
namespace Go.Proofs.YtpadcjcoafidgaaGreatDoor
open Go.RowKit

def toksOf (s : ByteArray) : List Tok := (lex (runesOf s)).getD []
def lexOk (s : ByteArray) : Bool := (runesOf s).all (fun c => decide (tm c)) && decide (s.size ≤ 10000) && (lex (runesOf s)).isSome && !(toksOf s).isEmpty && (toksOf s).all (fun t => decide (t.t.size ≤ 10000) && decide (t.u.size ≤ 10000))
theorem Lexes.of {s : ByteArray} (h : lexOk s = true) : Lexes s (toksOf s) := by
  unfold lexOk at h
  simp only [Bool.and_eq_true, List.all_eq_true, decide_eq_true_eq, Bool.not_eq_true'] at h
  obtain ⟨⟨⟨⟨h1, h2⟩, h3⟩, h4⟩, h5⟩ := h
  refine ⟨h1, ?_, h2, fun e => by rw [e] at h4; cases h4⟩
  unfold toksOf
  cases hl : Go.Proofs.YtpadcjcoafidgaaGreatDoor.lex (runesOf s) with
  | none => rw [hl] at h3; cases h3
  | some l => rfl
theorem fits_of {s : ByteArray} (h : lexOk s = true) : ∀ x ∈ (toksOf s).map Val.of, x.fits := by
  unfold lexOk at h
  simp only [Bool.and_eq_true, List.all_eq_true, decide_eq_true_eq, Bool.not_eq_true'] at h
  intro x hx
  obtain ⟨t, ht, rfl⟩ := List.mem_map.1 hx
  have := h.2 t ht
  exact ⟨Nat.le_trans this.1 (by decide), Nat.le_trans this.2 (by decide)⟩
def parseT (name s : ByteArray) : Option ByteArray := parseS name ((toksOf s).map Val.of)
def someEq (o : Option ByteArray) (b : ByteArray) : Bool := match o with
  | some x => eqB x b
  | none => false
theorem someEq_iff {o : Option ByteArray} {b : ByteArray} (h : someEq o b = true) : o = some b := by
  unfold someEq at h
  cases o with
  | none => cases h
  | some x => rw [(eqB_iff x b).1 h]
def initOk (r : Row) : Bool := lexOk r.2.1 && someEq (parseT r.1 r.2.1) r.2.1
theorem init_all : ∀ n : Fin 48, initOk (rowAt n.val) = true := by decide +kernel
def aWidth : ByteArray := ⟨#[119, 105, 100, 116, 104]⟩
def aColor : ByteArray := ⟨#[99, 111, 108, 111, 114]⟩
def aMarginTop : ByteArray := ⟨#[109, 97, 114, 103, 105, 110, 45, 116, 111, 112]⟩
def t10PX : ByteArray := ⟨#[49, 48, 80, 88]⟩
def tm1px : ByteArray := ⟨#[45, 49, 112, 120]⟩
def tF00 : ByteArray := ⟨#[35, 70, 48, 48]⟩
def t0 : ByteArray := ⟨#[48]⟩
def r10px : ByteArray := ⟨#[49, 48, 112, 120]⟩
def rff0000 : ByteArray := ⟨#[35, 102, 102, 48, 48, 48, 48]⟩
def r0px : ByteArray := ⟨#[48, 112, 120]⟩
theorem live1 : lexOk t10PX = true ∧ someEq (parseT aWidth t10PX) r10px = true := by decide +kernel
theorem live2 : lexOk tm1px = true ∧ (parseT aWidth tm1px).isNone = true := by decide +kernel
theorem live3 : lexOk tF00 = true ∧ someEq (parseT aColor tF00) rff0000 = true := by decide +kernel
theorem live4 : lexOk t0 = true ∧ someEq (parseT aMarginTop t0) r0px = true := by decide +kernel
def tINHERIT : ByteArray := ⟨#[32, 73, 78, 72, 69, 82, 73, 84, 32]⟩
def rinherit : ByteArray := ⟨#[105, 110, 104, 101, 114, 105, 116]⟩
theorem live5 : lexOk tINHERIT = true ∧ eqB (wideS ((toksOf tINHERIT).map Val.of)) rinherit = true := by decide +kernel
end Go.Proofs.YtpadcjcoafidgaaGreatDoor
/-! gouachelaw15.lives. -/
namespace Go.Proofs.YtpadcjcoafidgaaGreatDoor
open Go.RowKit

theorem eqB_self (a : ByteArray) : eqB a a = true := (eqB_iff a a).2 rfl
set_option maxRecDepth 100000 in
set_option maxHeartbeats 4000000 in
theorem lives15_any (w : World) (hB : Base w) :
    Calls Tryz.prog 12 #[] w fun e w' => e = .returned (.bool true) ∧ Below w.heap.size w w' := by
  have HB := Lib.hid hB
  clear hB
  go_enter Tryz.func12, Tryz.ntmps12
  go_wp2_with fail
  refine (values15_any w t10PX _ (Lexes.of live1.1)).mono ?_
  rintro e w1 ⟨v1, rfl, hv1, hb1⟩
  go_wp2_with fail
  refine (Parse_any w1 (HB.out.next hb1) aWidth v1 _ hv1 (fits_of live1.1)).mono ?_
  rintro e w2 ⟨rfl, hb2⟩
  rw [show parseS aWidth ((toksOf t10PX).map Val.of) = some r10px from someEq_iff live1.2]
  simp only [resS]
  have hB2 := bNext hb1 hb2
  clear hv1 hb1 hb2
  go_wp2_with fail
  refine (values15_any w2 tm1px _ (Lexes.of live2.1)).mono ?_
  rintro e w3 ⟨v3, rfl, hv3, hb3⟩
  have hB3 := bNext hB2 hb3
  go_wp2_with fail
  refine (Parse_any w3 (HB.out.next hB3) aWidth v3 _ hv3 (fits_of live2.1)).mono ?_
  rintro e w4 ⟨rfl, hb4⟩
  rw [show parseS aWidth ((toksOf tm1px).map Val.of) = none from Option.isNone_iff_eq_none.1 live2.2]
  simp only [resS]
  have hB4 := bNext hB3 hb4
  clear hv3 hb3 hb4 hB3
  go_wp2_with fail
  refine (values15_any w4 tF00 _ (Lexes.of live3.1)).mono ?_
  rintro e w5 ⟨v5, rfl, hv5, hb5⟩
  have hB5 := bNext hB4 hb5
  go_wp2_with fail
  refine (Parse_any w5 (HB.out.next hB5) aColor v5 _ hv5 (fits_of live3.1)).mono ?_
  rintro e w6 ⟨rfl, hb6⟩
  rw [show parseS aColor ((toksOf tF00).map Val.of) = some rff0000 from someEq_iff live3.2]
  simp only [resS]
  have hB6 := bNext hB5 hb6
  clear hv5 hb5 hb6 hB5
  go_wp2_with fail
  refine (values15_any w6 t0 _ (Lexes.of live4.1)).mono ?_
  rintro e w7 ⟨v7, rfl, hv7, hb7⟩
  have hB7 := bNext hB6 hb7
  go_wp2_with fail
  refine (Parse_any w7 (HB.out.next hB7) aMarginTop v7 _ hv7 (fits_of live4.1)).mono ?_
  rintro e w8 ⟨rfl, hb8⟩
  rw [show parseS aMarginTop ((toksOf t0).map Val.of) = some r0px from someEq_iff live4.2]
  simp only [resS]
  have hB8 := bNext hB7 hb8
  clear hv7 hb7 hb8 hB7
  have e1 : (r10px.toList == [49, 48, 112, 120]) = true := (toList_lit r10px r10px _ rfl).trans (eqB_self _)
  have e2 : (rff0000.toList == [35, 102, 102, 48, 48, 48, 48]) = true := (toList_lit rff0000 rff0000 _ rfl).trans (eqB_self _)
  have e3 : (r0px.toList == [48, 112, 120]) = true := (toList_lit r0px r0px _ rfl).trans (eqB_self _)
  go_wp2_with fail
  go_ret
  exact ⟨rfl, hB8⟩
end Go.Proofs.YtpadcjcoafidgaaGreatDoor
