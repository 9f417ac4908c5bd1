/- Texts of this seat, laid together: NumberWalk, Lex, Shapes, Sees, Way, Tokens. -/
import Derived.Test.YtpadcjcoafidgaaGreatDoorK2
import Derived.Laws.Cover4
import Derived.Lib.OthersKept
import Derived.WalkSmall
/-! The walk of reader.number. -/
namespace Go.Proofs.YtpadcjcoafidgaaGreatDoor
open Go.RowKit

set_option maxRecDepth 100000 in
set_option maxHeartbeats 8000000 in
theorem number_dig (w : World) (b : Nat) (rv : Value) (rs : List Int) (i : Nat) (h : Rd w b rv rs i) (ht : Tame rs) (ha : Asc rs) (hi : i < rs.length) (hc : isIn 48 57 (at_ rs i) = true) (he : NoExp (rs.drop i)) :
    Calls Tryz.prog 130 #[.pointer (some ⟨b, 0, none⟩)] w fun e w' => (e = .returned (numTok (rs.drop i))) ∧ But w.heap.size b w w' ∧ Rd w' b rv rs (i + numLen (rs.drop i)) := by
  have T := Lib.hid ht
  have A := Lib.hid ha
  have hbw : b < w.heap.size := World.block_lt_of_cell? w _ h.c0
  have hbig := h.big
  have HR0 : Hid (∀ o o', Rd ((w.alloc o).alloc o') b rv rs i) := Lib.hid (fun o o' => (h.next (bAlloc1 w o)).next (bAlloc1 _ o'))
  have c1 : ∀ o o', ((w.alloc o).alloc o').cell? ⟨b, 0 + 1, none⟩ = some (.int .i64 (i : Int)) := fun o o' => (HR0.out o o').c1
  obtain ⟨z, hz⟩ : ∃ z, strOf ((rs.drop i).take (digLen (rs.drop i))) = z := ⟨_, rfl⟩
  have hij : i ≤ i + digLen (rs.drop i) := Nat.le_add_right _ _
  obtain ⟨j, hjj⟩ : ∃ j, i + digLen (rs.drop i) = j := ⟨_, rfl⟩
  rw [hjj] at hij
  obtain ⟨c, hcc⟩ : ∃ c, at_ rs (i + 0) = c := ⟨_, rfl⟩
  have HE := Lib.hid he
  clear h ht ha he
  go_enter Tryz.func130, Tryz.ntmps130
  go_wp2_with fail
  clear c1
  refine (peek_any _ b rv rs i 0 (HR0.out _ _) (by decide)).mono ?_
  rintro e w1 ⟨rfl, hb1⟩
  have HT := Lib.hid ((Two.new w b _ _ _ _).next hbw (But.of hb1))
  have HR := Lib.hid ((HR0.out _ _).next hb1)
  clear hb1 HR0
  rw [hcc]
  go_wp2_with fail
  refine (digit_any _ _).mono ?_
  rintro e w2 ⟨rfl, hb2⟩
  have HT2 := Lib.hid (HT.out.next hbw (But.of hb2))
  have HR2 := Lib.hid (HR.out.next hb2)
  clear hb2 HT HR
  have hcd : isIn 48 57 c = true := by rw [← hcc]; exact hc
  have hj : Hid (i + 0 + ((rs.drop (i + 0)).takeWhile (isIn 48 57)).length = j) := Lib.hid (by rw [← hjj]; unfold digLen signLen; rw [at_drop, Nat.add_zero, if_pos hc]; simp)
  go_wp2_with fail
  have HT3 := HT2
  have HR3 := HR2
  refine (while_digit _ b rv rs (i + 0) HR3.out).mono ?_
  rintro e w4 ⟨⟨v, rfl⟩, hbut4, hrd4⟩
  have HT4 := Lib.hid (HT3.out.next hbw hbut4)
  have HR4 : Hid (Rd w4 b rv rs j) := Lib.hid (by rw [← hj.out]; exact hrd4)
  clear hbut4 hrd4
  go_wp2_with fail
  refine (peek_any _ b rv rs j 0 HR4.out (by decide)).mono ?_
  rintro e w5 ⟨rfl, hb5⟩
  have HT5 := Lib.hid (HT4.out.next hbw (But.of hb5))
  have HR5 := Lib.hid (HR4.out.next hb5)
  clear hb5 HT4 HR4
  have hq := T.out.or j
  obtain ⟨x, hx⟩ : ∃ x, at_ rs j = x := ⟨_, rfl⟩
  rw [hx] at hq
  have hE := HE.out
  unfold NoExp at hE
  rw [at_drop, hjj, hx] at hE
  have b46 : (x == 46) = false := by rw [beq_eq_false_iff_ne]; intro e; subst e; revert hq; decide
  have bE := noE x hq hE.1 hE.2
  have hX := Lib.hid hx
  have HQ := Lib.hid hq
  rw [show at_ rs (j + 0) = x from hx]
  clear hE hx hq
  go_wp2_with fail
  refine (peek_any _ b rv rs j 1 HR5.out (by decide)).mono ?_
  rintro e w6 ⟨rfl, hb6⟩
  have HT6 := Lib.hid (HT5.out.next hbw (But.of hb6))
  have HR6 := Lib.hid (HR5.out.next hb6)
  clear hb6 HT5 HR5
  obtain ⟨y, hy⟩ : ∃ y, at_ rs (j + 1) = y := ⟨_, rfl⟩
  have hy4 : (y == 43) = false := by
    have := T.out.or (j + 1)
    rw [hy] at this
    rw [beq_eq_false_iff_ne]; intro e; subst e; revert this; decide
  rw [hy]
  clear hy
  cases hy5 : (y == 45)
  · go_wp2_with fail
    refine (peek_any _ b rv rs j 0 HR6.out (by decide)).mono ?_
    rintro e w7 ⟨rfl, hb7⟩
    have HT7 := Lib.hid (HT6.out.next hbw (But.of hb7))
    have HR7 := Lib.hid (HR6.out.next hb7)
    clear hb7 HT6 HR6
    rw [show at_ rs (j + 0) = x from hX.out]
    go_wp2_with fail
    obtain ⟨p, off, cap, hrv, hcap, hp, hcell⟩ := HR7.out.rn
    have g0 := HR7.out.c0
    rw [hrv] at g0
    have g1 := HR7.out.c1
    have hjl := HR7.out.le
    have hrv' := Lib.hid hrv
    clear hrv
    have hcv : (convert 88 9 (.slice (some ⟨p, off + i, none⟩) (j - i) (cap - i))).run Tryz.prog w7.drew = .ok (.string z) w7.drew := by
      rw [run_convert_runes w7.drew 88 9 21 ⟨p, off + i, none⟩ (j - i) (cap - i) (rs.drop i) (by rw [List.length_drop]; omega) Tryz.underlying88 Tryz.underlying21 Tryz.underlying9 (fun m hm => by
        rw [List.length_drop] at hm
        have hadd : (⟨p, off + i, none⟩ : Addr).add m = ⟨p, off + (i + m), none⟩ := by unfold Addr.add; split <;> simp_all <;> omega
        rw [hadd, show (rs.drop i).getD m 0 = rs[i + m]'(by omega) by simp [List.getD, List.getElem?_drop, show i + m < rs.length by omega]]
        exact hcell (i + m) (by omega)), runesBytes_asc _ (fun y hy => A.out y (List.mem_of_mem_drop (List.mem_of_mem_take hy)))]
      rw [← hz, ← hjj, show i + digLen (rs.drop i) - i = digLen (rs.drop i) by omega]
    clear hcell
    have q1 : (i : Int) ≤ (j : Int) := by omega
    have q2 : (j : Int) ≤ (cap : Int) := by omega
    have q3 : (0 : Int) ≤ (i : Int) := by omega
    have t1 : w7.cell? ⟨w.heap.size + 1, 0 + 1, none⟩ = some (.string ⟨#[]⟩) := HT7.out.m1 1
    have t1f : w7.frozen? ⟨w.heap.size + 1, 0 + 1, none⟩ = false := HT7.out.f1 1
    go_region
    have HT8 := Lib.hid ((HT7.out.set1 1 (.string z) (by decide)).drew)
    have HR8 : Hid (Rd (w7.setCell ⟨w.heap.size + 1, 1, none⟩ (.string z)).drew b rv rs j) := Lib.hid ((rd_own HR7.out (by omega) 1 _).next ((Below.refl _ _).drew))
    clear HT7 HR7 hcv g0 g1 t1 t1f hrv' hcap hp
    obtain ⟨w8, hw8⟩ : ∃ w8, (w7.setCell ⟨w.heap.size + 1, 1, none⟩ (.string z)).drew = w8 := ⟨_, rfl⟩
    rw [hw8] at HT8 HR8 ⊢
    clear hw8
    go_wp2_with fail
    refine (begins_any _ b rv rs j 0 HR8.out (by decide) T.out).mono ?_
    rintro e w9 ⟨rfl, hb9⟩
    have HT9 := Lib.hid (HT8.out.next hbw (But.of hb9))
    have HR9 := Lib.hid (HR8.out.next hb9)
    clear hb9 HT8 HR8
    obtain ⟨bg, hbg⟩ : ∃ bg, begins (rs.drop j) = bg := ⟨_, rfl⟩
    rw [show begins (rs.drop (j + 0)) = bg from hbg]
    cases hbb : bg
    · go_wp2_with fail
      refine (peek_any _ b rv rs j 0 HR9.out (by decide)).mono ?_
      rintro e w10 ⟨rfl, hb10⟩
      have HT10 := Lib.hid (HT9.out.next hbw (But.of hb10))
      have HR10 := Lib.hid (HR9.out.next hb10)
      clear hb10 HT9 HR9
      rw [show at_ rs (j + 0) = x from hX.out]
      have m0 := HT10.out.m0
      have f0 := HT10.out.f0
      have m1 := HT10.out.m1
      have f1 := HT10.out.f1
      have hw0 : w.heap.size ≤ w.heap.size := Nat.le_refl _
      have hw1 : w.heap.size ≤ w.heap.size + 1 := Nat.le_succ _
      have hbw1 : b < w.heap.size + 1 := Nat.lt_succ_of_lt hbw
      by_cases h37 : x = 37
      · have b37 : (x == 37) = true := by simpa using h37
        have g1 := HR10.out.c1
        have gf := HR10.out.f1
        have hjl2 : j < rs.length := by
          rcases Nat.lt_or_ge j rs.length with h' | h'
          · exact h'
          · have := hX.out; rw [at_end h', h37] at this; omega
        have hwj : IntKind.i64.wrap ((j : Int) + 1) = ((j + 1 : Nat) : Int) := by rw [Go.IntWalk.i64_in _ (by omega)]; omega
        have hne0 : ¬ (b = w.heap.size) := by omega
        have hne0' : ¬ (w.heap.size = b) := by omega
        have hne1 : ¬ (b = w.heap.size + 1) := by omega
        have hne1' : ¬ (w.heap.size + 1 = b) := by omega
        go_wp2_with fail
        clear m1 f1
        refine bodyPost_ret (v := tokV 11 z noStr true false) ?_ rfl ⟨?_, ?_, ?_⟩
        · simp [results, Tryz.results130, go_sem, m0, tokV, noStr]
        · have hn : numTok (rs.drop i) = tokV 11 z noStr true false := by
            unfold numTok
            rw [List.drop_drop, hjj, hbg, hbb, if_neg (by decide), at_drop, show at_ rs (j + 0) = x from hX.out, if_pos h37, hz]
          rw [hn]
        · exact ((((((HT10.out.but.own hw1 0 _).set 1 _).own hw0 0 _).own hw0 1 _).own hw0 2 _).own hw0 3 _).own hw0 4 _
        · have hn : i + numLen (rs.drop i) = j + 1 := by
            unfold numLen
            rw [List.drop_drop, hjj, hbg, hbb, if_neg (by decide), at_drop, show at_ rs (j + 0) = x from hX.out, if_pos h37, ← hjj]; omega
          rw [hn]
          exact rd_own (rd_own (rd_own (rd_own (rd_own ((rd_own HR10.out hbw1 0 _).store (j + 1) _ (by omega) (by omega)) hbw 0 _) hbw 1 _) hbw 2 _) hbw 3 _) hbw 4 _
      · have b37 : (x == 37) = false := by simpa using h37
        go_wp2_with fail
        clear m1 f1
        refine bodyPost_ret (v := tokV 10 z noStr true false) ?_ rfl ⟨?_, ?_, ?_⟩
        · simp [results, Tryz.results130, go_sem, m0, tokV, noStr]
        · have hn : numTok (rs.drop i) = tokV 10 z noStr true false := by
            unfold numTok
            rw [List.drop_drop, hjj, hbg, hbb, if_neg (by decide), at_drop, show at_ rs (j + 0) = x from hX.out, if_neg h37, hz]
          rw [hn]
        · exact ((((HT10.out.but.own hw0 0 _).own hw0 1 _).own hw0 2 _).own hw0 3 _).own hw0 4 _
        · have hn : i + numLen (rs.drop i) = j := by
            unfold numLen
            rw [List.drop_drop, hjj, hbg, hbb, if_neg (by decide), at_drop, show at_ rs (j + 0) = x from hX.out, if_neg h37, ← hjj]; omega
          rw [hn]
          exact rd_own (rd_own (rd_own (rd_own (rd_own HR10.out hbw 0 _) hbw 1 _) hbw 2 _) hbw 3 _) hbw 4 _
    · go_wp2_with fail
      refine (name_any _ b rv rs j HR9.out T.out A.out).mono ?_
      rintro e w10 ⟨rfl, hbut10, hrd10⟩
      have HT10 := Lib.hid (HT9.out.next hbw hbut10)
      have HR10 := Lib.hid hrd10
      clear hbut10 hrd10 HT9 HR9
      have m0 := HT10.out.m0
      have f0 := HT10.out.f0
      have m1 := HT10.out.m1
      have f1 := HT10.out.f1
      go_wp2_with fail
      clear m1 f1
      have hw0 : w.heap.size ≤ w.heap.size := Nat.le_refl _
      have hw1 : w.heap.size ≤ w.heap.size + 1 := Nat.le_succ _
      have hbw1 : b < w.heap.size + 1 := Nat.lt_succ_of_lt hbw
      refine bodyPost_ret (v := tokV 12 z (strOf ((rs.drop j).takeWhile isPart)) true false) ?_ rfl ⟨?_, ?_, ?_⟩
      · simp [results, Tryz.results130, go_sem, m0, tokV]
      · have hn : numTok (rs.drop i) = tokV 12 z (strOf ((rs.drop j).takeWhile isPart)) true false := by
          unfold numTok
          rw [List.drop_drop, hjj, hbg, hbb, if_pos rfl, hz]
        rw [hn]
      · exact ((((((HT10.out.but.own hw1 0 _).own hw1 2 _).own hw0 0 _).own hw0 1 _).own hw0 2 _).own hw0 3 _).own hw0 4 _
      · have hn : i + numLen (rs.drop i) = j + nameLen (rs.drop j) := by
          unfold numLen
          rw [List.drop_drop, hjj, hbg, hbb, if_pos rfl, ← hjj]; omega
        rw [hn]
        exact rd_own (rd_own (rd_own (rd_own (rd_own (rd_own (rd_own HR10.out hbw1 0 _) hbw1 2 _) hbw 0 _) hbw 1 _) hbw 2 _) hbw 3 _) hbw 4 _
  · go_wp2_with fail
    refine (peek_any _ b rv rs j 0 HR6.out (by decide)).mono ?_
    rintro e w7 ⟨rfl, hb7⟩
    have HT7 := Lib.hid (HT6.out.next hbw (But.of hb7))
    have HR7 := Lib.hid (HR6.out.next hb7)
    clear hb7 HT6 HR6
    rw [show at_ rs (j + 0) = x from hX.out]
    go_wp2_with fail
    obtain ⟨p, off, cap, hrv, hcap, hp, hcell⟩ := HR7.out.rn
    have g0 := HR7.out.c0
    rw [hrv] at g0
    have g1 := HR7.out.c1
    have hjl := HR7.out.le
    have hrv' := Lib.hid hrv
    clear hrv
    have hcv : (convert 88 9 (.slice (some ⟨p, off + i, none⟩) (j - i) (cap - i))).run Tryz.prog w7.drew = .ok (.string z) w7.drew := by
      rw [run_convert_runes w7.drew 88 9 21 ⟨p, off + i, none⟩ (j - i) (cap - i) (rs.drop i) (by rw [List.length_drop]; omega) Tryz.underlying88 Tryz.underlying21 Tryz.underlying9 (fun m hm => by
        rw [List.length_drop] at hm
        have hadd : (⟨p, off + i, none⟩ : Addr).add m = ⟨p, off + (i + m), none⟩ := by unfold Addr.add; split <;> simp_all <;> omega
        rw [hadd, show (rs.drop i).getD m 0 = rs[i + m]'(by omega) by simp [List.getD, List.getElem?_drop, show i + m < rs.length by omega]]
        exact hcell (i + m) (by omega)), runesBytes_asc _ (fun y hy => A.out y (List.mem_of_mem_drop (List.mem_of_mem_take hy)))]
      rw [← hz, ← hjj, show i + digLen (rs.drop i) - i = digLen (rs.drop i) by omega]
    clear hcell
    have q1 : (i : Int) ≤ (j : Int) := by omega
    have q2 : (j : Int) ≤ (cap : Int) := by omega
    have q3 : (0 : Int) ≤ (i : Int) := by omega
    have t1 : w7.cell? ⟨w.heap.size + 1, 0 + 1, none⟩ = some (.string ⟨#[]⟩) := HT7.out.m1 1
    have t1f : w7.frozen? ⟨w.heap.size + 1, 0 + 1, none⟩ = false := HT7.out.f1 1
    go_region
    have HT8 := Lib.hid ((HT7.out.set1 1 (.string z) (by decide)).drew)
    have HR8 : Hid (Rd (w7.setCell ⟨w.heap.size + 1, 1, none⟩ (.string z)).drew b rv rs j) := Lib.hid ((rd_own HR7.out (by omega) 1 _).next ((Below.refl _ _).drew))
    clear HT7 HR7 hcv g0 g1 t1 t1f hrv' hcap hp
    obtain ⟨w8, hw8⟩ : ∃ w8, (w7.setCell ⟨w.heap.size + 1, 1, none⟩ (.string z)).drew = w8 := ⟨_, rfl⟩
    rw [hw8] at HT8 HR8 ⊢
    clear hw8
    go_wp2_with fail
    refine (begins_any _ b rv rs j 0 HR8.out (by decide) T.out).mono ?_
    rintro e w9 ⟨rfl, hb9⟩
    have HT9 := Lib.hid (HT8.out.next hbw (But.of hb9))
    have HR9 := Lib.hid (HR8.out.next hb9)
    clear hb9 HT8 HR8
    obtain ⟨bg, hbg⟩ : ∃ bg, begins (rs.drop j) = bg := ⟨_, rfl⟩
    rw [show begins (rs.drop (j + 0)) = bg from hbg]
    cases hbb : bg
    · go_wp2_with fail
      refine (peek_any _ b rv rs j 0 HR9.out (by decide)).mono ?_
      rintro e w10 ⟨rfl, hb10⟩
      have HT10 := Lib.hid (HT9.out.next hbw (But.of hb10))
      have HR10 := Lib.hid (HR9.out.next hb10)
      clear hb10 HT9 HR9
      rw [show at_ rs (j + 0) = x from hX.out]
      have m0 := HT10.out.m0
      have f0 := HT10.out.f0
      have m1 := HT10.out.m1
      have f1 := HT10.out.f1
      have hw0 : w.heap.size ≤ w.heap.size := Nat.le_refl _
      have hw1 : w.heap.size ≤ w.heap.size + 1 := Nat.le_succ _
      have hbw1 : b < w.heap.size + 1 := Nat.lt_succ_of_lt hbw
      by_cases h37 : x = 37
      · have b37 : (x == 37) = true := by simpa using h37
        have g1 := HR10.out.c1
        have gf := HR10.out.f1
        have hjl2 : j < rs.length := by
          rcases Nat.lt_or_ge j rs.length with h' | h'
          · exact h'
          · have := hX.out; rw [at_end h', h37] at this; omega
        have hwj : IntKind.i64.wrap ((j : Int) + 1) = ((j + 1 : Nat) : Int) := by rw [Go.IntWalk.i64_in _ (by omega)]; omega
        have hne0 : ¬ (b = w.heap.size) := by omega
        have hne0' : ¬ (w.heap.size = b) := by omega
        have hne1 : ¬ (b = w.heap.size + 1) := by omega
        have hne1' : ¬ (w.heap.size + 1 = b) := by omega
        go_wp2_with fail
        clear m1 f1
        refine bodyPost_ret (v := tokV 11 z noStr true false) ?_ rfl ⟨?_, ?_, ?_⟩
        · simp [results, Tryz.results130, go_sem, m0, tokV, noStr]
        · have hn : numTok (rs.drop i) = tokV 11 z noStr true false := by
            unfold numTok
            rw [List.drop_drop, hjj, hbg, hbb, if_neg (by decide), at_drop, show at_ rs (j + 0) = x from hX.out, if_pos h37, hz]
          rw [hn]
        · exact ((((((HT10.out.but.own hw1 0 _).set 1 _).own hw0 0 _).own hw0 1 _).own hw0 2 _).own hw0 3 _).own hw0 4 _
        · have hn : i + numLen (rs.drop i) = j + 1 := by
            unfold numLen
            rw [List.drop_drop, hjj, hbg, hbb, if_neg (by decide), at_drop, show at_ rs (j + 0) = x from hX.out, if_pos h37, ← hjj]; omega
          rw [hn]
          exact rd_own (rd_own (rd_own (rd_own (rd_own ((rd_own HR10.out hbw1 0 _).store (j + 1) _ (by omega) (by omega)) hbw 0 _) hbw 1 _) hbw 2 _) hbw 3 _) hbw 4 _
      · have b37 : (x == 37) = false := by simpa using h37
        go_wp2_with fail
        clear m1 f1
        refine bodyPost_ret (v := tokV 10 z noStr true false) ?_ rfl ⟨?_, ?_, ?_⟩
        · simp [results, Tryz.results130, go_sem, m0, tokV, noStr]
        · have hn : numTok (rs.drop i) = tokV 10 z noStr true false := by
            unfold numTok
            rw [List.drop_drop, hjj, hbg, hbb, if_neg (by decide), at_drop, show at_ rs (j + 0) = x from hX.out, if_neg h37, hz]
          rw [hn]
        · exact ((((HT10.out.but.own hw0 0 _).own hw0 1 _).own hw0 2 _).own hw0 3 _).own hw0 4 _
        · have hn : i + numLen (rs.drop i) = j := by
            unfold numLen
            rw [List.drop_drop, hjj, hbg, hbb, if_neg (by decide), at_drop, show at_ rs (j + 0) = x from hX.out, if_neg h37, ← hjj]; omega
          rw [hn]
          exact rd_own (rd_own (rd_own (rd_own (rd_own HR10.out hbw 0 _) hbw 1 _) hbw 2 _) hbw 3 _) hbw 4 _
    · go_wp2_with fail
      refine (name_any _ b rv rs j HR9.out T.out A.out).mono ?_
      rintro e w10 ⟨rfl, hbut10, hrd10⟩
      have HT10 := Lib.hid (HT9.out.next hbw hbut10)
      have HR10 := Lib.hid hrd10
      clear hbut10 hrd10 HT9 HR9
      have m0 := HT10.out.m0
      have f0 := HT10.out.f0
      have m1 := HT10.out.m1
      have f1 := HT10.out.f1
      go_wp2_with fail
      clear m1 f1
      have hw0 : w.heap.size ≤ w.heap.size := Nat.le_refl _
      have hw1 : w.heap.size ≤ w.heap.size + 1 := Nat.le_succ _
      have hbw1 : b < w.heap.size + 1 := Nat.lt_succ_of_lt hbw
      refine bodyPost_ret (v := tokV 12 z (strOf ((rs.drop j).takeWhile isPart)) true false) ?_ rfl ⟨?_, ?_, ?_⟩
      · simp [results, Tryz.results130, go_sem, m0, tokV]
      · have hn : numTok (rs.drop i) = tokV 12 z (strOf ((rs.drop j).takeWhile isPart)) true false := by
          unfold numTok
          rw [List.drop_drop, hjj, hbg, hbb, if_pos rfl, hz]
        rw [hn]
      · exact ((((((HT10.out.but.own hw1 0 _).own hw1 2 _).own hw0 0 _).own hw0 1 _).own hw0 2 _).own hw0 3 _).own hw0 4 _
      · have hn : i + numLen (rs.drop i) = j + nameLen (rs.drop j) := by
          unfold numLen
          rw [List.drop_drop, hjj, hbg, hbb, if_pos rfl, ← hjj]; omega
        rw [hn]
        exact rd_own (rd_own (rd_own (rd_own (rd_own (rd_own (rd_own HR10.out hbw1 0 _) hbw1 2 _) hbw 0 _) hbw 1 _) hbw 2 _) hbw 3 _) hbw 4 _

set_option maxRecDepth 100000 in
set_option maxHeartbeats 8000000 in
theorem number_neg (w : World) (b : Nat) (rv : Value) (rs : List Int) (i : Nat) (h : Rd w b rv rs i) (ht : Tame rs) (ha : Asc rs) (hi : i < rs.length) (hc : at_ rs i = 45) (he : NoExp (rs.drop i)) :
    Calls Tryz.prog 130 #[.pointer (some ⟨b, 0, none⟩)] w fun e w' => (e = .returned (numTok (rs.drop i))) ∧ But w.heap.size b w w' ∧ Rd w' b rv rs (i + numLen (rs.drop i)) := by
  have T := Lib.hid ht
  have A := Lib.hid ha
  have hbw : b < w.heap.size := World.block_lt_of_cell? w _ h.c0
  have hbig := h.big
  have HR0 : Hid (∀ o o', Rd ((w.alloc o).alloc o') b rv rs i) := Lib.hid (fun o o' => (h.next (bAlloc1 w o)).next (bAlloc1 _ o'))
  have c1 : ∀ o o', ((w.alloc o).alloc o').cell? ⟨b, 0 + 1, none⟩ = some (.int .i64 (i : Int)) := fun o o' => (HR0.out o o').c1
  obtain ⟨z, hz⟩ : ∃ z, strOf ((rs.drop i).take (digLen (rs.drop i))) = z := ⟨_, rfl⟩
  have hij : i ≤ i + digLen (rs.drop i) := Nat.le_add_right _ _
  obtain ⟨j, hjj⟩ : ∃ j, i + digLen (rs.drop i) = j := ⟨_, rfl⟩
  rw [hjj] at hij
  obtain ⟨c, hcc⟩ : ∃ c, at_ rs (i + 0) = c := ⟨_, rfl⟩
  have HE := Lib.hid he
  clear h ht ha he
  go_enter Tryz.func130, Tryz.ntmps130
  go_wp2_with fail
  clear c1
  refine (peek_any _ b rv rs i 0 (HR0.out _ _) (by decide)).mono ?_
  rintro e w1 ⟨rfl, hb1⟩
  have HT := Lib.hid ((Two.new w b _ _ _ _).next hbw (But.of hb1))
  have HR := Lib.hid ((HR0.out _ _).next hb1)
  clear hb1 HR0
  rw [hcc]
  go_wp2_with fail
  refine (digit_any _ _).mono ?_
  rintro e w2 ⟨rfl, hb2⟩
  have HT2 := Lib.hid (HT.out.next hbw (But.of hb2))
  have HR2 := Lib.hid (HR.out.next hb2)
  clear hb2 HT HR
  have hcd : isIn 48 57 c = false := by rw [← hcc, Nat.add_zero, hc]; decide
  have bc46 : (c == 46) = false := by rw [← hcc, Nat.add_zero, hc]; decide
  have hj : Hid (i + 1 + ((rs.drop (i + 1)).takeWhile (isIn 48 57)).length = j) := Lib.hid (by rw [← hjj]; unfold digLen signLen; rw [at_drop, show at_ rs (i + 0) = 45 from hc, if_neg (by decide), List.drop_drop]; omega)
  go_wp2_with fail
  refine (peek_any _ b rv rs i 0 HR2.out (by decide)).mono ?_
  rintro e w3 ⟨rfl, hb3⟩
  have HTa := Lib.hid (HT2.out.next hbw (But.of hb3))
  have HRa := Lib.hid (HR2.out.next hb3)
  clear hb3 HT2 HR2
  rw [hcc]
  have gn1 := HRa.out.c1
  have gnf := HRa.out.f1
  have hwi : IntKind.i64.wrap ((i : Int) + 1) = ((i + 1 : Nat) : Int) := by rw [Go.IntWalk.i64_in _ (by omega)]; omega
  go_wp2_with fail
  clear gn1 gnf
  have HR3 : Hid (Rd (w3.setCell ⟨b, 1, none⟩ (.int .i64 ((i : Int) + 1))) b rv rs (i + 1)) := Lib.hid (HRa.out.store (i + 1) _ (by omega) (by omega))
  have HT3 : Hid (Two w b (w3.setCell ⟨b, 1, none⟩ (.int .i64 ((i : Int) + 1))) _ _) := Lib.hid (HTa.out.setb hbw 1 _)
  clear HTa HRa
  refine (while_digit _ b rv rs (i + 1) HR3.out).mono ?_
  rintro e w4 ⟨⟨v, rfl⟩, hbut4, hrd4⟩
  have HT4 := Lib.hid (HT3.out.next hbw hbut4)
  have HR4 : Hid (Rd w4 b rv rs j) := Lib.hid (by rw [← hj.out]; exact hrd4)
  clear hbut4 hrd4
  go_wp2_with fail
  refine (peek_any _ b rv rs j 0 HR4.out (by decide)).mono ?_
  rintro e w5 ⟨rfl, hb5⟩
  have HT5 := Lib.hid (HT4.out.next hbw (But.of hb5))
  have HR5 := Lib.hid (HR4.out.next hb5)
  clear hb5 HT4 HR4
  have hq := T.out.or j
  obtain ⟨x, hx⟩ : ∃ x, at_ rs j = x := ⟨_, rfl⟩
  rw [hx] at hq
  have hE := HE.out
  unfold NoExp at hE
  rw [at_drop, hjj, hx] at hE
  have b46 : (x == 46) = false := by rw [beq_eq_false_iff_ne]; intro e; subst e; revert hq; decide
  have bE := noE x hq hE.1 hE.2
  have hX := Lib.hid hx
  have HQ := Lib.hid hq
  rw [show at_ rs (j + 0) = x from hx]
  clear hE hx hq
  go_wp2_with fail
  refine (peek_any _ b rv rs j 1 HR5.out (by decide)).mono ?_
  rintro e w6 ⟨rfl, hb6⟩
  have HT6 := Lib.hid (HT5.out.next hbw (But.of hb6))
  have HR6 := Lib.hid (HR5.out.next hb6)
  clear hb6 HT5 HR5
  obtain ⟨y, hy⟩ : ∃ y, at_ rs (j + 1) = y := ⟨_, rfl⟩
  have hy4 : (y == 43) = false := by
    have := T.out.or (j + 1)
    rw [hy] at this
    rw [beq_eq_false_iff_ne]; intro e; subst e; revert this; decide
  rw [hy]
  clear hy
  cases hy5 : (y == 45)
  · go_wp2_with fail
    refine (peek_any _ b rv rs j 0 HR6.out (by decide)).mono ?_
    rintro e w7 ⟨rfl, hb7⟩
    have HT7 := Lib.hid (HT6.out.next hbw (But.of hb7))
    have HR7 := Lib.hid (HR6.out.next hb7)
    clear hb7 HT6 HR6
    rw [show at_ rs (j + 0) = x from hX.out]
    go_wp2_with fail
    obtain ⟨p, off, cap, hrv, hcap, hp, hcell⟩ := HR7.out.rn
    have g0 := HR7.out.c0
    rw [hrv] at g0
    have g1 := HR7.out.c1
    have hjl := HR7.out.le
    have hrv' := Lib.hid hrv
    clear hrv
    have hcv : (convert 88 9 (.slice (some ⟨p, off + i, none⟩) (j - i) (cap - i))).run Tryz.prog w7.drew = .ok (.string z) w7.drew := by
      rw [run_convert_runes w7.drew 88 9 21 ⟨p, off + i, none⟩ (j - i) (cap - i) (rs.drop i) (by rw [List.length_drop]; omega) Tryz.underlying88 Tryz.underlying21 Tryz.underlying9 (fun m hm => by
        rw [List.length_drop] at hm
        have hadd : (⟨p, off + i, none⟩ : Addr).add m = ⟨p, off + (i + m), none⟩ := by unfold Addr.add; split <;> simp_all <;> omega
        rw [hadd, show (rs.drop i).getD m 0 = rs[i + m]'(by omega) by simp [List.getD, List.getElem?_drop, show i + m < rs.length by omega]]
        exact hcell (i + m) (by omega)), runesBytes_asc _ (fun y hy => A.out y (List.mem_of_mem_drop (List.mem_of_mem_take hy)))]
      rw [← hz, ← hjj, show i + digLen (rs.drop i) - i = digLen (rs.drop i) by omega]
    clear hcell
    have q1 : (i : Int) ≤ (j : Int) := by omega
    have q2 : (j : Int) ≤ (cap : Int) := by omega
    have q3 : (0 : Int) ≤ (i : Int) := by omega
    have t1 : w7.cell? ⟨w.heap.size + 1, 0 + 1, none⟩ = some (.string ⟨#[]⟩) := HT7.out.m1 1
    have t1f : w7.frozen? ⟨w.heap.size + 1, 0 + 1, none⟩ = false := HT7.out.f1 1
    go_region
    have HT8 := Lib.hid ((HT7.out.set1 1 (.string z) (by decide)).drew)
    have HR8 : Hid (Rd (w7.setCell ⟨w.heap.size + 1, 1, none⟩ (.string z)).drew b rv rs j) := Lib.hid ((rd_own HR7.out (by omega) 1 _).next ((Below.refl _ _).drew))
    clear HT7 HR7 hcv g0 g1 t1 t1f hrv' hcap hp
    obtain ⟨w8, hw8⟩ : ∃ w8, (w7.setCell ⟨w.heap.size + 1, 1, none⟩ (.string z)).drew = w8 := ⟨_, rfl⟩
    rw [hw8] at HT8 HR8 ⊢
    clear hw8
    go_wp2_with fail
    refine (begins_any _ b rv rs j 0 HR8.out (by decide) T.out).mono ?_
    rintro e w9 ⟨rfl, hb9⟩
    have HT9 := Lib.hid (HT8.out.next hbw (But.of hb9))
    have HR9 := Lib.hid (HR8.out.next hb9)
    clear hb9 HT8 HR8
    obtain ⟨bg, hbg⟩ : ∃ bg, begins (rs.drop j) = bg := ⟨_, rfl⟩
    rw [show begins (rs.drop (j + 0)) = bg from hbg]
    cases hbb : bg
    · go_wp2_with fail
      refine (peek_any _ b rv rs j 0 HR9.out (by decide)).mono ?_
      rintro e w10 ⟨rfl, hb10⟩
      have HT10 := Lib.hid (HT9.out.next hbw (But.of hb10))
      have HR10 := Lib.hid (HR9.out.next hb10)
      clear hb10 HT9 HR9
      rw [show at_ rs (j + 0) = x from hX.out]
      have m0 := HT10.out.m0
      have f0 := HT10.out.f0
      have m1 := HT10.out.m1
      have f1 := HT10.out.f1
      have hw0 : w.heap.size ≤ w.heap.size := Nat.le_refl _
      have hw1 : w.heap.size ≤ w.heap.size + 1 := Nat.le_succ _
      have hbw1 : b < w.heap.size + 1 := Nat.lt_succ_of_lt hbw
      by_cases h37 : x = 37
      · have b37 : (x == 37) = true := by simpa using h37
        have g1 := HR10.out.c1
        have gf := HR10.out.f1
        have hjl2 : j < rs.length := by
          rcases Nat.lt_or_ge j rs.length with h' | h'
          · exact h'
          · have := hX.out; rw [at_end h', h37] at this; omega
        have hwj : IntKind.i64.wrap ((j : Int) + 1) = ((j + 1 : Nat) : Int) := by rw [Go.IntWalk.i64_in _ (by omega)]; omega
        have hne0 : ¬ (b = w.heap.size) := by omega
        have hne0' : ¬ (w.heap.size = b) := by omega
        have hne1 : ¬ (b = w.heap.size + 1) := by omega
        have hne1' : ¬ (w.heap.size + 1 = b) := by omega
        go_wp2_with fail
        clear m1 f1
        refine bodyPost_ret (v := tokV 11 z noStr true false) ?_ rfl ⟨?_, ?_, ?_⟩
        · simp [results, Tryz.results130, go_sem, m0, tokV, noStr]
        · have hn : numTok (rs.drop i) = tokV 11 z noStr true false := by
            unfold numTok
            rw [List.drop_drop, hjj, hbg, hbb, if_neg (by decide), at_drop, show at_ rs (j + 0) = x from hX.out, if_pos h37, hz]
          rw [hn]
        · exact ((((((HT10.out.but.own hw1 0 _).set 1 _).own hw0 0 _).own hw0 1 _).own hw0 2 _).own hw0 3 _).own hw0 4 _
        · have hn : i + numLen (rs.drop i) = j + 1 := by
            unfold numLen
            rw [List.drop_drop, hjj, hbg, hbb, if_neg (by decide), at_drop, show at_ rs (j + 0) = x from hX.out, if_pos h37, ← hjj]; omega
          rw [hn]
          exact rd_own (rd_own (rd_own (rd_own (rd_own ((rd_own HR10.out hbw1 0 _).store (j + 1) _ (by omega) (by omega)) hbw 0 _) hbw 1 _) hbw 2 _) hbw 3 _) hbw 4 _
      · have b37 : (x == 37) = false := by simpa using h37
        go_wp2_with fail
        clear m1 f1
        refine bodyPost_ret (v := tokV 10 z noStr true false) ?_ rfl ⟨?_, ?_, ?_⟩
        · simp [results, Tryz.results130, go_sem, m0, tokV, noStr]
        · have hn : numTok (rs.drop i) = tokV 10 z noStr true false := by
            unfold numTok
            rw [List.drop_drop, hjj, hbg, hbb, if_neg (by decide), at_drop, show at_ rs (j + 0) = x from hX.out, if_neg h37, hz]
          rw [hn]
        · exact ((((HT10.out.but.own hw0 0 _).own hw0 1 _).own hw0 2 _).own hw0 3 _).own hw0 4 _
        · have hn : i + numLen (rs.drop i) = j := by
            unfold numLen
            rw [List.drop_drop, hjj, hbg, hbb, if_neg (by decide), at_drop, show at_ rs (j + 0) = x from hX.out, if_neg h37, ← hjj]; omega
          rw [hn]
          exact rd_own (rd_own (rd_own (rd_own (rd_own HR10.out hbw 0 _) hbw 1 _) hbw 2 _) hbw 3 _) hbw 4 _
    · go_wp2_with fail
      refine (name_any _ b rv rs j HR9.out T.out A.out).mono ?_
      rintro e w10 ⟨rfl, hbut10, hrd10⟩
      have HT10 := Lib.hid (HT9.out.next hbw hbut10)
      have HR10 := Lib.hid hrd10
      clear hbut10 hrd10 HT9 HR9
      have m0 := HT10.out.m0
      have f0 := HT10.out.f0
      have m1 := HT10.out.m1
      have f1 := HT10.out.f1
      go_wp2_with fail
      clear m1 f1
      have hw0 : w.heap.size ≤ w.heap.size := Nat.le_refl _
      have hw1 : w.heap.size ≤ w.heap.size + 1 := Nat.le_succ _
      have hbw1 : b < w.heap.size + 1 := Nat.lt_succ_of_lt hbw
      refine bodyPost_ret (v := tokV 12 z (strOf ((rs.drop j).takeWhile isPart)) true false) ?_ rfl ⟨?_, ?_, ?_⟩
      · simp [results, Tryz.results130, go_sem, m0, tokV]
      · have hn : numTok (rs.drop i) = tokV 12 z (strOf ((rs.drop j).takeWhile isPart)) true false := by
          unfold numTok
          rw [List.drop_drop, hjj, hbg, hbb, if_pos rfl, hz]
        rw [hn]
      · exact ((((((HT10.out.but.own hw1 0 _).own hw1 2 _).own hw0 0 _).own hw0 1 _).own hw0 2 _).own hw0 3 _).own hw0 4 _
      · have hn : i + numLen (rs.drop i) = j + nameLen (rs.drop j) := by
          unfold numLen
          rw [List.drop_drop, hjj, hbg, hbb, if_pos rfl, ← hjj]; omega
        rw [hn]
        exact rd_own (rd_own (rd_own (rd_own (rd_own (rd_own (rd_own HR10.out hbw1 0 _) hbw1 2 _) hbw 0 _) hbw 1 _) hbw 2 _) hbw 3 _) hbw 4 _
  · go_wp2_with fail
    refine (peek_any _ b rv rs j 0 HR6.out (by decide)).mono ?_
    rintro e w7 ⟨rfl, hb7⟩
    have HT7 := Lib.hid (HT6.out.next hbw (But.of hb7))
    have HR7 := Lib.hid (HR6.out.next hb7)
    clear hb7 HT6 HR6
    rw [show at_ rs (j + 0) = x from hX.out]
    go_wp2_with fail
    obtain ⟨p, off, cap, hrv, hcap, hp, hcell⟩ := HR7.out.rn
    have g0 := HR7.out.c0
    rw [hrv] at g0
    have g1 := HR7.out.c1
    have hjl := HR7.out.le
    have hrv' := Lib.hid hrv
    clear hrv
    have hcv : (convert 88 9 (.slice (some ⟨p, off + i, none⟩) (j - i) (cap - i))).run Tryz.prog w7.drew = .ok (.string z) w7.drew := by
      rw [run_convert_runes w7.drew 88 9 21 ⟨p, off + i, none⟩ (j - i) (cap - i) (rs.drop i) (by rw [List.length_drop]; omega) Tryz.underlying88 Tryz.underlying21 Tryz.underlying9 (fun m hm => by
        rw [List.length_drop] at hm
        have hadd : (⟨p, off + i, none⟩ : Addr).add m = ⟨p, off + (i + m), none⟩ := by unfold Addr.add; split <;> simp_all <;> omega
        rw [hadd, show (rs.drop i).getD m 0 = rs[i + m]'(by omega) by simp [List.getD, List.getElem?_drop, show i + m < rs.length by omega]]
        exact hcell (i + m) (by omega)), runesBytes_asc _ (fun y hy => A.out y (List.mem_of_mem_drop (List.mem_of_mem_take hy)))]
      rw [← hz, ← hjj, show i + digLen (rs.drop i) - i = digLen (rs.drop i) by omega]
    clear hcell
    have q1 : (i : Int) ≤ (j : Int) := by omega
    have q2 : (j : Int) ≤ (cap : Int) := by omega
    have q3 : (0 : Int) ≤ (i : Int) := by omega
    have t1 : w7.cell? ⟨w.heap.size + 1, 0 + 1, none⟩ = some (.string ⟨#[]⟩) := HT7.out.m1 1
    have t1f : w7.frozen? ⟨w.heap.size + 1, 0 + 1, none⟩ = false := HT7.out.f1 1
    go_region
    have HT8 := Lib.hid ((HT7.out.set1 1 (.string z) (by decide)).drew)
    have HR8 : Hid (Rd (w7.setCell ⟨w.heap.size + 1, 1, none⟩ (.string z)).drew b rv rs j) := Lib.hid ((rd_own HR7.out (by omega) 1 _).next ((Below.refl _ _).drew))
    clear HT7 HR7 hcv g0 g1 t1 t1f hrv' hcap hp
    obtain ⟨w8, hw8⟩ : ∃ w8, (w7.setCell ⟨w.heap.size + 1, 1, none⟩ (.string z)).drew = w8 := ⟨_, rfl⟩
    rw [hw8] at HT8 HR8 ⊢
    clear hw8
    go_wp2_with fail
    refine (begins_any _ b rv rs j 0 HR8.out (by decide) T.out).mono ?_
    rintro e w9 ⟨rfl, hb9⟩
    have HT9 := Lib.hid (HT8.out.next hbw (But.of hb9))
    have HR9 := Lib.hid (HR8.out.next hb9)
    clear hb9 HT8 HR8
    obtain ⟨bg, hbg⟩ : ∃ bg, begins (rs.drop j) = bg := ⟨_, rfl⟩
    rw [show begins (rs.drop (j + 0)) = bg from hbg]
    cases hbb : bg
    · go_wp2_with fail
      refine (peek_any _ b rv rs j 0 HR9.out (by decide)).mono ?_
      rintro e w10 ⟨rfl, hb10⟩
      have HT10 := Lib.hid (HT9.out.next hbw (But.of hb10))
      have HR10 := Lib.hid (HR9.out.next hb10)
      clear hb10 HT9 HR9
      rw [show at_ rs (j + 0) = x from hX.out]
      have m0 := HT10.out.m0
      have f0 := HT10.out.f0
      have m1 := HT10.out.m1
      have f1 := HT10.out.f1
      have hw0 : w.heap.size ≤ w.heap.size := Nat.le_refl _
      have hw1 : w.heap.size ≤ w.heap.size + 1 := Nat.le_succ _
      have hbw1 : b < w.heap.size + 1 := Nat.lt_succ_of_lt hbw
      by_cases h37 : x = 37
      · have b37 : (x == 37) = true := by simpa using h37
        have g1 := HR10.out.c1
        have gf := HR10.out.f1
        have hjl2 : j < rs.length := by
          rcases Nat.lt_or_ge j rs.length with h' | h'
          · exact h'
          · have := hX.out; rw [at_end h', h37] at this; omega
        have hwj : IntKind.i64.wrap ((j : Int) + 1) = ((j + 1 : Nat) : Int) := by rw [Go.IntWalk.i64_in _ (by omega)]; omega
        have hne0 : ¬ (b = w.heap.size) := by omega
        have hne0' : ¬ (w.heap.size = b) := by omega
        have hne1 : ¬ (b = w.heap.size + 1) := by omega
        have hne1' : ¬ (w.heap.size + 1 = b) := by omega
        go_wp2_with fail
        clear m1 f1
        refine bodyPost_ret (v := tokV 11 z noStr true false) ?_ rfl ⟨?_, ?_, ?_⟩
        · simp [results, Tryz.results130, go_sem, m0, tokV, noStr]
        · have hn : numTok (rs.drop i) = tokV 11 z noStr true false := by
            unfold numTok
            rw [List.drop_drop, hjj, hbg, hbb, if_neg (by decide), at_drop, show at_ rs (j + 0) = x from hX.out, if_pos h37, hz]
          rw [hn]
        · exact ((((((HT10.out.but.own hw1 0 _).set 1 _).own hw0 0 _).own hw0 1 _).own hw0 2 _).own hw0 3 _).own hw0 4 _
        · have hn : i + numLen (rs.drop i) = j + 1 := by
            unfold numLen
            rw [List.drop_drop, hjj, hbg, hbb, if_neg (by decide), at_drop, show at_ rs (j + 0) = x from hX.out, if_pos h37, ← hjj]; omega
          rw [hn]
          exact rd_own (rd_own (rd_own (rd_own (rd_own ((rd_own HR10.out hbw1 0 _).store (j + 1) _ (by omega) (by omega)) hbw 0 _) hbw 1 _) hbw 2 _) hbw 3 _) hbw 4 _
      · have b37 : (x == 37) = false := by simpa using h37
        go_wp2_with fail
        clear m1 f1
        refine bodyPost_ret (v := tokV 10 z noStr true false) ?_ rfl ⟨?_, ?_, ?_⟩
        · simp [results, Tryz.results130, go_sem, m0, tokV, noStr]
        · have hn : numTok (rs.drop i) = tokV 10 z noStr true false := by
            unfold numTok
            rw [List.drop_drop, hjj, hbg, hbb, if_neg (by decide), at_drop, show at_ rs (j + 0) = x from hX.out, if_neg h37, hz]
          rw [hn]
        · exact ((((HT10.out.but.own hw0 0 _).own hw0 1 _).own hw0 2 _).own hw0 3 _).own hw0 4 _
        · have hn : i + numLen (rs.drop i) = j := by
            unfold numLen
            rw [List.drop_drop, hjj, hbg, hbb, if_neg (by decide), at_drop, show at_ rs (j + 0) = x from hX.out, if_neg h37, ← hjj]; omega
          rw [hn]
          exact rd_own (rd_own (rd_own (rd_own (rd_own HR10.out hbw 0 _) hbw 1 _) hbw 2 _) hbw 3 _) hbw 4 _
    · go_wp2_with fail
      refine (name_any _ b rv rs j HR9.out T.out A.out).mono ?_
      rintro e w10 ⟨rfl, hbut10, hrd10⟩
      have HT10 := Lib.hid (HT9.out.next hbw hbut10)
      have HR10 := Lib.hid hrd10
      clear hbut10 hrd10 HT9 HR9
      have m0 := HT10.out.m0
      have f0 := HT10.out.f0
      have m1 := HT10.out.m1
      have f1 := HT10.out.f1
      go_wp2_with fail
      clear m1 f1
      have hw0 : w.heap.size ≤ w.heap.size := Nat.le_refl _
      have hw1 : w.heap.size ≤ w.heap.size + 1 := Nat.le_succ _
      have hbw1 : b < w.heap.size + 1 := Nat.lt_succ_of_lt hbw
      refine bodyPost_ret (v := tokV 12 z (strOf ((rs.drop j).takeWhile isPart)) true false) ?_ rfl ⟨?_, ?_, ?_⟩
      · simp [results, Tryz.results130, go_sem, m0, tokV]
      · have hn : numTok (rs.drop i) = tokV 12 z (strOf ((rs.drop j).takeWhile isPart)) true false := by
          unfold numTok
          rw [List.drop_drop, hjj, hbg, hbb, if_pos rfl, hz]
        rw [hn]
      · exact ((((((HT10.out.but.own hw1 0 _).own hw1 2 _).own hw0 0 _).own hw0 1 _).own hw0 2 _).own hw0 3 _).own hw0 4 _
      · have hn : i + numLen (rs.drop i) = j + nameLen (rs.drop j) := by
          unfold numLen
          rw [List.drop_drop, hjj, hbg, hbb, if_pos rfl, ← hjj]; omega
        rw [hn]
        exact rd_own (rd_own (rd_own (rd_own (rd_own (rd_own (rd_own HR10.out hbw1 0 _) hbw1 2 _) hbw 0 _) hbw 1 _) hbw 2 _) hbw 3 _) hbw 4 _
theorem number_any (w : World) (b : Nat) (rv : Value) (rs : List Int) (i : Nat) (h : Rd w b rv rs i) (ht : Tame rs) (ha : Asc rs) (hi : i < rs.length) (hc : counts (rs.drop i) = true) (he : NoExp (rs.drop i)) :
    Calls Tryz.prog 130 #[.pointer (some ⟨b, 0, none⟩)] w fun e w' => (e = .returned (numTok (rs.drop i))) ∧ But w.heap.size b w w' ∧ Rd w' b rv rs (i + numLen (rs.drop i)) := by
  unfold counts at hc
  rw [at_drop, Nat.add_zero] at hc
  by_cases h45 : at_ rs i = 45
  · exact number_neg w b rv rs i h ht ha hi h45 he
  · rw [if_neg h45] at hc
    exact number_dig w b rv rs i h ht ha hi hc he
end Go.Proofs.YtpadcjcoafidgaaGreatDoor
/-! What the tokens of a tame text are. -/
namespace Go.Proofs.YtpadcjcoafidgaaGreatDoor
open Go.RowKit

/-- A token. -/
structure Tok where
  k : Int
  t : ByteArray
  u : ByteArray
  wh : Bool
  fl : Bool
def Tok.row (x : Tok) : List Value := [.int .i64 x.k, .string x.t, .string x.u, .bool x.wh, .bool x.fl]
def Tok.val (x : Tok) : Value := tokV x.k x.t x.u x.wh x.fl
theorem Tok.val_row (x : Tok) : x.val = .agg x.row.toArray := rfl
def spaceT : Tok := ⟨13, noStr, noStr, false, false⟩
def wordT (s : List Int) : Tok := ⟨1, strOf (s.takeWhile isPart), noStr, false, false⟩
def hashT (s : List Int) : Tok := ⟨4, strOf ((s.drop 1).takeWhile isPart), noStr, false, begins (s.drop 1)⟩
def numT (s : List Int) : Tok :=
  if begins (s.drop (digLen s)) = true then ⟨12, strOf (s.take (digLen s)), strOf ((s.drop (digLen s)).takeWhile isPart), true, false⟩
  else if at_ (s.drop (digLen s)) 0 = 37 then ⟨11, strOf (s.take (digLen s)), noStr, true, false⟩
  else ⟨10, strOf (s.take (digLen s)), noStr, true, false⟩
theorem numT_val (s : List Int) : (numT s).val = numTok s := by
  unfold numT numTok
  split
  · rfl
  · split <;> rfl
instance (s : List Int) : Decidable (NoExp s) := by unfold NoExp; infer_instance
/-- One token, and how many runes it has; none: it is none of those that are spoken of here. -/
def step (s : List Int) : Option (Tok × Nat) :=
  if isBlank (at_ s 0) = true then some (spaceT, (s.takeWhile isBlank).length)
  else if at_ s 0 = 35 then (if at_ s 1 ≠ -1 ∧ isPart (at_ s 1) = true then some (hashT s, 1 + nameLen (s.drop 1)) else none)
  else if counts s = true then (if NoExp s then some (numT s, numLen s) else none)
  else if begins s = true then some (wordT s, nameLen s)
  else none
def lexF : Nat → List Int → Option (List Tok)
  | _, [] => some []
  | 0, _ :: _ => none
  | n + 1, a :: s => (step (a :: s)).bind fun p => (lexF n ((a :: s).drop p.2)).map (p.1 :: ·)
/-- The tokens of a text. -/
def lex (s : List Int) : Option (List Tok) := lexF s.length s
theorem lexF_cons (n : Nat) (s : List Int) (l : List Tok) (hs : s ≠ []) (h : lexF n s = some l) : ∃ m t k r, n = m + 1 ∧ step s = some (t, k) ∧ lexF m (s.drop k) = some r ∧ l = t :: r := by
  cases s with
  | nil => exact absurd rfl hs
  | cons a s =>
    cases n with
    | zero => simp [lexF] at h
    | succ m =>
      rw [lexF] at h
      obtain ⟨⟨t, k⟩, h1, h2⟩ := Option.bind_eq_some_iff.1 h
      obtain ⟨r, h3, h4⟩ := Option.map_eq_some_iff.1 h2
      exact ⟨m, t, k, r, rfl, h1, h3, h4.symm⟩
theorem lexF_step (n : Nat) (s : List Int) (t : Tok) (k : Nat) (r : List Tok) (hs : s ≠ []) (h1 : step s = some (t, k)) (h2 : lexF n (s.drop k) = some r) : lexF (n + 1) s = some (t :: r) := by
  cases s with
  | nil => exact absurd rfl hs
  | cons a s => rw [lexF, h1]; simp only [Option.bind_some, h2, Option.map_some]
end Go.Proofs.YtpadcjcoafidgaaGreatDoor
/-! The tokens of numbers with their units, of words and of hashes. -/
namespace Go.Proofs.YtpadcjcoafidgaaGreatDoor
open Go.RowKit

theorem takeWhile_stop {p : Int → Bool} (a r : List Int) (ha : ∀ c ∈ a, p c = true) (hr : r = [] ∨ p (at_ r 0) = false) : (a ++ r).takeWhile p = a := by
  rw [List.takeWhile_append_of_pos ha]
  cases r with
  | nil => simp
  | cons c r' =>
    rcases hr with h | h
    · cases h
    · have : p c = false := h
      simp [this]
theorem num_lens (sg ds r : List Int) (hs : sg = [] ∨ sg = [45]) (hne : ds ≠ []) (hd : ∀ c ∈ ds, isIn 48 57 c = true) (hr : r = [] ∨ isIn 48 57 (at_ r 0) = false) :
    digLen (sg ++ (ds ++ r)) = (sg ++ ds).length ∧ counts (sg ++ (ds ++ r)) = true ∧ isBlank (at_ (sg ++ (ds ++ r)) 0) = false ∧ at_ (sg ++ (ds ++ r)) 0 ≠ 35 ∧ sg ++ (ds ++ r) ≠ [] := by
  cases ds with
  | nil => exact absurd rfl hne
  | cons d ds' =>
    have hd0 := hd d (by simp)
    have hb : 48 ≤ d ∧ d ≤ 57 := by simpa [isIn] using hd0
    have htw := takeWhile_stop (d :: ds') r hd hr
    rcases hs with rfl | rfl
    · have e0 : at_ ([] ++ (d :: ds' ++ r)) 0 = d := rfl
      refine ⟨?_, ?_, ?_, ?_, by simp⟩
      · unfold digLen signLen
        rw [e0, hd0, if_pos rfl, List.drop_zero, List.nil_append, htw]
        simp
      · unfold counts; rw [e0, if_neg (by omega)]; exact hd0
      · rw [e0]; simp [isBlank]; omega
      · rw [e0]; omega
    · have e0 : at_ ([45] ++ (d :: ds' ++ r)) 0 = 45 := rfl
      have e1 : at_ ([45] ++ (d :: ds' ++ r)) 1 = d := rfl
      refine ⟨?_, ?_, ?_, ?_, by simp⟩
      · unfold digLen signLen
        rw [e0, show isIn 48 57 45 = false by decide, if_neg (by decide)]
        show 1 + (((d :: ds' ++ r)).takeWhile (isIn 48 57)).length = _
        rw [htw]
        simp; omega
      · unfold counts; rw [e0, if_pos rfl, e1]; exact hd0
      · rw [e0]; decide
      · rw [e0]; decide
theorem num_take (sg ds r : List Int) : (sg ++ (ds ++ r)).take (sg ++ ds).length = sg ++ ds := by rw [← List.append_assoc, List.take_left]
theorem num_drop (sg ds r : List Int) : (sg ++ (ds ++ r)).drop (sg ++ ds).length = r := by rw [← List.append_assoc, List.drop_left]
theorem at_num (sg ds r : List Int) : at_ (sg ++ (ds ++ r)) (sg ++ ds).length = at_ r 0 := by rw [← Nat.add_zero (sg ++ ds).length, ← at_drop, num_drop]
/-- The unit px, and what no name goes on with. -/
theorem step_px (sg ds r : List Int) (hs : sg = [] ∨ sg = [45]) (hne : ds ≠ []) (hd : ∀ c ∈ ds, isIn 48 57 c = true) (hr : r = [] ∨ isPart (at_ r 0) = false) :
    step (sg ++ (ds ++ 112 :: 120 :: r)) = some (⟨12, strOf (sg ++ ds), strOf [112, 120], true, false⟩, (sg ++ ds).length + 2) := by
  obtain ⟨h1, h2, h3, h4, -⟩ := num_lens sg ds (112 :: 120 :: r) hs hne hd (.inr (show isIn 48 57 112 = false by decide))
  have hb : begins (112 :: 120 :: r) = true := by unfold begins; rw [show at_ (112 :: 120 :: r) 0 = 112 from rfl, if_neg (by decide)]; decide
  have hw : (112 :: 120 :: r).takeWhile isPart = [112, 120] := takeWhile_stop [112, 120] r (by decide) hr
  unfold step
  rw [h3, if_neg (by decide), if_neg h4, if_pos h2, if_pos (by unfold NoExp; rw [h1, at_num]; exact ⟨(by decide : (112 : Int) ≠ 101), (by decide : (112 : Int) ≠ 69)⟩)]
  unfold numT numLen nameLen
  rw [h1, num_drop, num_take, if_pos hb, if_pos hb, hw]
  rfl
theorem step_pct (sg ds r : List Int) (hs : sg = [] ∨ sg = [45]) (hne : ds ≠ []) (hd : ∀ c ∈ ds, isIn 48 57 c = true) :
    step (sg ++ (ds ++ 37 :: r)) = some (⟨11, strOf (sg ++ ds), noStr, true, false⟩, (sg ++ ds).length + 1) := by
  obtain ⟨h1, h2, h3, h4, -⟩ := num_lens sg ds (37 :: r) hs hne hd (.inr (show isIn 48 57 37 = false by decide))
  have hb : begins (37 :: r) = false := by unfold begins; rw [show at_ (37 :: r) 0 = 37 from rfl, if_neg (by decide)]; decide
  unfold step
  rw [h3, if_neg (by decide), if_neg h4, if_pos h2, if_pos (by unfold NoExp; rw [h1, at_num]; exact ⟨(by decide : (37 : Int) ≠ 101), (by decide : (37 : Int) ≠ 69)⟩)]
  unfold numT numLen
  rw [h1, num_drop, num_take, hb, show at_ (37 :: r) 0 = 37 from rfl]
  simp only [Bool.false_eq_true, if_false, if_true]
/-- A number alone, or with a space behind it. -/
theorem step_int (sg ds r : List Int) (hs : sg = [] ∨ sg = [45]) (hne : ds ≠ []) (hd : ∀ c ∈ ds, isIn 48 57 c = true) (hr : r = [] ∨ at_ r 0 = 32) :
    step (sg ++ (ds ++ r)) = some (⟨10, strOf (sg ++ ds), noStr, true, false⟩, (sg ++ ds).length) := by
  have hx : at_ r 0 = -1 ∨ at_ r 0 = 32 := hr.imp (fun e => by rw [e]; rfl) id
  obtain ⟨h1, h2, h3, h4, -⟩ := num_lens sg ds r hs hne hd (.inr (by rcases hx with e | e <;> rw [e] <;> decide))
  have hb : begins r = false := by unfold begins; rcases hx with e | e <;> rw [e, if_neg (by decide)] <;> decide
  have h37 : at_ r 0 ≠ 37 := by rcases hx with e | e <;> rw [e] <;> decide
  unfold step
  rw [h3, if_neg (by decide), if_neg h4, if_pos h2, if_pos (by unfold NoExp; rw [h1, at_num]; rcases hx with e | e <;> rw [e] <;> exact ⟨by decide, by decide⟩)]
  unfold numT numLen
  rw [h1, num_drop, num_take, hb]
  simp only [Bool.false_eq_true, if_false, if_neg h37, Nat.add_zero]
theorem step_blank (r : List Int) (hr : r = [] ∨ isBlank (at_ r 0) = false) : step (32 :: r) = some (spaceT, 1) := by
  have hw : (32 :: r).takeWhile isBlank = [32] := takeWhile_stop [32] r (by decide) hr
  unfold step
  rw [show at_ (32 :: r) 0 = 32 from rfl, if_pos (by decide), hw]
  rfl
end Go.Proofs.YtpadcjcoafidgaaGreatDoor
/-! reader.sees where the text does not stand. -/
namespace Go.Proofs.YtpadcjcoafidgaaGreatDoor
open Go.RowKit

set_option maxRecDepth 100000 in
set_option maxHeartbeats 2000000 in
theorem sees_no (w : World) (b : Nat) (rv : Value) (rs : List Int) (i : Nat) (h : Rd w b rv rs i) (lit : ByteArray) (hl : lit.size ≤ 100) (ha : ∀ k (h : k < lit.size), (lit[k]'h).toNat < 128)
    (hno : ∃ k, ∃ h : k < lit.size, at_ rs (i + k) ≠ ((lit[k]'h).toNat : Int)) :
    Calls Tryz.prog 87 #[.pointer (some ⟨b, 0, none⟩), .string lit] w fun e w' => (e = .returned (.bool false)) ∧ Below w.heap.size w w' := by
  have HR := Lib.hid h
  have HN := Lib.hid hno
  have HA := Lib.hid ha
  have hk0 := World.iter_heap w lit 0
  have hb0 : Below w.heap.size w (w.iter lit 0) := bAlloc1 w _
  clear h hno ha
  go_enter Tryz.func87, Tryz.ntmps87
  go_wp2_with fail
  go_loopw [5, 7] (fun n _ wr => ∃ pos : Nat, pos ≤ lit.size ∧ n = .int .i64 pos ∧ wr.heap[w.heap.size]? = some (.stringIter lit pos) ∧ Hid (∀ k (h : k < lit.size), k < pos → at_ rs (i + k) = ((lit[k]'h).toNat : Int)) ∧ Below w.heap.size w wr)
    (fun _ _ wr => lit.size - wr.iterPos w.heap.size)
  case atStart => exact ⟨0, Nat.zero_le _, rfl, hk0, Lib.hid (fun k _ hk => by omega), hb0⟩
  case round =>
    obtain ⟨pos, hps, rfl, hk, HP, hb⟩ := hrel
    clear hk0 hb0
    by_cases hp : pos < lit.size
    · have hnext : ∀ ty, (Instr.next (.pointer (some ⟨w.heap.size, 0, none⟩)) true ty).run Tryz.prog wr = _ := fun ty => Lib.run_next_ascii_at wr w.heap.size lit pos ty hk hp (HA.out pos hp)
      have hk1 := Lib.iterAt_heap wr w.heap.size lit pos (pos + 1) hk
      have hb1 : Below w.heap.size w (wr.iterAt w.heap.size lit (pos + 1)) := Lib.below_iterAt hb (Nat.le_refl _) lit (pos + 1)
      have hmu : wr.iterPos w.heap.size = pos := by simp [World.iterPos, hk]
      generalize wr.iterAt w.heap.size lit (pos + 1) = W1 at hnext hk1 hb1
      have HM := Lib.hid hmu
      clear hk hmu
      obtain ⟨c, hc⟩ : ∃ c : Int, ((lit[pos]'hp).toNat : Int) = c := ⟨_, rfl⟩
      rw [hc] at hnext
      go_wp2_with fail
      refine (peek_any W1 b rv rs i pos (HR.out.below hb1 (Nat.le_refl _)) (by omega)).mono ?_
      rintro e w2 ⟨rfl, hb2⟩
      have hlt2 : w.heap.size < W1.heap.size := (Array.getElem?_eq_some_iff.1 hk1).1
      have hk2 := (hb2.block w.heap.size hlt2).trans hk1
      have hbb := hb1.trans (hb2.mono hb1.size)
      clear hb1 hb2
      by_cases he : at_ rs (i + pos) = c
      · rw [he]
        go_wp2_with fail
        go_roundw
        case rel =>
          refine ⟨pos + 1, by omega, by go_num, hk2, Lib.hid (fun k hk hkp => ?_), hbb⟩
          by_cases hkk : k < pos
          · exact HP.out k hk hkk
          · obtain rfl : k = pos := by omega
            rw [he, hc]
        case measure =>
          have hmu2 : w2.iterPos w.heap.size = pos + 1 := by simp [World.iterPos, hk2]
          rw [HM.out, hmu2]; omega
      · obtain ⟨d, hd⟩ : ∃ d, at_ rs (i + pos) = d := ⟨_, rfl⟩
        rw [hd] at he ⊢
        have hne : (d != c) = true := by simpa using he
        go_wp2_with fail
        go_ret
        exact ⟨rfl, hbb⟩
    · exfalso
      obtain ⟨k, hk', hne⟩ := HN.out
      exact hne (HP.out k hk' (by omega))
end Go.Proofs.YtpadcjcoafidgaaGreatDoor
/-! reader.way: what reads the token that begins here. -/
namespace Go.Proofs.YtpadcjcoafidgaaGreatDoor
open Go.RowKit

theorem Tame.asc {rs : List Int} (h : Tame rs) : Asc rs := fun c hc => by have := h c hc; unfold tm at this; unfold Go.Proofs.YtpadcjcoafidgaaGreatDoor.asc; omega
def oneOf (g : Nat) : Prop := g = 124 ∨ g = 128 ∨ g = 130 ∨ g = 134
/-- The function reads this token. -/
def Reads (b : Nat) (rv : Value) (rs : List Int) (i : Nat) (tok : Tok) (k g : Nat) : Prop :=
  ∀ W, Rd W b rv rs i → Calls Tryz.prog g #[.pointer (some ⟨b, 0, none⟩)] W fun e w' => (e = .returned tok.val) ∧ But W.heap.size b W w' ∧ Rd w' b rv rs (i + k)
theorem sees_tame (w : World) (b : Nat) (rv : Value) (rs : List Int) (i : Nat) (h : Rd w b rv rs i) (ht : Tame rs) (lit : ByteArray) (hl : lit.size ≤ 100) (ha : ∀ k (h : k < lit.size), (lit[k]'h).toNat < 128)
    (hno : ∃ k, ∃ h : k < lit.size, ¬ tm ((lit[k]'h).toNat : Int)) :
    Calls Tryz.prog 87 #[.pointer (some ⟨b, 0, none⟩), .string lit] w fun e w' => (e = .returned (.bool false)) ∧ Below w.heap.size w w' := by
  obtain ⟨k, hk, hn⟩ := hno
  refine sees_no w b rv rs i h lit hl ha ⟨k, hk, fun e => ?_⟩
  rcases ht.or (i + k) with e2 | e2
  · rw [e2] at e; omega
  · rw [e] at e2; exact hn e2
set_option maxRecDepth 100000 in
set_option maxHeartbeats 4000000 in
theorem way_any (w : World) (b : Nat) (rv : Value) (rs : List Int) (i : Nat) (h : Rd w b rv rs i) (ht : Tame rs) (hi : i < rs.length) (tok : Tok) (k : Nat) (hs : step (rs.drop i) = some (tok, k)) :
    Calls Tryz.prog 89 #[.pointer (some ⟨b, 0, none⟩)] w fun e w' => ∃ g, e = .returned (.func (.func g) #[] #[]) ∧ oneOf g ∧ Below w.heap.size w w' ∧ Reads b rv rs i tok k g := by
  have H := Lib.hid h
  have T := Lib.hid ht
  have ha := ht.asc
  obtain ⟨c, hcc⟩ : ∃ c, at_ rs (i + 0) = c := ⟨_, rfl⟩
  obtain ⟨d, hdd⟩ : ∃ c, at_ rs (i + 1) = c := ⟨_, rfl⟩
  have hq := ht.or (i + 0)
  rw [hcc] at hq
  have b34 : (c == 34) = false := by rw [beq_eq_false_iff_ne]; intro e; subst e; revert hq; decide
  have b39 : (c == 39) = false := by rw [beq_eq_false_iff_ne]; intro e; subst e; revert hq; decide
  unfold step at hs
  rw [at_drop, at_drop, hcc, hdd] at hs
  clear h hq
  cases hB : isBlank c
  · rw [hB, if_neg (by decide)] at hs
    by_cases h35 : c = 35
    · rw [if_pos h35] at hs
      split at hs
      · rename_i hp
        obtain ⟨hd1, hp⟩ := hp
        simp only [Option.some.injEq, Prod.mk.injEq] at hs
        obtain ⟨rfl, rfl⟩ := hs
        have hX : Hid (Reads b rv rs i (hashT (rs.drop i)) (1 + nameLen ((rs.drop i).drop 1)) 128) := Lib.hid (fun W hW => by
          have := hash_any W b rv rs i hW T.out ha hi
          rw [List.drop_drop, ← Nat.add_assoc]
          exact this)
        clear ha
        subst h35
        have bd : (d != -1) = true := by simpa using hd1
        go_enter Tryz.func89, Tryz.ntmps89
        go_wp2_with fail
        refine (peek_any w b rv rs i 0 H.out (by decide)).mono ?_
        rintro e w1 ⟨rfl, hb1⟩
        rw [hcc]
        have H1 := Lib.hid (H.out.next hb1)
        clear H
        go_wp2_with fail
        refine (Blank_any 35 w1).mono ?_
        rintro e w1' ⟨rfl, rfl⟩
        rw [hB]
        go_wp2_with fail
        refine (escape_no w1' b rv rs i 1 H1.out (by decide) T.out).mono ?_
        rintro e w2 ⟨rfl, hb2⟩
        have H2 := Lib.hid (H1.out.next hb2)
        have hb12 := bNext hb1 hb2
        clear hb1 hb2 H1
        go_wp2_with fail
        refine (peek_any w2 b rv rs i 1 H2.out (by decide)).mono ?_
        rintro e w3 ⟨rfl, hb3⟩
        rw [hdd]
        have H3 := Lib.hid (H2.out.next hb3)
        have hb13 := bNext hb12 hb3
        clear hb12 hb3 H2
        go_wp2_with fail
        refine (peek_any w3 b rv rs i 1 H3.out (by decide)).mono ?_
        rintro e w4 ⟨rfl, hb4⟩
        rw [hdd]
        have H4 := Lib.hid (H3.out.next hb4)
        have hb14 := bNext hb13 hb4
        clear hb13 hb4 H3
        go_wp2_with fail
        refine (Part_any d w4).mono ?_
        rintro e w5 ⟨rfl, hb5⟩
        rw [hp]
        have hb15 := bNext hb14 hb5
        go_wp2_with fail
        go_ret
        exact ⟨_, rfl, .inr (.inl rfl), hb15, hX.out⟩
      · cases hs
    · rw [if_neg h35] at hs
      have b35 : (c == 35) = false := by simpa using h35
      cases hcn : counts (rs.drop i)
      · rw [hcn, if_neg (by decide)] at hs
        cases hbg : begins (rs.drop i)
        · rw [hbg, if_neg (by decide)] at hs; cases hs
        · rw [hbg, if_pos rfl] at hs
          simp only [Option.some.injEq, Prod.mk.injEq] at hs
          obtain ⟨rfl, rfl⟩ := hs
          have hX : Hid (Reads b rv rs i (wordT (rs.drop i)) (nameLen (rs.drop i)) 134) := Lib.hid (fun W hW => word_any W b rv rs i hW T.out ha)
          clear ha
          go_enter Tryz.func89, Tryz.ntmps89
          go_wp2_with fail
          refine (peek_any w b rv rs i 0 H.out (by decide)).mono ?_
          rintro e w1 ⟨rfl, hb1⟩
          rw [hcc]
          have H1 := Lib.hid (H.out.next hb1)
          clear H
          go_wp2_with fail
          refine (Blank_any c w1).mono ?_
          rintro e w1' ⟨rfl, rfl⟩
          rw [hB]
          go_wp2_with fail
          refine (counts_any w1' b rv rs i H1.out T.out).mono ?_
          rintro e w2 ⟨rfl, hb2⟩
          rw [hcn]
          have H2 := Lib.hid (H1.out.next hb2)
          have hb12 := bNext hb1 hb2
          clear hb1 hb2 H1
          go_wp2_with fail
          refine (sees_tame w2 b rv rs i H2.out T.out _ (by decide) (by decide) ⟨2, by decide, by decide⟩).mono ?_
          rintro e w3 ⟨rfl, hb3⟩
          have H3 := Lib.hid (H2.out.next hb3)
          have hb13 := bNext hb12 hb3
          clear hb12 hb3 H2
          go_wp2_with fail
          refine (sees_tame w3 b rv rs i H3.out T.out _ (by decide) (by decide) ⟨0, by decide, by decide⟩).mono ?_
          rintro e w4 ⟨rfl, hb4⟩
          have H4 := Lib.hid (H3.out.next hb4)
          have hb14 := bNext hb13 hb4
          clear hb13 hb4 H3
          go_wp2_with fail
          refine (begins_any w4 b rv rs i 0 H4.out (by decide) T.out).mono ?_
          rintro e w5 ⟨rfl, hb5⟩
          rw [show begins (rs.drop (i + 0)) = true from hbg]
          have hb15 := bNext hb14 hb5
          go_wp2_with fail
          go_ret
          exact ⟨_, rfl, .inr (.inr (.inr rfl)), hb15, hX.out⟩
      · rw [hcn, if_pos rfl] at hs
        split at hs
        · rename_i hne
          simp only [Option.some.injEq, Prod.mk.injEq] at hs
          obtain ⟨rfl, rfl⟩ := hs
          have hX : Hid (Reads b rv rs i (numT (rs.drop i)) (numLen (rs.drop i)) 130) := Lib.hid (fun W hW => by
            rw [numT_val]
            exact number_any W b rv rs i hW T.out ha hi hcn hne)
          clear ha hne
          go_enter Tryz.func89, Tryz.ntmps89
          go_wp2_with fail
          refine (peek_any w b rv rs i 0 H.out (by decide)).mono ?_
          rintro e w1 ⟨rfl, hb1⟩
          rw [hcc]
          have H1 := Lib.hid (H.out.next hb1)
          clear H
          go_wp2_with fail
          refine (Blank_any c w1).mono ?_
          rintro e w1' ⟨rfl, rfl⟩
          rw [hB]
          go_wp2_with fail
          refine (counts_any w1' b rv rs i H1.out T.out).mono ?_
          rintro e w2 ⟨rfl, hb2⟩
          rw [hcn]
          have hb12 := bNext hb1 hb2
          go_wp2_with fail
          go_ret
          exact ⟨_, rfl, .inr (.inr (.inl rfl)), hb12, hX.out⟩
        · cases hs
  · rw [hB, if_pos rfl] at hs
    simp only [Option.some.injEq, Prod.mk.injEq] at hs
    obtain ⟨rfl, rfl⟩ := hs
    have hX : Hid (Reads b rv rs i spaceT ((rs.drop i).takeWhile isBlank).length 124) := Lib.hid (fun W hW => space_any W b rv rs i hW)
    clear ha
    go_enter Tryz.func89, Tryz.ntmps89
    go_wp2_with fail
    refine (peek_any w b rv rs i 0 H.out (by decide)).mono ?_
    rintro e w1 ⟨rfl, hb1⟩
    rw [hcc]
    go_wp2_with fail
    refine (Blank_any c w1).mono ?_
    rintro e w1' ⟨rfl, rfl⟩
    rw [hB]
    go_wp2_with fail
    go_ret
    exact ⟨_, rfl, .inl rfl, hb1, hX.out⟩
end Go.Proofs.YtpadcjcoafidgaaGreatDoor
/-! token.Tokens of a tame text. -/
namespace Go.Proofs.YtpadcjcoafidgaaGreatDoor
open Go.RowKit

/-- 'l = append(l, x)', one row of m cells, l nil or the call's own. -/
theorem wpList_append_row {P : Program} {w : World} {ops : Array Oper} {rest : List Oper} {o : Oper} {a : Act} {Q : Exit → Act → World → Prop} (hgd : o.guard = none) (s x : Operand) (t e : TypeId)
    (ho : o.op = .call { callee := .builtin .append, args := #[s, x], argTypes := #[t, t] })
    (base m bytes : Nat) (z : Value) (ht : P.underlying t = some (.slice e)) (hinfo : (P.info? e).map (fun i => (i.zero, i.size, i.bytes)) = some (some z, m, bytes)) (hzs : z.cells.size = m) (hm : 0 < m)
    (v : Value) (rows : List (List Value)) (r : List Value) (hs : a.eval s = v) (hown : w.ownsRow base e m v rows.length rows.flatten)
    (ad : Addr) (c : Nat) (hx : a.eval x = .slice (some ad) 1 c) (hr : r.length = m) (hcell : ∀ j u, r[j]? = some u → w.cell? (ad.add j) = some u) (h1 : ∀ u ∈ r, u.oneCell' = true)
    (hlen : (rows.length + 1) * bytes ≤ 140737488355328) (hby : 0 < bytes) (hbase : base ≤ w.heap.size)
    (h : ∀ v' w', w'.ownsRow base e m v' (rows ++ [r]).length (rows ++ [r]).flatten → w.grownBy w' v.ownBlock → v' ≠ .slice none 0 0 → wpList P ops Q rest (a.put o.dst v') w') : wpList P ops Q (o :: rest) a w := by
  obtain ⟨i0, hi, hz0, hz1, hz2⟩ := info_parts hinfo
  refine wpList_append_own w hgd s x t ho base e i0 z m bytes ht hi hz0 hz1 hz2 hzs hm v rows.length _ hs hown ad 1 c r hx (by omega) hcell h1 ?_ hlen hbase ?_
  · have := Nat.le_trans (Nat.le_mul_of_pos_right (rows.length + 1) hby) hlen
    unfold maxLen
    omega
  · intro v' w' h1 h2 h3
    refine h v' w' (by simpa using h1) h2 (fun e => ?_)
    have := h3.1 e
    omega
theorem ownsRow_but {w w' : World} {B b : Nat} {e : TypeId} {m : Nat} {v : Value} {n : Nat} {xs : List Value} (h : w.ownsRow B e m v n xs) (hb : But w.heap.size b w w') (hB : b < B) : w'.ownsRow B e m v n xs := by
  obtain ⟨h1, h2⟩ := h
  refine ⟨h1, ?_⟩
  rcases h2 with h2 | ⟨g, cap, cur, hv, hg, hh, r⟩
  · exact Or.inl h2
  · have hlt : g < w.heap.size := (Array.getElem?_eq_some_iff.1 hh).1
    exact Or.inr ⟨g, cap, cur, hv, hg, by rw [hb.block g hlt (by omega)]; exact hh, r⟩
/-- A slice's length. -/
def lenOf (v : Value) : Nat := match v with
  | .slice _ n _ => n
  | _ => 0
theorem ownsRow_lenOf {w : World} {B : Nat} {e : TypeId} {m : Nat} {v : Value} {n : Nat} {xs : List Value} (h : w.ownsRow B e m v n xs) : lenOf v = n := by
  obtain ⟨_, ⟨hv, h0⟩ | ⟨g, cap, _, hv, _⟩⟩ := h
  · rw [hv, h0]; rfl
  · rw [hv]; rfl
theorem infoTok : (Tryz.prog.info? 23).map (fun i => (i.zero, i.size, i.bytes)) = some (some (.agg #[.int .i64 0, .string ⟨#[]⟩, .string ⟨#[]⟩, .bool false, .bool false]), 5, 48) := by kernel_rfl
theorem Tok.row_len (t : Tok) : t.row.length = 5 := rfl
theorem Tok.row_one (t : Tok) : ∀ u ∈ t.row, u.oneCell' = true := by
  intro u hu
  simp only [Tok.row, List.mem_cons, List.not_mem_nil, or_false] at hu
  rcases hu with rfl | rfl | rfl | rfl | rfl <;> rfl
theorem tokRows_len (l : List Tok) : ∀ r ∈ l.map Tok.row, r.length = 5 := by
  intro r hr
  obtain ⟨t, _, rfl⟩ := List.mem_map.1 hr
  rfl
theorem lexF_len : ∀ (n : Nat) (s : List Int) (l : List Tok), lexF n s = some l → l.length ≤ n
  | n, [], l, h => by
    simp only [lexF, Option.some.injEq] at h
    subst h
    simp
  | 0, a :: s, l, h => by simp [lexF] at h
  | n + 1, a :: s, l, h => by
    obtain ⟨m, t, k, r, hn, _, h2, rfl⟩ := lexF_cons _ _ _ (by simp) h
    obtain rfl : n = m := by omega
    have := lexF_len n _ _ h2
    simp
    exact this
set_option maxRecDepth 100000 in
set_option maxHeartbeats 4000000 in
theorem Tokens_any (w : World) (v : Value) (rs : List Int) (toks : List Tok) (h : Rn w.heap.size w v rs) (ht : Tame rs) (hlen : rs.length ≤ 10000) (hlex : lex rs = some toks) :
    Calls Tryz.prog 49 #[v] w fun e w' => ∃ V, e = .returned V ∧ Rws w.heap.size w' 5 V (toks.map Tok.row) ∧ Below w.heap.size w w' := by
  have HX := Lib.hid hlex
  have T := Lib.hid ht
  have htl : toks.length ≤ rs.length := lexF_len _ _ _ hlex
  have hb0 : Below w.heap.size w (w.alloc (.cells #[v, .int .i64 0] 140)) := bAlloc1 w _
  have HR0 : Hid (Rd (w.alloc (.cells #[v, .int .i64 0] 140)) w.heap.size v rs 0) := Lib.hid ⟨by simp, by simp, by simp, Nat.zero_le _, by omega, by
    obtain ⟨p, off, cap, hv, hc, hp, hcell⟩ := h
    exact ⟨p, off, cap, hv, hc, hp, fun k hk => (hb0.cell (p := ⟨p, _, none⟩) hp).trans (hcell k hk)⟩⟩
  obtain ⟨pa, off, cap, rfl, -⟩ := h
  clear ht hlex
  go_enter Tryz.func49, Tryz.ntmps49
  go_wp2_with fail
  go_step3
  go_wp2_with fail
  go_step3
  go_wp2_with fail
  go_loopw [3] (fun l wr => ∃ (i n : Nat) (pre rest : List Tok), i ≤ rs.length ∧ Hid (Rd wr w.heap.size (Value.slice (some { block := pa, off := off }) rs.length cap) rs i) ∧ Hid (lexF n (rs.drop i) = some rest) ∧ toks = pre ++ rest ∧
      wr.ownsRow (w.heap.size + 1) 23 5 l (pre.map Tok.row).length (pre.map Tok.row).flatten ∧ Below w.heap.size w wr)
    (fun l _ => toks.length - lenOf l)
  case atStart => exact ⟨0, rs.length, [], toks, Nat.zero_le _, HR0, Lib.hid HX.out, rfl, ⟨by simp, .inl ⟨rfl, rfl⟩⟩, hb0⟩
  case round =>
    obtain ⟨i, n, pre, rest, hi, HR, HL, htk, hown, hb⟩ := hrel
    clear HR0 hb0
    have hmu := ownsRow_lenOf hown
    have HM := Lib.hid hmu
    clear hmu
    go_wp2_with fail
    refine (over_any wr _ _ rs i HR.out).mono ?_
    rintro e w1 ⟨rfl, hb1⟩
    have HR1 := Lib.hid (HR.out.next hb1)
    have hown1 := ownsRow_below hown hb1 (Nat.le_refl _)
    have hbb1 := hb.trans (hb1.mono hb.size)
    have hsz1 := HR1.out.c0
    clear HR hown hb hb1
    by_cases hj : i < rs.length
    · rw [show decide (rs.length ≤ i) = false from decide_eq_false (by omega)]
      obtain ⟨m, tok, k, r, rfl, hst, hL2, rfl⟩ := lexF_cons _ _ _ (by intro e; have := congrArg List.length e; rw [List.length_drop] at this; simp at this; omega) HL.out
      go_wp2_with fail
      refine (sees_tame w1 _ _ rs i HR1.out T.out _ (by decide) (by decide) ⟨0, by decide, by decide⟩).mono ?_
      rintro e w2 ⟨rfl, hb2⟩
      have HR2 := Lib.hid (HR1.out.next hb2)
      have hown2 := ownsRow_below hown1 hb2 (Nat.le_refl _)
      have hbb2 := hbb1.trans (hb2.mono hbb1.size)
      clear HR1 hown1 hbb1 hb2
      go_wp2_with fail
      refine (way_any w2 _ _ rs i HR2.out T.out hj tok k hst).mono ?_
      rintro e w3 ⟨g, rfl, hg, hb3, hrd⟩
      have HR3 := Lib.hid (HR2.out.next hb3)
      have HQ := Lib.hid (hrd w3 HR3.out)
      have hown3 := ownsRow_below hown2 hb3 (Nat.le_refl _)
      have hbb3 := hbb2.trans (hb3.mono hbb2.size)
      clear HR2 hown2 hbb2 hb3 hrd
      obtain ⟨tk, tt, tu, twh, tfl⟩ := tok
      simp only [Tok.val, tokV] at HQ
      rcases hg with rfl | rfl | rfl | rfl
      all_goals
        go_wp2_with fail
        refine HQ.out.mono ?_
        rintro e w4 ⟨rfl, hbut4, hrd4⟩
        have hown4 := ownsRow_but hown3 hbut4 (Nat.lt_succ_self _)
        have hbb4 : Below w.heap.size w w4 := hbb3.trans (hbut4.below hbb3.size (Nat.le_refl _))
        have HR4 := Lib.hid hrd4
        have hlt : w.heap.size < w4.heap.size := World.block_lt_of_cell? w4 _ hrd4.c0
        clear hbut4 hrd4 hown3 HQ HR3
        go_wp2_with (at_builtin; refine wpList_append_row rfl _ _ 86 23 rfl (w.heap.size + 1) 5 48 _ Tryz.underlying86 infoTok rfl (by decide) u3 (pre.map Tok.row) (Tok.row ⟨tk, tt, tu, twh, tfl⟩) rfl (hown4.alloc _) ⟨w4.heap.size, 0, none⟩ 1 rfl rfl (cells_new1 w4 _ _ _ rfl) (Tok.row_one _) (by rw [htk, List.length_append] at htl; rw [List.length_map]; omega) (by decide) (by simp; omega) ?_; intro v' w5 hown5 hgrow hne)
        have hbb5 : Below w.heap.size w w5 := (hbb4.alloc hbb4.size _).grown hgrow (by simp; omega) (fun j e => by have := (hown4.lt j e).1; omega)
        have HR5 : Hid (Rd w5 w.heap.size (Value.slice (some { block := pa, off := off }) rs.length cap) rs (i + k)) := Lib.hid (rd_below (rd_below HR4.out (bAlloc1 _ _) hlt) ((Below.refl (w.heap.size + 1) _).grown hgrow (by simp; omega) (fun j e => (hown4.lt j e).1)) (Nat.lt_succ_self _))
        have hlen5 := ownsRow_lenOf hown5
        go_roundw
        case rel => exact ⟨i + k, m, pre ++ [⟨tk, tt, tu, twh, tfl⟩], r, HR5.out.le, HR5, Lib.hid (by rw [← List.drop_drop]; exact hL2), by rw [htk]; simp, by simpa using hown5, hbb5⟩
        case measure =>
          rw [HM.out]
          show toks.length - lenOf v' < _
          rw [hlen5, htk]
          simp
          omega
    · rw [show decide (rs.length ≤ i) = true from decide_eq_true (by omega)]
      have hr : rest = [] := by
        have := HL.out
        rw [List.drop_eq_nil_of_le (by omega)] at this
        simp only [lexF, Option.some.injEq] at this
        exact this.symm
      subst hr
      rw [List.append_nil] at htk
      subst htk
      go_wp2_with fail
      rw [Exit.noGoto_ret]
      go_ret
      exact ⟨_, rfl, (Rws.of_owns hown1 rfl (by simp) (tokRows_len _)).base (Nat.le_succ _), hbb1⟩
end Go.Proofs.YtpadcjcoafidgaaGreatDoor
