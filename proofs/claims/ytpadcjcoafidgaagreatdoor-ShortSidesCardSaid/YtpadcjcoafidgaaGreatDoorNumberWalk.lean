/- The walk of reader.number. -/
import Derived.Test.YtpadcjcoafidgaaGreatDoorNumber
import Derived.Laws.Cover4
namespace Go.Proofs.YtpadcjcoafidgaaGreatDoor
open Go.RowKit

set_option maxRecDepth 100000 in
set_option maxHeartbeats 8000000 in
theorem number_dig (w : World) (b : Nat) (rv : Value) (rs : List Int) (i : Nat) (h : Rd w b rv rs i) (ht : Tame rs) (ha : Asc rs) (hi : i < rs.length) (hc : isIn 48 57 (at_ rs i) = true) (he : NoExp (rs.drop i)) :
    Calls Tryz.prog 130 #[.pointer (some ⟨b, 0, none⟩)] w fun e w' => (e = .returned (numTok (rs.drop i))) ∧ But w.heap.size b w w' ∧ Rd w' b rv rs (i + numLen (rs.drop i)) := by
  have T := Lib.hid ht
  have A := Lib.hid ha
  have hbw : b < w.heap.size := World.block_lt_of_cell? w _ h.c0
  have hbig := h.big
  have HR0 : Hid (∀ o o', Rd ((w.alloc o).alloc o') b rv rs i) := Lib.hid (fun o o' => (h.next (bAlloc1 w o)).next (bAlloc1 _ o'))
  have c1 : ∀ o o', ((w.alloc o).alloc o').cell? ⟨b, 0 + 1, none⟩ = some (.int .i64 (i : Int)) := fun o o' => (HR0.out o o').c1
  obtain ⟨z, hz⟩ : ∃ z, strOf ((rs.drop i).take (digLen (rs.drop i))) = z := ⟨_, rfl⟩
  have hij : i ≤ i + digLen (rs.drop i) := Nat.le_add_right _ _
  obtain ⟨j, hjj⟩ : ∃ j, i + digLen (rs.drop i) = j := ⟨_, rfl⟩
  rw [hjj] at hij
  obtain ⟨c, hcc⟩ : ∃ c, at_ rs (i + 0) = c := ⟨_, rfl⟩
  have HE := Lib.hid he
  clear h ht ha he
  go_enter Tryz.func130, Tryz.ntmps130
  go_wp2_with fail
  clear c1
  refine (peek_any _ b rv rs i 0 (HR0.out _ _) (by decide)).mono ?_
  rintro e w1 ⟨rfl, hb1⟩
  have HT := Lib.hid ((Two.new w b _ _ _ _).next hbw (But.of hb1))
  have HR := Lib.hid ((HR0.out _ _).next hb1)
  clear hb1 HR0
  rw [hcc]
  go_wp2_with fail
  refine (digit_any _ _).mono ?_
  rintro e w2 ⟨rfl, hb2⟩
  have HT2 := Lib.hid (HT.out.next hbw (But.of hb2))
  have HR2 := Lib.hid (HR.out.next hb2)
  clear hb2 HT HR
  have hcd : isIn 48 57 c = true := by rw [← hcc]; exact hc
  have hj : Hid (i + 0 + ((rs.drop (i + 0)).takeWhile (isIn 48 57)).length = j) := Lib.hid (by rw [← hjj]; unfold digLen signLen; rw [at_drop, Nat.add_zero, if_pos hc]; simp)
  go_wp2_with fail
  have HT3 := HT2
  have HR3 := HR2
  refine (while_digit _ b rv rs (i + 0) HR3.out).mono ?_
  rintro e w4 ⟨⟨v, rfl⟩, hbut4, hrd4⟩
  have HT4 := Lib.hid (HT3.out.next hbw hbut4)
  have HR4 : Hid (Rd w4 b rv rs j) := Lib.hid (by rw [← hj.out]; exact hrd4)
  clear hbut4 hrd4
  go_wp2_with fail
  refine (peek_any _ b rv rs j 0 HR4.out (by decide)).mono ?_
  rintro e w5 ⟨rfl, hb5⟩
  have HT5 := Lib.hid (HT4.out.next hbw (But.of hb5))
  have HR5 := Lib.hid (HR4.out.next hb5)
  clear hb5 HT4 HR4
  have hq := T.out.or j
  obtain ⟨x, hx⟩ : ∃ x, at_ rs j = x := ⟨_, rfl⟩
  rw [hx] at hq
  have hE := HE.out
  unfold NoExp at hE
  rw [at_drop, hjj, hx] at hE
  have b46 : (x == 46) = false := by rw [beq_eq_false_iff_ne]; intro e; subst e; revert hq; decide
  have bE := noE x hq hE.1 hE.2
  have hX := Lib.hid hx
  have HQ := Lib.hid hq
  rw [show at_ rs (j + 0) = x from hx]
  clear hE hx hq
  go_wp2_with fail
  refine (peek_any _ b rv rs j 1 HR5.out (by decide)).mono ?_
  rintro e w6 ⟨rfl, hb6⟩
  have HT6 := Lib.hid (HT5.out.next hbw (But.of hb6))
  have HR6 := Lib.hid (HR5.out.next hb6)
  clear hb6 HT5 HR5
  obtain ⟨y, hy⟩ : ∃ y, at_ rs (j + 1) = y := ⟨_, rfl⟩
  have hy4 : (y == 43) = false := by
    have := T.out.or (j + 1)
    rw [hy] at this
    rw [beq_eq_false_iff_ne]; intro e; subst e; revert this; decide
  rw [hy]
  clear hy
  cases hy5 : (y == 45)
  · go_wp2_with fail
    refine (peek_any _ b rv rs j 0 HR6.out (by decide)).mono ?_
    rintro e w7 ⟨rfl, hb7⟩
    have HT7 := Lib.hid (HT6.out.next hbw (But.of hb7))
    have HR7 := Lib.hid (HR6.out.next hb7)
    clear hb7 HT6 HR6
    rw [show at_ rs (j + 0) = x from hX.out]
    go_wp2_with fail
    obtain ⟨p, off, cap, hrv, hcap, hp, hcell⟩ := HR7.out.rn
    have g0 := HR7.out.c0
    rw [hrv] at g0
    have g1 := HR7.out.c1
    have hjl := HR7.out.le
    have hrv' := Lib.hid hrv
    clear hrv
    have hcv : (convert 88 9 (.slice (some ⟨p, off + i, none⟩) (j - i) (cap - i))).run Tryz.prog w7.drew = .ok (.string z) w7.drew := by
      rw [run_convert_runes w7.drew 88 9 21 ⟨p, off + i, none⟩ (j - i) (cap - i) (rs.drop i) (by rw [List.length_drop]; omega) Tryz.underlying88 Tryz.underlying21 Tryz.underlying9 (fun m hm => by
        rw [List.length_drop] at hm
        have hadd : (⟨p, off + i, none⟩ : Addr).add m = ⟨p, off + (i + m), none⟩ := by unfold Addr.add; split <;> simp_all <;> omega
        rw [hadd, show (rs.drop i).getD m 0 = rs[i + m]'(by omega) by simp [List.getD, List.getElem?_drop, show i + m < rs.length by omega]]
        exact hcell (i + m) (by omega)), runesBytes_asc _ (fun y hy => A.out y (List.mem_of_mem_drop (List.mem_of_mem_take hy)))]
      rw [← hz, ← hjj, show i + digLen (rs.drop i) - i = digLen (rs.drop i) by omega]
    clear hcell
    have q1 : (i : Int) ≤ (j : Int) := by omega
    have q2 : (j : Int) ≤ (cap : Int) := by omega
    have q3 : (0 : Int) ≤ (i : Int) := by omega
    have t1 : w7.cell? ⟨w.heap.size + 1, 0 + 1, none⟩ = some (.string ⟨#[]⟩) := HT7.out.m1 1
    have t1f : w7.frozen? ⟨w.heap.size + 1, 0 + 1, none⟩ = false := HT7.out.f1 1
    go_region
    have HT8 := Lib.hid ((HT7.out.set1 1 (.string z) (by decide)).drew)
    have HR8 : Hid (Rd (w7.setCell ⟨w.heap.size + 1, 1, none⟩ (.string z)).drew b rv rs j) := Lib.hid ((rd_own HR7.out (by omega) 1 _).next ((Below.refl _ _).drew))
    clear HT7 HR7 hcv g0 g1 t1 t1f hrv' hcap hp
    obtain ⟨w8, hw8⟩ : ∃ w8, (w7.setCell ⟨w.heap.size + 1, 1, none⟩ (.string z)).drew = w8 := ⟨_, rfl⟩
    rw [hw8] at HT8 HR8 ⊢
    clear hw8
    go_wp2_with fail
    refine (begins_any _ b rv rs j 0 HR8.out (by decide) T.out).mono ?_
    rintro e w9 ⟨rfl, hb9⟩
    have HT9 := Lib.hid (HT8.out.next hbw (But.of hb9))
    have HR9 := Lib.hid (HR8.out.next hb9)
    clear hb9 HT8 HR8
    obtain ⟨bg, hbg⟩ : ∃ bg, begins (rs.drop j) = bg := ⟨_, rfl⟩
    rw [show begins (rs.drop (j + 0)) = bg from hbg]
    cases hbb : bg
    · go_wp2_with fail
      refine (peek_any _ b rv rs j 0 HR9.out (by decide)).mono ?_
      rintro e w10 ⟨rfl, hb10⟩
      have HT10 := Lib.hid (HT9.out.next hbw (But.of hb10))
      have HR10 := Lib.hid (HR9.out.next hb10)
      clear hb10 HT9 HR9
      rw [show at_ rs (j + 0) = x from hX.out]
      have m0 := HT10.out.m0
      have f0 := HT10.out.f0
      have m1 := HT10.out.m1
      have f1 := HT10.out.f1
      have hw0 : w.heap.size ≤ w.heap.size := Nat.le_refl _
      have hw1 : w.heap.size ≤ w.heap.size + 1 := Nat.le_succ _
      have hbw1 : b < w.heap.size + 1 := Nat.lt_succ_of_lt hbw
      by_cases h37 : x = 37
      · have b37 : (x == 37) = true := by simpa using h37
        have g1 := HR10.out.c1
        have gf := HR10.out.f1
        have hjl2 : j < rs.length := by
          rcases Nat.lt_or_ge j rs.length with h' | h'
          · exact h'
          · have := hX.out; rw [at_end h', h37] at this; omega
        have hwj : IntKind.i64.wrap ((j : Int) + 1) = ((j + 1 : Nat) : Int) := by rw [Go.IntWalk.i64_in _ (by omega)]; omega
        have hne0 : ¬ (b = w.heap.size) := by omega
        have hne0' : ¬ (w.heap.size = b) := by omega
        have hne1 : ¬ (b = w.heap.size + 1) := by omega
        have hne1' : ¬ (w.heap.size + 1 = b) := by omega
        go_wp2_with fail
        clear m1 f1
        refine bodyPost_ret (v := tokV 11 z noStr true false) ?_ rfl ⟨?_, ?_, ?_⟩
        · simp [results, Tryz.results130, go_sem, m0, tokV, noStr]
        · have hn : numTok (rs.drop i) = tokV 11 z noStr true false := by
            unfold numTok
            rw [List.drop_drop, hjj, hbg, hbb, if_neg (by decide), at_drop, show at_ rs (j + 0) = x from hX.out, if_pos h37, hz]
          rw [hn]
        · exact ((((((HT10.out.but.own hw1 0 _).set 1 _).own hw0 0 _).own hw0 1 _).own hw0 2 _).own hw0 3 _).own hw0 4 _
        · have hn : i + numLen (rs.drop i) = j + 1 := by
            unfold numLen
            rw [List.drop_drop, hjj, hbg, hbb, if_neg (by decide), at_drop, show at_ rs (j + 0) = x from hX.out, if_pos h37, ← hjj]; omega
          rw [hn]
          exact rd_own (rd_own (rd_own (rd_own (rd_own ((rd_own HR10.out hbw1 0 _).store (j + 1) _ (by omega) (by omega)) hbw 0 _) hbw 1 _) hbw 2 _) hbw 3 _) hbw 4 _
      · have b37 : (x == 37) = false := by simpa using h37
        go_wp2_with fail
        clear m1 f1
        refine bodyPost_ret (v := tokV 10 z noStr true false) ?_ rfl ⟨?_, ?_, ?_⟩
        · simp [results, Tryz.results130, go_sem, m0, tokV, noStr]
        · have hn : numTok (rs.drop i) = tokV 10 z noStr true false := by
            unfold numTok
            rw [List.drop_drop, hjj, hbg, hbb, if_neg (by decide), at_drop, show at_ rs (j + 0) = x from hX.out, if_neg h37, hz]
          rw [hn]
        · exact ((((HT10.out.but.own hw0 0 _).own hw0 1 _).own hw0 2 _).own hw0 3 _).own hw0 4 _
        · have hn : i + numLen (rs.drop i) = j := by
            unfold numLen
            rw [List.drop_drop, hjj, hbg, hbb, if_neg (by decide), at_drop, show at_ rs (j + 0) = x from hX.out, if_neg h37, ← hjj]; omega
          rw [hn]
          exact rd_own (rd_own (rd_own (rd_own (rd_own HR10.out hbw 0 _) hbw 1 _) hbw 2 _) hbw 3 _) hbw 4 _
    · go_wp2_with fail
      refine (name_any _ b rv rs j HR9.out T.out A.out).mono ?_
      rintro e w10 ⟨rfl, hbut10, hrd10⟩
      have HT10 := Lib.hid (HT9.out.next hbw hbut10)
      have HR10 := Lib.hid hrd10
      clear hbut10 hrd10 HT9 HR9
      have m0 := HT10.out.m0
      have f0 := HT10.out.f0
      have m1 := HT10.out.m1
      have f1 := HT10.out.f1
      go_wp2_with fail
      clear m1 f1
      have hw0 : w.heap.size ≤ w.heap.size := Nat.le_refl _
      have hw1 : w.heap.size ≤ w.heap.size + 1 := Nat.le_succ _
      have hbw1 : b < w.heap.size + 1 := Nat.lt_succ_of_lt hbw
      refine bodyPost_ret (v := tokV 12 z (strOf ((rs.drop j).takeWhile isPart)) true false) ?_ rfl ⟨?_, ?_, ?_⟩
      · simp [results, Tryz.results130, go_sem, m0, tokV]
      · have hn : numTok (rs.drop i) = tokV 12 z (strOf ((rs.drop j).takeWhile isPart)) true false := by
          unfold numTok
          rw [List.drop_drop, hjj, hbg, hbb, if_pos rfl, hz]
        rw [hn]
      · exact ((((((HT10.out.but.own hw1 0 _).own hw1 2 _).own hw0 0 _).own hw0 1 _).own hw0 2 _).own hw0 3 _).own hw0 4 _
      · have hn : i + numLen (rs.drop i) = j + nameLen (rs.drop j) := by
          unfold numLen
          rw [List.drop_drop, hjj, hbg, hbb, if_pos rfl, ← hjj]; omega
        rw [hn]
        exact rd_own (rd_own (rd_own (rd_own (rd_own (rd_own (rd_own HR10.out hbw1 0 _) hbw1 2 _) hbw 0 _) hbw 1 _) hbw 2 _) hbw 3 _) hbw 4 _
  · go_wp2_with fail
    refine (peek_any _ b rv rs j 0 HR6.out (by decide)).mono ?_
    rintro e w7 ⟨rfl, hb7⟩
    have HT7 := Lib.hid (HT6.out.next hbw (But.of hb7))
    have HR7 := Lib.hid (HR6.out.next hb7)
    clear hb7 HT6 HR6
    rw [show at_ rs (j + 0) = x from hX.out]
    go_wp2_with fail
    obtain ⟨p, off, cap, hrv, hcap, hp, hcell⟩ := HR7.out.rn
    have g0 := HR7.out.c0
    rw [hrv] at g0
    have g1 := HR7.out.c1
    have hjl := HR7.out.le
    have hrv' := Lib.hid hrv
    clear hrv
    have hcv : (convert 88 9 (.slice (some ⟨p, off + i, none⟩) (j - i) (cap - i))).run Tryz.prog w7.drew = .ok (.string z) w7.drew := by
      rw [run_convert_runes w7.drew 88 9 21 ⟨p, off + i, none⟩ (j - i) (cap - i) (rs.drop i) (by rw [List.length_drop]; omega) Tryz.underlying88 Tryz.underlying21 Tryz.underlying9 (fun m hm => by
        rw [List.length_drop] at hm
        have hadd : (⟨p, off + i, none⟩ : Addr).add m = ⟨p, off + (i + m), none⟩ := by unfold Addr.add; split <;> simp_all <;> omega
        rw [hadd, show (rs.drop i).getD m 0 = rs[i + m]'(by omega) by simp [List.getD, List.getElem?_drop, show i + m < rs.length by omega]]
        exact hcell (i + m) (by omega)), runesBytes_asc _ (fun y hy => A.out y (List.mem_of_mem_drop (List.mem_of_mem_take hy)))]
      rw [← hz, ← hjj, show i + digLen (rs.drop i) - i = digLen (rs.drop i) by omega]
    clear hcell
    have q1 : (i : Int) ≤ (j : Int) := by omega
    have q2 : (j : Int) ≤ (cap : Int) := by omega
    have q3 : (0 : Int) ≤ (i : Int) := by omega
    have t1 : w7.cell? ⟨w.heap.size + 1, 0 + 1, none⟩ = some (.string ⟨#[]⟩) := HT7.out.m1 1
    have t1f : w7.frozen? ⟨w.heap.size + 1, 0 + 1, none⟩ = false := HT7.out.f1 1
    go_region
    have HT8 := Lib.hid ((HT7.out.set1 1 (.string z) (by decide)).drew)
    have HR8 : Hid (Rd (w7.setCell ⟨w.heap.size + 1, 1, none⟩ (.string z)).drew b rv rs j) := Lib.hid ((rd_own HR7.out (by omega) 1 _).next ((Below.refl _ _).drew))
    clear HT7 HR7 hcv g0 g1 t1 t1f hrv' hcap hp
    obtain ⟨w8, hw8⟩ : ∃ w8, (w7.setCell ⟨w.heap.size + 1, 1, none⟩ (.string z)).drew = w8 := ⟨_, rfl⟩
    rw [hw8] at HT8 HR8 ⊢
    clear hw8
    go_wp2_with fail
    refine (begins_any _ b rv rs j 0 HR8.out (by decide) T.out).mono ?_
    rintro e w9 ⟨rfl, hb9⟩
    have HT9 := Lib.hid (HT8.out.next hbw (But.of hb9))
    have HR9 := Lib.hid (HR8.out.next hb9)
    clear hb9 HT8 HR8
    obtain ⟨bg, hbg⟩ : ∃ bg, begins (rs.drop j) = bg := ⟨_, rfl⟩
    rw [show begins (rs.drop (j + 0)) = bg from hbg]
    cases hbb : bg
    · go_wp2_with fail
      refine (peek_any _ b rv rs j 0 HR9.out (by decide)).mono ?_
      rintro e w10 ⟨rfl, hb10⟩
      have HT10 := Lib.hid (HT9.out.next hbw (But.of hb10))
      have HR10 := Lib.hid (HR9.out.next hb10)
      clear hb10 HT9 HR9
      rw [show at_ rs (j + 0) = x from hX.out]
      have m0 := HT10.out.m0
      have f0 := HT10.out.f0
      have m1 := HT10.out.m1
      have f1 := HT10.out.f1
      have hw0 : w.heap.size ≤ w.heap.size := Nat.le_refl _
      have hw1 : w.heap.size ≤ w.heap.size + 1 := Nat.le_succ _
      have hbw1 : b < w.heap.size + 1 := Nat.lt_succ_of_lt hbw
      by_cases h37 : x = 37
      · have b37 : (x == 37) = true := by simpa using h37
        have g1 := HR10.out.c1
        have gf := HR10.out.f1
        have hjl2 : j < rs.length := by
          rcases Nat.lt_or_ge j rs.length with h' | h'
          · exact h'
          · have := hX.out; rw [at_end h', h37] at this; omega
        have hwj : IntKind.i64.wrap ((j : Int) + 1) = ((j + 1 : Nat) : Int) := by rw [Go.IntWalk.i64_in _ (by omega)]; omega
        have hne0 : ¬ (b = w.heap.size) := by omega
        have hne0' : ¬ (w.heap.size = b) := by omega
        have hne1 : ¬ (b = w.heap.size + 1) := by omega
        have hne1' : ¬ (w.heap.size + 1 = b) := by omega
        go_wp2_with fail
        clear m1 f1
        refine bodyPost_ret (v := tokV 11 z noStr true false) ?_ rfl ⟨?_, ?_, ?_⟩
        · simp [results, Tryz.results130, go_sem, m0, tokV, noStr]
        · have hn : numTok (rs.drop i) = tokV 11 z noStr true false := by
            unfold numTok
            rw [List.drop_drop, hjj, hbg, hbb, if_neg (by decide), at_drop, show at_ rs (j + 0) = x from hX.out, if_pos h37, hz]
          rw [hn]
        · exact ((((((HT10.out.but.own hw1 0 _).set 1 _).own hw0 0 _).own hw0 1 _).own hw0 2 _).own hw0 3 _).own hw0 4 _
        · have hn : i + numLen (rs.drop i) = j + 1 := by
            unfold numLen
            rw [List.drop_drop, hjj, hbg, hbb, if_neg (by decide), at_drop, show at_ rs (j + 0) = x from hX.out, if_pos h37, ← hjj]; omega
          rw [hn]
          exact rd_own (rd_own (rd_own (rd_own (rd_own ((rd_own HR10.out hbw1 0 _).store (j + 1) _ (by omega) (by omega)) hbw 0 _) hbw 1 _) hbw 2 _) hbw 3 _) hbw 4 _
      · have b37 : (x == 37) = false := by simpa using h37
        go_wp2_with fail
        clear m1 f1
        refine bodyPost_ret (v := tokV 10 z noStr true false) ?_ rfl ⟨?_, ?_, ?_⟩
        · simp [results, Tryz.results130, go_sem, m0, tokV, noStr]
        · have hn : numTok (rs.drop i) = tokV 10 z noStr true false := by
            unfold numTok
            rw [List.drop_drop, hjj, hbg, hbb, if_neg (by decide), at_drop, show at_ rs (j + 0) = x from hX.out, if_neg h37, hz]
          rw [hn]
        · exact ((((HT10.out.but.own hw0 0 _).own hw0 1 _).own hw0 2 _).own hw0 3 _).own hw0 4 _
        · have hn : i + numLen (rs.drop i) = j := by
            unfold numLen
            rw [List.drop_drop, hjj, hbg, hbb, if_neg (by decide), at_drop, show at_ rs (j + 0) = x from hX.out, if_neg h37, ← hjj]; omega
          rw [hn]
          exact rd_own (rd_own (rd_own (rd_own (rd_own HR10.out hbw 0 _) hbw 1 _) hbw 2 _) hbw 3 _) hbw 4 _
    · go_wp2_with fail
      refine (name_any _ b rv rs j HR9.out T.out A.out).mono ?_
      rintro e w10 ⟨rfl, hbut10, hrd10⟩
      have HT10 := Lib.hid (HT9.out.next hbw hbut10)
      have HR10 := Lib.hid hrd10
      clear hbut10 hrd10 HT9 HR9
      have m0 := HT10.out.m0
      have f0 := HT10.out.f0
      have m1 := HT10.out.m1
      have f1 := HT10.out.f1
      go_wp2_with fail
      clear m1 f1
      have hw0 : w.heap.size ≤ w.heap.size := Nat.le_refl _
      have hw1 : w.heap.size ≤ w.heap.size + 1 := Nat.le_succ _
      have hbw1 : b < w.heap.size + 1 := Nat.lt_succ_of_lt hbw
      refine bodyPost_ret (v := tokV 12 z (strOf ((rs.drop j).takeWhile isPart)) true false) ?_ rfl ⟨?_, ?_, ?_⟩
      · simp [results, Tryz.results130, go_sem, m0, tokV]
      · have hn : numTok (rs.drop i) = tokV 12 z (strOf ((rs.drop j).takeWhile isPart)) true false := by
          unfold numTok
          rw [List.drop_drop, hjj, hbg, hbb, if_pos rfl, hz]
        rw [hn]
      · exact ((((((HT10.out.but.own hw1 0 _).own hw1 2 _).own hw0 0 _).own hw0 1 _).own hw0 2 _).own hw0 3 _).own hw0 4 _
      · have hn : i + numLen (rs.drop i) = j + nameLen (rs.drop j) := by
          unfold numLen
          rw [List.drop_drop, hjj, hbg, hbb, if_pos rfl, ← hjj]; omega
        rw [hn]
        exact rd_own (rd_own (rd_own (rd_own (rd_own (rd_own (rd_own HR10.out hbw1 0 _) hbw1 2 _) hbw 0 _) hbw 1 _) hbw 2 _) hbw 3 _) hbw 4 _

set_option maxRecDepth 100000 in
set_option maxHeartbeats 8000000 in
theorem number_neg (w : World) (b : Nat) (rv : Value) (rs : List Int) (i : Nat) (h : Rd w b rv rs i) (ht : Tame rs) (ha : Asc rs) (hi : i < rs.length) (hc : at_ rs i = 45) (he : NoExp (rs.drop i)) :
    Calls Tryz.prog 130 #[.pointer (some ⟨b, 0, none⟩)] w fun e w' => (e = .returned (numTok (rs.drop i))) ∧ But w.heap.size b w w' ∧ Rd w' b rv rs (i + numLen (rs.drop i)) := by
  have T := Lib.hid ht
  have A := Lib.hid ha
  have hbw : b < w.heap.size := World.block_lt_of_cell? w _ h.c0
  have hbig := h.big
  have HR0 : Hid (∀ o o', Rd ((w.alloc o).alloc o') b rv rs i) := Lib.hid (fun o o' => (h.next (bAlloc1 w o)).next (bAlloc1 _ o'))
  have c1 : ∀ o o', ((w.alloc o).alloc o').cell? ⟨b, 0 + 1, none⟩ = some (.int .i64 (i : Int)) := fun o o' => (HR0.out o o').c1
  obtain ⟨z, hz⟩ : ∃ z, strOf ((rs.drop i).take (digLen (rs.drop i))) = z := ⟨_, rfl⟩
  have hij : i ≤ i + digLen (rs.drop i) := Nat.le_add_right _ _
  obtain ⟨j, hjj⟩ : ∃ j, i + digLen (rs.drop i) = j := ⟨_, rfl⟩
  rw [hjj] at hij
  obtain ⟨c, hcc⟩ : ∃ c, at_ rs (i + 0) = c := ⟨_, rfl⟩
  have HE := Lib.hid he
  clear h ht ha he
  go_enter Tryz.func130, Tryz.ntmps130
  go_wp2_with fail
  clear c1
  refine (peek_any _ b rv rs i 0 (HR0.out _ _) (by decide)).mono ?_
  rintro e w1 ⟨rfl, hb1⟩
  have HT := Lib.hid ((Two.new w b _ _ _ _).next hbw (But.of hb1))
  have HR := Lib.hid ((HR0.out _ _).next hb1)
  clear hb1 HR0
  rw [hcc]
  go_wp2_with fail
  refine (digit_any _ _).mono ?_
  rintro e w2 ⟨rfl, hb2⟩
  have HT2 := Lib.hid (HT.out.next hbw (But.of hb2))
  have HR2 := Lib.hid (HR.out.next hb2)
  clear hb2 HT HR
  have hcd : isIn 48 57 c = false := by rw [← hcc, Nat.add_zero, hc]; decide
  have bc46 : (c == 46) = false := by rw [← hcc, Nat.add_zero, hc]; decide
  have hj : Hid (i + 1 + ((rs.drop (i + 1)).takeWhile (isIn 48 57)).length = j) := Lib.hid (by rw [← hjj]; unfold digLen signLen; rw [at_drop, show at_ rs (i + 0) = 45 from hc, if_neg (by decide), List.drop_drop]; omega)
  go_wp2_with fail
  refine (peek_any _ b rv rs i 0 HR2.out (by decide)).mono ?_
  rintro e w3 ⟨rfl, hb3⟩
  have HTa := Lib.hid (HT2.out.next hbw (But.of hb3))
  have HRa := Lib.hid (HR2.out.next hb3)
  clear hb3 HT2 HR2
  rw [hcc]
  have gn1 := HRa.out.c1
  have gnf := HRa.out.f1
  have hwi : IntKind.i64.wrap ((i : Int) + 1) = ((i + 1 : Nat) : Int) := by rw [Go.IntWalk.i64_in _ (by omega)]; omega
  go_wp2_with fail
  clear gn1 gnf
  have HR3 : Hid (Rd (w3.setCell ⟨b, 1, none⟩ (.int .i64 ((i : Int) + 1))) b rv rs (i + 1)) := Lib.hid (HRa.out.store (i + 1) _ (by omega) (by omega))
  have HT3 : Hid (Two w b (w3.setCell ⟨b, 1, none⟩ (.int .i64 ((i : Int) + 1))) _ _) := Lib.hid (HTa.out.setb hbw 1 _)
  clear HTa HRa
  refine (while_digit _ b rv rs (i + 1) HR3.out).mono ?_
  rintro e w4 ⟨⟨v, rfl⟩, hbut4, hrd4⟩
  have HT4 := Lib.hid (HT3.out.next hbw hbut4)
  have HR4 : Hid (Rd w4 b rv rs j) := Lib.hid (by rw [← hj.out]; exact hrd4)
  clear hbut4 hrd4
  go_wp2_with fail
  refine (peek_any _ b rv rs j 0 HR4.out (by decide)).mono ?_
  rintro e w5 ⟨rfl, hb5⟩
  have HT5 := Lib.hid (HT4.out.next hbw (But.of hb5))
  have HR5 := Lib.hid (HR4.out.next hb5)
  clear hb5 HT4 HR4
  have hq := T.out.or j
  obtain ⟨x, hx⟩ : ∃ x, at_ rs j = x := ⟨_, rfl⟩
  rw [hx] at hq
  have hE := HE.out
  unfold NoExp at hE
  rw [at_drop, hjj, hx] at hE
  have b46 : (x == 46) = false := by rw [beq_eq_false_iff_ne]; intro e; subst e; revert hq; decide
  have bE := noE x hq hE.1 hE.2
  have hX := Lib.hid hx
  have HQ := Lib.hid hq
  rw [show at_ rs (j + 0) = x from hx]
  clear hE hx hq
  go_wp2_with fail
  refine (peek_any _ b rv rs j 1 HR5.out (by decide)).mono ?_
  rintro e w6 ⟨rfl, hb6⟩
  have HT6 := Lib.hid (HT5.out.next hbw (But.of hb6))
  have HR6 := Lib.hid (HR5.out.next hb6)
  clear hb6 HT5 HR5
  obtain ⟨y, hy⟩ : ∃ y, at_ rs (j + 1) = y := ⟨_, rfl⟩
  have hy4 : (y == 43) = false := by
    have := T.out.or (j + 1)
    rw [hy] at this
    rw [beq_eq_false_iff_ne]; intro e; subst e; revert this; decide
  rw [hy]
  clear hy
  cases hy5 : (y == 45)
  · go_wp2_with fail
    refine (peek_any _ b rv rs j 0 HR6.out (by decide)).mono ?_
    rintro e w7 ⟨rfl, hb7⟩
    have HT7 := Lib.hid (HT6.out.next hbw (But.of hb7))
    have HR7 := Lib.hid (HR6.out.next hb7)
    clear hb7 HT6 HR6
    rw [show at_ rs (j + 0) = x from hX.out]
    go_wp2_with fail
    obtain ⟨p, off, cap, hrv, hcap, hp, hcell⟩ := HR7.out.rn
    have g0 := HR7.out.c0
    rw [hrv] at g0
    have g1 := HR7.out.c1
    have hjl := HR7.out.le
    have hrv' := Lib.hid hrv
    clear hrv
    have hcv : (convert 88 9 (.slice (some ⟨p, off + i, none⟩) (j - i) (cap - i))).run Tryz.prog w7.drew = .ok (.string z) w7.drew := by
      rw [run_convert_runes w7.drew 88 9 21 ⟨p, off + i, none⟩ (j - i) (cap - i) (rs.drop i) (by rw [List.length_drop]; omega) Tryz.underlying88 Tryz.underlying21 Tryz.underlying9 (fun m hm => by
        rw [List.length_drop] at hm
        have hadd : (⟨p, off + i, none⟩ : Addr).add m = ⟨p, off + (i + m), none⟩ := by unfold Addr.add; split <;> simp_all <;> omega
        rw [hadd, show (rs.drop i).getD m 0 = rs[i + m]'(by omega) by simp [List.getD, List.getElem?_drop, show i + m < rs.length by omega]]
        exact hcell (i + m) (by omega)), runesBytes_asc _ (fun y hy => A.out y (List.mem_of_mem_drop (List.mem_of_mem_take hy)))]
      rw [← hz, ← hjj, show i + digLen (rs.drop i) - i = digLen (rs.drop i) by omega]
    clear hcell
    have q1 : (i : Int) ≤ (j : Int) := by omega
    have q2 : (j : Int) ≤ (cap : Int) := by omega
    have q3 : (0 : Int) ≤ (i : Int) := by omega
    have t1 : w7.cell? ⟨w.heap.size + 1, 0 + 1, none⟩ = some (.string ⟨#[]⟩) := HT7.out.m1 1
    have t1f : w7.frozen? ⟨w.heap.size + 1, 0 + 1, none⟩ = false := HT7.out.f1 1
    go_region
    have HT8 := Lib.hid ((HT7.out.set1 1 (.string z) (by decide)).drew)
    have HR8 : Hid (Rd (w7.setCell ⟨w.heap.size + 1, 1, none⟩ (.string z)).drew b rv rs j) := Lib.hid ((rd_own HR7.out (by omega) 1 _).next ((Below.refl _ _).drew))
    clear HT7 HR7 hcv g0 g1 t1 t1f hrv' hcap hp
    obtain ⟨w8, hw8⟩ : ∃ w8, (w7.setCell ⟨w.heap.size + 1, 1, none⟩ (.string z)).drew = w8 := ⟨_, rfl⟩
    rw [hw8] at HT8 HR8 ⊢
    clear hw8
    go_wp2_with fail
    refine (begins_any _ b rv rs j 0 HR8.out (by decide) T.out).mono ?_
    rintro e w9 ⟨rfl, hb9⟩
    have HT9 := Lib.hid (HT8.out.next hbw (But.of hb9))
    have HR9 := Lib.hid (HR8.out.next hb9)
    clear hb9 HT8 HR8
    obtain ⟨bg, hbg⟩ : ∃ bg, begins (rs.drop j) = bg := ⟨_, rfl⟩
    rw [show begins (rs.drop (j + 0)) = bg from hbg]
    cases hbb : bg
    · go_wp2_with fail
      refine (peek_any _ b rv rs j 0 HR9.out (by decide)).mono ?_
      rintro e w10 ⟨rfl, hb10⟩
      have HT10 := Lib.hid (HT9.out.next hbw (But.of hb10))
      have HR10 := Lib.hid (HR9.out.next hb10)
      clear hb10 HT9 HR9
      rw [show at_ rs (j + 0) = x from hX.out]
      have m0 := HT10.out.m0
      have f0 := HT10.out.f0
      have m1 := HT10.out.m1
      have f1 := HT10.out.f1
      have hw0 : w.heap.size ≤ w.heap.size := Nat.le_refl _
      have hw1 : w.heap.size ≤ w.heap.size + 1 := Nat.le_succ _
      have hbw1 : b < w.heap.size + 1 := Nat.lt_succ_of_lt hbw
      by_cases h37 : x = 37
      · have b37 : (x == 37) = true := by simpa using h37
        have g1 := HR10.out.c1
        have gf := HR10.out.f1
        have hjl2 : j < rs.length := by
          rcases Nat.lt_or_ge j rs.length with h' | h'
          · exact h'
          · have := hX.out; rw [at_end h', h37] at this; omega
        have hwj : IntKind.i64.wrap ((j : Int) + 1) = ((j + 1 : Nat) : Int) := by rw [Go.IntWalk.i64_in _ (by omega)]; omega
        have hne0 : ¬ (b = w.heap.size) := by omega
        have hne0' : ¬ (w.heap.size = b) := by omega
        have hne1 : ¬ (b = w.heap.size + 1) := by omega
        have hne1' : ¬ (w.heap.size + 1 = b) := by omega
        go_wp2_with fail
        clear m1 f1
        refine bodyPost_ret (v := tokV 11 z noStr true false) ?_ rfl ⟨?_, ?_, ?_⟩
        · simp [results, Tryz.results130, go_sem, m0, tokV, noStr]
        · have hn : numTok (rs.drop i) = tokV 11 z noStr true false := by
            unfold numTok
            rw [List.drop_drop, hjj, hbg, hbb, if_neg (by decide), at_drop, show at_ rs (j + 0) = x from hX.out, if_pos h37, hz]
          rw [hn]
        · exact ((((((HT10.out.but.own hw1 0 _).set 1 _).own hw0 0 _).own hw0 1 _).own hw0 2 _).own hw0 3 _).own hw0 4 _
        · have hn : i + numLen (rs.drop i) = j + 1 := by
            unfold numLen
            rw [List.drop_drop, hjj, hbg, hbb, if_neg (by decide), at_drop, show at_ rs (j + 0) = x from hX.out, if_pos h37, ← hjj]; omega
          rw [hn]
          exact rd_own (rd_own (rd_own (rd_own (rd_own ((rd_own HR10.out hbw1 0 _).store (j + 1) _ (by omega) (by omega)) hbw 0 _) hbw 1 _) hbw 2 _) hbw 3 _) hbw 4 _
      · have b37 : (x == 37) = false := by simpa using h37
        go_wp2_with fail
        clear m1 f1
        refine bodyPost_ret (v := tokV 10 z noStr true false) ?_ rfl ⟨?_, ?_, ?_⟩
        · simp [results, Tryz.results130, go_sem, m0, tokV, noStr]
        · have hn : numTok (rs.drop i) = tokV 10 z noStr true false := by
            unfold numTok
            rw [List.drop_drop, hjj, hbg, hbb, if_neg (by decide), at_drop, show at_ rs (j + 0) = x from hX.out, if_neg h37, hz]
          rw [hn]
        · exact ((((HT10.out.but.own hw0 0 _).own hw0 1 _).own hw0 2 _).own hw0 3 _).own hw0 4 _
        · have hn : i + numLen (rs.drop i) = j := by
            unfold numLen
            rw [List.drop_drop, hjj, hbg, hbb, if_neg (by decide), at_drop, show at_ rs (j + 0) = x from hX.out, if_neg h37, ← hjj]; omega
          rw [hn]
          exact rd_own (rd_own (rd_own (rd_own (rd_own HR10.out hbw 0 _) hbw 1 _) hbw 2 _) hbw 3 _) hbw 4 _
    · go_wp2_with fail
      refine (name_any _ b rv rs j HR9.out T.out A.out).mono ?_
      rintro e w10 ⟨rfl, hbut10, hrd10⟩
      have HT10 := Lib.hid (HT9.out.next hbw hbut10)
      have HR10 := Lib.hid hrd10
      clear hbut10 hrd10 HT9 HR9
      have m0 := HT10.out.m0
      have f0 := HT10.out.f0
      have m1 := HT10.out.m1
      have f1 := HT10.out.f1
      go_wp2_with fail
      clear m1 f1
      have hw0 : w.heap.size ≤ w.heap.size := Nat.le_refl _
      have hw1 : w.heap.size ≤ w.heap.size + 1 := Nat.le_succ _
      have hbw1 : b < w.heap.size + 1 := Nat.lt_succ_of_lt hbw
      refine bodyPost_ret (v := tokV 12 z (strOf ((rs.drop j).takeWhile isPart)) true false) ?_ rfl ⟨?_, ?_, ?_⟩
      · simp [results, Tryz.results130, go_sem, m0, tokV]
      · have hn : numTok (rs.drop i) = tokV 12 z (strOf ((rs.drop j).takeWhile isPart)) true false := by
          unfold numTok
          rw [List.drop_drop, hjj, hbg, hbb, if_pos rfl, hz]
        rw [hn]
      · exact ((((((HT10.out.but.own hw1 0 _).own hw1 2 _).own hw0 0 _).own hw0 1 _).own hw0 2 _).own hw0 3 _).own hw0 4 _
      · have hn : i + numLen (rs.drop i) = j + nameLen (rs.drop j) := by
          unfold numLen
          rw [List.drop_drop, hjj, hbg, hbb, if_pos rfl, ← hjj]; omega
        rw [hn]
        exact rd_own (rd_own (rd_own (rd_own (rd_own (rd_own (rd_own HR10.out hbw1 0 _) hbw1 2 _) hbw 0 _) hbw 1 _) hbw 2 _) hbw 3 _) hbw 4 _
  · go_wp2_with fail
    refine (peek_any _ b rv rs j 0 HR6.out (by decide)).mono ?_
    rintro e w7 ⟨rfl, hb7⟩
    have HT7 := Lib.hid (HT6.out.next hbw (But.of hb7))
    have HR7 := Lib.hid (HR6.out.next hb7)
    clear hb7 HT6 HR6
    rw [show at_ rs (j + 0) = x from hX.out]
    go_wp2_with fail
    obtain ⟨p, off, cap, hrv, hcap, hp, hcell⟩ := HR7.out.rn
    have g0 := HR7.out.c0
    rw [hrv] at g0
    have g1 := HR7.out.c1
    have hjl := HR7.out.le
    have hrv' := Lib.hid hrv
    clear hrv
    have hcv : (convert 88 9 (.slice (some ⟨p, off + i, none⟩) (j - i) (cap - i))).run Tryz.prog w7.drew = .ok (.string z) w7.drew := by
      rw [run_convert_runes w7.drew 88 9 21 ⟨p, off + i, none⟩ (j - i) (cap - i) (rs.drop i) (by rw [List.length_drop]; omega) Tryz.underlying88 Tryz.underlying21 Tryz.underlying9 (fun m hm => by
        rw [List.length_drop] at hm
        have hadd : (⟨p, off + i, none⟩ : Addr).add m = ⟨p, off + (i + m), none⟩ := by unfold Addr.add; split <;> simp_all <;> omega
        rw [hadd, show (rs.drop i).getD m 0 = rs[i + m]'(by omega) by simp [List.getD, List.getElem?_drop, show i + m < rs.length by omega]]
        exact hcell (i + m) (by omega)), runesBytes_asc _ (fun y hy => A.out y (List.mem_of_mem_drop (List.mem_of_mem_take hy)))]
      rw [← hz, ← hjj, show i + digLen (rs.drop i) - i = digLen (rs.drop i) by omega]
    clear hcell
    have q1 : (i : Int) ≤ (j : Int) := by omega
    have q2 : (j : Int) ≤ (cap : Int) := by omega
    have q3 : (0 : Int) ≤ (i : Int) := by omega
    have t1 : w7.cell? ⟨w.heap.size + 1, 0 + 1, none⟩ = some (.string ⟨#[]⟩) := HT7.out.m1 1
    have t1f : w7.frozen? ⟨w.heap.size + 1, 0 + 1, none⟩ = false := HT7.out.f1 1
    go_region
    have HT8 := Lib.hid ((HT7.out.set1 1 (.string z) (by decide)).drew)
    have HR8 : Hid (Rd (w7.setCell ⟨w.heap.size + 1, 1, none⟩ (.string z)).drew b rv rs j) := Lib.hid ((rd_own HR7.out (by omega) 1 _).next ((Below.refl _ _).drew))
    clear HT7 HR7 hcv g0 g1 t1 t1f hrv' hcap hp
    obtain ⟨w8, hw8⟩ : ∃ w8, (w7.setCell ⟨w.heap.size + 1, 1, none⟩ (.string z)).drew = w8 := ⟨_, rfl⟩
    rw [hw8] at HT8 HR8 ⊢
    clear hw8
    go_wp2_with fail
    refine (begins_any _ b rv rs j 0 HR8.out (by decide) T.out).mono ?_
    rintro e w9 ⟨rfl, hb9⟩
    have HT9 := Lib.hid (HT8.out.next hbw (But.of hb9))
    have HR9 := Lib.hid (HR8.out.next hb9)
    clear hb9 HT8 HR8
    obtain ⟨bg, hbg⟩ : ∃ bg, begins (rs.drop j) = bg := ⟨_, rfl⟩
    rw [show begins (rs.drop (j + 0)) = bg from hbg]
    cases hbb : bg
    · go_wp2_with fail
      refine (peek_any _ b rv rs j 0 HR9.out (by decide)).mono ?_
      rintro e w10 ⟨rfl, hb10⟩
      have HT10 := Lib.hid (HT9.out.next hbw (But.of hb10))
      have HR10 := Lib.hid (HR9.out.next hb10)
      clear hb10 HT9 HR9
      rw [show at_ rs (j + 0) = x from hX.out]
      have m0 := HT10.out.m0
      have f0 := HT10.out.f0
      have m1 := HT10.out.m1
      have f1 := HT10.out.f1
      have hw0 : w.heap.size ≤ w.heap.size := Nat.le_refl _
      have hw1 : w.heap.size ≤ w.heap.size + 1 := Nat.le_succ _
      have hbw1 : b < w.heap.size + 1 := Nat.lt_succ_of_lt hbw
      by_cases h37 : x = 37
      · have b37 : (x == 37) = true := by simpa using h37
        have g1 := HR10.out.c1
        have gf := HR10.out.f1
        have hjl2 : j < rs.length := by
          rcases Nat.lt_or_ge j rs.length with h' | h'
          · exact h'
          · have := hX.out; rw [at_end h', h37] at this; omega
        have hwj : IntKind.i64.wrap ((j : Int) + 1) = ((j + 1 : Nat) : Int) := by rw [Go.IntWalk.i64_in _ (by omega)]; omega
        have hne0 : ¬ (b = w.heap.size) := by omega
        have hne0' : ¬ (w.heap.size = b) := by omega
        have hne1 : ¬ (b = w.heap.size + 1) := by omega
        have hne1' : ¬ (w.heap.size + 1 = b) := by omega
        go_wp2_with fail
        clear m1 f1
        refine bodyPost_ret (v := tokV 11 z noStr true false) ?_ rfl ⟨?_, ?_, ?_⟩
        · simp [results, Tryz.results130, go_sem, m0, tokV, noStr]
        · have hn : numTok (rs.drop i) = tokV 11 z noStr true false := by
            unfold numTok
            rw [List.drop_drop, hjj, hbg, hbb, if_neg (by decide), at_drop, show at_ rs (j + 0) = x from hX.out, if_pos h37, hz]
          rw [hn]
        · exact ((((((HT10.out.but.own hw1 0 _).set 1 _).own hw0 0 _).own hw0 1 _).own hw0 2 _).own hw0 3 _).own hw0 4 _
        · have hn : i + numLen (rs.drop i) = j + 1 := by
            unfold numLen
            rw [List.drop_drop, hjj, hbg, hbb, if_neg (by decide), at_drop, show at_ rs (j + 0) = x from hX.out, if_pos h37, ← hjj]; omega
          rw [hn]
          exact rd_own (rd_own (rd_own (rd_own (rd_own ((rd_own HR10.out hbw1 0 _).store (j + 1) _ (by omega) (by omega)) hbw 0 _) hbw 1 _) hbw 2 _) hbw 3 _) hbw 4 _
      · have b37 : (x == 37) = false := by simpa using h37
        go_wp2_with fail
        clear m1 f1
        refine bodyPost_ret (v := tokV 10 z noStr true false) ?_ rfl ⟨?_, ?_, ?_⟩
        · simp [results, Tryz.results130, go_sem, m0, tokV, noStr]
        · have hn : numTok (rs.drop i) = tokV 10 z noStr true false := by
            unfold numTok
            rw [List.drop_drop, hjj, hbg, hbb, if_neg (by decide), at_drop, show at_ rs (j + 0) = x from hX.out, if_neg h37, hz]
          rw [hn]
        · exact ((((HT10.out.but.own hw0 0 _).own hw0 1 _).own hw0 2 _).own hw0 3 _).own hw0 4 _
        · have hn : i + numLen (rs.drop i) = j := by
            unfold numLen
            rw [List.drop_drop, hjj, hbg, hbb, if_neg (by decide), at_drop, show at_ rs (j + 0) = x from hX.out, if_neg h37, ← hjj]; omega
          rw [hn]
          exact rd_own (rd_own (rd_own (rd_own (rd_own HR10.out hbw 0 _) hbw 1 _) hbw 2 _) hbw 3 _) hbw 4 _
    · go_wp2_with fail
      refine (name_any _ b rv rs j HR9.out T.out A.out).mono ?_
      rintro e w10 ⟨rfl, hbut10, hrd10⟩
      have HT10 := Lib.hid (HT9.out.next hbw hbut10)
      have HR10 := Lib.hid hrd10
      clear hbut10 hrd10 HT9 HR9
      have m0 := HT10.out.m0
      have f0 := HT10.out.f0
      have m1 := HT10.out.m1
      have f1 := HT10.out.f1
      go_wp2_with fail
      clear m1 f1
      have hw0 : w.heap.size ≤ w.heap.size := Nat.le_refl _
      have hw1 : w.heap.size ≤ w.heap.size + 1 := Nat.le_succ _
      have hbw1 : b < w.heap.size + 1 := Nat.lt_succ_of_lt hbw
      refine bodyPost_ret (v := tokV 12 z (strOf ((rs.drop j).takeWhile isPart)) true false) ?_ rfl ⟨?_, ?_, ?_⟩
      · simp [results, Tryz.results130, go_sem, m0, tokV]
      · have hn : numTok (rs.drop i) = tokV 12 z (strOf ((rs.drop j).takeWhile isPart)) true false := by
          unfold numTok
          rw [List.drop_drop, hjj, hbg, hbb, if_pos rfl, hz]
        rw [hn]
      · exact ((((((HT10.out.but.own hw1 0 _).own hw1 2 _).own hw0 0 _).own hw0 1 _).own hw0 2 _).own hw0 3 _).own hw0 4 _
      · have hn : i + numLen (rs.drop i) = j + nameLen (rs.drop j) := by
          unfold numLen
          rw [List.drop_drop, hjj, hbg, hbb, if_pos rfl, ← hjj]; omega
        rw [hn]
        exact rd_own (rd_own (rd_own (rd_own (rd_own (rd_own (rd_own HR10.out hbw1 0 _) hbw1 2 _) hbw 0 _) hbw 1 _) hbw 2 _) hbw 3 _) hbw 4 _
theorem number_any (w : World) (b : Nat) (rv : Value) (rs : List Int) (i : Nat) (h : Rd w b rv rs i) (ht : Tame rs) (ha : Asc rs) (hi : i < rs.length) (hc : counts (rs.drop i) = true) (he : NoExp (rs.drop i)) :
    Calls Tryz.prog 130 #[.pointer (some ⟨b, 0, none⟩)] w fun e w' => (e = .returned (numTok (rs.drop i))) ∧ But w.heap.size b w w' ∧ Rd w' b rv rs (i + numLen (rs.drop i)) := by
  unfold counts at hc
  rw [at_drop, Nat.add_zero] at hc
  by_cases h45 : at_ rs i = 45
  · exact number_neg w b rv rs i h ht ha hi h45 he
  · rw [if_neg h45] at hc
    exact number_dig w b rv rs i h ht ha hi hc he
end Go.Proofs.YtpadcjcoafidgaaGreatDoor
