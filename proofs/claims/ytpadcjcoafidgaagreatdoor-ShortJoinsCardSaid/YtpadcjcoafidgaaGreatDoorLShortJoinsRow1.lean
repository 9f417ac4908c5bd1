/- gouachelaw16.ShortJoins: whatever the name, the texts and the numbers, it returns true and changes nothing. Condition: the listed tables hold what the program's text lays (the card ties that). -/
import Derived.Test.YtpadcjcoafidgaaGreatDoorCards
import Derived.Test.YtpadcjcoafidgaaGreatDoorTie
import Derived.Test.YtpadcjcoafidgaaGreatDoorK1
import Derived.Test.YtpadcjcoafidgaaGreatDoorK5
import Derived.Test.YtpadcjcoafidgaaGreatDoorK6
import Derived.Test.YtpadcjcoafidgaaGreatDoorK8
import Derived.BigQuiet
import Derived.Deep.QuietTactic
import Derived.ProofKit
import Derived.OpenShut
import Derived.Deep.Slices
import Derived.Carry
import Derived.SizedLaws
import Derived.Deep.RegionHeld3
import Derived.Deep.DeepHandedRow
import Derived.SevenTiedAt
import Derived.Lib.SmallJoins
import Derived.WideKeyPair
/-! gouacheref16: Sides, which, Join. -/
namespace Go.Proofs.YtpadcjcoafidgaaGreatDoor
open Go.RowKit

def sideRows : List (List Value) := [[.int .i64 0, .int .i64 0, .int .i64 0, .int .i64 0], [.int .i64 0, .int .i64 1, .int .i64 0, .int .i64 1], [.int .i64 0, .int .i64 1, .int .i64 2, .int .i64 1], [.int .i64 0, .int .i64 1, .int .i64 2, .int .i64 3]]
def sideCells : Array Value := #[.int .i64 0, .int .i64 0, .int .i64 0, .int .i64 0, .int .i64 0, .int .i64 1, .int .i64 0, .int .i64 1, .int .i64 0, .int .i64 1, .int .i64 2, .int .i64 1, .int .i64 0, .int .i64 1, .int .i64 2, .int .i64 3]
theorem run_side0 (w : World) : (Instr.index 103 (.agg sideCells) (.int .i64 0)).run Tryz.prog w = .ok (.agg #[.int .i64 0, .int .i64 0, .int .i64 0, .int .i64 0]) w := by kernel_rfl
theorem run_side1 (w : World) : (Instr.index 103 (.agg sideCells) (.int .i64 1)).run Tryz.prog w = .ok (.agg #[.int .i64 0, .int .i64 1, .int .i64 0, .int .i64 1]) w := by kernel_rfl
theorem run_side2 (w : World) : (Instr.index 103 (.agg sideCells) (.int .i64 2)).run Tryz.prog w = .ok (.agg #[.int .i64 0, .int .i64 1, .int .i64 2, .int .i64 1]) w := by kernel_rfl
theorem run_side3 (w : World) : (Instr.index 103 (.agg sideCells) (.int .i64 3)).run Tryz.prog w = .ok (.agg #[.int .i64 0, .int .i64 1, .int .i64 2, .int .i64 3]) w := by kernel_rfl
theorem run_four (a b c d : Int) (w : World) :
    (Instr.index 102 (.agg #[.int .i64 a, .int .i64 b, .int .i64 c, .int .i64 d]) (.int .i64 0)).run Tryz.prog w = .ok (.int .i64 a) w ∧
    (Instr.index 102 (.agg #[.int .i64 a, .int .i64 b, .int .i64 c, .int .i64 d]) (.int .i64 1)).run Tryz.prog w = .ok (.int .i64 b) w ∧
    (Instr.index 102 (.agg #[.int .i64 a, .int .i64 b, .int .i64 c, .int .i64 d]) (.int .i64 2)).run Tryz.prog w = .ok (.int .i64 c) w ∧
    (Instr.index 102 (.agg #[.int .i64 a, .int .i64 b, .int .i64 c, .int .i64 d]) (.int .i64 3)).run Tryz.prog w = .ok (.int .i64 d) w :=
  ⟨by kernel_rfl, by kernel_rfl, by kernel_rfl, by kernel_rfl⟩
set_option maxRecDepth 100000 in
set_option maxHeartbeats 4000000 in
theorem refSides_any (w : World) (n i : Int) :
    Calls Tryz.prog 23 #[.int .i64 n, .int .i64 i] w fun e w' => e = .returned (.int .i64 (sidesS n i)) ∧ w' = w := by
  by_cases h1 : n < 1
  · have HV : Hid (sidesS n i = -1) := Lib.hid (if_pos (.inl h1))
    go_enter Tryz.func23, Tryz.ntmps23
    go_wp2_with fail
    go_ret
    exact ⟨by rw [HV.out]; rfl, rfl⟩
  · by_cases h2 : 4 < n
    · have HV : Hid (sidesS n i = -1) := Lib.hid (if_pos (.inr (.inl h2)))
      go_enter Tryz.func23, Tryz.ntmps23
      go_wp2_with fail
      go_ret
      exact ⟨by rw [HV.out]; rfl, rfl⟩
    · by_cases h3 : i < 0
      · have HV : Hid (sidesS n i = -1) := Lib.hid (if_pos (.inr (.inr (.inl h3))))
        go_enter Tryz.func23, Tryz.ntmps23
        go_wp2_with fail
        go_ret
        exact ⟨by rw [HV.out]; rfl, rfl⟩
      · by_cases h4 : 4 ≤ i
        · have HV : Hid (sidesS n i = -1) := Lib.hid (if_pos (.inr (.inr (.inr h4))))
          have h4' : 3 < i := by omega
          go_enter Tryz.func23, Tryz.ntmps23
          go_wp2_with fail
          go_ret
          exact ⟨by rw [HV.out]; rfl, rfl⟩
        · have h5 : i = 0 ∨ i = 1 ∨ i = 2 ∨ i = 3 := by omega
          have hx := run_four
          obtain rfl | rfl | rfl | rfl : n = 1 ∨ n = 2 ∨ n = 3 ∨ n = 4 := by omega
          all_goals
            have s0 := run_side0
            have s1 := run_side1
            have s2 := run_side2
            have s3 := run_side3
            unfold sideCells at s0 s1 s2 s3
            clear h1 h2 h3 h4
            rcases h5 with rfl | rfl | rfl | rfl
            all_goals
              go_enter Tryz.func23, Tryz.ntmps23
              go_wp2_with fail
              go_ret
              exact ⟨rfl, rfl⟩
/-- gouacheref16.which at a number of parts that the longhands can have. -/
def refWhich (name : ByteArray) (n i : Int) : Int := if eqB name aOverflow = true then (if 2 < n then -1 else i * (n - 1)) else sidesS n i
theorem refWhich_eq (name : ByteArray) (n i : Int) (h : 1 ≤ n) : refWhich name n i = whichS name n i := by
  unfold refWhich whichS
  split
  · unfold overS
    split
    · rw [if_neg (by omega), if_neg (by omega)]
    · by_cases h1 : n = 1
      · subst h1; simp
      · have : n = 2 := by omega
        subst this; simp
  · rfl
set_option maxHeartbeats 1000000 in
theorem refWhich_any (w : World) (name : ByteArray) (n i : Int) (h1 : 1 ≤ n) (h2 : n ≤ 1000000) (h3 : 0 ≤ i) (h4 : i ≤ 1000000) :
    Calls Tryz.prog 59 #[.string name, .int .i64 n, .int .i64 i] w fun e w' => e = .returned (.int .i64 (whichS name n i)) ∧ w' = w := by
  have t1 : (name.toList == [111, 118, 101, 114, 102, 108, 111, 119]) = eqB name aOverflow := toList_lit name aOverflow _ rfl
  have hE := refWhich_eq name n i h1
  cases he : eqB name aOverflow
  · rw [he] at t1
    have HV : Hid (whichS name n i = sidesS n i) := Lib.hid (by unfold whichS; rw [he]; rfl)
    clear he hE
    go_enter Tryz.func59, Tryz.ntmps59
    go_wp2_with fail
    refine (refSides_any w n i).mono ?_
    rintro e w1 ⟨rfl, rfl⟩
    go_wp2_with fail
    go_ret
    exact ⟨by rw [HV.out]; rfl, rfl⟩
  · rw [he] at t1
    by_cases hn : 2 < n
    · have HV : Hid (whichS name n i = -1) := Lib.hid (by rw [← hE]; unfold refWhich; rw [he, if_pos rfl, if_pos hn])
      clear he hE
      go_enter Tryz.func59, Tryz.ntmps59
      go_wp2_with fail
      go_ret
      exact ⟨by rw [HV.out]; rfl, rfl⟩
    · obtain rfl | rfl : n = 1 ∨ n = 2 := by omega
      · have HV : Hid (whichS name 1 i = 0) := Lib.hid (by rw [← hE]; unfold refWhich; rw [he]; simp)
        clear he hE hn
        go_enter Tryz.func59, Tryz.ntmps59
        go_wp2_with fail
        go_ret
        exact ⟨by rw [HV.out]; simp, rfl⟩
      · have HV : Hid (whichS name 2 i = i) := Lib.hid (by rw [← hE]; unfold refWhich; rw [he]; simp)
        clear he hE hn
        go_enter Tryz.func59, Tryz.ntmps59
        go_wp2_with fail
        go_ret
        exact ⟨by rw [HV.out]; simp, rfl⟩
theorem joinB_succ (l : List ByteArray) (k : Nat) (h1 : 1 ≤ k) (h : k < l.length) : joinB (l.take (k + 1)) = joinB (l.take k) ++ ((⟨#[32]⟩ : ByteArray) ++ l[k]) := by
  cases l with
  | nil => simp at h
  | cons a l =>
    obtain ⟨j, rfl⟩ : ∃ j, k = j + 1 := ⟨k - 1, by omega⟩
    have hj : j < l.length := by simpa using h
    have hs := Lib.joinTail_take_succ [32] (l.map (·.data.toList)) j l[j].data.toList (by simp [hj])
    unfold joinB
    simp only [List.take_succ_cons, List.map_cons, Lib.join_cons, List.map_take, List.getElem_cons_succ]
    rw [hs]
    apply ByteArray.ext
    apply Array.toList_inj.1
    simp [List.append_assoc]
theorem joinB_one (l : List ByteArray) (h : 0 < l.length) : joinB (l.take 1) = l[0] := by
  cases l with
  | nil => simp at h
  | cons a l =>
    unfold joinB
    simp only [List.take_succ_cons, List.take_zero, List.map_cons, List.map_nil, Lib.join_one, List.getElem_cons_zero]
theorem joinB_size (l : List ByteArray) (h : ∀ s ∈ l, s.size ≤ 100000) (hn : l.length ≤ 1000) : (joinB l).size ≤ 100001 * l.length := by
  have h1 : (joinB l).size = (Lib.join (l.map (·.data.toList)) [32]).length := by
    show (joinB l).data.size = _
    unfold joinB
    simp
  rw [h1]
  cases l with
  | nil => exact Nat.zero_le _
  | cons a l =>
    have h2 := lens_le (a :: l) h
    rw [List.map_cons] at h2 ⊢
    rw [Lib.join_length, List.length_map]
    simp only [List.length_cons, List.length_nil] at h2 hn ⊢
    omega
set_option maxRecDepth 100000 in
set_option maxHeartbeats 8000000 in
theorem RefJoin_any (w : World) (name : ByteArray) (lv : Value) (l : List ByteArray) (h : Ss w lv l) (hsz : ∀ s ∈ l, s.size ≤ 100000) (hll : l.length ≤ 1000) :
    Calls Tryz.prog 21 #[.string name, lv] w fun e w' => e = .returned (resS (joinS name l)) ∧ Below w.heap.size w w' := by
  obtain ⟨a, cap, rfl, hcap, hr⟩ := h
  have HR := Lib.hid hr
  have HZ := Lib.hid hsz
  clear hr hsz
  go_enter Tryz.func21, Tryz.ntmps21
  go_wp2_with fail
  refine (refLongs_any name w).mono ?_
  rintro e w1 ⟨lv1, rfl, hl1, hb1⟩
  obtain ⟨la, lc, rfl, -⟩ := hl1.val
  clear hl1
  by_cases hne : longsOf name = []
  · have HV : Hid (resS (joinS name l) = .tuple #[.string noStr, .bool false]) := Lib.hid (by unfold joinS; rw [if_pos (.inl hne)]; rfl)
    have hl0 : (((longsOf name).length : Int) == 0) = true := by rw [hne]; rfl
    clear hne
    go_wp2_with fail
    exact bodyPost_ret (v := .tuple #[.string noStr, .bool false]) (by simp [results, Tryz.results21, go_sem, noStr]) rfl ⟨by rw [HV.out], hb1⟩
  · have hl0 : (((longsOf name).length : Int) == 0) = false := by
      rw [beq_eq_false_iff_ne]
      intro e
      exact hne (List.eq_nil_of_length_eq_zero (by omega))
    by_cases hle : l.length = (longsOf name).length
    · have HJ0 : Hid (joinS name l = joinFrom name l l.length 1) := Lib.hid (by unfold joinS; rw [if_neg (by intro h; rcases h with h | h; exact hne h; exact h hle)])
      have HNN : Hid (∀ n i : Nat, 1 ≤ n → n ≤ l.length → i < l.length → 0 ≤ whichS name n i ∧ whichS name n i < n) := Lib.hid (fun n i h1 h2 h3 => ⟨which_nn name hne n i h1 (by omega) (by omega), which_lt name n i (by omega)⟩)
      obtain ⟨m, hm⟩ : ∃ m, (longsOf name).length = m := ⟨_, rfl⟩
      rw [hm] at hle hl0 ⊢
      subst hle
      have hlx : ((l.length : Int) == (l.length : Int)) = true := by simp
      clear hne hm
      go_wp2_with fail
      go_loopw [7, 8, 9, 10, 34] (fun nv _ _ _ _ wr => ∃ n : Nat, 1 ≤ n ∧ n ≤ l.length + 1 ∧ nv = .int .i64 n ∧ Hid (joinFrom name l (l.length + 1 - n) n = joinS name l) ∧ Below w.heap.size w wr)
        (fun nv _ _ _ _ _ => l.length + 1 - (intOf nv).toNat)
      case atStart => exact ⟨1, by omega, by omega, rfl, Lib.hid (by rw [HJ0.out]; rfl), hb1⟩
      case round =>
        obtain ⟨n, hn1, hn2, rfl, HJ, hb⟩ := hrel
        by_cases hn : n ≤ l.length
        · have HD : Hid (joinS name l = if fitsS name l n l.length = true then some (joinB (l.take n)) else joinFrom name l (l.length - n) (n + 1)) := Lib.hid (by
            rw [← HJ.out, show l.length + 1 - n = (l.length - n) + 1 by omega]; rfl)
          have q1 : (n : Int) ≤ (l.length : Int) := by omega
          have hszr := hb.size
          go_wp2_with fail
          go_loopw [8, 9, 10, 34] (fun fv _ _ iv wx => ∃ i : Nat, i ≤ l.length ∧ iv = .int .i64 i ∧ fv = .bool (fitsS name l n i) ∧ Below wr.heap.size wr wx) (fun _ _ _ iv _ => l.length - (intOf iv).toNat)
          case atStart => exact ⟨0, by omega, rfl, rfl, Below.refl _ _⟩
          case round =>
            obtain ⟨wo, rfl⟩ : ∃ wo : World, wo = wr := ⟨_, rfl⟩
            obtain ⟨i, hi, rfl, rfl, hb4⟩ := hrel
            have hB4 := bNext hb hb4
            by_cases hlt : i < l.length
            · have hlne : l ≠ [] := by intro e; rw [e] at hlt; simp at hlt
              obtain ⟨b2, o2, rfl, hb2, hcc⟩ := HR.out hlne
              obtain ⟨hnn, hlt2⟩ := HNN.out n i hn1 hn hlt
              obtain ⟨q, hq⟩ : ∃ q : Nat, whichS name (n : Int) (i : Int) = (q : Int) := ⟨(whichS name (n : Int) (i : Int)).toNat, by omega⟩
              have hql : q < l.length := by omega
              have y0 := (hB4.cell (p := ⟨b2, o2 + i, none⟩) hb2).trans (hcc i hlt)
              have y1 := (hB4.cell (p := ⟨b2, o2 + q, none⟩) hb2).trans (hcc q hql)
              have hfs := fits_succ name l n i
              rw [hq, Int.toNat_natCast, List.getElem?_eq_getElem hql, List.getElem?_eq_getElem hlt] at hfs
              simp only [Option.getD_some] at hfs
              obtain ⟨x, hx⟩ : ∃ x, l[q] = x := ⟨_, rfl⟩
              obtain ⟨y, hy⟩ : ∃ x, l[i] = x := ⟨_, rfl⟩
              rw [hx] at y1 hfs
              rw [hy] at y0 hfs
              have HFS := Lib.hid hfs
              have HQ := Lib.hid hq
              have p1 : (i : Int) < (l.length : Int) := by omega
              have p0 : (0 : Int) ≤ (i : Int) := by omega
              have p2 : (q : Int) < (l.length : Int) := by omega
              have p3 : (0 : Int) ≤ (q : Int) := by omega
              clear hcc hfs hx hy hnn hlt2 hq
              go_wp2_with fail
              refine (refWhich_any _ name n i (by omega) (by omega) (by omega) (by omega)).mono ?_
              rintro e w5 ⟨rfl, rfl⟩
              rw [HQ.out]
              cases hf : fitsS name l n i
              · have HN : Hid (fitsS name l n (i + 1) = false) := Lib.hid (by rw [HFS.out, hf]; rfl)
                clear y0 y1
                go_wp2_with fail
                go_region
                go_wp2_with fail
                go_roundw
                case rel => exact ⟨i + 1, by omega, by go_num, by rw [HN.out], bNext hb4 (below_drew' _)⟩
                case measure => simp [intOf]; omega
              · have HN : Hid (fitsS name l n (i + 1) = eqB x y) := Lib.hid (by rw [HFS.out, hf]; rfl)
                have hxy := toList_eqB x y
                obtain ⟨t, ht⟩ : ∃ t, eqB x y = t := ⟨_, rfl⟩
                rw [ht] at hxy HN
                clear ht
                go_wp2_with fail
                go_quiet (fail)
                go_wp2_with fail
                go_roundw
                case rel => exact ⟨i + 1, by omega, by go_num, by rw [HN.out], bDrew hb4 _⟩
                case measure => simp [intOf]; omega
            · have hie : i = l.length := by omega
              have p1 : ¬ (i : Int) < (l.length : Int) := by omega
              cases hf : fitsS name l n i
              · have HN : Hid (joinFrom name l (l.length + 1 - (n + 1)) (n + 1) = joinS name l) := Lib.hid (by
                  rw [HD.out, ← hie, hf, show i + 1 - (n + 1) = i - n by omega]; rfl)
                have hwn : IntKind.i64.wrap ((n : Int) + 1) = ((n + 1 : Nat) : Int) := by rw [Go.IntWalk.i64_in _ (by omega)]; omega
                clear hie
                go_wp2_with fail
                go_roundw
                case rel => exact ⟨n + 1, by omega, by omega, by go_num, HN, hB4⟩
                case measure => simp [intOf]; omega
              · have HW : Hid (resS (joinS name l) = .tuple #[.string (joinB (l.take n)), .bool true]) := Lib.hid (by rw [HD.out, ← hie, hf]; rfl)
                have hlne : l ≠ [] := by intro e; rw [e] at hn; simp at hn; omega
                obtain ⟨b2, o2, rfl, hb2, hcc⟩ := HR.out hlne
                have hl0 : 0 < l.length := by omega
                have y0 := (hB4.cell (p := ⟨b2, o2 + 0, none⟩) hb2).trans (hcc 0 hl0)
                have H1 := Lib.hid (joinB_one l hl0)
                have HCC : Hid (∀ (i : Nat) (hi : i < l.length), wo.cell? ⟨b2, o2 + i, none⟩ = some (.string l[i])) := Lib.hid (fun i hi => (hB4.cell (p := ⟨b2, o2 + i, none⟩) hb2).trans (hcc i hi))
                obtain ⟨x, hx⟩ : ∃ x, l[0] = x := ⟨_, rfl⟩
                rw [hx] at y0 H1
                rw [Nat.add_zero] at y0
                have p2 : (n : Int) ≤ (cap : Int) := by omega
                have p3 : (1 : Int) ≤ (n : Int) := by omega
                have p4 : (0 : Int) < (l.length : Int) := by omega
                clear hie hcc hx
                by_cases hcn : cap = 1
                · subst hcn
                  obtain rfl : n = 1 := by omega
                  go_wp2_with fail
                  go_loop [11, 13, 62] (fun sv _ iv => sv = .string x ∧ iv = .int .i64 0) (fun _ _ _ => 0)
                  case atStart => exact ⟨rfl, rfl⟩
                  case round =>
                    obtain ⟨rfl, rfl⟩ := hrel
                    go_wp2_with fail
                    exact bodyPost_ret (v := .tuple #[.string x, .bool true]) (by simp [results, Tryz.results21, go_sem]) rfl ⟨by rw [HW.out, H1.out], hB4⟩
                · have hcn' : ¬ (1 : Int) = (cap : Int) := by omega
                  go_wp2_with fail
                  go_loop [11, 13, 62] (fun sv _ iv => ∃ k : Nat, k + 1 ≤ n ∧ iv = .int .i64 k ∧ sv = .string (joinB (l.take (k + 1)))) (fun _ _ iv => n - 1 - (intOf iv).toNat)
                  case atStart => exact ⟨0, by omega, rfl, by rw [H1.out]⟩
                  case round =>
                    obtain ⟨k, hk, rfl, rfl⟩ := hrel
                    by_cases hlt : k + 1 < n
                    · have q2 : (k : Int) < ((n - 1 : Nat) : Int) := by omega
                      have q3 : (0 : Int) ≤ (k : Int) := by omega
                      have hkl : k + 1 < l.length := by omega
                      have y1 := HCC.out (k + 1) hkl
                      rw [show o2 + (k + 1) = o2 + 1 + k by omega] at y1
                      have HS := Lib.hid (joinB_succ l (k + 1) (by omega) hkl)
                      have z1 := HZ.out _ (List.getElem_mem hkl)
                      have z2 := joinB_size (l.take (k + 1)) (fun s hs => HZ.out s (List.mem_of_mem_take hs)) (by rw [List.length_take]; omega)
                      have z3 : (l.take (k + 1)).length ≤ 1000 := by rw [List.length_take]; omega
                      obtain ⟨y, hy⟩ : ∃ y, l[k + 1] = y := ⟨_, rfl⟩
                      obtain ⟨z, hz⟩ : ∃ z, joinB (l.take (k + 1)) = z := ⟨_, rfl⟩
                      have hz4 : z.size ≤ 100001000 := by rw [← hz]; omega
                      rw [hy] at y1 HS z1
                      rw [hz] at HS
                      rw [hz]
                      have n1 : ¬ (9223372036854775807 < 1 + y.size) := by omega
                      have n2 : ¬ (9223372036854775807 < z.size + (1 + y.size)) := by omega
                      clear hy hz z2 z3
                      go_wp2_with fail
                      go_round
                      case rel => exact ⟨k + 1, by omega, by go_num, by rw [HS.out]⟩
                      case measure => simp [intOf]; omega
                    · obtain rfl : n = k + 1 := by omega
                      have q2 : ¬ (k : Int) < ((k + 1 - 1 : Nat) : Int) := by omega
                      go_wp2_with fail
                      exact bodyPost_ret (v := .tuple #[.string (joinB (l.take (k + 1))), .bool true]) (by simp [results, Tryz.results21, go_sem]) rfl ⟨by rw [HW.out], hB4⟩
        · have HV : Hid (resS (joinS name l) = .tuple #[.string noStr, .bool false]) := Lib.hid (by
            rw [← HJ.out, show l.length + 1 - n = 0 by omega]; rfl)
          have q1 : ¬ (n : Int) ≤ (l.length : Int) := by omega
          go_wp2_with fail
          exact bodyPost_ret (v := .tuple #[.string noStr, .bool false]) (by simp [results, Tryz.results21, go_sem, noStr]) rfl ⟨by rw [HV.out], hb⟩
    · have HV : Hid (resS (joinS name l) = .tuple #[.string noStr, .bool false]) := Lib.hid (by unfold joinS; rw [if_pos (.inr hle)]; rfl)
      have hle' : ((l.length : Int) == ((longsOf name).length : Int)) = false := by rw [beq_eq_false_iff_ne]; omega
      clear hne
      go_wp2_with fail
      exact bodyPost_ret (v := .tuple #[.string noStr, .bool false]) (by simp [results, Tryz.results21, go_sem, noStr]) rfl ⟨by rw [HV.out], hb1⟩
end Go.Proofs.YtpadcjcoafidgaaGreatDoor
/-! The walk of gouachelaw16.ShortJoins. -/
namespace Go.Proofs.YtpadcjcoafidgaaGreatDoor
open Go.RowKit

theorem resS_eq (o : Option ByteArray) : resS o = .tuple #[.string (o.getD noStr), .bool o.isSome] := by cases o <;> rfl
theorem Ss.below {C : Nat} {w w' : World} {v : Value} {l : List ByteArray} (h : Ss w v l) (hb : Below C w w') (hC : w.heap.size ≤ C) : Ss w' v l := by
  obtain ⟨a, cap, hv, hl, hr⟩ := h
  refine ⟨a, cap, hv, hl, fun hne => ?_⟩
  obtain ⟨b, off, ha, hlt, hc⟩ := hr hne
  exact ⟨b, off, ha, Nat.lt_of_lt_of_le hlt hb.size, fun i hi => (hb.cell (p := ⟨b, _, none⟩) (Nat.lt_of_lt_of_le hlt hC)).trans (hc i hi)⟩
theorem Ss.next {w w' : World} {v : Value} {l : List ByteArray} (h : Ss w v l) (hb : Below w.heap.size w w') : Ss w' v l := h.below hb (Nat.le_refl _)
theorem strs_self (a : ByteArray) : (a.toList == a.toList) = true := by simp
set_option maxRecDepth 100000 in
set_option maxHeartbeats 8000000 in
theorem shortJoins_walk (w : World) (hB : Base16 w) (name : ByteArray) (lv : Value) (l : List ByteArray) (h : Ss w lv l) (hll : l.length ≤ 140737488355328) (hns : name.size ≤ 140737488355328) (hz : ∀ s ∈ l, s.size ≤ 140737488355328) (n i : Int) :
    Calls Tryz.prog 5 #[.string name, lv, .agg #[.int .i64 n, .int .i64 i]] w fun e w' => e = .returned (.bool true) ∧ Below w.heap.size w w' := by
  have HB := Lib.hid hB
  have HS := Lib.hid h
  have HZ := Lib.hid hz
  obtain ⟨a, cap, rfl, hcap, hr⟩ := h
  have HR := Lib.hid hr
  clear hB hz hr
  by_cases hn : 500 < name.size
  · have q : (500 : Int) < (name.size : Int) := by omega
    go_enter Tryz.func5, Tryz.ntmps5
    go_wp2_with fail
    go_quiet (fail)
    go_wp2_with fail
    refine (lives16_any _ (HB.out.next (bDrew (bAlloc1 _ _) _))).mono ?_
    rintro e w1 ⟨rfl, hb1⟩
    go_wp2_with fail
    go_ret
    exact ⟨rfl, bNext (bDrew (bAlloc1 _ _) _) hb1⟩
  · have q : ¬ (500 : Int) < (name.size : Int) := by omega
    by_cases hl2 : 20 < l.length
    · have q2 : (20 : Int) < (l.length : Int) := by omega
      go_enter Tryz.func5, Tryz.ntmps5
      go_wp2_with fail
      go_quiet (fail)
      go_wp2_with fail
      refine (lives16_any _ (HB.out.next (bDrew (bAlloc1 _ _) _))).mono ?_
      rintro e w1 ⟨rfl, hb1⟩
      go_wp2_with fail
      go_ret
      exact ⟨rfl, bNext (bDrew (bAlloc1 _ _) _) hb1⟩
    · have q2 : ¬ (20 : Int) < (l.length : Int) := by omega
      go_enter Tryz.func5, Tryz.ntmps5
      go_wp2_with fail
      go_quiet (fail)
      go_wp2_with fail
      go_loopw [10, 30] (fun _ iv wr => ∃ k : Nat, k ≤ l.length ∧ iv = .int .i64 k ∧ Hid (∀ s ∈ l.take k, s.size ≤ 200) ∧ Below w.heap.size w wr) (fun _ iv _ => l.length - (intOf iv).toNat)
      case atStart => exact ⟨0, by omega, rfl, Lib.hid (fun s hs => by simp at hs), bDrew (bAlloc1 _ _) _⟩
      case round =>
        obtain ⟨k, hk, rfl, HK, hb⟩ := hrel
        by_cases hlt : k < l.length
        · have hne : l ≠ [] := by intro e; rw [e] at hlt; simp at hlt
          obtain ⟨b1, o1, rfl, hb1, hc1⟩ := HR.out hne
          have f1 := (hb.cell (p := ⟨b1, o1 + k, none⟩) hb1).trans (hc1 k hlt)
          have HT := Lib.hid (List.take_succ_eq_append_getElem hlt)
          have z1 := HZ.out _ (List.getElem_mem hlt)
          obtain ⟨y, hy⟩ : ∃ y, l[k] = y := ⟨_, rfl⟩
          rw [hy] at f1 HT z1
          have p0 : (0 : Int) ≤ (k : Int) := by omega
          have p1 : (k : Int) < (l.length : Int) := by omega
          clear hc1 hy
          by_cases hs : y.size ≤ 200
          · have p2 : ¬ (200 : Int) < (y.size : Int) := by omega
            have HK2 : Hid (∀ s ∈ l.take (k + 1), s.size ≤ 200) := Lib.hid (fun s hs' => by
              rw [HT.out] at hs'
              rcases List.mem_append.1 hs' with h | h
              · exact HK.out s h
              · rw [List.mem_singleton.1 h]; exact hs)
            clear hs
            go_wp2_with fail
            go_roundw
            case rel => exact ⟨k + 1, by omega, by go_num, HK2, hb⟩
            case measure => simp [intOf]; omega
          · have p2 : (200 : Int) < (y.size : Int) := by omega
            clear hs
            go_wp2_with fail
            refine (lives16_any _ (HB.out.next hb)).mono ?_
            rintro e w1 ⟨rfl, hb1⟩
            go_wp2_with fail
            go_ret
            exact ⟨rfl, bNext hb hb1⟩
        · have hke : k = l.length := by omega
          have p1 : ¬ (k : Int) < (l.length : Int) := by omega
          have HK2 : Hid (∀ s ∈ l, s.size ≤ 200) := Lib.hid (fun s hs => HK.out s (by rw [hke, List.take_length]; exact hs))
          clear hke
          go_wp2_with fail
          refine (Join_any _ (HB.out.next hb) name _ l (HS.out.next hb) (fun s hs => Nat.le_trans (HK2.out s hs) (by decide)) (by omega)).mono ?_
          rintro e w1 ⟨rfl, hb1⟩
          have hB1 := bNext hb hb1
          rw [resS_eq]
          go_wp2_with fail
          refine (RefJoin_any _ name _ l (HS.out.next hB1) (fun s hs => Nat.le_trans (HK2.out s hs) (by decide)) (by omega)).mono ?_
          rintro e w2 ⟨rfl, hb2⟩
          have hB2 := bNext hB1 hb2
          rw [resS_eq]
          obtain ⟨z, hz⟩ : ∃ z, (joinS name l).getD noStr = z := ⟨_, rfl⟩
          obtain ⟨y, hy⟩ : ∃ z, (joinS name l).isSome = z := ⟨_, rfl⟩
          rw [hz, hy]
          have hzz := strs_self z
          clear hz hy
          go_wp2_with fail
          refine (Sides_any _ (HB.out.next hB2).sd n i).mono ?_
          rintro e w3 ⟨rfl, rfl⟩
          go_wp2_with fail
          refine (refSides_any _ n i).mono ?_
          rintro e w4 ⟨rfl, rfl⟩
          go_wp2_with fail
          refine (lives16_any _ (HB.out.next hB2)).mono ?_
          rintro e w5 ⟨rfl, hb5⟩
          go_wp2_with fail
          go_ret
          exact ⟨rfl, bNext hB2 hb5⟩
end Go.Proofs.YtpadcjcoafidgaaGreatDoor
/-! What a call's arguments hold: slices and structs of the reader's data, opened into rows of cells; the reach of what was read; arguments that read as they did. Over any program. -/
namespace Go.Proofs.YtpadcjcoafidgaaGreatDoor
open Go.RowKit Go.ChangeShapes Go.WideShapes

section
variable {H : Type} {enc : TypeId × Value → H} {P : Program} {W : World} {base : Nat} {sp : Nat → Bool} {held : Bool}

theorem mapM_get {α β : Type} {f : α → Option β} : ∀ {l : List α} {r : List β}, l.mapM f = some r → ∀ (i : Nat) (a : α), l[i]? = some a → ∃ b, r[i]? = some b ∧ f a = some b
  | [], _, _, i, a, hi => by simp at hi
  | x :: l, r, h, i, a, hi => by
    rw [List.mapM_cons] at h
    simp only [bind, Option.bind_eq_some_iff, pure, Option.some.injEq] at h
    obtain ⟨b, hb, r', hr, rfl⟩ := h
    cases i with
    | zero =>
      simp only [List.getElem?_cons_zero, Option.some.injEq] at hi
      subst hi
      exact ⟨b, rfl, hb⟩
    | succ i => exact mapM_get hr i a (by simpa using hi)
theorem mapM_len {α β : Type} {f : α → Option β} : ∀ {l : List α} {r : List β}, l.mapM f = some r → r.length = l.length
  | [], r, h => by
    simp at h
    subst h
    rfl
  | x :: l, r, h => by
    rw [List.mapM_cons] at h
    simp only [bind, Option.bind_eq_some_iff, pure, Option.some.injEq] at h
    obtain ⟨b, hb, r', hr, rfl⟩ := h
    simp [mapM_len hr]
/-- A struct: its fields, one by one. -/
theorem open_fields {t : TypeId} {fs : Array Field} {fuel : Nat} {cs : List Value} {x : DataW H × List MemPlace} (ht : P.underlying t = some (.struct fs)) (h : DataW.trod enc P W base sp held fuel t cs = some x) :
    ∃ (n : Nat) (ds : List (DataW H)), fuel = n + 1 ∧ cs.length = P.cellsOf t ∧ x.1 = .agg ds ∧ ds.length = fs.toList.length ∧
      ∀ (i : Nat) (f : Field), fs.toList[i]? = some f → ∃ y, ds[i]? = some y.1 ∧ DataW.trod enc P W base sp held n f.type ((cs.drop f.offset).take (P.cellsOf f.type)) = some y := by
  cases fuel with
  | zero => simp [DataW.trod] at h
  | succ n =>
    rw [DataW.trod_step] at h
    unfold DataW.trodStep at h
    simp only [ht] at h
    split at h
    · rename_i hl
      obtain ⟨xs, hx, rfl⟩ := Option.map_eq_some_iff.1 h
      refine ⟨n, xs.map (·.1), rfl, hl, rfl, by rw [List.length_map]; exact mapM_len hx, fun i f hf => ?_⟩
      obtain ⟨y, hy, hr⟩ := mapM_get hx i f hf
      exact ⟨y, by rw [List.getElem?_map, hy]; rfl, hr⟩
    · cases h
/-- A slice: its elements' rows of cells. -/
structure Rows0 (P : Program) (W : World) (e : TypeId) (v : Value) (rows : List (List Value)) : Prop where
  shape : ∃ a cap, v = .slice a rows.length cap ∧ rows.length ≤ cap ∧
    (rows ≠ [] → ∃ b off, a = some ⟨b, off, none⟩ ∧ b < W.heap.size ∧ ∀ (i j : Nat) (u : Value), (rows[i]?.getD [])[j]? = some u → W.cell? ⟨b, off + i * P.cellsOf e + j, none⟩ = some u)
  len : ∀ r ∈ rows, r.length = P.cellsOf e
theorem spot_none {a : Addr} {n : Nat} {u : Value} (h : W.cell? (a.add n) = some u) (hn : n = 0) : a.spot = none := by
  subst hn
  unfold Addr.add at h
  rw [if_pos rfl] at h
  unfold World.cell? at h
  split at h
  · split at h
    · cases h
    · rename_i hs
      simpa using hs
  · cases h
theorem open_elems {t e : TypeId} {fuel : Nat} {cs : List Value} {x : DataW H × List MemPlace} (ht : P.underlying t = some (.slice e)) (hpos : 0 < P.cellsOf e)
    (h : DataW.trod enc P W base sp held fuel t cs = some x) :
    ∃ (n : Nat) (v : Value) (rows : List (List Value)) (ds : List (DataW H)), fuel = n + 1 ∧ cs = [v] ∧ Rows0 P W e v rows ∧ ds.length = rows.length ∧ (x.1 = .nil ∧ rows = [] ∨ ∃ rest, x.1 = .slice ds rest) ∧
      ∀ (i : Nat) (r : List Value), rows[i]? = some r → ∃ y, ds[i]? = some y.1 ∧ DataW.trod enc P W base sp held n e r = some y := by
  rcases DataW.trod_slice ht h with ⟨rfl, rfl⟩ | ⟨a, len, cap, elems, rest, n, rfl, rfl, rfl, hb, hl, hm, hlen, hel, -, -⟩
  · cases fuel with
    | zero => simp [DataW.trod] at h
    | succ n => exact ⟨n, _, [], [], rfl, rfl, ⟨⟨none, 0, rfl, Nat.le_refl _, fun h => absurd rfl h⟩, fun r hr => by cases hr⟩, rfl, .inl ⟨rfl, rfl⟩, fun i r hr => by simp at hr⟩
  · have key : ∀ i, i < len → ∃ r y, W.cells? base (a.add (i * P.cellsOf e)) (P.cellsOf e) = some r ∧ elems[i]? = some y ∧ DataW.trod enc P W base sp held n e r = some y := by
      intro i hi
      have h1 := hel i hi
      rw [List.getElem?_eq_getElem (by omega), Option.bind_eq_some_iff] at h1
      obtain ⟨r, h1, h2⟩ := h1
      exact ⟨r, _, h1, List.getElem?_eq_getElem (by omega), h2⟩
    refine ⟨n, _, (List.range len).map fun i => (W.cells? base (a.add (i * P.cellsOf e)) (P.cellsOf e)).getD [], elems.map (·.1), rfl, rfl, ⟨⟨some a, cap, by simp, by simpa using hl, fun hne => ?_⟩, ?_⟩, by simp [hlen], .inr ⟨_, rfl⟩, ?_⟩
    · have hl0 : 0 < len := by
        rcases Nat.eq_zero_or_pos len with h0 | h0
        · rw [h0] at hne; exact absurd rfl hne
        · exact h0
      obtain ⟨r0, y0, h0, -, -⟩ := key 0 hl0
      obtain ⟨_, hl1, hc⟩ := World.cells?_some h0
      have h2 := hc 0 hpos
      have hlt := World.cells?_block h0 hpos
      obtain ⟨u, hu⟩ : ∃ u, r0[0]? = some u := ⟨_, List.getElem?_eq_getElem (by omega)⟩
      rw [hu, Nat.zero_mul] at h2
      have hs : a.spot = none := by
        have e0 : a.add 0 = a := by unfold Addr.add; rw [if_pos rfl]
        rw [e0] at h2
        exact spot_none (n := 0) h2 rfl
      obtain ⟨b, off, spot⟩ := a
      simp only at hs
      subst hs
      rw [add_plain] at hlt
      refine ⟨b, off, rfl, hlt, fun i j u hu => ?_⟩
      by_cases hi : i < len
      · obtain ⟨r, y, h1, -, -⟩ := key i hi
        rw [List.getElem?_map, List.getElem?_range hi] at hu
        simp only [Option.map_some, Option.getD_some, h1] at hu
        obtain ⟨_, hl1, hc⟩ := World.cells?_some h1
        have hj : j < P.cellsOf e := by rw [← hl1]; exact (List.getElem?_eq_some_iff.1 hu).1
        have h3 := hc j hj
        rw [hu, add_plain, add_plain] at h3
        exact h3
      · rw [List.getElem?_map, List.getElem?_eq_none (show (List.range len).length ≤ i by rw [List.length_range]; omega)] at hu
        simp at hu
    · intro r hr
      obtain ⟨i, hi, rfl⟩ := List.mem_map.1 hr
      obtain ⟨r, y, h1, -, -⟩ := key i (List.mem_range.1 hi)
      rw [h1]
      exact (World.cells?_some h1).2.1
    · intro i r hr
      have hi : i < len := by
        have := (List.getElem?_eq_some_iff.1 hr).1
        simpa using this
      obtain ⟨r', y, h1, h2, h3⟩ := key i hi
      rw [List.getElem?_map, List.getElem?_range hi] at hr
      simp only [Option.map_some, h1, Option.getD_some, Option.some.injEq] at hr
      subst hr
      exact ⟨y, by rw [List.getElem?_map, h2]; rfl, h3⟩
/-- WHAT WAS READ IS WITHIN THE REACH. -/
def Small (P : Program) (t : TypeId) (d : DataW H) : Prop := ∀ n ∈ d.weights P t, n ≤ reachBytes
theorem small_arg {ts : List TypeId} {ds : List (DataW H)} (h : (DataW.weightsEach P ts ds).all (· ≤ reachBytes) = true) {j : Nat} {t : TypeId} {d : DataW H} (ht : ts[j]? = some t) (hd : ds[j]? = some d) : Small P t d := by
  intro n hn
  have := List.all_eq_true.1 h _ (DataW.weights_mem_each ht hd n hn)
  simpa using this
theorem small_field {t : TypeId} {fs : Array Field} {parts : List (DataW H)} (ht : P.underlying t = some (.struct fs)) (h : Small P t (.agg parts)) {i : Nat} {f : Field} {d : DataW H} (hf : fs.toList[i]? = some f) (hd : parts[i]? = some d) : Small P f.type d := by
  intro n hn
  refine h n ?_
  simp only [DataW.weights, ht]
  exact DataW.weights_mem_each (by rw [List.getElem?_map, hf]; rfl) hd n hn
theorem small_mem {e : TypeId} : ∀ {ds : List (DataW H)} {i : Nat} {d : DataW H}, ds[i]? = some d → ∀ n ∈ d.weights P e, n ∈ DataW.weightsAll P e ds
  | [], _, _, hd, _, _ => by simp at hd
  | d0 :: ds, 0, d, hd, n, hn => by
    simp only [List.getElem?_cons_zero, Option.some.injEq] at hd
    subst hd
    simp only [DataW.weightsAll, List.mem_append]
    exact .inl hn
  | d0 :: ds, i + 1, d, hd, n, hn => by
    simp only [DataW.weightsAll, List.mem_append]
    exact .inr (small_mem (by simpa using hd) n hn)
theorem small_elem {t e : TypeId} {elems rest : List (DataW H)} (ht : P.underlying t = some (.slice e)) (h : Small P t (.slice elems rest)) {i : Nat} {d : DataW H} (hd : elems[i]? = some d) : Small P e d := by
  intro n hn
  refine h n ?_
  simp only [DataW.weights, ht, List.mem_cons, List.mem_append]
  exact .inr (.inl (small_mem hd n hn))
theorem small_len {t e : TypeId} {elems rest : List (DataW H)} (ht : P.underlying t = some (.slice e)) (h : Small P t (.slice elems rest)) : elems.length * P.bytesOf e ≤ 140737488351232 := by
  have := h ((elems.length + rest.length) * P.bytesOf e) (by simp [DataW.weights, ht])
  rw [Nat.add_mul] at this
  unfold reachBytes at this
  omega
theorem small_string {t : TypeId} {l : List UInt8} (h : Small P t (.lit (.string l) : DataW H)) : l.length ≤ 140737488351232 := by
  have := h l.length (by simp [DataW.weights])
  unfold reachBytes at this
  omega
/-- ARGUMENTS READ AS THEY DID where nothing old has turned. -/
theorem trodAll_below (hl : laidOutB P = true) {W' : World} (hb : Below W.heap.size W W') : ∀ {ts : List TypeId} {vs : List Value} {ds : List (DataW H)} {ps : List MemPlace},
    (∀ t ∈ ts, P.readableRec t = true ∧ t < P.types.size) → DataW.TrodAll enc P W 0 (fun _ => true) true ts vs ds ps → (∀ x ∈ ps, x.block < W.heap.size) →
    DataW.TrodAll enc P W' 0 (fun b => decide (b < W.heap.size)) true ts vs ds ps
  | [], vs, ds, ps, _, h, _ => by
    obtain ⟨rfl, rfl, rfl⟩ := trodAll_nil h
    exact trodAll_mk0
  | t :: ts, vs, ds, ps, hr, h, hlt => by
    obtain ⟨v, vs, d, ds, p, q, rfl, rfl, rfl, h1, h2⟩ := trodAll_cons h
    obtain ⟨r1, r2⟩ := hr t (List.mem_cons_self ..)
    exact ⟨p, q, Below.trod hl r1 r2 h1 hb (fun x hx => hlt x (List.mem_append_left _ hx)), trodAll_below hl hb (fun t ht => hr t (List.mem_cons_of_mem _ ht)) h2 (fun x hx => hlt x (List.mem_append_right _ hx)), rfl⟩
end
end Go.Proofs.YtpadcjcoafidgaaGreatDoor
/-! gouacheref03.Deep, gouacheref03.Count, gouachelaw15.great, gouachelaw16.great: each returns; what is not great has short tokens. -/
namespace Go.Proofs.YtpadcjcoafidgaaGreatDoor
open Go.RowKit

/-- The kids of a value, as the slice that it holds. -/
def Val.kids (x : Val) : Value := .slice x.ka x.kn x.kc
/-- Values that are nested less than n deep. -/
def VD (w : World) : Nat → Value → List Val → Prop
  | 0, _, _ => False
  | n + 1, v, l => Vs w v l ∧ ∀ x ∈ l, ∃ l', VD w n x.kids l'
theorem VD.below {C : Nat} {w w' : World} (hb : Below C w w') (hC : w.heap.size ≤ C) : ∀ {n : Nat} {v : Value} {l : List Val}, VD w n v l → VD w' n v l
  | 0, _, _, h => h.elim
  | n + 1, v, l, ⟨h1, h2⟩ => ⟨h1.below hb hC, fun x hx => by
    obtain ⟨l', h⟩ := h2 x hx
    exact ⟨l', VD.below hb hC h⟩⟩
theorem VD.next {w w' : World} {n : Nat} {v : Value} {l : List Val} (h : VD w n v l) (hb : Below w.heap.size w w') : VD w' n v l := h.below hb (Nat.le_refl _)
theorem VD.vs {w : World} {n : Nat} {v : Value} {l : List Val} (h : VD w n v l) : Vs w v l := by
  cases n with
  | zero => exact h.elim
  | succ n => exact h.1
/-- A bool is returned. -/
def SomeB (w : World) (e : Ending) (w' : World) : Prop := ∃ b, e = .returned (.bool b) ∧ Below w.heap.size w w'
def SomeI (w : World) (e : Ending) (w' : World) : Prop := ∃ n, e = .returned (.int .i64 n) ∧ Below w.heap.size w w'
set_option maxRecDepth 100000 in
set_option maxHeartbeats 4000000 in
theorem Deep_any : ∀ (n : Nat) (w : World) (v : Value) (l : List Val) (most : Int), VD w n v l →
    Calls Tryz.prog 38 #[v, .int .i64 most] w (SomeB w)
  | 0, _, _, _, _, h => h.elim
  | n + 1, w, v, l, most, h => by
    have IH := Lib.hid (Deep_any n)
    have HD := Lib.hid h
    obtain ⟨a, cap, rfl, hcap, hl, hr⟩ := h.1
    have HR := Lib.hid hr
    clear h hr
    go_enter Tryz.func38, Tryz.ntmps38
    go_wp2_with fail
    go_loopw [6, 9] (fun _ iv wr => ∃ k : Nat, k ≤ l.length ∧ iv = .int .i64 k ∧ Below w.heap.size w wr) (fun _ iv _ => l.length - (intOf iv).toNat)
    case atStart => exact ⟨0, by omega, rfl, Below.refl _ _⟩
    case round =>
      obtain ⟨k, hk, rfl, hb⟩ := hrel
      by_cases hlt : k < l.length
      · have hne : l ≠ [] := by intro e; rw [e] at hlt; simp at hlt
        obtain ⟨bb, off, rfl, hbb, hcc⟩ := HR.out hne
        obtain ⟨x0, x1, x2, x3, x4, x5⟩ := Vs.cells (cellsX hb hbb hcc) k hlt
        obtain ⟨l', hkids⟩ := HD.out.2 _ (List.getElem_mem hlt)
        have HK := Lib.hid ((hkids.next hb).next (bAlloc1 wr (.cells #[.int .i64 l[k].tok.k, .string l[k].tok.t, .string l[k].tok.u, .bool l[k].tok.wh, .bool l[k].tok.fl, .slice l[k].ka l[k].kn l[k].kc] 26)))
        have hb1 := bNext hb (bAlloc1 wr (.cells #[.int .i64 l[k].tok.k, .string l[k].tok.t, .string l[k].tok.u, .bool l[k].tok.wh, .bool l[k].tok.fl, .slice l[k].ka l[k].kn l[k].kc] 26))
        obtain ⟨y, hy⟩ : ∃ y, l[k] = y := ⟨_, rfl⟩
        rw [hy] at x0 x1 x2 x3 x4 x5 HK hb1
        have q0 : (0 : Int) ≤ (k : Int) := by omega
        have q1 : (k : Int) < (l.length : Int) := by omega
        clear hcc hkids hy
        by_cases hkn : 0 < y.kn
        · have p1 : (0 : Int) < (y.kn : Int) := by omega
          by_cases hm : most < 1
          · go_wp2_with fail
            go_ret
            exact ⟨_, rfl, hb1⟩
          · go_wp2_with fail
            refine (IH.out _ _ l' _ HK.out).mono ?_
            rintro e w2 ⟨b, rfl, hb2⟩
            have hB2 := bNext hb1 hb2
            cases b with
            | true =>
              go_wp2_with fail
              go_ret
              exact ⟨_, rfl, hB2⟩
            | false =>
              clear x0 x1 x2 x3 x4 x5
              go_wp2_with fail
              go_roundw
              case rel => exact ⟨k + 1, by omega, by go_num, hB2⟩
              case measure => simp [intOf]; omega
        · have p1 : ¬ (0 : Int) < (y.kn : Int) := by omega
          go_wp2_with fail
          go_roundw
          case rel => exact ⟨k + 1, by omega, by go_num, hb1⟩
          case measure => simp [intOf]; omega
      · have q1 : ¬ (k : Int) < (l.length : Int) := by omega
        go_wp2_with fail
        go_ret
        exact ⟨_, rfl, hb⟩
set_option maxRecDepth 100000 in
set_option maxHeartbeats 4000000 in
theorem Count_any : ∀ (n : Nat) (w : World) (v : Value) (l : List Val), VD w n v l →
    Calls Tryz.prog 39 #[v] w (SomeI w)
  | 0, _, _, _, h => h.elim
  | n + 1, w, v, l, h => by
    have IH := Lib.hid (Count_any n)
    have HD := Lib.hid h
    obtain ⟨a, cap, rfl, hcap, hl, hr⟩ := h.1
    have HR := Lib.hid hr
    clear h hr
    go_enter Tryz.func39, Tryz.ntmps39
    go_wp2_with fail
    go_loopw [3, 5, 8] (fun nv _ iv wr => ∃ (k : Nat) (m : Int), k ≤ l.length ∧ iv = .int .i64 k ∧ nv = .int .i64 m ∧ Below w.heap.size w wr) (fun _ _ iv _ => l.length - (intOf iv).toNat)
    case atStart => exact ⟨0, 0, by omega, rfl, rfl, Below.refl _ _⟩
    case round =>
      obtain ⟨k, m, hk, rfl, rfl, hb⟩ := hrel
      by_cases hlt : k < l.length
      · have hne : l ≠ [] := by intro e; rw [e] at hlt; simp at hlt
        obtain ⟨bb, off, rfl, hbb, hcc⟩ := HR.out hne
        obtain ⟨x0, x1, x2, x3, x4, x5⟩ := Vs.cells (cellsX hb hbb hcc) k hlt
        obtain ⟨l', hkids⟩ := HD.out.2 _ (List.getElem_mem hlt)
        have HK := Lib.hid ((hkids.next hb).next (bAlloc1 wr (.cells #[.int .i64 l[k].tok.k, .string l[k].tok.t, .string l[k].tok.u, .bool l[k].tok.wh, .bool l[k].tok.fl, .slice l[k].ka l[k].kn l[k].kc] 26)))
        have hb1 := bNext hb (bAlloc1 wr (.cells #[.int .i64 l[k].tok.k, .string l[k].tok.t, .string l[k].tok.u, .bool l[k].tok.wh, .bool l[k].tok.fl, .slice l[k].ka l[k].kn l[k].kc] 26))
        obtain ⟨y, hy⟩ : ∃ y, l[k] = y := ⟨_, rfl⟩
        rw [hy] at x0 x1 x2 x3 x4 x5 HK hb1
        have q0 : (0 : Int) ≤ (k : Int) := by omega
        have q1 : (k : Int) < (l.length : Int) := by omega
        clear hcc hkids hy
        go_wp2_with fail
        refine (IH.out _ _ l' HK.out).mono ?_
        rintro e w2 ⟨c, rfl, hb2⟩
        have hB2 := bNext hb1 hb2
        clear x0 x1 x2 x3 x4 x5
        go_wp2_with fail
        go_roundw
        case rel => exact ⟨k + 1, _, by omega, by go_num, rfl, hB2⟩
        case measure => simp [intOf]; omega
      · have q1 : ¬ (k : Int) < (l.length : Int) := by omega
        go_wp2_with fail
        go_ret
        exact ⟨_, rfl, hb⟩
/-- A bool is returned; false: the tokens are short. -/
def GreatB (w : World) (l : List Val) (e : Ending) (w' : World) : Prop := ∃ b, e = .returned (.bool b) ∧ (b = false → ∀ x ∈ l, x.tok.t.size + x.tok.u.size ≤ 500) ∧ Below w.heap.size w w'
theorem GreatB.mk {w : World} {l : List Val} (b : Bool) (h : b = false → ∀ x ∈ l, x.tok.t.size + x.tok.u.size ≤ 500) {w' : World} (hb : Below w.heap.size w w') : GreatB w l (.returned (.bool b)) w' := ⟨b, rfl, h, hb⟩
set_option maxRecDepth 100000 in
set_option maxHeartbeats 4000000 in
theorem great15_any (n : Nat) (w : World) (v : Value) (l : List Val) (h : VD w n v l) (hsz : ∀ x ∈ l, x.tok.t.size ≤ 281474976710656 ∧ x.tok.u.size ≤ 281474976710656) :
    Calls Tryz.prog 11 #[v] w (GreatB w l) := by
  have HD := Lib.hid h
  have HZ := Lib.hid hsz
  obtain ⟨a, cap, rfl, hcap, hl, hr⟩ := h.vs
  have HR := Lib.hid hr
  clear h hr hsz
  go_enter Tryz.func11, Tryz.ntmps11
  go_wp2_with fail
  go_loopw [4, 7] (fun _ iv wr => ∃ k : Nat, k ≤ l.length ∧ iv = .int .i64 k ∧ Hid (∀ x ∈ l.take k, x.tok.t.size + x.tok.u.size ≤ 500) ∧ Below w.heap.size w wr) (fun _ iv _ => l.length - (intOf iv).toNat)
  case atStart => exact ⟨0, by omega, rfl, Lib.hid (fun x hx => by simp at hx), Below.refl _ _⟩
  case round =>
    obtain ⟨k, hk, rfl, HS, hb⟩ := hrel
    by_cases hlt : k < l.length
    · have hne : l ≠ [] := by intro e; rw [e] at hlt; simp at hlt
      obtain ⟨bb, off, rfl, hbb, hcc⟩ := HR.out hne
      obtain ⟨x0, x1, x2, x3, x4, x5⟩ := Vs.cells (cellsX hb hbb hcc) k hlt
      obtain ⟨z1, z2⟩ := HZ.out _ (List.getElem_mem hlt)
      have hb1 := bNext hb (bAlloc1 wr (.cells #[.int .i64 l[k].tok.k, .string l[k].tok.t, .string l[k].tok.u, .bool l[k].tok.wh, .bool l[k].tok.fl, .slice l[k].ka l[k].kn l[k].kc] 26))
      have HT := Lib.hid (List.take_succ_eq_append_getElem hlt)
      obtain ⟨y, hy⟩ : ∃ y, l[k] = y := ⟨_, rfl⟩
      rw [hy] at x0 x1 x2 x3 x4 x5 hb1 z1 z2 HT
      have q0 : (0 : Int) ≤ (k : Int) := by omega
      have q1 : (k : Int) < (l.length : Int) := by omega
      clear hcc hy
      by_cases hs : y.tok.t.size + y.tok.u.size ≤ 500
      · have p1 : ¬ (500 : Int) < (y.tok.t.size : Int) + (y.tok.u.size : Int) := by omega
        have HS2 : Hid (∀ x ∈ l.take (k + 1), x.tok.t.size + x.tok.u.size ≤ 500) := Lib.hid (fun x hx => by
          rw [HT.out] at hx
          rcases List.mem_append.1 hx with hx | hx
          · exact HS.out x hx
          · rw [List.mem_singleton.1 hx]; exact hs)
        clear hs
        go_wp2_with fail
        go_roundw
        case rel => exact ⟨k + 1, by omega, by go_num, HS2, hb1⟩
        case measure => simp [intOf]; omega
      · have p1 : (500 : Int) < (y.tok.t.size : Int) + (y.tok.u.size : Int) := by omega
        clear hs
        go_wp2_with fail
        go_ret
        exact GreatB.mk _ (fun h => by cases h) hb1
    · have hke : k = l.length := by omega
      have q1 : ¬ (k : Int) < (l.length : Int) := by omega
      have HS2 : Hid (∀ x ∈ l, x.tok.t.size + x.tok.u.size ≤ 500) := Lib.hid (fun x hx => HS.out x (by rw [hke, List.take_length]; exact hx))
      clear hke
      go_wp2_with fail
      refine (Deep_any n _ _ l _ (HD.out.next hb)).mono ?_
      rintro e w2 ⟨b, rfl, hb2⟩
      have hB2 := bNext hb hb2
      cases b with
      | true =>
        go_wp2_with fail
        go_ret
        exact GreatB.mk _ (fun _ => HS2.out) hB2
      | false =>
        go_wp2_with fail
        refine (Count_any n _ _ l (HD.out.next hB2)).mono ?_
        rintro e w3 ⟨c, rfl, hb3⟩
        go_wp2_with fail
        go_ret
        exact GreatB.mk _ (fun _ => HS2.out) (bNext hB2 hb3)
set_option maxRecDepth 100000 in
set_option maxHeartbeats 4000000 in
theorem great16_any (n : Nat) (w : World) (v : Value) (l : List Val) (h : VD w n v l) (hsz : ∀ x ∈ l, x.tok.t.size ≤ 281474976710656 ∧ x.tok.u.size ≤ 281474976710656) :
    Calls Tryz.prog 24 #[v] w (GreatB w l) := by
  have HD := Lib.hid h
  have HZ := Lib.hid hsz
  obtain ⟨a, cap, rfl, hcap, hl, hr⟩ := h.vs
  have HR := Lib.hid hr
  clear h hr hsz
  go_enter Tryz.func24, Tryz.ntmps24
  go_wp2_with fail
  go_loopw [4, 7] (fun _ iv wr => ∃ k : Nat, k ≤ l.length ∧ iv = .int .i64 k ∧ Hid (∀ x ∈ l.take k, x.tok.t.size + x.tok.u.size ≤ 500) ∧ Below w.heap.size w wr) (fun _ iv _ => l.length - (intOf iv).toNat)
  case atStart => exact ⟨0, by omega, rfl, Lib.hid (fun x hx => by simp at hx), Below.refl _ _⟩
  case round =>
    obtain ⟨k, hk, rfl, HS, hb⟩ := hrel
    by_cases hlt : k < l.length
    · have hne : l ≠ [] := by intro e; rw [e] at hlt; simp at hlt
      obtain ⟨bb, off, rfl, hbb, hcc⟩ := HR.out hne
      obtain ⟨x0, x1, x2, x3, x4, x5⟩ := Vs.cells (cellsX hb hbb hcc) k hlt
      obtain ⟨z1, z2⟩ := HZ.out _ (List.getElem_mem hlt)
      have hb1 := bNext hb (bAlloc1 wr (.cells #[.int .i64 l[k].tok.k, .string l[k].tok.t, .string l[k].tok.u, .bool l[k].tok.wh, .bool l[k].tok.fl, .slice l[k].ka l[k].kn l[k].kc] 26))
      have HT := Lib.hid (List.take_succ_eq_append_getElem hlt)
      obtain ⟨y, hy⟩ : ∃ y, l[k] = y := ⟨_, rfl⟩
      rw [hy] at x0 x1 x2 x3 x4 x5 hb1 z1 z2 HT
      have q0 : (0 : Int) ≤ (k : Int) := by omega
      have q1 : (k : Int) < (l.length : Int) := by omega
      clear hcc hy
      by_cases hs : y.tok.t.size + y.tok.u.size ≤ 500
      · have p1 : ¬ (500 : Int) < (y.tok.t.size : Int) + (y.tok.u.size : Int) := by omega
        have HS2 : Hid (∀ x ∈ l.take (k + 1), x.tok.t.size + x.tok.u.size ≤ 500) := Lib.hid (fun x hx => by
          rw [HT.out] at hx
          rcases List.mem_append.1 hx with hx | hx
          · exact HS.out x hx
          · rw [List.mem_singleton.1 hx]; exact hs)
        clear hs
        go_wp2_with fail
        go_roundw
        case rel => exact ⟨k + 1, by omega, by go_num, HS2, hb1⟩
        case measure => simp [intOf]; omega
      · have p1 : (500 : Int) < (y.tok.t.size : Int) + (y.tok.u.size : Int) := by omega
        clear hs
        go_wp2_with fail
        go_ret
        exact GreatB.mk _ (fun h => by cases h) hb1
    · have hke : k = l.length := by omega
      have q1 : ¬ (k : Int) < (l.length : Int) := by omega
      have HS2 : Hid (∀ x ∈ l, x.tok.t.size + x.tok.u.size ≤ 500) := Lib.hid (fun x hx => HS.out x (by rw [hke, List.take_length]; exact hx))
      clear hke
      go_wp2_with fail
      refine (Deep_any n _ _ l _ (HD.out.next hb)).mono ?_
      rintro e w2 ⟨b, rfl, hb2⟩
      have hB2 := bNext hb hb2
      cases b with
      | true =>
        go_wp2_with fail
        go_ret
        exact GreatB.mk _ (fun _ => HS2.out) hB2
      | false =>
        go_wp2_with fail
        refine (Count_any n _ _ l (HD.out.next hB2)).mono ?_
        rintro e w3 ⟨c, rfl, hb3⟩
        go_wp2_with fail
        go_ret
        exact GreatB.mk _ (fun _ => HS2.out) (bNext hB2 hb3)
end Go.Proofs.YtpadcjcoafidgaaGreatDoor
/-! What the rows of this seat share: a world in which the listed variables lie as the program's text lays them. -/
namespace Go.Proofs.YtpadcjcoafidgaaGreatDoor
open Go.ChangeShapes Go.WideShapes Go.ChangeAt Go.RowKit

theorem ownKnob_none : ownKnob Tryz.prog.godebug = none := by kernel_rfl
def colourCells : List Value := (colourTbl.map fun p => [Value.string p.1, Value.string p.2]).flatten
theorem colourCells_at : ∀ i : Fin 8, colourCells[i.val * 2]? = some (.string (colourAt i.val).1) ∧ colourCells[i.val * 2 + 1]? = some (.string (colourAt i.val).2)
  | ⟨0, _⟩ => ⟨rfl, rfl⟩
  | ⟨1, _⟩ => ⟨rfl, rfl⟩
  | ⟨2, _⟩ => ⟨rfl, rfl⟩
  | ⟨3, _⟩ => ⟨rfl, rfl⟩
  | ⟨4, _⟩ => ⟨rfl, rfl⟩
  | ⟨5, _⟩ => ⟨rfl, rfl⟩
  | ⟨6, _⟩ => ⟨rfl, rfl⟩
  | ⟨7, _⟩ => ⟨rfl, rfl⟩
theorem coloursIn_of_laid {w : World} {l : List (String × DataW Unit)} (h : laidMet Tryz.prog l w) (hm : ("gouache/value.colours", Rows.laid_gouache_value_colours) ∈ l) : ColoursIn w := by
  obtain ⟨ty, fr, hh⟩ := var_of_laid h hm (g := 0) (t := 78) (by kernel_rfl) (by kernel_rfl) 5 (cs := colourCells) (by kernel_rfl)
  refine ⟨(Array.getElem?_eq_some_iff.1 hh).1, fun i hi => ?_⟩
  have := colourCells_at ⟨i, hi⟩
  simp only [World.cell?, hh]
  exact ⟨by simpa using this.1, by simpa using this.2⟩
theorem powIs_of_laid {w : World} {l : List (String × DataW Unit)} (h : laidMet Tryz.prog l w) (hm : ("internal/strconv.uint64pow10", Rows.laid_internal_strconv_uint64pow10) ∈ l) : Lib.TabIs Tryz.prog w "internal/strconv.uint64pow10" .u64 Lib.pow10Tab := by
  obtain ⟨ty, fr, hh⟩ := var_of_laid h hm (g := 4) (t := 200) (by kernel_rfl) (by kernel_rfl) 5 (cs := Lib.pow10Tab.map fun z => Value.int .u64 z) (by kernel_rfl)
  have hg : Tryz.prog.globalNamed "internal/strconv.uint64pow10" = some 4 := by kernel_rfl
  unfold Lib.TabIs World.var?
  rw [hg]
  simp [hh]
theorem base_of_laid {w : World} {l : List (String × DataW Unit)} (h : laidMet Tryz.prog l w) (hm : ("gouache/value.colours", Rows.laid_gouache_value_colours) ∈ l) (hp : ("internal/strconv.uint64pow10", Rows.laid_internal_strconv_uint64pow10) ∈ l) : Base w :=
  ⟨coloursIn_of_laid h hm, powIs_of_laid h hp⟩

/-- The cells of a variable, of its name, by the datum beside it. -/
noncomputable def cellsAs (g : Nat) (d : DataW Unit) : Array Value := ((plainAt Tryz.prog 8 (((Tryz.prog.globals[g]?).map (·.type)).getD 0) d).getD []).toArray
noncomputable def setVar (g : Nat) (d : DataW Unit) (h : Array Obj) : Array Obj := h.modify g fun
  | .cells _ t frozen => .cells (cellsAs g d) t frozen
  | o => o
/-- A world in which the listed variables lie as the program's text lays them. -/
noncomputable def laidWorld (os : Os) : World :=
  { World.holding Tryz.prog os ⟨#[], #[], []⟩ with heap := setVar 6 Rows.laid_unicode_utf8_acceptRanges (setVar 5 Rows.laid_unicode_utf8_first (setVar 2 Rows.laid_gouache_prop_shorts (setVar 0 Rows.laid_gouache_value_colours (setVar 4 Rows.laid_internal_strconv_uint64pow10 (setVar 7 Rows.laid_math_bits_deBruijn32tab (setVar 8 Rows.laid_math_bits_deBruijn64tab (setVar 1 Rows.laid_gouache_short_sides (World.holding Tryz.prog os ⟨#[], #[], []⟩).heap))))))) }
end Go.Proofs.YtpadcjcoafidgaaGreatDoor
/-! The arguments of this seat's laws, opened: texts, values with their kids, declarations; listed variables. -/
namespace Go.Proofs.YtpadcjcoafidgaaGreatDoor
open Go.RowKit Go.ChangeShapes Go.WideShapes Go.ChangeAt

section
variable {H : Type} {enc : TypeId × Value → H} {W : World} {base : Nat} {sp : Nat → Bool} {held : Bool}

theorem cells_string : Tryz.prog.cellsOf 9 = 1 := by kernel_rfl
theorem cells_val : Tryz.prog.cellsOf 26 = 6 := by kernel_rfl
theorem cells_tok : Tryz.prog.cellsOf 23 = 5 := by kernel_rfl
theorem cells_int : Tryz.prog.cellsOf 3 = 1 := by kernel_rfl
theorem cells_bool : Tryz.prog.cellsOf 4 = 1 := by kernel_rfl
theorem cells_vals : Tryz.prog.cellsOf 24 = 1 := by kernel_rfl
theorem bytes_val : Tryz.prog.bytesOf 26 = 72 := by kernel_rfl
theorem bytes_string : Tryz.prog.bytesOf 9 = 16 := by kernel_rfl
theorem laid_out : laidOutB Tryz.prog = true := by kernel_rfl
theorem trod_str1 {fuel : Nat} {v : Value} {x : DataW H × List MemPlace} (h : DataW.trod enc Tryz.prog W base sp held fuel 9 [v] = some x) : ∃ s : ByteArray, v = .string s ∧ x.1 = .lit (.string s.data.toList) := by
  obtain ⟨s, h1, rfl, -⟩ := DataW.trod_string Tryz.underlying9 h
  exact ⟨s, by simpa using h1, rfl⟩
theorem trod_int1 {fuel : Nat} {v : Value} {x : DataW H × List MemPlace} (h : DataW.trod enc Tryz.prog W base sp held fuel 3 [v] = some x) : ∃ n : Int, v = .int .i64 n := by
  obtain ⟨n, h1, -, -⟩ := DataW.trod_int Tryz.underlying3 h
  exact ⟨n, by simpa using h1⟩
theorem trod_bool1 {fuel : Nat} {v : Value} {x : DataW H × List MemPlace} (h : DataW.trod enc Tryz.prog W base sp held fuel 4 [v] = some x) : ∃ b : Bool, v = .bool b := by
  cases fuel with
  | zero => simp [DataW.trod] at h
  | succ n =>
    rw [DataW.trod_step] at h
    unfold DataW.trodStep at h
    simp only [Tryz.underlying4] at h
    split at h <;> simp_all
theorem size_toList (s : ByteArray) : s.data.toList.length = s.size := by rw [Array.length_toList]; rfl
/-- '[]string'. -/
theorem open_ss {fuel : Nat} {v : Value} {x : DataW H × List MemPlace} (h : DataW.trod enc Tryz.prog W base sp held fuel 42 [v] = some x) (hs : Small Tryz.prog 42 x.1) :
    ∃ l, Ss W v l ∧ l.length ≤ 140737488351232 ∧ ∀ s ∈ l, s.size ≤ 140737488351232 := by
  obtain ⟨n, v', rows, ds, -, e, hr, hl, hd, hx⟩ := open_elems Tryz.underlying42 (by rw [cells_string]; decide) h
  cases e
  have key : ∀ i, i < rows.length → ∃ s : ByteArray, rows[i]? = some [.string s] ∧ s.size ≤ 140737488351232 := by
    intro i hi
    obtain ⟨y, h1, h2⟩ := hx i rows[i] (List.getElem?_eq_getElem hi)
    have hlen := hr.len rows[i] (List.getElem_mem hi)
    rw [cells_string] at hlen
    obtain ⟨u, hu⟩ := List.length_eq_one_iff.1 hlen
    rw [hu] at h2
    obtain ⟨s, rfl, h3⟩ := trod_str1 h2
    refine ⟨s, by rw [List.getElem?_eq_getElem hi, hu], ?_⟩
    rcases hd with ⟨-, h0⟩ | ⟨rest, h0⟩
    · rw [h0] at hi; simp at hi
    · rw [h0] at hs
      have h4 := small_elem Tryz.underlying42 hs h1
      rw [h3] at h4
      have := small_string h4
      rwa [size_toList] at this
  obtain ⟨f, hf⟩ := Classical.axiomOfChoice (r := fun (i : Fin rows.length) (s : ByteArray) => rows[i.val]? = some [.string s] ∧ s.size ≤ 140737488351232) (fun i => key i.val i.isLt)
  have hlen : (List.ofFn f).length = rows.length := List.length_ofFn
  obtain ⟨a, cap, rfl, hcap, hc⟩ := hr.shape
  refine ⟨List.ofFn f, ⟨a, cap, by rw [hlen], by rw [hlen]; exact hcap, fun hne => ?_⟩, ?_, ?_⟩
  · obtain ⟨b, off, rfl, hb, hcell⟩ := hc (by intro e; exact hne (List.eq_nil_of_length_eq_zero (hlen.trans (by rw [e]; rfl))))
    refine ⟨b, off, rfl, hb, fun i hi => ?_⟩
    have hi' : i < rows.length := by rw [← hlen]; exact hi
    have h1 := hcell i 0 (.string (f ⟨i, hi'⟩)) (by rw [(hf ⟨i, hi'⟩).1]; rfl)
    rw [cells_string, Nat.mul_one, Nat.add_zero] at h1
    rw [h1, List.getElem_ofFn]
  · rw [hlen]
    rcases hd with ⟨-, h0⟩ | ⟨rest, h0⟩
    · rw [h0]; exact Nat.zero_le _
    · rw [h0] at hs
      have := small_len Tryz.underlying42 hs
      rw [bytes_string] at this
      omega
  · intro s hs'
    obtain ⟨i, rfl⟩ := List.mem_ofFn.1 hs'
    exact (hf i).2
set_option maxRecDepth 100000 in
theorem ss_of {r : Reach} {b0 : Nat} {v : Value} {d : DataW H} {ps : List MemPlace} (hval : Value.okWide Tryz.prog W r b0 42 v) (h : DataW.Trod enc Tryz.prog W base sp held 42 v d ps) (hs : Small Tryz.prog 42 d) : ∃ l, Ss W v l ∧ l.length ≤ 140737488351232 ∧ ∀ s ∈ l, s.size ≤ 140737488351232 := by
  obtain ⟨n, hn⟩ := h
  obtain ⟨a, len, cap, rfl⟩ := okWide_slice Tryz.underlying42 hval
  exact open_ss hn hs
theorem arr2 : Go.WideMaps.ArrKey Tryz.prog 43 3 2 := ⟨Tryz.underlying43, by kernel_rfl, cells_int, by kernel_rfl⟩
/-- A value's token is short enough. -/
def Val.Sm (x : Val) : Prop := x.tok.t.size ≤ 140737488351232 ∧ x.tok.u.size ≤ 140737488351232
theorem VD.up {w : World} : ∀ {n : Nat} {v : Value} {l : List Val}, VD w n v l → VD w (n + 1) v l
  | 0, _, _, h => h.elim
  | n + 1, v, l, ⟨h1, h2⟩ => ⟨h1, fun x hx => by
    obtain ⟨l', h⟩ := h2 x hx
    exact ⟨l', VD.up h⟩⟩
set_option maxRecDepth 100000 in
/-- A token's cells. -/
theorem open_tok {fuel : Nat} {cs : List Value} {x : DataW H × List MemPlace} (h : DataW.trod enc Tryz.prog W base sp held fuel 23 cs = some x) (hs : Small Tryz.prog 23 x.1) :
    ∃ t : Tok, cs = t.row ∧ t.t.size ≤ 140737488351232 ∧ t.u.size ≤ 140737488351232 := by
  obtain ⟨n, ds, -, hl, hx, -, hf⟩ := open_fields Tryz.underlying23 h
  rw [cells_tok] at hl
  obtain ⟨c0, c1, c2, c3, c4, rfl⟩ : ∃ a b c d e, cs = [a, b, c, d, e] := by
    match cs, hl with
    | [a, b, c, d, e], _ => exact ⟨a, b, c, d, e, rfl⟩
  rw [hx] at hs
  obtain ⟨y0, -, h0⟩ := hf 0 _ rfl
  obtain ⟨y1, d1, h1⟩ := hf 1 _ rfl
  obtain ⟨y2, d2, h2⟩ := hf 2 _ rfl
  obtain ⟨y3, -, h3⟩ := hf 3 _ rfl
  obtain ⟨y4, -, h4⟩ := hf 4 _ rfl
  simp only [cells_int, cells_string, cells_bool, List.drop_zero, List.drop_succ_cons, List.take_succ_cons, List.take_zero] at h0 h1 h2 h3 h4
  obtain ⟨k, rfl⟩ := trod_int1 h0
  obtain ⟨s1, rfl, e1⟩ := trod_str1 h1
  obtain ⟨s2, rfl, e2⟩ := trod_str1 h2
  obtain ⟨b3, rfl⟩ := trod_bool1 h3
  obtain ⟨b4, rfl⟩ := trod_bool1 h4
  have m1 := small_field Tryz.underlying23 hs (i := 1) rfl d1
  have m2 := small_field Tryz.underlying23 hs (i := 2) rfl d2
  rw [e1] at m1
  rw [e2] at m2
  have m1 := small_string m1
  have m2 := small_string m2
  rw [size_toList] at m1 m2
  exact ⟨⟨k, s1, s2, b3, b4⟩, rfl, m1, m2⟩
set_option maxRecDepth 100000 in
/-- A value's cells; '[]api.Value', to whatever depth. -/
theorem open_vals : ∀ (fuel : Nat) (v : Value) (x : DataW H × List MemPlace), DataW.trod enc Tryz.prog W base sp held fuel 24 [v] = some x → Small Tryz.prog 24 x.1 →
    ∃ l, VD W fuel v l ∧ ∀ y ∈ l, y.Sm
  | 0, _, _, h, _ => by simp [DataW.trod] at h
  | 1, v, x, h, hs => by
    obtain ⟨n, v', rows, ds, hn, e, hr, hl, hd, hx⟩ := open_elems Tryz.underlying24 (by rw [cells_val]; decide) h
    obtain rfl : n = 0 := by omega
    cases e
    have h0 : rows = [] := by
      cases rows with
      | nil => rfl
      | cons r rows =>
        obtain ⟨y, -, h2⟩ := hx 0 r rfl
        simp [DataW.trod] at h2
    subst h0
    obtain ⟨a, cap, rfl, hcap, -⟩ := hr.shape
    exact ⟨[], ⟨⟨a, cap, rfl, hcap, Nat.zero_le _, fun h => absurd rfl h⟩, fun x hx => by cases hx⟩, fun y hy => by cases hy⟩
  | fuel + 2, v, x, h, hs => by
    obtain ⟨n, v', rows, ds, hn, e, hr, hl, hd, hx⟩ := open_elems Tryz.underlying24 (by rw [cells_val]; decide) h
    obtain rfl : n = fuel + 1 := by omega
    cases e
    have key : ∀ i, i < rows.length → ∃ y : Val, rows[i]? = some y.row ∧ y.Sm ∧ ∃ l', VD W (fuel + 1) y.kids l' := by
      intro i hi
      obtain ⟨y, h1, h2⟩ := hx i rows[i] (List.getElem?_eq_getElem hi)
      have hsy : Small Tryz.prog 26 y.1 := by
        rcases hd with ⟨-, h0⟩ | ⟨rest, h0⟩
        · rw [h0] at hi; simp at hi
        · rw [h0] at hs
          exact small_elem Tryz.underlying24 hs h1
      obtain ⟨n, ds', hn, hl6, hx', -, hf⟩ := open_fields Tryz.underlying26 h2
      obtain rfl : n = fuel := by omega
      rw [cells_val] at hl6
      rw [hx'] at hsy
      obtain ⟨y0, d0, h0⟩ := hf 0 _ rfl
      obtain ⟨y1, d1, h1'⟩ := hf 1 _ rfl
      have s0 := small_field Tryz.underlying26 hsy (i := 0) rfl d0
      have s1 := small_field Tryz.underlying26 hsy (i := 1) rfl d1
      obtain ⟨c0, c1, c2, c3, c4, c5, hrow⟩ : ∃ a b c d e f, rows[i] = [a, b, c, d, e, f] := by
        generalize rows[i] = r at hl6
        match r, hl6 with
        | [a, b, c, d, e, f], _ => exact ⟨a, b, c, d, e, f, rfl⟩
      simp only [hrow, cells_tok, cells_vals, List.drop_zero, List.drop_succ_cons, List.take_succ_cons, List.take_zero] at h0 h1'
      obtain ⟨t, ht, m1, m2⟩ := open_tok h0 s0
      obtain ⟨l', hV, -⟩ := open_vals n c5 y1 h1' s1
      have hV1 := hV.vs
      obtain ⟨a, cap, e5, -⟩ := hV1
      refine ⟨⟨t, a, l'.length, cap⟩, ?_, ⟨m1, m2⟩, l', ?_⟩
      · rw [List.getElem?_eq_getElem hi, hrow, e5]
        show _ = some (t.row ++ _)
        rw [← ht]
        rfl
      · show VD W (n + 1) (.slice a l'.length cap) l'
        rw [← e5]
        exact hV.up
    obtain ⟨f, hf⟩ := Classical.axiomOfChoice (r := fun (i : Fin rows.length) (y : Val) => rows[i.val]? = some y.row ∧ y.Sm ∧ ∃ l', VD W (fuel + 1) y.kids l') (fun i => key i.val i.isLt)
    have hlen : (List.ofFn f).length = rows.length := List.length_ofFn
    obtain ⟨a, cap, rfl, hcap, hc⟩ := hr.shape
    refine ⟨List.ofFn f, ⟨⟨a, cap, by rw [hlen], by rw [hlen]; exact hcap, ?_, fun hne => ?_⟩, fun y hy => ?_⟩, fun y hy => ?_⟩
    · rw [hlen]
      rcases hd with ⟨-, h0⟩ | ⟨rest, h0⟩
      · rw [h0]; exact Nat.zero_le _
      · rw [h0] at hs
        have := small_len Tryz.underlying24 hs
        rw [bytes_val] at this
        omega
    · obtain ⟨b, off, rfl, hb, hcell⟩ := hc (by intro e; exact hne (List.eq_nil_of_length_eq_zero (hlen.trans (by rw [e]; rfl))))
      refine ⟨b, off, rfl, hb, fun i hi j u hu => ?_⟩
      have hi' : i < rows.length := by rw [← hlen]; exact hi
      rw [List.getElem_ofFn] at hu
      have h1 := hcell i j u (by rw [(hf ⟨i, hi'⟩).1]; exact hu)
      rw [cells_val] at h1
      exact h1
    · obtain ⟨i, rfl⟩ := List.mem_ofFn.1 hy
      exact (hf i).2.2
    · obtain ⟨i, rfl⟩ := List.mem_ofFn.1 hy
      exact (hf i).2.1
end
theorem sideCells_at : ∀ (a : Fin 4) (b : Fin 4), (sidesTbl.map (Value.int .i64))[a.val * 4 + b.val]? = some (.int .i64 (sideAt a.val b.val)) := by
  intro a b
  have h : a.val * 4 + b.val < sidesTbl.length := by
    have := a.isLt
    have := b.isLt
    show a.val * 4 + b.val < 16
    omega
  unfold sideAt
  rw [List.getElem?_map, List.getElem?_eq_getElem h]
  rfl
theorem sidesIn_of_laid {w : World} {l : List (String × DataW Unit)} (h : laidMet Tryz.prog l w) (hm : ("gouache/short.sides", Rows.laid_gouache_short_sides) ∈ l) : SidesIn w := by
  obtain ⟨ty, fr, hh⟩ := var_of_laid h hm (g := 1) (t := 103) (by kernel_rfl) (by kernel_rfl) 5 (cs := sidesTbl.map (Value.int .i64)) (by kernel_rfl)
  refine ⟨(Array.getElem?_eq_some_iff.1 hh).1, fun a b ha hb => ?_⟩
  have := sideCells_at ⟨a, ha⟩ ⟨b, hb⟩
  simp only [World.cell?, hh]
  simpa using this
end Go.Proofs.YtpadcjcoafidgaaGreatDoor
/-! gouachelaw16.ShortJoins: whatever the name, the texts and the numbers, it returns true and changes nothing. Condition: the listed tables hold what the program's text lays (the card ties that). -/
namespace Go.Proofs.YtpadcjcoafidgaaGreatDoor.shortJoins
open Go.ChangeShapes Go.WideShapes Go.ChangeAt Go.RowKit

set_option maxRecDepth 100000 in
/-- WHAT THE WALK GIVES, FOR EVERY ARGUMENT. -/
theorem contract (H : Type) (enc : TypeId × Value → H) (W : World) (base : Nat) (args : Array Value) (ds gs : List (DataW H)) (before : List MemPlace)
    (hval : ∀ (j : Nat) t v, Tryz.f5.params[j]? = some t → args[j]? = some v → Value.okWide Tryz.prog W .any base t v)
    (hW : DataW.Whole enc Tryz.prog Tryz.f5.params.toList Rows.shortJoinsSpec.vars false W args.toList ds gs before)
    (hsz : (DataW.weightsEach Tryz.prog [9, 42, 43] ds).all (· ≤ reachBytes) = true) (hL : laidMetH Tryz.prog Rows.shortJoinsRow.laid W) :
    Calls Tryz.prog 5 args W fun e W' => ∃ v, e = .returned v ∧ Rows.shortJoinsSpec.post enc Tryz.prog Tryz.f5 false true false false W args v W' := by
  have hW' := hW
  have hlt := hW.lt
  obtain ⟨p, q, hA0, hV, rfl, hfz, hnd⟩ := hW
  have hA : DataW.TrodAll enc Tryz.prog W 0 (fun _ => true) true Tryz.f5.params.toList args.toList ds p := hA0
  have hA1 := hA0
  rw [Tryz.params5] at hA hval
  obtain ⟨v0, v1, v2, d0, d1, d2, p0, p1, p2, rfl, rfl, rfl, h0, h1, h2⟩ := trodAll_three hA
  obtain ⟨rfl, rfl⟩ := trodVars_none hV
  have s0 : Small Tryz.prog 9 d0 := small_arg hsz (j := 0) rfl rfl
  have s1 : Small Tryz.prog 42 d1 := small_arg hsz (j := 1) rfl rfl
  have s2 : Small Tryz.prog 43 d2 := small_arg hsz (j := 2) rfl rfl
  obtain ⟨s, rfl, rfl, -, -⟩ := Go.ChangeMaps.open_string Tryz.underlying9 (hval 0 9 v0 rfl rfl) h0
  have hs0 := small_string s0
  rw [size_toList] at hs0
  obtain ⟨l, hl, hl2, hl3⟩ := ss_of (hval 1 42 v1 rfl rfl) h1 s1
  obtain ⟨n, i, rfl, -, -, -⟩ := Go.WideMaps.open_pair arr2 Tryz.underlying3 (hval 2 43 v2 rfl rfl) h2
  clear hA0
  simp only [List.append_nil] at hW' hlt
  have hB : Base16 W := ⟨base_of_laid hL (List.Mem.tail _ (List.Mem.tail _ (List.Mem.tail _ (List.Mem.tail _ (List.Mem.tail _ (List.Mem.head _)))))) (List.Mem.tail _ (List.Mem.tail _ (List.Mem.head _))), shortsIn_of_laid hL (List.Mem.tail _ (List.Mem.tail _ (List.Mem.tail _ (List.Mem.tail _ (List.Mem.head _))))), sidesIn_of_laid hL (List.Mem.tail _ (List.Mem.tail _ (List.Mem.tail _ (List.Mem.tail _ (List.Mem.tail _ (List.Mem.tail _ (List.Mem.head _)))))))⟩
  refine (shortJoins_walk W hB s v1 l hl (by omega) (by omega) (fun s hs => Nat.le_trans (hl3 s hs) (by decide)) n i).mono fun e W' ⟨he, hg⟩ => ?_
  subst he
  refine ⟨_, rfl, _, _, _, [], (p0 ++ p1 ++ p2), [], hW', ?_, ?_, ?_, hg.frame _, fun h => by cases h⟩
  · exact trodAll_mk1 (shut_bool Tryz.underlying4 true)
  · refine trodAll_below laid_out hg (fun t ht => ?_) hA1 hlt
    rw [Tryz.params5] at ht
    simp only [List.mem_cons, List.not_mem_nil, or_false] at ht
    rcases ht with rfl | rfl | rfl
    all_goals exact ⟨by kernel_rfl, of_decide_eq_true (by kernel_rfl)⟩
  · rfl

set_option maxRecDepth 100000 in
theorem met (os : Os) (args : Array Value) : laidMet Tryz.prog Rows.shortJoinsRow.laid ((laidWorld os).forCall (fun _ _ => 0) ⟨#[], args, []⟩).memory :=
  laidMet_of_run' 8 (by kernel_rfl) (by kernel_rfl)
theorem reads (os : Os) {H : Type} (enc : TypeId × Value → H) : ∃ places, DataW.whole enc Tryz.prog ((laidWorld os).forCall (fun _ _ => 0) ⟨#[], #[.string ⟨#[]⟩, .slice none 0 0, .agg #[.int .i64 0, .int .i64 0]], []⟩).memory Tryz.f5.params.toList Rows.shortJoinsSpec.vars false (#[.string ⟨#[]⟩, .slice none 0 0, .agg #[.int .i64 0, .int .i64 0]] : Array Value).toList 8 = some ([.lit (.string []), .nil, .agg [.lit (.int .i64 0), .lit (.int .i64 0)]], [], places) :=
  ⟨[], by kernel_rfl⟩

set_option maxRecDepth 100000 in
theorem lifted (os : Os) (started : os.Started) (H : Type) (enc : TypeId × Value → H) (F : Stop.Interp) :
    ReturnsInHanded {} Tryz.checked os 5 .any ((OpenSpec.ofChange Rows.shortJoinsSpec).preRow enc Tryz.prog Tryz.f5 Rows.shortJoinsRow.domain false Rows.shortJoinsRow.laid) (((OpenSpec.ofChange Rows.shortJoinsSpec).at F).post enc Tryz.prog Tryz.f5 false true false false) := by
  obtain ⟨places, hx⟩ := reads os enc
  refine returnsInHanded_of_row (C := Tryz.checked) (s := OpenSpec.ofChange Rows.shortJoinsSpec) ownKnob_none started (by kernel_rfl) Tryz.func5
    (witness_row_at (enc := enc) (C := Tryz.checked) false (laidWorld os) #[.string ⟨#[]⟩, .slice none 0 0, .agg #[.int .i64 0, .int .i64 0]] rfl (by kernel_rfl) (by kernel_rfl) (by kernel_rfl)
      (OpenSpec.preRow_of_cond 8 hx (by kernel_rfl) (fun k hk => by cases hk) (by kernel_rfl) (met os _))) ?_
  intro W base args ds gs before hval hW _ _ hsz hL _ _
  have hg : gs = [] := by
    obtain ⟨p, q, _, hV, _⟩ := hW
    exact (trodVars_none hV).1
  subst hg
  have hsz' : (DataW.weightsEach Tryz.prog [9, 42, 43] ds).all (· ≤ reachBytes) = true := by rw [List.append_nil] at hsz; exact hsz
  exact contract H enc W base args ds [] before hval hW hsz' hL

theorem said : Rows.ShortJoinsSaid :=
  OpenClaim.holds_of_cond 5 Tryz.f5 rfl rfl rfl rfl rfl rfl rfl ⟨rfl, rfl, rfl, rfl, rfl⟩ rfl rfl rfl rfl rfl (by kernel_rfl) Tryz.func5 (by kernel_rfl)
    (of_decide_eq_true (by kernel_rfl)) (by unfold Func.isWrapper; first | (rw [if_pos (by decide +kernel)]; kernel_rfl) | (rw [if_neg (by decide +kernel)]; exact ⟨rfl, rfl⟩))
    (fun os started H enc _ F => by rw [OpenClaim.pre_eq_preRow]; exact lifted os started H enc F)

/-- No parameter wants a stand-in; the program's own looks are off: what the card asks. -/
theorem plain (f : FuncId) (fn : Func) (hf : Tryz.pinned.checked.prog.funcNamed "gouache/gouachelaw16.ShortJoins" = some f) (hfn : Tryz.pinned.checked.prog.funcs[f]? = some fn) :
    false = Tryz.pinned.checked.prog.looks [] ∧ ∀ (j : Nat) t, fn.params[j]? = some t → Tryz.pinned.checked.prog.wantsStandIn t = false := by
  obtain rfl : f = 5 := Option.some.inj ((show Tryz.prog.funcNamed "gouache/gouachelaw16.ShortJoins" = some 5 by kernel_rfl).symm.trans hf) |>.symm
  obtain rfl : fn = Tryz.f5 := (Option.some.inj (Tryz.func5.symm.trans hfn)).symm
  refine ⟨by kernel_rfl, fun j t ht => ?_⟩
  rw [Tryz.params5] at ht
  have ht' : t = 9 ∨ t = 42 ∨ t = 43 := by simpa using Array.mem_of_getElem? ht
  rcases ht' with rfl | rfl | rfl
  · exact (show Tryz.prog.wantsStandIn 9 = false by kernel_rfl)
  · exact (show Tryz.prog.wantsStandIn 42 = false by kernel_rfl)
  · exact (show Tryz.prog.wantsStandIn 43 = false by kernel_rfl)

/-- THE CARD. -/
theorem card : Rows.ShortJoinsCardSaid :=
  Claim7.holds_tied_plain_at .later [] _ _ _ _ said (fun _ h => by cases h) (by kernel_rfl) (fun _ h => by cases h) shortJoins_row_tie rfl ⟨rfl, rfl⟩ (by kernel_rfl) rfl plain (by kernel_rfl)
end Go.Proofs.YtpadcjcoafidgaaGreatDoor.shortJoins
