/- token.Int. -/
import Derived.Test.YtpadcjcoafidgaaGreatDoorIdent
import Derived.Test.YtpadcjcoafidgaaGreatDoorShelf
import Derived.Laws.RangeAny
namespace Go.Proofs.YtpadcjcoafidgaaGreatDoor
open Go.RowKit

/-- No byte is such, if no rune is, where all runes beyond ASCII are such. -/
theorem idx_from (p : Nat → Bool) (hp : ∀ r, 128 ≤ r → p r = true) (s : ByteArray) : ∀ (f pos : Nat), s.size ≤ pos + f → (Lib.idxFuncFrom p true s f pos < 0 ↔ ∀ i (h : i < s.size), pos ≤ i → p (s[i]'h).toNat = false)
  | 0, pos, hf => by
    simp only [Lib.idxFuncFrom]
    exact ⟨fun _ i h hi => by omega, fun _ => by omega⟩
  | f + 1, pos, hf => by
    simp only [Lib.idxFuncFrom]
    by_cases hlt : pos < s.size
    · rw [if_pos hlt]
      by_cases ha : (s[pos]'hlt).toNat < 128
      · rw [decode_ascii s pos hlt ha]
        have ih := idx_from p hp s f (pos + 1) (by omega)
        cases hq : p (s[pos]'hlt).toNat
        · simp only [Bool.false_eq_true, if_false]
          rw [ih]
          refine ⟨fun h i hi hpi => ?_, fun h i hi hpi => h i hi (by omega)⟩
          by_cases he : i = pos
          · subst he; exact hq
          · exact h i hi (by omega)
        · simp only [if_true]
          refine ⟨fun h => by omega, fun h => ?_⟩
          have := h pos hlt (Nat.le_refl _)
          rw [hq] at this
          cases this
      · have hh := decode_high s pos hlt (by omega)
        rw [hp _ hh.1, if_pos rfl]
        refine ⟨fun h => by omega, fun h => ?_⟩
        have := h pos hlt (Nat.le_refl _)
        rw [hp _ (by omega)] at this
        cases this
    · rw [if_neg hlt]
      exact ⟨fun _ i h hi => by omega, fun _ => by omega⟩
theorem idx_all (p : Nat → Bool) (hp : ∀ r, 128 ≤ r → p r = true) (s : ByteArray) : Lib.idxFunc p true s < 0 ↔ s.data.toList.any (fun b => p b.toNat) = false := by
  unfold Lib.idxFunc
  rw [idx_from p hp s s.size 0 (by omega), List.any_eq_false]
  constructor
  · intro h b hb
    obtain ⟨i, hi, rfl⟩ := List.getElem_of_mem hb
    have := h i (by rw [Array.length_toList] at hi; exact hi) (Nat.zero_le _)
    rw [Array.getElem_toList]
    exact fun e => by rw [show s.data[i] = s[i]'(by rw [Array.length_toList] at hi; exact hi) from rfl] at e; rw [this] at e; cases e
  · intro h i hi _
    have hi' : i < s.data.toList.length := by rw [Array.length_toList]; exact hi
    have := h (s.data.toList[i]'hi') (List.getElem_mem _)
    rw [Array.getElem_toList] at this
    cases hq : p (s[i]'hi).toNat with
    | false => rfl
    | true => exact absurd hq this
def notDig (r : Nat) : Bool := !(isIn 48 57 (r : Int))
theorem notDig_high (r : Nat) (h : 128 ≤ r) : notDig r = true := by
  unfold notDig isIn
  have h2 : ¬ ((r : Int) ≤ 57) := by omega
  simp [h2]
theorem notDig_any (x : Nat) (W : World) : Calls Tryz.prog 100 #[.int .i32 (x : Int)] W fun e w' => e = .returned (.bool (notDig x)) ∧ Below W.heap.size W w' := by
  go_enter Tryz.func100, Tryz.ntmps100
  go_wp2_with fail
  refine (Digit_any _ _).mono ?_
  rintro e w1 ⟨rfl, hb1⟩
  go_wp2_with fail
  go_ret
  exact ⟨rfl, hb1⟩
/-- A leading sign cut off. -/
def tp (s : ByteArray) (c : UInt8) : ByteArray := ⟨(Lib.trimPrefix s.data.toList [c]).toArray⟩
def decStep (n : Int) (b : UInt8) : Int := min (10 * n + ((b.toNat : Int) - 48)) 1000000
def decN (l : List UInt8) : Int := l.foldl decStep 0
def anyBad (s : ByteArray) : Bool := s.data.toList.any (fun b => notDig b.toNat)
/-- What stands for the digits. -/
def intDigs (t : ByteArray) : ByteArray := if (tp t 43).size < t.size then tp t 43 else tp (tp t 43) 45
def intVal (t : ByteArray) : Int := if eqB (intDigs t) (tp t 43) = true then decN (intDigs t).data.toList else - decN (intDigs t).data.toList
def intOk (t : Tok) : Bool := t.wh && decide (10 ≤ t.k) && decide (t.k ≤ 12) && !(eqB (intDigs t.t) noStr) && !(anyBad (intDigs t.t))
def intRes (x : Tok) : Value := .tuple #[.int .i64 (if intOk x = true then intVal x.t else 0), .bool (intOk x)]
theorem intRes_no {x : Tok} (h : intOk x = false) : intRes x = .tuple #[.int .i64 0, .bool false] := by unfold intRes; rw [h]; rfl
theorem intRes_yes {x : Tok} {m : Int} (h : intOk x = true) (hm : intVal x.t = m) : intRes x = .tuple #[.int .i64 m, .bool true] := by unfold intRes; rw [h, hm]; rfl
theorem dec_range (l : List UInt8) (h : l.any (fun b => notDig b.toNat) = false) : 0 ≤ decN l ∧ decN l ≤ 1000000 := by
  have key : ∀ (l : List UInt8) (n : Int), 0 ≤ n → n ≤ 1000000 → l.any (fun b => notDig b.toNat) = false → 0 ≤ l.foldl decStep n ∧ l.foldl decStep n ≤ 1000000 := by
    intro l
    induction l with
    | nil => intro n h0 h1 _; exact ⟨h0, h1⟩
    | cons b l ih =>
      intro n h0 h1 h
      rw [List.any_cons, Bool.or_eq_false_iff] at h
      have hb : 48 ≤ (b.toNat : Int) ∧ (b.toNat : Int) ≤ 57 := by have := h.1; simpa [notDig, isIn] using this
      refine ih _ ?_ ?_ h.2 <;> unfold decStep <;> omega
  exact key l 0 (by omega) (by omega) h
theorem decN_snoc (l : List UInt8) (k : Nat) (h : k < l.length) : decN (l.take (k + 1)) = decStep (decN (l.take k)) l[k] := by
  unfold decN
  rw [List.take_succ_eq_append_getElem h, List.foldl_append]
  rfl
theorem any_take (l : List UInt8) (p : UInt8 → Bool) (k : Nat) (h : l.any p = false) : (l.take k).any p = false := by
  rw [List.any_eq_false] at h ⊢
  exact fun x hx => h x (List.mem_of_mem_take hx)

set_option maxRecDepth 100000 in
set_option maxHeartbeats 4000000 in
theorem int_good (k : Int) (t u : ByteArray) (fl : Bool) (h2 : 10 ≤ k) (h3 : k ≤ 12) (w : World) :
    Calls Tryz.prog 64 #[.agg #[.int .i64 k, .string t, .string u, .bool true, .bool fl]] w fun e w' => e = .returned (intRes ⟨k, t, u, true, fl⟩) ∧ Below w.heap.size w w' := by
  have h2' : ¬ k < 10 := by omega
  have h3' : ¬ 12 < k := by omega
  have HBX : Below w.heap.size w (w.alloc (Obj.cells #[Value.int IntKind.i64 k, Value.string t, Value.string u, Value.bool true, Value.bool fl] 23)) := bAlloc1 w _
  go_enter Tryz.func64, Tryz.ntmps64
  go_wp2_with fail
  refine (Tryz.strings_TrimPrefix t ⟨#[43]⟩ _).mono ?_
  rintro e w1 ⟨rfl, rfl⟩
  obtain ⟨s1, hs1⟩ : ∃ s1, tp t 43 = s1 := ⟨_, rfl⟩
  rw [show (⟨(Lib.trimPrefix t.data.toList (⟨#[43]⟩ : ByteArray).data.toList).toArray⟩ : ByteArray) = s1 from hs1]
  have hs1 := Lib.hid hs1
  go_wp2_with fail
  refine (Tryz.strings_TrimPrefix s1 ⟨#[45]⟩ _).mono ?_
  rintro e w1 ⟨rfl, rfl⟩
  obtain ⟨d1, hd1⟩ : ∃ d1, tp s1 45 = d1 := ⟨_, rfl⟩
  rw [show (⟨(Lib.trimPrefix s1.data.toList (⟨#[45]⟩ : ByteArray).data.toList).toArray⟩ : ByteArray) = d1 from hd1]
  by_cases hlt : s1.size < t.size
  · have HD : Hid (intDigs t = s1) := Lib.hid (by unfold intDigs; rw [hs1.out, if_pos hlt])
    have hlt' : (s1.size : Int) < (t.size : Int) := by omega
    clear hd1 hlt
    have HOK : Hid (intOk ⟨k, t, u, true, fl⟩ = (!(eqB s1 noStr) && !(anyBad s1))) := Lib.hid (by unfold intOk; simp only [HD.out, Bool.true_and]; rw [decide_eq_true h2, decide_eq_true h3]; simp)
    by_cases hd : s1 = noStr
    · have HV : Hid (intOk ⟨k, t, u, true, fl⟩ = false) := Lib.hid (by rw [HOK.out, (eqB_iff s1 noStr).2 hd]; rfl)
      have he1 : s1.toList = [] := by rw [hd, noStr, ByteArray.toList_eq]
      clear hd
      go_wp2_with fail
      refine bodyPost_ret (v := .tuple #[.int .i64 0, .bool false]) (by simp [results, Tryz.results64, go_sem]) rfl ⟨by rw [intRes_no HV.out], HBX⟩
    · have hq : eqB s1 noStr = false := by
        cases hq : eqB s1 noStr with
        | false => rfl
        | true => exact absurd ((eqB_iff s1 noStr).1 hq) hd
      have HQ := Lib.hid hq
      have he1 : ¬ (s1.toList = []) := fun h => hd (bytes_ext (by rw [h, noStr, ByteArray.toList_eq]))
      have he2 : s1.toList.isEmpty = false := by cases hl : s1.toList with
        | nil => exact absurd hl he1
        | cons a l => rfl
      clear hd hq
      have hpg : PredGrows Tryz.prog 100 #[] notDig (w.alloc (Obj.cells #[Value.int IntKind.i64 k, Value.string t, Value.string u, Value.bool true, Value.bool fl] 23)) := fun W x _ _ => notDig_any x W
      go_wp2_with fail
      refine (Tryz.strings_IndexFunc_grows 100 #[] (fun _ _ => rfl) notDig s1 _ hpg).mono ?_
      rintro e w3 ⟨rfl, hb3⟩
      have hidx := idx_all notDig notDig_high s1
      obtain ⟨n, hn⟩ : ∃ n, Lib.idxFunc notDig true s1 = n := ⟨_, rfl⟩
      rw [hn] at hidx ⊢
      have HB3 := bNext HBX hb3
      clear hb3 HBX hpg hn
      cases hab : anyBad s1
      · have hn0 : n < 0 := hidx.2 hab
        have hn1 : ¬ 0 ≤ n := by omega
        have HV : Hid (intOk ⟨k, t, u, true, fl⟩ = true) := Lib.hid (by rw [HOK.out, HQ.out, hab]; rfl)
        have HA := Lib.hid hab
        clear hidx hab
        go_wp2_with fail
        have hk0 := World.iter_heap w3 s1 0
        have hbI : Below w.heap.size w (w3.iter s1 0) := HB3.trans ((bAlloc1 w3 _).mono HB3.size)
        have hw3 := HB3.size
        clear HB3
        go_loopw [6, 8] (fun nv _ wr => ∃ pos : Nat, pos ≤ s1.size ∧ nv = .int .i64 (decN (s1.data.toList.take pos)) ∧ wr.heap[w3.heap.size]? = some (.stringIter s1 pos) ∧ Below w.heap.size w wr)
          (fun _ _ wr => s1.size - wr.iterPos w3.heap.size)
        case atStart => exact ⟨0, Nat.zero_le _, rfl, hk0, hbI⟩
        case round =>
          obtain ⟨pos, hps, rfl, hk, hb⟩ := hrel
          clear hk0 hbI
          have hdl : s1.data.toList.length = s1.size := by rw [Array.length_toList]; rfl
          obtain ⟨r0, r1⟩ := dec_range (s1.data.toList.take pos) (any_take _ _ _ HA.out)
          by_cases hp : pos < s1.size
          · have hc0 : s1.data.toList[pos]'(by omega) = s1[pos]'hp := by rw [Array.getElem_toList]; rfl
            have hcb : notDig (s1[pos]'hp).toNat = false := by
              have := (List.any_eq_false.1 HA.out) _ (List.getElem_mem (show pos < s1.data.toList.length by omega))
              rw [hc0] at this
              simpa using this
            have hc1 : 48 ≤ ((s1[pos]'hp).toNat : Int) ∧ ((s1[pos]'hp).toNat : Int) ≤ 57 := by simpa [notDig, isIn] using hcb
            have hnext : ∀ ty, (Instr.next (.pointer (some ⟨w3.heap.size, 0, none⟩)) true ty).run Tryz.prog wr = _ := fun ty => Lib.run_next_ascii_at wr w3.heap.size s1 pos ty hk hp (by omega)
            have hk1 := Lib.iterAt_heap wr w3.heap.size s1 pos (pos + 1) hk
            have hb1 : Below w.heap.size w (wr.iterAt w3.heap.size s1 (pos + 1)) := Lib.below_iterAt hb hw3 s1 (pos + 1)
            have hmu : wr.iterPos w3.heap.size = pos := by simp [World.iterPos, hk]
            have hsn := decN_snoc s1.data.toList pos (by omega)
            rw [hc0] at hsn
            unfold decStep at hsn
            generalize wr.iterAt w3.heap.size s1 (pos + 1) = W1 at hnext hk1 hb1
            have HM := Lib.hid hmu
            clear hk hmu hb hcb hc0
            obtain ⟨c, hc⟩ : ∃ c : Int, ((s1[pos]'hp).toNat : Int) = c := ⟨_, rfl⟩
            obtain ⟨m, hm⟩ : ∃ m, decN (s1.data.toList.take pos) = m := ⟨_, rfl⟩
            rw [hc] at hnext hc1 hsn
            rw [hm] at hsn r0 r1 ⊢
            have HS := Lib.hid hsn
            clear hsn hc hm
            obtain ⟨hc1, hc2⟩ := hc1
            have ww1 : IntKind.i64.wrap (10 * m) = 10 * m := Go.IntWalk.i64_in _ (by omega)
            have ww2 : IntKind.i32.wrap (c - 48) = c - 48 := Go.IntWalk.i32_in _ (by omega)
            have ww3 : IntKind.i64.wrap (c - 48) = c - 48 := Go.IntWalk.i64_in _ (by omega)
            have ww4 : IntKind.i64.wrap (10 * m + (c - 48)) = 10 * m + (c - 48) := Go.IntWalk.i64_in _ (by omega)
            go_wp2_with fail
            go_roundw
            case rel => exact ⟨pos + 1, by omega, by rw [HS.out], hk1, hb1⟩
            case measure =>
              have hmu1 : W1.iterPos w3.heap.size = pos + 1 := by simp [World.iterPos, hk1]
              rw [HM.out, hmu1]; omega
          · obtain rfl : pos = s1.size := by omega
            have hnext : ∀ ty, (Instr.next (.pointer (some ⟨w3.heap.size, 0, none⟩)) true ty).run Tryz.prog wr = _ := fun ty => Lib.run_next_end_at wr w3.heap.size s1 s1.size ty hk (by omega)
            rw [List.take_of_length_le (by omega)] at r0 r1 ⊢
            obtain ⟨m, hm⟩ : ∃ m, decN s1.data.toList = m := ⟨_, rfl⟩
            have HVm : Hid (intVal t = if eqB s1 s1 = true then m else -m) := Lib.hid (by unfold intVal; rw [HD.out, hs1.out, hm])
            rw [hm] at r0 r1 ⊢
            clear hm
            by_cases hds : s1 = s1
            · have hx : (s1.toList == s1.toList) = true := by rw [hds]; simp
              have HW : Hid (intVal t = m) := Lib.hid (by rw [HVm.out, (eqB_iff s1 s1).2 hds]; rfl)
              clear hds
              go_wp2_with fail
              refine bodyPost_ret (v := .tuple #[.int .i64 m, .bool true]) (by simp [results, Tryz.results64, go_sem]) rfl ⟨by rw [intRes_yes HV.out HW.out], hb⟩
            · exact absurd rfl hds
      · have hn0 : ¬ n < 0 := fun h => by have := hidx.1 h; unfold anyBad at hab; rw [this] at hab; cases hab
        have hn1 : 0 ≤ n := by omega
        have HV : Hid (intOk ⟨k, t, u, true, fl⟩ = false) := Lib.hid (by rw [HOK.out, hab]; simp)
        clear hidx hab
        go_wp2_with fail
        refine bodyPost_ret (v := .tuple #[.int .i64 0, .bool false]) (by simp [results, Tryz.results64, go_sem]) rfl ⟨by rw [intRes_no HV.out], HB3⟩
  · have HD : Hid (intDigs t = d1) := Lib.hid (by unfold intDigs; rw [hs1.out, if_neg hlt, hd1])
    have hlt' : ¬ (s1.size : Int) < (t.size : Int) := by omega
    clear hd1 hlt
    have HOK : Hid (intOk ⟨k, t, u, true, fl⟩ = (!(eqB d1 noStr) && !(anyBad d1))) := Lib.hid (by unfold intOk; simp only [HD.out, Bool.true_and]; rw [decide_eq_true h2, decide_eq_true h3]; simp)
    by_cases hd : d1 = noStr
    · have HV : Hid (intOk ⟨k, t, u, true, fl⟩ = false) := Lib.hid (by rw [HOK.out, (eqB_iff d1 noStr).2 hd]; rfl)
      have he1 : d1.toList = [] := by rw [hd, noStr, ByteArray.toList_eq]
      clear hd
      go_wp2_with fail
      refine bodyPost_ret (v := .tuple #[.int .i64 0, .bool false]) (by simp [results, Tryz.results64, go_sem]) rfl ⟨by rw [intRes_no HV.out], HBX⟩
    · have hq : eqB d1 noStr = false := by
        cases hq : eqB d1 noStr with
        | false => rfl
        | true => exact absurd ((eqB_iff d1 noStr).1 hq) hd
      have HQ := Lib.hid hq
      have he1 : ¬ (d1.toList = []) := fun h => hd (bytes_ext (by rw [h, noStr, ByteArray.toList_eq]))
      have he2 : d1.toList.isEmpty = false := by cases hl : d1.toList with
        | nil => exact absurd hl he1
        | cons a l => rfl
      clear hd hq
      have hpg : PredGrows Tryz.prog 100 #[] notDig (w.alloc (Obj.cells #[Value.int IntKind.i64 k, Value.string t, Value.string u, Value.bool true, Value.bool fl] 23)) := fun W x _ _ => notDig_any x W
      go_wp2_with fail
      refine (Tryz.strings_IndexFunc_grows 100 #[] (fun _ _ => rfl) notDig d1 _ hpg).mono ?_
      rintro e w3 ⟨rfl, hb3⟩
      have hidx := idx_all notDig notDig_high d1
      obtain ⟨n, hn⟩ : ∃ n, Lib.idxFunc notDig true d1 = n := ⟨_, rfl⟩
      rw [hn] at hidx ⊢
      have HB3 := bNext HBX hb3
      clear hb3 HBX hpg hn
      cases hab : anyBad d1
      · have hn0 : n < 0 := hidx.2 hab
        have hn1 : ¬ 0 ≤ n := by omega
        have HV : Hid (intOk ⟨k, t, u, true, fl⟩ = true) := Lib.hid (by rw [HOK.out, HQ.out, hab]; rfl)
        have HA := Lib.hid hab
        clear hidx hab
        go_wp2_with fail
        have hk0 := World.iter_heap w3 d1 0
        have hbI : Below w.heap.size w (w3.iter d1 0) := HB3.trans ((bAlloc1 w3 _).mono HB3.size)
        have hw3 := HB3.size
        clear HB3
        go_loopw [6, 8] (fun nv _ wr => ∃ pos : Nat, pos ≤ d1.size ∧ nv = .int .i64 (decN (d1.data.toList.take pos)) ∧ wr.heap[w3.heap.size]? = some (.stringIter d1 pos) ∧ Below w.heap.size w wr)
          (fun _ _ wr => d1.size - wr.iterPos w3.heap.size)
        case atStart => exact ⟨0, Nat.zero_le _, rfl, hk0, hbI⟩
        case round =>
          obtain ⟨pos, hps, rfl, hk, hb⟩ := hrel
          clear hk0 hbI
          have hdl : d1.data.toList.length = d1.size := by rw [Array.length_toList]; rfl
          obtain ⟨r0, r1⟩ := dec_range (d1.data.toList.take pos) (any_take _ _ _ HA.out)
          by_cases hp : pos < d1.size
          · have hc0 : d1.data.toList[pos]'(by omega) = d1[pos]'hp := by rw [Array.getElem_toList]; rfl
            have hcb : notDig (d1[pos]'hp).toNat = false := by
              have := (List.any_eq_false.1 HA.out) _ (List.getElem_mem (show pos < d1.data.toList.length by omega))
              rw [hc0] at this
              simpa using this
            have hc1 : 48 ≤ ((d1[pos]'hp).toNat : Int) ∧ ((d1[pos]'hp).toNat : Int) ≤ 57 := by simpa [notDig, isIn] using hcb
            have hnext : ∀ ty, (Instr.next (.pointer (some ⟨w3.heap.size, 0, none⟩)) true ty).run Tryz.prog wr = _ := fun ty => Lib.run_next_ascii_at wr w3.heap.size d1 pos ty hk hp (by omega)
            have hk1 := Lib.iterAt_heap wr w3.heap.size d1 pos (pos + 1) hk
            have hb1 : Below w.heap.size w (wr.iterAt w3.heap.size d1 (pos + 1)) := Lib.below_iterAt hb hw3 d1 (pos + 1)
            have hmu : wr.iterPos w3.heap.size = pos := by simp [World.iterPos, hk]
            have hsn := decN_snoc d1.data.toList pos (by omega)
            rw [hc0] at hsn
            unfold decStep at hsn
            generalize wr.iterAt w3.heap.size d1 (pos + 1) = W1 at hnext hk1 hb1
            have HM := Lib.hid hmu
            clear hk hmu hb hcb hc0
            obtain ⟨c, hc⟩ : ∃ c : Int, ((d1[pos]'hp).toNat : Int) = c := ⟨_, rfl⟩
            obtain ⟨m, hm⟩ : ∃ m, decN (d1.data.toList.take pos) = m := ⟨_, rfl⟩
            rw [hc] at hnext hc1 hsn
            rw [hm] at hsn r0 r1 ⊢
            have HS := Lib.hid hsn
            clear hsn hc hm
            obtain ⟨hc1, hc2⟩ := hc1
            have ww1 : IntKind.i64.wrap (10 * m) = 10 * m := Go.IntWalk.i64_in _ (by omega)
            have ww2 : IntKind.i32.wrap (c - 48) = c - 48 := Go.IntWalk.i32_in _ (by omega)
            have ww3 : IntKind.i64.wrap (c - 48) = c - 48 := Go.IntWalk.i64_in _ (by omega)
            have ww4 : IntKind.i64.wrap (10 * m + (c - 48)) = 10 * m + (c - 48) := Go.IntWalk.i64_in _ (by omega)
            go_wp2_with fail
            go_roundw
            case rel => exact ⟨pos + 1, by omega, by rw [HS.out], hk1, hb1⟩
            case measure =>
              have hmu1 : W1.iterPos w3.heap.size = pos + 1 := by simp [World.iterPos, hk1]
              rw [HM.out, hmu1]; omega
          · obtain rfl : pos = d1.size := by omega
            have hnext : ∀ ty, (Instr.next (.pointer (some ⟨w3.heap.size, 0, none⟩)) true ty).run Tryz.prog wr = _ := fun ty => Lib.run_next_end_at wr w3.heap.size d1 d1.size ty hk (by omega)
            rw [List.take_of_length_le (by omega)] at r0 r1 ⊢
            obtain ⟨m, hm⟩ : ∃ m, decN d1.data.toList = m := ⟨_, rfl⟩
            have HVm : Hid (intVal t = if eqB d1 s1 = true then m else -m) := Lib.hid (by unfold intVal; rw [HD.out, hs1.out, hm])
            rw [hm] at r0 r1 ⊢
            clear hm
            by_cases hds : d1 = s1
            · have hx : (d1.toList == s1.toList) = true := by rw [hds]; simp
              have HW : Hid (intVal t = m) := Lib.hid (by rw [HVm.out, (eqB_iff d1 s1).2 hds]; rfl)
              clear hds
              go_wp2_with fail
              refine bodyPost_ret (v := .tuple #[.int .i64 m, .bool true]) (by simp [results, Tryz.results64, go_sem]) rfl ⟨by rw [intRes_yes HV.out HW.out], hb⟩
            · have hx : (d1.toList == s1.toList) = false := bytes_ne hds
              have HW : Hid (intVal t = -m) := Lib.hid (by
                rw [HVm.out, if_neg]
                exact fun e => hds ((eqB_iff d1 s1).1 e))
              clear hds
              have ww5 : IntKind.i64.wrap (-m) = -m := Go.IntWalk.i64_in _ (by omega)
              go_wp2_with fail
              refine bodyPost_ret (v := .tuple #[.int .i64 (-m), .bool true]) (by simp [results, Tryz.results64, go_sem]) rfl ⟨by rw [intRes_yes HV.out HW.out], hb⟩
      · have hn0 : ¬ n < 0 := fun h => by have := hidx.1 h; unfold anyBad at hab; rw [this] at hab; cases hab
        have hn1 : 0 ≤ n := by omega
        have HV : Hid (intOk ⟨k, t, u, true, fl⟩ = false) := Lib.hid (by rw [HOK.out, hab]; simp)
        clear hidx hab
        go_wp2_with fail
        refine bodyPost_ret (v := .tuple #[.int .i64 0, .bool false]) (by simp [results, Tryz.results64, go_sem]) rfl ⟨by rw [intRes_no HV.out], HB3⟩

set_option maxRecDepth 100000 in
theorem Int_any (x : Tok) (_hs : x.t.size ≤ 4294967295) (w : World) :
    Calls Tryz.prog 64 #[.agg #[.int .i64 x.k, .string x.t, .string x.u, .bool x.wh, .bool x.fl]] w fun e w' => e = .returned (intRes x) ∧ Below w.heap.size w w' := by
  obtain ⟨k, t, u, wh, fl⟩ := x
  cases wh with
  | false =>
    have HV : Hid (intRes ⟨k, t, u, false, fl⟩ = .tuple #[.int .i64 0, .bool false]) := Lib.hid (intRes_no rfl)
    go_enter Tryz.func64, Tryz.ntmps64
    go_wp2_with fail
    refine bodyPost_ret (v := .tuple #[.int .i64 0, .bool false]) (by simp [results, Tryz.results64, go_sem]) rfl ⟨by rw [HV.out], bAlloc1 _ _⟩
  | true =>
    by_cases h2 : 10 ≤ k
    · by_cases h3 : k ≤ 12
      · exact int_good k t u fl h2 h3 w
      · have HV : Hid (intRes ⟨k, t, u, true, fl⟩ = .tuple #[.int .i64 0, .bool false]) := Lib.hid (intRes_no (by unfold intOk; rw [decide_eq_false h3]; simp))
        have h2' : ¬ k < 10 := by omega
        have h3' : 12 < k := by omega
        go_enter Tryz.func64, Tryz.ntmps64
        go_wp2_with fail
        refine bodyPost_ret (v := .tuple #[.int .i64 0, .bool false]) (by simp [results, Tryz.results64, go_sem]) rfl ⟨by rw [HV.out], bAlloc1 _ _⟩
    · have HV : Hid (intRes ⟨k, t, u, true, fl⟩ = .tuple #[.int .i64 0, .bool false]) := Lib.hid (intRes_no (by unfold intOk; rw [decide_eq_false h2]; simp))
      have h2' : k < 10 := by omega
      go_enter Tryz.func64, Tryz.ntmps64
      go_wp2_with fail
      refine bodyPost_ret (v := .tuple #[.int .i64 0, .bool false]) (by simp [results, Tryz.results64, go_sem]) rfl ⟨by rw [HV.out], bAlloc1 _ _⟩
end Go.Proofs.YtpadcjcoafidgaaGreatDoor
