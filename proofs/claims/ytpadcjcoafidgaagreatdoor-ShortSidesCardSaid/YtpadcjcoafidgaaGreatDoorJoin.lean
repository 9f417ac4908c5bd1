/- short.Join. -/
import Derived.Test.YtpadcjcoafidgaaGreatDoorExpand
namespace Go.Proofs.YtpadcjcoafidgaaGreatDoor
open Go.RowKit

/-- The texts that a slice holds, with room for them. -/
def Ss (w : World) (v : Value) (l : List ByteArray) : Prop :=
  ∃ a cap, v = .slice a l.length cap ∧ l.length ≤ cap ∧ (l ≠ [] → ∃ b off, a = some ⟨b, off, none⟩ ∧ b < w.heap.size ∧ ∀ (i : Nat) (hi : i < l.length), w.cell? ⟨b, off + i, none⟩ = some (.string l[i]))
def fitsS (name : ByteArray) (l : List ByteArray) (n k : Nat) : Bool := (List.range k).all fun i => eqB (l[(whichS name n i).toNat]?.getD noStr) (l[i]?.getD noStr)
def joinB (xs : List ByteArray) : ByteArray := ⟨(Lib.join (xs.map (·.data.toList)) [32]).toArray⟩
def joinFrom (name : ByteArray) (l : List ByteArray) : Nat → Nat → Option ByteArray
  | 0, _ => none
  | f + 1, n => if fitsS name l n l.length = true then some (joinB (l.take n)) else joinFrom name l f (n + 1)
def joinS (name : ByteArray) (l : List ByteArray) : Option ByteArray := if longsOf name = [] ∨ l.length ≠ (longsOf name).length then none else joinFrom name l l.length 1
theorem fits_succ (name : ByteArray) (l : List ByteArray) (n k : Nat) : fitsS name l n (k + 1) = (fitsS name l n k && eqB (l[(whichS name n k).toNat]?.getD noStr) (l[k]?.getD noStr)) := by
  unfold fitsS
  rw [List.range_succ, List.all_append]
  simp
theorem longs_exact : ∀ k : Fin 6, (eqB (shortAt k.val).1 aOverflow = true ∧ (longsAt k.val).length = 2) ∨ (eqB (shortAt k.val).1 aOverflow = false ∧ (longsAt k.val).length = 4) := by decide +kernel
theorem longsOf_exact (name : ByteArray) (h : longsOf name ≠ []) : (eqB name aOverflow = true ∧ (longsOf name).length = 2) ∨ (eqB name aOverflow = false ∧ (longsOf name).length = 4) := by
  unfold longsOf at h ⊢
  split
  · rename_i k hk
    unfold shortN at hk
    rw [List.findIdx?_eq_some_iff_getElem] at hk
    obtain ⟨h6, hn, -⟩ := hk
    have := longs_exact ⟨k, h6⟩
    have hs : shortAt k = shortsTbl[k]'h6 := by unfold shortAt; rw [List.getElem?_eq_getElem h6]; rfl
    have he : (shortAt k).1 = name := by rw [hs]; exact bytes_ext (eq_of_beq (by rw [← beq_toListBytes]; exact hn))
    simp only [he] at this
    exact this
  · rename_i hk
    rw [hk] at h
    exact absurd rfl h
theorem sides_nn : ∀ (a : Fin 4) (b : Fin 4), 0 ≤ sideAt a.val b.val := by decide +kernel
theorem which_nn (name : ByteArray) (h : longsOf name ≠ []) (n i : Nat) (h1 : 1 ≤ n) (hn : n ≤ (longsOf name).length) (hi : i < (longsOf name).length) : 0 ≤ whichS name n i := by
  unfold whichS
  rcases longsOf_exact name h with ⟨ho, hl⟩ | ⟨ho, hl⟩
  · rw [if_pos ho]
    unfold overS
    split
    · omega
    · rw [if_pos (by omega)]; omega
  · rw [if_neg (by rw [ho]; decide)]
    unfold sidesS
    rw [if_neg (by omega)]
    exact sides_nn ⟨((n : Int) - 1).toNat, by omega⟩ ⟨(i : Int).toNat, by omega⟩
theorem eql_nilS (a : Option Addr) (l c : Nat) (w : World) : (binOp .eql 42 (.slice a l c) (.slice none 0 0)).run Tryz.prog w = .ok (.bool a.isNone) w := by
  simp only [binOp]
  simp [run_equal_slice_nil w 42 9 a l c Tryz.underlying42]
theorem lens_le (l : List ByteArray) (h : ∀ s ∈ l, s.size ≤ 100000) : Lib.lens (l.map (·.data.toList)) ≤ 100000 * l.length := by
  induction l with
  | nil => exact Nat.zero_le _
  | cons a l ih =>
    have h1 := h a (List.mem_cons_self ..)
    have h2 := ih (fun s hs => h s (List.mem_cons_of_mem _ hs))
    have h3 : a.data.toList.length = a.size := by rw [Array.length_toList]; rfl
    simp only [List.map_cons, Lib.lens, List.length_cons]
    simp only [Lib.lens] at h2
    simp at h2 ⊢
    omega
theorem joinB_len (l : List ByteArray) (h : ∀ s ∈ l, s.size ≤ 100000) (hn : l.length ≤ 1000) : (Lib.join (l.map (·.data.toList)) (⟨#[32]⟩ : ByteArray).data.toList).length ≤ 140737488355328 := by
  cases l with
  | nil => exact Nat.zero_le _
  | cons a l =>
    have h2 := lens_le (a :: l) h
    rw [List.map_cons, Lib.join_length, List.length_map]
    rw [List.map_cons] at h2
    have h3 : (⟨#[32]⟩ : ByteArray).data.toList.length = 1 := rfl
    rw [h3]
    simp only [List.length_cons] at h2 hn
    omega
theorem toList_eqB (x y : ByteArray) : (x.toList == y.toList) = eqB x y := by
  rw [ByteArray.toList_eq y]
  exact toList_lit x y _ rfl
set_option maxRecDepth 100000 in
set_option maxHeartbeats 8000000 in
theorem Join_any (w : World) (hB : Base16 w) (name : ByteArray) (lv : Value) (l : List ByteArray) (h : Ss w lv l) (hsz : ∀ s ∈ l, s.size ≤ 100000) (hll : l.length ≤ 1000) :
    Calls Tryz.prog 20 #[.string name, lv] w fun e w' => e = .returned (resS (joinS name l)) ∧ Below w.heap.size w w' := by
  obtain ⟨a, cap, rfl, hcap, hr⟩ := h
  have HB := Lib.hid hB
  have HR := Lib.hid hr
  have HZ := Lib.hid hsz
  clear hB hr hsz
  go_enter Tryz.func20, Tryz.ntmps20
  go_wp2_with fail
  refine (Longs_any name w HB.out.sh).mono ?_
  rintro e w1 ⟨lv1, rfl, hl1, hnil, hb1⟩
  by_cases hne : longsOf name = []
  · have HV : Hid (resS (joinS name l) = .tuple #[.string noStr, .bool false]) := Lib.hid (by unfold joinS; rw [if_pos (.inl hne)]; rfl)
    rw [hnil hne]
    clear hnil hl1 hne
    go_wp2_with fail
    rw [eql_nilS]
    go_wp2_with fail
    exact bodyPost_ret (v := .tuple #[.string noStr, .bool false]) (by simp [results, Tryz.results20, go_sem, noStr]) rfl ⟨by rw [HV.out], hb1⟩
  · obtain ⟨b1, o1, c1, rfl, _, hlt1, _⟩ := hl1.at hne
    by_cases hle : l.length = (longsOf name).length
    · have HJ0 : Hid (joinS name l = joinFrom name l l.length 1) := Lib.hid (by unfold joinS; rw [if_neg (by intro h; rcases h with h | h; exact hne h; exact h hle)])
      have HNN : Hid (∀ n i : Nat, 1 ≤ n → n ≤ l.length → i < l.length → 0 ≤ whichS name n i ∧ whichS name n i < n) := Lib.hid (fun n i h1 h2 h3 => ⟨which_nn name hne n i h1 (by omega) (by omega), which_lt name n i (by omega)⟩)
      obtain ⟨m, hm⟩ : ∃ m, (longsOf name).length = m := ⟨_, rfl⟩
      rw [hm] at hle ⊢
      have hml : ((m : Nat) : Int) = (l.length : Int) := by omega
      clear hnil hl1 hne hm
      go_wp2_with fail
      rw [eql_nilS]
      go_wp2_with fail
      go_loopw [7, 8, 9, 10, 33] (fun nv _ _ _ _ wr => ∃ n : Nat, 1 ≤ n ∧ n ≤ l.length + 1 ∧ nv = .int .i64 n ∧ Hid (joinFrom name l (l.length + 1 - n) n = joinS name l) ∧ Below w.heap.size w wr)
        (fun nv _ _ _ _ _ => l.length + 1 - (intOf nv).toNat)
      case atStart => exact ⟨1, by omega, by omega, rfl, Lib.hid (by rw [HJ0.out]; rfl), hb1⟩
      case round =>
        obtain ⟨n, hn1, hn2, rfl, HJ, hb⟩ := hrel
        by_cases hn : n ≤ l.length
        · have HD : Hid (joinS name l = if fitsS name l n l.length = true then some (joinB (l.take n)) else joinFrom name l (l.length - n) (n + 1)) := Lib.hid (by
            rw [← HJ.out, show l.length + 1 - n = (l.length - n) + 1 by omega]; rfl)
          have q1 : (n : Int) ≤ (l.length : Int) := by omega
          go_wp2_with fail
          refine (chooser_any wr name _).mono ?_
          rintro e w3 ⟨g, rfl, hg, ht, hc3, hlt3, hb3⟩
          have hB3 := bNext hb hb3
          have HT := Lib.hid ht
          have HB3 := Lib.hid (HB.out.next hB3)
          have hsz3 := hB3.size
          obtain ⟨kb, hkb⟩ : ∃ k, wr.heap.size = k := ⟨_, rfl⟩
          rw [hkb] at HT hc3 hlt3 ⊢
          have HC3 := Lib.hid hc3
          clear ht hc3 hb hb3
          rcases hg with rfl | rfl
          all_goals
            go_wp2_with fail
            go_loopw [9, 10, 33] (fun fv _ iv wx => ∃ i : Nat, i ≤ l.length ∧ iv = .int .i64 i ∧ fv = .bool (fitsS name l n i) ∧ Below w3.heap.size w3 wx) (fun _ _ iv _ => l.length - (intOf iv).toNat)
            case atStart => exact ⟨0, by omega, rfl, rfl, Below.refl _ _⟩
            case round =>
              obtain ⟨i, hi, rfl, rfl, hb4⟩ := hrel
              have hB4 := hB3.trans (hb4.mono hsz3)
              by_cases hlt : i < l.length
              · have hlne : l ≠ [] := by intro e; rw [e] at hlt; simp at hlt
                obtain ⟨b2, o2, rfl, hb2, hcc⟩ := HR.out hlne
                obtain ⟨hnn, hlt2⟩ := HNN.out n i hn1 hn hlt
                obtain ⟨q, hq⟩ : ∃ q : Nat, whichS name (n : Int) (i : Int) = (q : Int) := ⟨(whichS name (n : Int) (i : Int)).toNat, by omega⟩
                have hql : q < l.length := by omega
                have y0 := (hB4.cell (p := ⟨b2, o2 + i, none⟩) hb2).trans (hcc i hlt)
                have y1 := (hB4.cell (p := ⟨b2, o2 + q, none⟩) hb2).trans (hcc q hql)
                have hfs := fits_succ name l n i
                rw [hq, Int.toNat_natCast, List.getElem?_eq_getElem hql, List.getElem?_eq_getElem hlt] at hfs
                simp only [Option.getD_some] at hfs
                obtain ⟨x, hx⟩ : ∃ x, l[q] = x := ⟨_, rfl⟩
                obtain ⟨y, hy⟩ : ∃ x, l[i] = x := ⟨_, rfl⟩
                rw [hx] at y1 hfs
                rw [hy] at y0 hfs
                have HFS := Lib.hid hfs
                have p1 : (i : Int) < (l.length : Int) := by omega
                have p0 : (0 : Int) ≤ (i : Int) := by omega
                have p2 : (q : Int) < (l.length : Int) := by omega
                have p3 : (0 : Int) ≤ (q : Int) := by omega
                clear hcc hfs hx hy hnn hlt2
                cases hf : fitsS name l n i
                · have HN : Hid (fitsS name l n (i + 1) = false) := Lib.hid (by rw [HFS.out, hf]; rfl)
                  clear y0 y1
                  go_wp2_with fail
                  go_region
                  go_wp2_with fail
                  go_roundw
                  case rel => exact ⟨i + 1, by omega, by go_num, by rw [HN.out], bNext hb4 (below_drew' _)⟩
                  case measure => simp [intOf]; omega
                · have HN : Hid (fitsS name l n (i + 1) = eqB x y) := Lib.hid (by rw [HFS.out, hf]; rfl)
                  have hbox := (hb4.cell (p := ⟨kb, 0, none⟩) hlt3).trans HC3.out
                  have HB4 := HB3.out.next hb4
                  have hxy := toList_eqB x y
                  obtain ⟨t, ht⟩ : ∃ t, eqB x y = t := ⟨_, rfl⟩
                  rw [ht] at hxy HN
                  clear ht
                  go_wp2_with fail
                  go_region_held3 (fun w' => w'.cell? ⟨b2, o2 + i, none⟩ = some (.string y) ∧ w'.cell? ⟨b2, o2 + q, none⟩ = some (.string x)) (go_keep)
                    (first
                      | (have hcall := HT.out _ i (HB4.sd.next (below_drew' _)) hbox; rw [hq] at hcall; refine hcall.mono ?_; rintro e w5 ⟨rfl, hb5⟩; have y05 := cell_later ((below_drew' _).trans hb5) y0; have y15 := cell_later ((below_drew' _).trans hb5) y1))
                  all_goals
                    go_wp2_with fail
                    go_roundw
                    case rel => exact ⟨i + 1, by omega, by go_num, by rw [HN.out], bNext (bNext hb4 (below_drew' _)) hb5⟩
                    case measure => simp [intOf]; omega
              · have hie : i = l.length := by omega
                have p1 : ¬ (i : Int) < (l.length : Int) := by omega
                cases hf : fitsS name l n i
                · have HN : Hid (joinFrom name l (l.length + 1 - (n + 1)) (n + 1) = joinS name l) := Lib.hid (by
                    rw [HD.out, ← hie, hf, show i + 1 - (n + 1) = i - n by omega]; rfl)
                  have hwn : IntKind.i64.wrap ((n : Int) + 1) = ((n + 1 : Nat) : Int) := by rw [Go.IntWalk.i64_in _ (by omega)]; omega
                  clear hie
                  go_wp2_with fail
                  go_roundw
                  case rel => exact ⟨n + 1, by omega, by omega, by go_num, HN, hB4⟩
                  case measure => simp [intOf]; omega
                · have HW : Hid (resS (joinS name l) = .tuple #[.string (joinB (l.take n)), .bool true]) := Lib.hid (by rw [HD.out, ← hie, hf]; rfl)
                  have hlne : l ≠ [] := by intro e; rw [e] at hn; simp at hn; omega
                  obtain ⟨b2, o2, rfl, hb2, hcc⟩ := HR.out hlne
                  have hlen : (l.take n).length = n := by rw [List.length_take]; omega
                  have p2 : (n : Int) ≤ (cap : Int) := by omega
                  have p3 : (0 : Int) ≤ (n : Int) := by omega
                  have hj := Tryz.strings_Join b2 o2 cap (l.take n) ⟨#[32]⟩ _ (fun j x hx => by
                    have hjn : j < n := by
                      have := (List.getElem?_eq_some_iff.1 hx).1
                      omega
                    rw [List.getElem?_take, if_pos hjn, List.getElem?_eq_getElem (show j < l.length by omega)] at hx
                    have := hcc j (by omega)
                    rw [Option.some.inj hx] at this
                    exact (hB4.cell (p := ⟨b2, o2 + j, none⟩) hb2).trans this) (Nat.lt_of_lt_of_le hb2 hB4.size) (by rw [hlen]; omega) (by rw [hlen]; omega) (joinB_len _ (fun s hs => HZ.out s (List.mem_of_mem_take hs)) (by rw [hlen]; omega))
                  rw [hlen] at hj
                  have HJN := Lib.hid hj
                  clear hie hcc hj
                  go_wp2_with fail
                  refine HJN.out.mono ?_
                  rintro e w6 ⟨rfl, hb6⟩
                  go_wp2_with fail
                  exact bodyPost_ret (v := .tuple #[.string (joinB (l.take n)), .bool true]) (by simp [results, Tryz.results20, go_sem, joinB]) rfl ⟨by rw [HW.out], bNext hB4 hb6⟩
        · have HV : Hid (resS (joinS name l) = .tuple #[.string noStr, .bool false]) := Lib.hid (by
            rw [← HJ.out, show l.length + 1 - n = 0 by omega]; rfl)
          have q1 : ¬ (n : Int) ≤ (l.length : Int) := by omega
          go_wp2_with fail
          exact bodyPost_ret (v := .tuple #[.string noStr, .bool false]) (by simp [results, Tryz.results20, go_sem, noStr]) rfl ⟨by rw [HV.out], hb⟩
    · have HV : Hid (resS (joinS name l) = .tuple #[.string noStr, .bool false]) := Lib.hid (by unfold joinS; rw [if_pos (.inr hle)]; rfl)
      have hle' : ¬ ((l.length : Int) = ((longsOf name).length : Int)) := by omega
      clear hnil hl1 hne
      go_wp2_with fail
      rw [eql_nilS]
      go_wp2_with fail
      exact bodyPost_ret (v := .tuple #[.string noStr, .bool false]) (by simp [results, Tryz.results20, go_sem, noStr]) rfl ⟨by rw [HV.out], hb1⟩
end Go.Proofs.YtpadcjcoafidgaaGreatDoor
