/- value.Parse. -/
import Derived.Test.YtpadcjcoafidgaaGreatDoorPart
import Derived.Test.YtpadcjcoafidgaaGreatDoorBar
import Derived.Test.YtpadcjcoafidgaaGreatDoorForms
namespace Go.Proofs.YtpadcjcoafidgaaGreatDoor
open Go.RowKit

def firstPart : List ByteArray → Val → Option ByteArray
  | [], _ => none
  | f :: fs, x => match partS f x with
    | some s => some s
    | none => firstPart fs x
def parseS (name : ByteArray) (l : List Val) : Option ByteArray := match trim l with
  | [x] => if (placeN name).isSome = true then firstPart (parts (findRow name).2.2.2) x else none
  | _ => none
theorem parseS_one {name : ByteArray} {l : List Val} {x : Val} (h : trim l = [x]) : parseS name l = if (placeN name).isSome = true then firstPart (parts (findRow name).2.2.2) x else none := by unfold parseS; rw [h]
theorem parseS_not {name : ByteArray} {l : List Val} (h : (trim l).length ≠ 1) : parseS name l = none := by
  unfold parseS
  split
  · rename_i x hx; rw [hx] at h; exact absurd rfl h
  · rfl
theorem firstPart_drop {fs : List ByteArray} {x : Val} {k : Nat} (hk : k < fs.length) : firstPart (fs.drop k) x = match partS fs[k] x with
    | some s => some s
    | none => firstPart (fs.drop (k + 1)) x := by
  rw [List.drop_eq_getElem_cons hk, firstPart]
theorem findRow_small (s : ByteArray) : (findRow s).2.2.2.size ≤ 1000 := by
  unfold findRow
  split
  · rename_i k _
    by_cases hk : k < 48
    · have : ∀ n : Fin 48, (rowAt n.val).2.2.2.size ≤ 1000 := by decide +kernel
      exact this ⟨k, hk⟩
    · unfold rowAt
      rw [List.getElem?_eq_none (by rw [tbl_length]; omega)]
      decide
  · decide
set_option maxRecDepth 100000 in
set_option maxHeartbeats 4000000 in
theorem Parse_any (w : World) (hB : Base w) (name : ByteArray) (v : Value) (l : List Val) (h : Vs w v l) (hf : ∀ x ∈ l, x.fits) :
    Calls Tryz.prog 16 #[.string name, v] w fun e w' => e = .returned (resS (parseS name l)) ∧ Below w.heap.size w w' := by
  have HB := Lib.hid hB
  clear hB
  go_enter Tryz.func16, Tryz.ntmps16
  go_wp2_with fail
  refine (Trim_any w _ l h).mono ?_
  rintro e w1 ⟨v1, rfl, hv1, hb1⟩
  go_wp2_with fail
  refine (Find_any name w1).mono ?_
  rintro e w2 ⟨rfl, hb2⟩
  have hv2 := hv1.next hb2
  have hB2 := bNext hb1 hb2
  clear hv1 hb1 hb2 h
  obtain ⟨ok, hok⟩ : ∃ b, (placeN name).isSome = b := ⟨_, rfl⟩
  obtain ⟨⟨ra, rb, rc, rf⟩, hr⟩ : ∃ r, findRow name = r := ⟨_, rfl⟩
  have hrf : rf.size ≤ 1000 := by have := findRow_small name; rw [hr] at this; exact this
  rw [hok, hr]
  by_cases h1 : (trim l).length = 1
  · obtain ⟨x, hx⟩ := List.length_eq_one_iff.1 h1
    have hxf := hf x (trim_mem (by rw [hx]; exact List.mem_singleton.2 rfl))
    have HP : Hid (parseS name l = if ok = true then firstPart (parts rf) x else none) := Lib.hid (by rw [parseS_one hx, hok, hr])
    rw [hx] at hv2
    have HV2 := Lib.hid hv2
    clear hx h1 hok hr hf
    cases ok with
    | false =>
      have HW : Hid (resS (parseS name l) = .tuple #[.string noStr, .bool false]) := Lib.hid (by rw [HP.out]; rfl)
      go_wp2_with fail
      exact bodyPost_ret (v := .tuple #[.string noStr, .bool false]) (by simp [results, Tryz.results16, go_sem, noStr]) rfl ⟨by rw [HW.out], bNext hB2 (bAlloc1 _ _)⟩
    | true =>
      have HPP : Hid (parseS name l = firstPart (parts rf) x) := Lib.hid (by rw [HP.out, if_pos rfl])
      obtain ⟨b, off, cap, rfl, hb, x0, x1, x2, x3, x4, x5⟩ := hv2.one
      have HB3 := (HB.out.next hB2).next (bAlloc1 w2 (.cells #[.string ra, .string rb, .bool rc, .string rf] 39))
      have hB3 := bNext hB2 (bAlloc1 w2 (.cells #[.string ra, .string rb, .bool rc, .string rf] 39))
      clear hv2 HP
      go_wp2_with fail
      refine (Forms_any ra rb rf rc (by omega) _).mono ?_
      rintro e w3 ⟨v3, rfl, hs3, hb3⟩
      have HB4 := Lib.hid (HB3.next hb3)
      have hB4 := bNext hB3 hb3
      have HV4 := Lib.hid ((HV2.out.next (bAlloc1 w2 (.cells #[.string ra, .string rb, .bool rc, .string rf] 39))).next hb3)
      have hpl := parts_length rf
      have H3 := Lib.hid hs3
      obtain ⟨a3, c3, rfl, _⟩ := hs3.val
      clear HB3 hB3 hb3 HB HV2 hs3 x0 x1 x2 x3 x4 x5
      go_wp2_with fail
      go_loopw [9, 10, 11, 29] (fun _ _ _ iv wr => ∃ k : Nat, k ≤ (parts rf).length ∧ iv = .int .i64 k ∧ Hid (firstPart ((parts rf).drop k) x = firstPart (parts rf) x) ∧ Below w3.heap.size w3 wr)
        (fun _ _ _ iv _ => (parts rf).length - (intOf iv).toNat)
      case atStart => exact ⟨0, by omega, rfl, Lib.hid rfl, Below.refl _ _⟩
      case round =>
        obtain ⟨k, hk, rfl, HF, hb5⟩ := hrel
        have hB5 := bNext hB4 hb5
        by_cases hlt : k < (parts rf).length
        · have hne : parts rf ≠ [] := by intro e; rw [e] at hlt; simp at hlt
          obtain ⟨b1, o1, c1', e1, _, hbb, hc1⟩ := H3.out.at hne
          simp only [Value.slice.injEq] at e1
          obtain ⟨rfl, _, _⟩ := e1
          have f1 : wr.cell? ⟨b1, o1 + k, none⟩ = some (.string (parts rf)[k]) := (hb5.cell (p := ⟨b1, _, none⟩) hbb).trans (hc1 k hlt)
          have hps := parts_size rf k hlt
          obtain ⟨f, hf'⟩ : ∃ f, (parts rf)[k] = f := ⟨_, rfl⟩
          have hfd := firstPart_drop (x := x) hlt
          rw [hf'] at f1 hfd hps
          have HFD := Lib.hid hfd
          obtain ⟨b', off', cap', hvv, hb', x0, x1, x2, x3, x4, x5⟩ := (HV4.out.next hb5).one
          simp only [Value.slice.injEq, Option.some.injEq, Addr.mk.injEq, and_true] at hvv
          obtain ⟨⟨rfl, rfl⟩, _, rfl⟩ := hvv
          have HB5 := HB4.out.next hb5
          clear hc1 hf' hfd
          have q1 : (0 : Int) ≤ (k : Int) := by omega
          have q2 : (k : Int) < ((parts rf).length : Int) := by omega
          go_wp2_with fail
          refine (VPart_any wr HB5 f (by omega) x hxf).mono ?_
          rintro e w6 ⟨rfl, hb6⟩
          have hB6 := bNext hB5 hb6
          have hb36 := bNext hb5 hb6
          cases hr2 : partS f x with
          | none =>
            have HN : Hid (firstPart ((parts rf).drop (k + 1)) x = firstPart (parts rf) x) := Lib.hid (by rw [← HF.out, HFD.out, hr2])
            simp only [resS]
            clear x0 x1 x2 x3 x4 x5 f1
            go_wp2_with fail
            go_roundw
            case rel => exact ⟨k + 1, by omega, by go_num, HN, hb36⟩
            case measure => simp [intOf]; omega
          | some s =>
            have HW : Hid (resS (parseS name l) = .tuple #[.string s, .bool true]) := Lib.hid (by rw [HPP.out, ← HF.out, HFD.out, hr2]; rfl)
            simp only [resS]
            clear x0 x1 x2 x3 x4 x5 f1
            go_wp2_with fail
            exact bodyPost_ret (v := .tuple #[.string s, .bool true]) (by simp [results, Tryz.results16, go_sem]) rfl ⟨by rw [HW.out], hB6⟩
        · have hke : k = (parts rf).length := by omega
          have HW : Hid (resS (parseS name l) = .tuple #[.string noStr, .bool false]) := Lib.hid (by rw [HPP.out, ← HF.out, hke, List.drop_length]; rfl)
          have q2 : ¬ (k : Int) < ((parts rf).length : Int) := by omega
          clear hke
          go_wp2_with fail
          exact bodyPost_ret (v := .tuple #[.string noStr, .bool false]) (by simp [results, Tryz.results16, go_sem, noStr]) rfl ⟨by rw [HW.out], hB5⟩
  · have HW : Hid (resS (parseS name l) = .tuple #[.string noStr, .bool false]) := Lib.hid (by rw [parseS_not h1]; rfl)
    obtain ⟨a, cap, rfl, _⟩ := hv2
    have q1 : ¬ (((trim l).length : Int) = 1) := by omega
    clear h1 hok hr
    cases ok with
    | false =>
      go_wp2_with fail
      exact bodyPost_ret (v := .tuple #[.string noStr, .bool false]) (by simp [results, Tryz.results16, go_sem, noStr]) rfl ⟨by rw [HW.out], bNext hB2 (bAlloc1 _ _)⟩
    | true =>
      go_wp2_with fail
      exact bodyPost_ret (v := .tuple #[.string noStr, .bool false]) (by simp [results, Tryz.results16, go_sem, noStr]) rfl ⟨by rw [HW.out], bNext hB2 (bAlloc1 _ _)⟩
end Go.Proofs.YtpadcjcoafidgaaGreatDoor
