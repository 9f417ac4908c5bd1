/- short.parts: the values between spaces. -/
import Derived.Test.YtpadcjcoafidgaaGreatDoorSides
namespace Go.Proofs.YtpadcjcoafidgaaGreatDoor
open Go.RowKit

def partsF : Bool → List Val → List Val → Option (List Val)
  | _, [], acc => some acc
  | ap, v :: l, acc => if isSp v = true then partsF true l acc else if ap = true then partsF false l (acc ++ [v]) else none
def partsS (l : List Val) : Option (List Val) := partsF true (trim l) []
set_option maxRecDepth 100000 in
set_option maxHeartbeats 4000000 in
theorem parts_any (w : World) (v : Value) (l : List Val) (h : Vs w v l) :
    Calls Tryz.prog 97 #[v] w fun e w' => ∃ V, e = .returned (.tuple #[V, .bool (partsS l).isSome]) ∧ Vs w' V ((partsS l).getD []) ∧ Below w.heap.size w w' := by
  go_enter Tryz.func97, Tryz.ntmps97
  go_wp2_with fail
  refine (Trim_any w _ l h).mono ?_
  rintro e w1 ⟨v1, rfl, hv1, hb1⟩
  have hlen := hv1.len
  obtain ⟨a1, cap1, rfl, _, _, hc1⟩ := hv1
  have HC := Lib.hid hc1
  have HP : Hid (partsS l = partsF true (trim l) []) := Lib.hid rfl
  obtain ⟨tl, htl⟩ : ∃ t, trim l = t := ⟨_, rfl⟩
  rw [htl] at HP HC hlen ⊢
  clear hc1 htl h
  go_wp2_with fail
  go_loopw [4, 5, 7, 11] (fun out ap _ iv wr => ∃ (k : Nat) (acc : List Val) (b : Bool), k ≤ tl.length ∧ acc.length ≤ k ∧ iv = .int .i64 k ∧ ap = .bool b ∧ Hid (partsF b (tl.drop k) acc = partsS l) ∧
      wr.ownsRow w1.heap.size 26 6 out (acc.map Val.row).length (acc.map Val.row).flatten ∧ Below w1.heap.size w1 wr)
    (fun _ _ _ iv _ => tl.length - (intOf iv).toNat)
  case atStart => exact ⟨0, [], true, by omega, Nat.le_refl _, rfl, rfl, Lib.hid (by rw [List.drop_zero, HP.out]), ⟨by simp, .inl ⟨rfl, rfl⟩⟩, Below.refl _ _⟩
  case round =>
    obtain ⟨k, acc, b, hk, hal, rfl, rfl, HF, hown, hb⟩ := hrel
    by_cases hlt : k < tl.length
    · have hne : tl ≠ [] := by intro e; rw [e] at hlt; simp at hlt
      obtain ⟨bb, off, rfl, hbb, hcc⟩ := HC.out hne
      obtain ⟨x0, x1, x2, x3, x4, x5⟩ := Vs.cells hcc k hlt
      have x0 := (hb.cell (p := ⟨bb, _, none⟩) hbb).trans x0
      have x1 := (hb.cell (p := ⟨bb, _, none⟩) hbb).trans x1
      have x2 := (hb.cell (p := ⟨bb, _, none⟩) hbb).trans x2
      have x3 := (hb.cell (p := ⟨bb, _, none⟩) hbb).trans x3
      have x4 := (hb.cell (p := ⟨bb, _, none⟩) hbb).trans x4
      have x5 := (hb.cell (p := ⟨bb, _, none⟩) hbb).trans x5
      have hd := List.drop_eq_getElem_cons hlt
      obtain ⟨y, hy⟩ : ∃ y, tl[k] = y := ⟨_, rfl⟩
      rw [hy] at x0 x1 x2 x3 x4 x5 hd
      have HD : Hid (partsS l = if isSp y = true then partsF true (tl.drop (k + 1)) acc else if b = true then partsF false (tl.drop (k + 1)) (acc ++ [y]) else none) := Lib.hid (by rw [← HF.out, hd]; rfl)
      have q0 : (0 : Int) ≤ (k : Int) := by omega
      have q1 : (k : Int) < (tl.length : Int) := by omega
      have hsz := hb.size
      clear hcc hy hd
      by_cases hs : y.tok.k = 13
      · have HN : Hid (partsF true (tl.drop (k + 1)) acc = partsS l) := Lib.hid (by rw [HD.out, if_pos (by unfold isSp; rw [hs]; rfl)])
        have hb5 := hb.trans ((bAlloc1 wr (.cells #[.int .i64 13, .string y.tok.t, .string y.tok.u, .bool y.tok.wh, .bool y.tok.fl, .slice y.ka y.kn y.kc] 26)).mono hsz)
        have hown5 := hown.alloc (.cells #[.int .i64 13, .string y.tok.t, .string y.tok.u, .bool y.tok.wh, .bool y.tok.fl, .slice y.ka y.kn y.kc] 26)
        go_wp2_with fail
        go_roundw
        case rel => exact ⟨k + 1, acc, true, by omega, by omega, by go_num, rfl, HN, hown5, hb5⟩
        case measure => simp [intOf]; omega
      · have hsf : isSp y = false := by unfold isSp; simpa using hs
        cases b with
        | true =>
          have HN : Hid (partsF false (tl.drop (k + 1)) (acc ++ [y]) = partsS l) := Lib.hid (by rw [HD.out, hsf]; rfl)
          have hrl : (acc.map Val.row).length ≤ 100000 := by rw [List.length_map]; omega
          have hap : (acc ++ [y]).map Val.row = acc.map Val.row ++ [y.row] := by simp
          have HAP := Lib.hid hap
          clear hap hsf
          go_wp2_with (at_builtin; refine wpList_append_row rfl _ _ 24 26 rfl w1.heap.size 6 72 _ Tryz.underlying24 infoVal rfl (by decide) _ (acc.map Val.row) y.row rfl ((hown.alloc _).alloc _) ⟨wr.heap.size + 1, 0, none⟩ 1 rfl rfl (cells_new2 wr _ _ _) y.row_one (by omega) (by decide) (by simp; omega) ?_; intro v' w6 hown6 hgrow hne6)
          go_roundw
          case rel => exact ⟨k + 1, acc ++ [y], false, by omega, by simp; omega, by go_num, rfl, HN, by rw [HAP.out]; exact hown6, (hb.trans ((bAlloc2 wr _ _).mono hsz)).grown hgrow (by simp; omega) (fun j e => (hown.lt j e).1)⟩
          case measure => simp [intOf]; omega
        | false =>
          have HN : Hid (partsS l = none) := Lib.hid (by rw [HD.out, hsf]; rfl)
          clear hsf
          go_wp2_with fail
          refine bodyPost_ret (v := .tuple #[.slice none 0 0, .bool false]) (by simp [results, Tryz.results97, go_sem]) rfl ⟨_, by rw [HN.out]; rfl, ?_, ?_⟩
          · rw [HN.out]; exact ⟨none, 0, rfl, Nat.le_refl _, Nat.zero_le _, fun h => absurd rfl h⟩
          · exact bNext hb1 (hb.trans ((bAlloc1 wr _).mono hsz))
    · have hke : k = tl.length := by omega
      have HN : Hid (partsS l = some acc) := Lib.hid (by rw [← HF.out, hke, List.drop_length]; rfl)
      have q1 : ¬ (k : Int) < (tl.length : Int) := by omega
      have hal2 : acc.length ≤ 100000 := by omega
      clear hke
      obtain ⟨V, hV⟩ : ∃ V : Value, V = u4 := ⟨_, rfl⟩
      go_wp2_with fail
      refine bodyPost_ret (v := .tuple #[u4, .bool true]) (by simp [results, Tryz.results97, go_sem]) rfl ⟨u4, by rw [HN.out]; rfl, ?_, bNext hb1 hb⟩
      rw [HN.out]
      exact Vs.of_owns hown hal2
end Go.Proofs.YtpadcjcoafidgaaGreatDoor
