/- gouacheref14.Forms: the parts of a form, letter by letter. -/
import Derived.Test.YtpadcjcoafidgaaDoorRefs2
namespace Go.Proofs.YtpadcjcoafidgaaDoor
open Go.RowKit

/-- c ahead of the first part. -/
def prep (c : List UInt8) (L : List (List UInt8)) : List (List UInt8) := (c ++ L.headD []) :: L.tail
theorem prep_nil {L : List (List UInt8)} (h : L ≠ []) : prep [] L = L := by
  cases L with
  | nil => exact absurd rfl h
  | cons x r => rfl
theorem prep_bar (c r : List UInt8) : prep c (splitBar (124 :: r)) = c :: prep [] (splitBar r) := by
  rw [prep_nil (splitBar_ne r)]
  simp [prep, splitBar]
theorem prep_other (c r : List UInt8) (b : UInt8) (hb : b ≠ 124) : prep c (splitBar (b :: r)) = prep (c ++ [b]) (splitBar r) := by
  have : (b == 124) = false := by simpa using hb
  simp [prep, splitBar, this]
theorem drop_get (f : ByteArray) (i : Nat) (h : i < f.size) : f.data.toList.drop i = f[i] :: f.data.toList.drop (i + 1) := by
  have hl : i < f.data.toList.length := by simpa using h
  rw [List.drop_eq_getElem_cons hl]
  rfl
theorem extract_one (f : ByteArray) (i : Nat) (h : i < f.size) : f.extract i (i + 1) = bts [f[i]] := by
  rw [← Joins.bytes_eta (f.extract i (i + 1)), Lib.extract_data, drop_get f i h]
  simp [bts]

theorem byte_no {c : UInt8} (h : c ≠ 124) : ((c.toNat : Int) == 124) = false := by
  rw [beq_eq_false_iff_ne]
  intro e
  apply h
  apply UInt8.toNat_inj.1
  have : c.toNat = 124 := by omega
  rw [this]
  rfl
theorem byte_yes {c : UInt8} (h : c = 124) : ((c.toNat : Int) == 124) = true := by subst h; rfl
theorem bts_size (c : List UInt8) : (bts c).size = c.length := List.size_toArray

set_option maxRecDepth 100000 in
set_option maxHeartbeats 2000000 in
theorem refForms_any (x y f : ByteArray) (i : Bool) (hf : f.size ≤ 8000000) (w : World) :
    Calls Tryd.prog 18 #[.agg #[.string x, .string y, .bool i, .string f]] w fun e w' => ∃ v, e = .returned v ∧ Strs w.heap.size w' v (parts f) ∧ Below w.heap.size w w' := by
  go_enter Tryd.func18, Tryd.ntmps18
  go_wp2_with fail
  have k3 : (w.alloc (.cells #[.string x, .string y, .bool i, .string f] 35)).cell? ⟨w.heap.size, 3, none⟩ = some (.string f) := by simp
  have hA := below_alloc_new w (.cells #[.string x, .string y, .bool i, .string f] 35)
  have hsz : (w.alloc (.cells #[.string x, .string y, .bool i, .string f] 35)).heap.size = w.heap.size + 1 := by simp
  generalize w.alloc (.cells #[.string x, .string y, .bool i, .string f] 35) = w1 at k3 hA hsz ⊢
  have hlt1 : w.heap.size < w1.heap.size := by omega
  clear hsz
  go_loopw [3, 4, 5] (fun v s p wr => ∃ (k : Nat) (D : List (List UInt8)) (c : List UInt8), k ≤ f.size ∧ p = .int .i64 k ∧ s = .string (bts c) ∧ Hid (splitBar f.data.toList = D ++ prep c (splitBar (f.data.toList.drop k))) ∧ D.length ≤ k ∧ c.length ≤ k ∧
      wr.ownsRow w1.heap.size 9 1 v (D.map bts).length ((D.map bts).map Value.string) ∧ Below w1.heap.size w1 wr)
    (fun _ _ p _ => f.size - (intOf p).toNat)
  case atStart => exact ⟨0, [], [], by omega, rfl, rfl, Lib.hid (by rw [List.drop_zero, prep_nil (splitBar_ne _)]; rfl), by simp, by simp, World.ownsRow_nil _ _ _ _, Below.refl _ _⟩
  case round =>
    obtain ⟨k, D, c, hk, rfl, rfl, HS, hD, hc, hown, hB⟩ := hrel
    have kr : wr.cell? ⟨w.heap.size, 3, none⟩ = some (.string f) := (hB.cell (p := ⟨w.heap.size, 3, none⟩) hlt1).trans k3
    have hszr := hB.size
    by_cases hlt : k < f.size
    · by_cases hb : f[k] = 124
      · have hb' := byte_yes hb
        have e1 : splitBar f.data.toList = (D ++ [c]) ++ prep [] (splitBar (f.data.toList.drop (k + 1))) := by
          rw [HS.out, drop_get f k hlt, hb, prep_bar]
          simp
        have H1 := Lib.hid e1
        clear hb e1
        go_wp2_with (at_builtin; refine wpList_append_str rfl _ _ 25 9 rfl w1.heap.size Tryd.underlying25 infoStr _ _ _ rfl (hown.alloc _) wr.heap.size rfl (World.cell?_alloc_new _ _ _ _) (by rw [List.length_map]; omega) (by simp; omega) ?_; intro v' w4 hown' hgrow hne)
        have hB4 := (hB.alloc hszr (.cells #[.string (bts c)] 9)).grown hgrow (by simp; omega) (fun i e => (hown.lt i e).1)
        go_roundw
        case rel =>
          refine ⟨k + 1, D ++ [c], [], by omega, by go_num, rfl, H1, by simp; omega, by simp, ?_, hB4⟩
          have hm : (D ++ [c]).map bts = D.map bts ++ [bts c] := by simp
          rw [hm]
          exact hown'
        case measure => simp [intOf]; omega
      · have hb' := byte_no hb
        have e1 : splitBar f.data.toList = D ++ prep (c ++ [f[k]]) (splitBar (f.data.toList.drop (k + 1))) := by
          rw [HS.out, drop_get f k hlt, prep_other _ _ _ hb]
        have H1 := Lib.hid e1
        have e2 : bts c ++ f.extract k (k + 1) = bts (c ++ [f[k]]) := by rw [extract_one f k hlt, bts_append]
        have H2 := Lib.hid e2
        have z1 : ((bts c).size : Int) ≤ 8388608 := by rw [bts_size]; omega
        have z2 : ((f.extract k (k + 1)).size : Int) ≤ 8388608 := by rw [extract_one f k hlt, bts_size]; simp
        clear hb e1 e2
        go_wp2_with fail
        rw [H2.out]
        go_roundw
        case rel => exact ⟨k + 1, D, c ++ [f[k]], by omega, by go_num, rfl, H1, by omega, by simp; omega, hown, hB⟩
        case measure => simp [intOf]; omega
    · obtain rfl : k = f.size := by omega
      have e1 : parts f = D.map bts ++ [bts c] := by
        have h1 := HS.out
        rw [List.drop_eq_nil_of_le (by simp)] at h1
        unfold parts
        rw [h1]
        simp [prep, splitBar]
      have H1 := Lib.hid e1
      clear e1
      go_wp2_with (at_builtin; refine wpList_append_str rfl _ _ 25 9 rfl w1.heap.size Tryd.underlying25 infoStr _ _ _ rfl (hown.alloc _) wr.heap.size rfl (World.cell?_alloc_new _ _ _ _) (by rw [List.length_map]; omega) (by simp; omega) ?_; intro v' w4 hown' hgrow hne)
      have hB4 := (hB.alloc hszr (.cells #[.string (bts c)] 9)).grown hgrow (by simp; omega) (fun i e => (hown.lt i e).1)
      go_ret
      refine ⟨_, rfl, ?_, hA.trans (hB4.mono hA.size)⟩
      rw [H1.out]
      exact (Strs.of_owns hown' rfl).base hA.size
end Go.Proofs.YtpadcjcoafidgaaDoor
