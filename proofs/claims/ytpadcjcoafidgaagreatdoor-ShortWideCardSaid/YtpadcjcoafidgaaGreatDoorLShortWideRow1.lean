/- gouachelaw16.ShortWide: whatever the number and the bool, it returns true and changes nothing. Condition: the listed tables hold what the program's text lays (the card ties that). -/
import Derived.Test.YtpadcjcoafidgaaGreatDoorCards
import Derived.Test.YtpadcjcoafidgaaGreatDoorTie
import Derived.Test.YtpadcjcoafidgaaGreatDoorK1
import Derived.Test.YtpadcjcoafidgaaGreatDoorK5
import Derived.Test.YtpadcjcoafidgaaGreatDoorK8
import Derived.WalkKit
import Derived.IntWalk
import Derived.Laws.CopyOwn
import Derived.Deep.RegionHeld3
import Derived.Deep.RegionLaw
import Derived.ProofKit
import Derived.OpenShut
import Derived.Deep.Slices
import Derived.Carry
import Derived.SizedLaws
import Derived.Deep.DeepHandedRow
import Derived.SevenTiedAt
import Derived.Lib.SmallJoins
import Derived.WideKeyPair
/-! slices.Repeat of one text, no, two or four times. -/
namespace Go.Proofs.YtpadcjcoafidgaaGreatDoor
open Go.RowKit

set_option maxRecDepth 100000 in
set_option maxHeartbeats 2000000 in
theorem Mul_10 (w : World) : Calls Tryz.prog 79 #[.int .u64 1, .int .u64 0] w fun e w' => e = .returned (.tuple #[.int .u64 0, .int .u64 0]) ∧ Below w.heap.size w w' := by
  go_enter Tryz.func79, Tryz.ntmps79
  go_wp2
  exact bodyPost_ret (v := .tuple #[.int .u64 0, .int .u64 0]) (by kernel_rfl) rfl ⟨rfl, Below.refl _ _⟩
set_option maxRecDepth 100000 in
set_option maxHeartbeats 2000000 in
theorem Mul_12 (w : World) : Calls Tryz.prog 79 #[.int .u64 1, .int .u64 2] w fun e w' => e = .returned (.tuple #[.int .u64 0, .int .u64 2]) ∧ Below w.heap.size w w' := by
  go_enter Tryz.func79, Tryz.ntmps79
  go_wp2
  exact bodyPost_ret (v := .tuple #[.int .u64 0, .int .u64 2]) (by kernel_rfl) rfl ⟨rfl, Below.refl _ _⟩
set_option maxRecDepth 100000 in
set_option maxHeartbeats 2000000 in
theorem Mul_14 (w : World) : Calls Tryz.prog 79 #[.int .u64 1, .int .u64 4] w fun e w' => e = .returned (.tuple #[.int .u64 0, .int .u64 4]) ∧ Below w.heap.size w w' := by
  go_enter Tryz.func79, Tryz.ntmps79
  go_wp2
  exact bodyPost_ret (v := .tuple #[.int .u64 0, .int .u64 4]) (by kernel_rfl) rfl ⟨rfl, Below.refl _ _⟩
theorem infoStrR : (Tryz.prog.info? 9).map (fun i => (i.zero, i.size, i.bytes)) = some (some (.string ⟨#[]⟩), 1, 16) := by kernel_rfl
theorem infoStrS : (Tryz.prog.info? 9).map (·.size) = some 1 := by kernel_rfl
theorem copied {w : World} {b n : Nat} {s : ByteArray} (h : w.cell? ⟨b, 0, none⟩ = some (.string s)) {j : Nat} {v : Value} (hv : (List.replicate (Nat.min 1 n) (Value.string s))[j]? = some v) : w.cell? ((⟨b, 0, none⟩ : Addr).add j) = some v := by
  rw [List.getElem?_replicate] at hv
  split at hv
  · rename_i hj
    have hj0 : j = 0 := by
      have : Nat.min 1 n ≤ 1 := Nat.min_le_left ..
      omega
    subst hj0
    simp only [Option.some.injEq] at hv
    rw [← hv]
    exact h
  · cases hv
/-- The cells of the slice that is filled: m are there. -/
def filled (n m : Nat) (s : ByteArray) : List Value := List.replicate m (.string s) ++ List.replicate (n - m) (.string ⟨#[]⟩)
theorem made_rep (n : Nat) : (madeCells (Value.string ⟨#[]⟩).cells n).toList = List.replicate n (.string ⟨#[]⟩) := by
  apply List.ext_getElem
  · simp [madeCells]
  · intro i h1 h2
    simp [madeCells, Value.cells]
    rw [Nat.mod_one]
    rfl
theorem made_heap {w : World} {B e g n : Nat} (h : w.ownsRow B e 1 (.slice (some ⟨g, 0, none⟩) n n) n (madeCells (Value.string ⟨#[]⟩).cells (n * 1)).toList) : w.heap[g]? = some (.cells (List.replicate n (Value.string ⟨#[]⟩)).toArray e (0, 0)) := by
  obtain ⟨_, ⟨hv, _⟩ | ⟨g', cap, cur, hv, hg, hh, hcap, hmax, hsz, htake⟩⟩ := h
  · cases hv
  · simp only [Value.slice.injEq, Option.some.injEq, Addr.mk.injEq, and_true, true_and] at hv
    obtain ⟨rfl, rfl⟩ := hv
    rw [Nat.mul_one, made_rep] at htake
    have : cur.toList = List.replicate n (Value.string ⟨#[]⟩) := by
      rw [← htake, List.take_of_length_le]
      rw [Array.length_toList, hsz]
      omega
    rw [hh, ← this]
theorem filled_len (n m : Nat) (s : ByteArray) (h : m ≤ n) : (filled n m s).length = n := by simp [filled]; omega
theorem filled_zero (n : Nat) (s : ByteArray) (h : 1 ≤ n) : splice (List.replicate n (Value.string ⟨#[]⟩)) 0 (List.replicate (Nat.min 1 n) (.string s)) = filled n 1 s := by
  rw [show Nat.min 1 n = 1 from Nat.min_eq_left h]
  simp [splice, filled]
theorem filled_more (n m k : Nat) (s : ByteArray) (h : m + k ≤ n) : splice (filled n m s) m (List.replicate k (.string s)) = filled n (m + k) s := by
  unfold splice filled
  rw [List.take_left' (by simp), List.length_replicate, List.drop_append, List.drop_eq_nil_of_le (by simp), List.nil_append, List.length_replicate, List.drop_replicate, ← List.append_assoc, List.replicate_append_replicate]
  congr 2
  omega
theorem filled_cell {w : World} {g n m : Nat} {s : ByteArray} {e : TypeId} (h : w.heap[g]? = some (.cells (filled n m s).toArray e (0, 0))) {k : Nat} (hk : k ≤ m) {j : Nat} {v : Value} (hv : (List.replicate k (Value.string s))[j]? = some v) : w.cell? ((⟨g, 0, none⟩ : Addr).add j) = some v := by
  have hj : j < k := by have := (List.getElem?_eq_some_iff.1 hv).1; simpa using this
  have hadd : (⟨g, 0, none⟩ : Addr).add j = ⟨g, j, none⟩ := by unfold Addr.add; split <;> simp_all
  rw [hadd]
  simp only [World.cell?, h]
  rw [List.getElem?_replicate, if_pos hj] at hv
  simp [filled, List.getElem?_append_left (show j < (List.replicate m (Value.string s)).length by simp; omega), show j < m by omega, ← Option.some.inj hv]
theorem filled_strs {B n g : Nat} {w : World} {s : ByteArray} {e : TypeId} (h : w.heap[g]? = some (.cells (filled n n s).toArray e (0, 0))) (hB : B ≤ g) (hn : n ≤ 1000) : Strs B w (.slice (some ⟨g, 0, none⟩) n n) (List.replicate n s) := by
  refine ⟨some ⟨g, 0, none⟩, n, by simp [sRows], by simp [sRows]; unfold maxLen; omega, fun _ => ⟨g, 0, rfl, hB, (Array.getElem?_eq_some_iff.1 h).1, fun i j x hx => ?_⟩⟩
  have h2 := flatten_get (m := 1) (sRows (List.replicate n s)) i j x (sRows_len _) hx
  rw [sRows_flatten, List.map_replicate] at h2
  have := filled_cell h (Nat.le_refl n) h2
  rw [show (⟨g, 0, none⟩ : Addr).add (i * 1 + j) = ⟨g, i * 1 + j, none⟩ by unfold Addr.add; split <;> simp_all] at this
  simpa using this
set_option maxRecDepth 100000 in
set_option maxHeartbeats 4000000 in
theorem Repeat_pos (n : Nat) (hn1 : 1 ≤ n) (hn : n ≤ 1000) (HM : ∀ w, Calls Tryz.prog 79 #[.int .u64 1, .int .u64 n] w fun e w' => e = .returned (.tuple #[.int .u64 0, .int .u64 n]) ∧ Below w.heap.size w w') (w : World) (b : Nat) (s : ByteArray) (h : w.cell? ⟨b, 0, none⟩ = some (.string s)) :
    Calls Tryz.prog 96 #[.slice (some ⟨b, 0, none⟩) 1 1, .int .i64 n] w fun e w' => ∃ V, e = .returned V ∧ Strs w.heap.size w' V (List.replicate n s) ∧ Below w.heap.size w w' := by
  obtain ⟨i0, hi, hz0, hz1, hz2⟩ := info_parts infoStrR
  have Hi := Lib.hid hi
  have Hz0 := Lib.hid hz0
  have Hz1 := Lib.hid hz1
  have Hz2 := Lib.hid hz2
  have HMM := Lib.hid HM
  have c1 : IntKind.u64.wrap (n : Int) = (n : Int) := by
    rw [show IntKind.u64.wrap (n : Int) = (n : Int) % 18446744073709551616 by simp [IntKind.wrap, IntKind.bits, IntKind.signed]]
    omega
  have c2 : IntKind.i64.wrap (n : Int) = (n : Int) := Go.IntWalk.i64_in _ (by omega)
  have q0 : ¬ (n : Int) < 0 := by omega
  have q1 : ¬ (9223372036854775807 : Int) < (n : Int) := by omega
  clear hi hz0 hz1 hz2 HM
  go_enter Tryz.func96, Tryz.ntmps96
  go_wp2_with fail
  refine (HMM.out w).mono ?_
  rintro e w1 ⟨rfl, hb1⟩
  have h1 := cell_later hb1 h
  have hrep : ∀ (m : Nat) (v : Value), v ∈ List.replicate m (Value.string s) → v.oneCell' = true := fun m v hv => by rw [(List.mem_replicate.1 hv).2]; rfl
  have hGle := hb1.size
  have HF0 := Lib.hid (filled_zero n s hn1)
  go_wp2_with (first
    | (refine wpList_make_full _ rfl _ _ 42 rfl w1.heap.size 9 i0 (.string ⟨#[]⟩) 1 Tryz.underlying42 Hi.out Hz0.out Hz1.out .i64 .i64 n n n rfl rfl rfl rfl (by rw [Hz2.out]; omega) (by unfold maxLen; omega) (Nat.le_refl _) ?_; intro w2 hown hg2; have hh2 := made_heap hown; have hw12 : Below w1.heap.size w1 w2 := (Below.refl w1.heap.size w1).grown hg2 (Nat.le_refl _) (fun k e => by cases e); have hB2 := bNext hb1 hw12; have h2 := cell_later hw12 h1)
    | (refine wpList_copy_splice (o := ⟨some 33, _, _, _, _, _⟩) rfl (.tmp 31) (.tmp 32) 42 42 rfl 9 Tryz.underlying42 infoStrS (some ⟨w1.heap.size, 0, none⟩) (some ⟨b, 0, none⟩) n n 1 1 rfl rfl w1.heap.size 0 (List.replicate n (Value.string ⟨#[]⟩)) 9 hh2 (List.replicate (Nat.min 1 n) (.string s)) List.length_replicate (fun _ => ⟨rfl, _, rfl, fun j v hv => copied h2 hv⟩) (by rw [List.length_replicate, List.length_replicate, Nat.zero_add]; exact Nat.min_le_right ..) (hrep _) w.heap.size w hB2 hGle ?_; intro w3 hh3 hb3))
  have HH3 : Hid (w3.heap[w1.heap.size]? = some (.cells (filled n 1 s).toArray 9 (0, 0))) := Lib.hid (by rw [← HF0.out]; exact hh3.out)
  obtain ⟨g, hg⟩ : ∃ g, w1.heap.size = g := ⟨_, rfl⟩
  rw [hg] at HH3 hGle ⊢
  clear hown hg2 hh2 hw12 hB2 h2 h1 hh3 HF0 hb1 hg c1 c2
  go_loopw [8] (fun nv wr => ∃ m : Nat, 1 ≤ m ∧ m ≤ n ∧ nv = .int .i64 m ∧ Hid (wr.heap[g]? = some (.cells (filled n m s).toArray 9 (0, 0))) ∧ Below w.heap.size w wr) (fun nv _ => n - (intOf nv).toNat)
  case atStart => exact ⟨1, Nat.le_refl _, hn1, rfl, HH3, hb3⟩
  case round =>
    obtain ⟨m, hm1, hm2, rfl, HH, hb⟩ := hrel
    by_cases hlt : m < n
    · have p1 : (m : Int) < (n : Int) := by omega
      have p2 : (0 : Int) ≤ (m : Int) := by omega
      have p3 : (m : Int) ≤ (n : Int) := by omega
      have p4 : ¬ (n = m) := by omega
      obtain ⟨k, hk, hk1, hk2⟩ : ∃ k, Nat.min m (n - m) = k ∧ 1 ≤ k ∧ m + k ≤ n := ⟨_, rfl, by show 1 ≤ min m (n - m); omega, by show m + min m (n - m) ≤ n; omega⟩
      have hkm : k ≤ m := by rw [← hk]; exact Nat.min_le_left ..
      have HK := Lib.hid hk
      have hw : IntKind.i64.wrap ((m : Int) + (k : Int)) = ((m + k : Nat) : Int) := by rw [Go.IntWalk.i64_in _ (by omega)]; omega
      have HL := Lib.hid (filled_len n m s hm2)
      have HM2 := Lib.hid (filled_more n m k s hk2)
      clear hk
      go_wp2_with fail
      have hhd : wr.drew.heap[g]? = some (.cells (filled n m s).toArray 9 (0, 0)) := HH.out
      have hcc : ∀ (j : Nat) (v : Value), (List.replicate k (Value.string s))[j]? = some v → wr.drew.cell? ((⟨g, 0, none⟩ : Addr).add j) = some v := fun j v hv => filled_cell hhd hkm hv
      have hfit : m + (List.replicate k (Value.string s)).length ≤ (filled n m s).toArray.size := by rw [List.length_replicate, List.size_toArray, HL.out]; exact hk2
      have hmn : (List.replicate k (Value.string s)).length = Nat.min m (n - m) := by rw [List.length_replicate]; exact HK.out.symm
      have hbd := hb.drew
      obtain ⟨W4, hrun, HW4, hb4⟩ : ∃ W4, Sem.run Tryz.prog (Builtin.copy_ #[42, 42] 3 #[.slice (some ⟨g, m, none⟩) (n - m) (n - m), .slice (some ⟨g, 0, none⟩) m n]) wr.drew = .ok (.int .i64 k) W4 ∧ Hid (W4.heap[g]? = some (.cells (filled n (m + k) s).toArray 9 (0, 0))) ∧ Below w.heap.size w W4 := by
        refine ⟨_, (run_copy_row (P := Tryz.prog) wr.drew 42 42 3 9 g m (n - m) (n - m) ⟨g, 0, none⟩ m n _ 9 (List.replicate k (.string s)) Tryz.underlying42 infoStrS hhd hmn hcc hfit (hrep k)).trans (by rw [List.length_replicate]; rfl), Lib.hid ?_, below_setRow hbd hGle _⟩
        rw [setRow_heap _ g _ _ _ _ hhd, ← HM2.out]
        simp [splice, List.append_assoc]
      clear hhd hcc hfit hmn hbd
      go_region
      go_wp2_with fail
      go_roundw
      case rel => exact ⟨m + k, by omega, hk2, by go_num, HW4, hb4⟩
      case measure => simp [intOf]; omega
    · obtain rfl : m = n := by omega
      have p1 : ¬ (m : Int) < (m : Int) := by omega
      go_wp2_with fail
      go_ret
      exact ⟨_, rfl, filled_strs HH.out hGle hn, hb⟩
set_option maxRecDepth 100000 in
set_option maxHeartbeats 4000000 in
theorem Repeat_zero (w : World) (b : Nat) (s : ByteArray) (h : w.cell? ⟨b, 0, none⟩ = some (.string s)) :
    Calls Tryz.prog 96 #[.slice (some ⟨b, 0, none⟩) 1 1, .int .i64 0] w fun e w' => ∃ V, e = .returned V ∧ Strs w.heap.size w' V [] ∧ Below w.heap.size w w' := by
  obtain ⟨i0, hi, hz0, hz1, hz2⟩ := info_parts infoStrR
  have Hi := Lib.hid hi
  have Hz0 := Lib.hid hz0
  have Hz1 := Lib.hid hz1
  have Hz2 := Lib.hid hz2
  clear hi hz0 hz1 hz2
  go_enter Tryz.func96, Tryz.ntmps96
  go_wp2_with fail
  refine (Mul_10 w).mono ?_
  rintro e w1 ⟨rfl, hb1⟩
  have h1 := cell_later hb1 h
  go_wp2_with (first
    | (refine wpList_make_full _ rfl _ _ 42 rfl w1.heap.size 9 i0 (.string ⟨#[]⟩) 1 Tryz.underlying42 Hi.out Hz0.out Hz1.out .i64 .i64 0 0 0 rfl rfl rfl rfl (by rw [Hz2.out]; omega) (by unfold maxLen; omega) (Nat.le_refl _) ?_; intro w2 hown hg2; have hw12 : Below w1.heap.size w1 w2 := (Below.refl w1.heap.size w1).grown hg2 (Nat.le_refl _) (fun k e => by cases e))
    | (refine wpList_copy_nothing (o := ⟨some 33, _, _, _, _, _⟩) rfl (.tmp 31) (.tmp 32) 42 42 rfl 9 Tryz.underlying42 infoStrS (some ⟨w1.heap.size, 0, none⟩) (some ⟨b, 0, none⟩) 0 0 1 1 rfl rfl rfl ?_))
  clear hown hg2
  go_loopw [8] (fun nv wr => nv = .int .i64 0 ∧ wr = w2) (fun _ _ => 0)
  case atStart => exact ⟨rfl, rfl⟩
  case round =>
    obtain ⟨rfl, hwr⟩ := hrel
    subst hwr
    go_wp2_with fail
    go_ret
    exact ⟨_, rfl, ⟨_, _, rfl, Nat.zero_le _, fun h => absurd rfl h⟩, bNext hb1 hw12⟩
theorem Repeat_any (n : Nat) (hn : n = 0 ∨ n = 2 ∨ n = 4) (w : World) (b : Nat) (s : ByteArray) (h : w.cell? ⟨b, 0, none⟩ = some (.string s)) :
    Calls Tryz.prog 96 #[.slice (some ⟨b, 0, none⟩) 1 1, .int .i64 n] w fun e w' => ∃ V, e = .returned V ∧ Strs w.heap.size w' V (List.replicate n s) ∧ Below w.heap.size w w' := by
  rcases hn with rfl | rfl | rfl
  · exact Repeat_zero w b s h
  · exact Repeat_pos 2 (by decide) (by decide) Mul_12 w b s h
  · exact Repeat_pos 4 (by decide) (by decide) Mul_14 w b s h
end Go.Proofs.YtpadcjcoafidgaaGreatDoor
/-! short.spread and short.Expand where a value for all stands; short.one; short.Expand of any declaration. -/
namespace Go.Proofs.YtpadcjcoafidgaaGreatDoor
open Go.RowKit

theorem longsOf_n (name : ByteArray) : (longsOf name).length = 0 ∨ (longsOf name).length = 2 ∨ (longsOf name).length = 4 := by
  by_cases h : longsOf name = []
  · rw [h]; exact .inl rfl
  · rcases longsOf_exact name h with ⟨-, h⟩ | ⟨-, h⟩
    · exact .inr (.inl h)
    · exact .inr (.inr h)
theorem str_ne {s : ByteArray} (h : eqB s noStr = false) : s.toList.isEmpty = false ∧ ¬ (s.toList = []) := by
  have hn : ¬ (s.toList = []) := by
    intro e
    have : eqB s noStr = true := by
      rw [← toList_eqB, e]
      rw [noStr, ByteArray.toList_eq]
      rfl
    rw [this] at h
    cases h
  refine ⟨?_, hn⟩
  cases hs : s.toList with
  | nil => exact absurd hs hn
  | cons a l => rfl
theorem str_eq {s : ByteArray} (h : eqB s noStr = true) : s = noStr := (eqB_iff _ _).1 h
theorem noStr_facts : noStr.toList = [] ∧ noStr.toList.isEmpty = true := by
  have h : noStr.toList = [] := by rw [noStr, ByteArray.toList_eq]
  exact ⟨h, by rw [h]; rfl⟩
set_option maxRecDepth 100000 in
set_option maxHeartbeats 4000000 in
theorem spread_wide (w : World) (name : ByteArray) (longs : List ByteArray) (lv v : Value) (l : List Val) (B : Nat) (hs : Strs B w lv longs) (hn : longs.length = 0 ∨ longs.length = 2 ∨ longs.length = 4) (h : Vs w v l) (hf : ∀ x ∈ l, x.fits) (hw : eqB (wideS l) noStr = false) :
    Calls Tryz.prog 61 #[.string name, lv, v] w fun e w' => ∃ V, e = .returned V ∧ Strs w.heap.size w' V (List.replicate longs.length (wideS l)) ∧ Below w.heap.size w w' := by
  obtain ⟨la, lc, rfl, _⟩ := hs.val
  have HW := Wide_any w v l h hf
  obtain ⟨s, hse⟩ : ∃ s, wideS l = s := ⟨_, rfl⟩
  rw [hse] at hw HW ⊢
  have HWW := Lib.hid HW
  obtain ⟨z1, z2⟩ := str_ne hw
  have HN := Lib.hid hn
  clear hs h hf HW hse hw hn
  go_enter Tryz.func61, Tryz.ntmps61
  go_wp2_with fail
  refine HWW.out.mono ?_
  rintro e w1 ⟨rfl, hb1⟩
  go_wp2_with fail
  refine (Repeat_any longs.length HN.out _ w1.heap.size s (by simp)).mono ?_
  rintro e w2 ⟨V, rfl, hV, hb2⟩
  go_wp2_with fail
  go_ret
  exact ⟨_, rfl, hV.base (by simp; exact Nat.le_succ_of_le hb1.size), bNext (bNext hb1 (bAlloc1 _ _)) hb2⟩
/-- short.spread of any values. -/
def spreadX (name : ByteArray) (longs : List ByteArray) (l : List Val) : List ByteArray := if eqB (wideS l) noStr = true then spreadS name longs l else List.replicate longs.length (wideS l)
theorem spreadX_len (name : ByteArray) (longs : List ByteArray) (l : List Val) : (spreadX name longs l).length ≤ longs.length := by
  unfold spreadX
  split
  · exact spreadS_len name longs l
  · simp
theorem spread_any (w : World) (hB : Base16 w) (name : ByteArray) (lv v : Value) (l : List Val) (B : Nat) (hs : Strs B w lv (longsOf name)) (h : Vs w v l) (hf : ∀ x ∈ l, x.fits) :
    Calls Tryz.prog 61 #[.string name, lv, v] w fun e w' => ∃ V, e = .returned V ∧ Strs w.heap.size w' V (spreadX name (longsOf name) l) ∧ Below w.heap.size w w' := by
  unfold spreadX
  cases hw : eqB (wideS l) noStr
  · exact spread_wide w name (longsOf name) lv v l B hs (longsOf_n name) h hf hw
  · exact spread_plain w hB name (longsOf name) lv v l B hs (by have := (longsOf_len name).1; omega) h hf (str_eq hw) (fun n i hi => which_lt name n i hi)
/-- A longhand's value. -/
def oneS (name : ByteArray) (l : List Val) : Option ByteArray := if eqB (wideS l) noStr = true then parseS name l else some (wideS l)
set_option maxRecDepth 100000 in
set_option maxHeartbeats 4000000 in
theorem one_any (w : World) (hB : Base w) (name : ByteArray) (v : Value) (l : List Val) (h : Vs w v l) (hf : ∀ x ∈ l, x.fits) :
    Calls Tryz.prog 60 #[.string name, v] w fun e w' => e = .returned (resS (oneS name l)) ∧ Below w.heap.size w w' := by
  have HW := Wide_any w v l h hf
  have HP := fun W (hb : Below w.heap.size w W) => Parse_any W (hB.next hb) name v l (h.next hb) hf
  have hO : oneS name l = if eqB (wideS l) noStr = true then parseS name l else some (wideS l) := rfl
  obtain ⟨a, c, rfl, -⟩ := h
  obtain ⟨s, hse⟩ : ∃ s, wideS l = s := ⟨_, rfl⟩
  rw [hse] at HW hO
  have HWW := Lib.hid HW
  have HPP := Lib.hid HP
  cases hw : eqB s noStr
  · obtain ⟨z1, z2⟩ := str_ne hw
    have HV : Hid (resS (oneS name l) = .tuple #[.string s, .bool true]) := Lib.hid (by rw [hO, hw]; rfl)
    clear HW HP hf hse hw hO hB
    go_enter Tryz.func60, Tryz.ntmps60
    go_wp2_with fail
    refine HWW.out.mono ?_
    rintro e w1 ⟨rfl, hb1⟩
    go_wp2_with fail
    exact bodyPost_ret (v := .tuple #[.string s, .bool true]) (by simp [results, Tryz.results60, go_sem]) rfl ⟨by rw [HV.out], hb1⟩
  · obtain rfl := str_eq hw
    obtain ⟨z1, z2⟩ := noStr_facts
    have HV : Hid (oneS name l = parseS name l) := Lib.hid (by rw [hO, hw]; rfl)
    clear HW HP hf hse hw hO hB
    go_enter Tryz.func60, Tryz.ntmps60
    go_wp2_with fail
    refine HWW.out.mono ?_
    rintro e w1 ⟨rfl, hb1⟩
    go_wp2_with fail
    refine (HPP.out _ hb1).mono ?_
    rintro e w2 ⟨rfl, hb2⟩
    cases hr : parseS name l with
    | none =>
      have HV2 : Hid (resS (oneS name l) = .tuple #[.string noStr, .bool false]) := Lib.hid (by rw [HV.out, hr]; rfl)
      simp only [resS]
      go_wp2_with fail
      exact bodyPost_ret (v := .tuple #[.string noStr, .bool false]) (by simp [results, Tryz.results60, go_sem, noStr]) rfl ⟨by rw [HV2.out], bNext hb1 hb2⟩
    | some t =>
      have HV2 : Hid (resS (oneS name l) = .tuple #[.string t, .bool true]) := Lib.hid (by rw [HV.out, hr]; rfl)
      simp only [resS]
      go_wp2_with fail
      exact bodyPost_ret (v := .tuple #[.string t, .bool true]) (by simp [results, Tryz.results60, go_sem]) rfl ⟨by rw [HV2.out], bNext hb1 hb2⟩
/-- The longhands of any declaration. -/
def expandA (name : ByteArray) (l : List Val) (imp : Bool) : List LongT := if (placeN name).isSome = true then (match oneS name l with
  | some s => [(name, s, imp)]
  | none => []) else longRows (longsOf name) (spreadX name (longsOf name) l) imp
theorem Rws.one3 (w : World) (x : LongT) (t : TypeId) : Rws w.heap.size (w.alloc (.cells x.row.toArray t)) 3 (.slice (some ⟨w.heap.size, 0, none⟩) 1 1) ([x].map LongT.row) := by
  refine ⟨_, 1, rfl, by show 1 ≤ maxLen; unfold maxLen; omega, fun _ => ⟨w.heap.size, 0, rfl, Nat.le_refl _, by simp, fun i j u hu => ?_⟩⟩
  cases i with
  | zero =>
    have hu' : x.row[j]? = some u := by simpa using hu
    have hn := heap_alloc_new w (.cells x.row.toArray t)
    simp only [World.cell?, hn, Nat.zero_add, Nat.zero_mul]
    simpa using hu'
  | succ i => simp at hu
set_option maxRecDepth 100000 in
set_option maxHeartbeats 8000000 in
theorem Expand_long (w : World) (hB : Base16 w) (name : ByteArray) (v : Value) (l : List Val) (imp : Bool) (h : Vs w v l) (hf : ∀ x ∈ l, x.fits) (k : Nat) (hn : placeN name = some k) :
    ∀ a n c, v = .slice a n c → Calls Tryz.prog 25 #[.agg #[.string name, .slice a n c, .bool imp]] w fun e w' => ∃ V, e = .returned V ∧ Rws w.heap.size w' 3 V ((match oneS name l with
      | some s => [(name, s, imp)]
      | none => ([] : List LongT)).map LongT.row) ∧ Below w.heap.size w w' := by
  intro a n c hv
  subst hv
  have HB := Lib.hid hB
  have hO := Own.new w #[.string name, .slice a n c, .bool imp] 48
  have hb0 := bAlloc1 w (.cells #[.string name, .slice a n c, .bool imp] 48)
  have h0 := h.next hb0
  have HO1 : Hid (∀ W, Below w.heap.size w W → Vs W (.slice a n c) l → Calls Tryz.prog 60 #[.string name, .slice a n c] W fun e w' => e = .returned (resS (oneS name l)) ∧ Below W.heap.size W w') := Lib.hid (fun W hb hv => one_any W (hB.next hb).base name _ l hv hf)
  obtain ⟨⟨ra, rb, rc, rf⟩, hr⟩ : ∃ r, findRow name = r := ⟨_, rfl⟩
  obtain ⟨o, ho⟩ : ∃ o, oneS name l = o := ⟨_, rfl⟩
  rw [ho] at HO1 ⊢
  clear hB h ho
  cases o with
  | none =>
    simp only [resS] at HO1
    go_enter Tryz.func25, Tryz.ntmps25
    go_wp2_with fail
    refine (Find_any name _).mono ?_
    rintro e w1 ⟨rfl, hb1⟩
    rw [hn, hr]
    simp only [Option.isSome_some]
    have hB1 := bNext hb0 hb1
    have hO2 := (hO.next hb1).next (bAlloc1 w1 (.cells #[.string ra, .string rb, .bool rc, .string rf] 39))
    have h2 := (h0.next hb1).next (bAlloc1 w1 (.cells #[.string ra, .string rb, .bool rc, .string rf] 39))
    have hB2 := bNext hB1 (bAlloc1 w1 (.cells #[.string ra, .string rb, .bool rc, .string rf] 39))
    have m2 := hO2.m
    clear hO hb0 hb1 h0 hB1 hr hn
    go_wp2_with fail
    refine (HO1.out _ hB2 h2).mono ?_
    rintro e w3 ⟨rfl, hb3⟩
    go_wp2_with fail
    go_ret
    exact ⟨_, rfl, Rws.nil _ _ _, bNext hB2 hb3⟩
  | some s =>
    simp only [resS] at HO1
    go_enter Tryz.func25, Tryz.ntmps25
    go_wp2_with fail
    refine (Find_any name _).mono ?_
    rintro e w1 ⟨rfl, hb1⟩
    rw [hn, hr]
    simp only [Option.isSome_some]
    have hB1 := bNext hb0 hb1
    have hO2 := (hO.next hb1).next (bAlloc1 w1 (.cells #[.string ra, .string rb, .bool rc, .string rf] 39))
    have h2 := (h0.next hb1).next (bAlloc1 w1 (.cells #[.string ra, .string rb, .bool rc, .string rf] 39))
    have hB2 := bNext hB1 (bAlloc1 w1 (.cells #[.string ra, .string rb, .bool rc, .string rf] 39))
    have m2 := hO2.m
    clear hO hb0 hb1 h0 hB1 hr hn
    go_wp2_with fail
    refine (HO1.out _ hB2 h2).mono ?_
    rintro e w3 ⟨rfl, hb3⟩
    have m3 := (hO2.next hb3).m
    have hB3 := bNext hB2 hb3
    clear m2 hB2
    go_wp2_with fail
    go_ret
    exact ⟨_, rfl, (Rws.one3 w3 (name, s, imp) 52).base hB3.size, bNext hB3 (bAlloc1 _ _)⟩
theorem Expand_any (w : World) (hB : Base16 w) (name : ByteArray) (v : Value) (l : List Val) (imp : Bool) (h : Vs w v l) (hf : ∀ x ∈ l, x.fits) :
    ∀ a n c, v = .slice a n c → Calls Tryz.prog 25 #[.agg #[.string name, .slice a n c, .bool imp]] w fun e w' => ∃ V, e = .returned V ∧ Rws w.heap.size w' 3 V ((expandA name l imp).map LongT.row) ∧ Below w.heap.size w w' := by
  unfold expandA
  cases hn : placeN name with
  | some k => exact Expand_long w hB name v l imp h hf k hn
  | none => exact Expand_gen w hB name v l imp h hn _ (spreadX_len name (longsOf name) l) (fun W B lv v hB hs hv => spread_any W hB name lv v l B hs hv hf)
end Go.Proofs.YtpadcjcoafidgaaGreatDoor
/-! The walk of gouachelaw16.ShortWide. -/
namespace Go.Proofs.YtpadcjcoafidgaaGreatDoor
open Go.RowKit

def tUnset : ByteArray := ⟨#[85, 110, 115, 101, 116]⟩
def rUnset : ByteArray := ⟨#[117, 110, 115, 101, 116]⟩
def tUnset2 : ByteArray := ⟨#[117, 110, 115, 101, 116, 32, 117, 110, 115, 101, 116]⟩
def unV : List Val := (toksOf tUnset).map Val.of
def unV2 : List Val := (toksOf tUnset2).map Val.of
theorem unset_facts : lexOk tUnset = true ∧ eqB (wideS unV) rUnset = true ∧ lexOk tUnset2 = true := by decide +kernel
theorem unset_shorts : ∀ j : Fin 6, (placeN (shortAt j.val).1).isSome = false ∧ (expandA (shortAt j.val).1 unV2 false).length = 0 ∧ (expandA (shortAt j.val).1 [] false).length = 0 := by decide +kernel
theorem unset_all (name : ByteArray) (imp : Bool) (h : (placeN name).isSome = false) : expandA name unV imp = (longsOf name).map fun s => (s, rUnset, imp) := by
  have hw : wideS unV = rUnset := (eqB_iff _ _).1 unset_facts.2.1
  unfold expandA spreadX
  rw [h, if_neg (by decide), hw, if_neg (by decide)]
  unfold longRows
  generalize longsOf name = l
  induction l with
  | nil => rfl
  | cons a l ih => simpa [List.replicate_succ] using ih
set_option maxRecDepth 100000 in
set_option maxHeartbeats 8000000 in
theorem shortWide_walk (n : Int) (hn : 0 ≤ n) (imp : Bool) (w : World) (hB : Base16 w) :
    Calls Tryz.prog 10 #[.int .u64 n, .bool imp] w fun e w' => e = .returned (.bool true) ∧ Below w.heap.size w w' := by
  have HB := Lib.hid hB
  clear hB
  go_enter Tryz.func10, Tryz.ntmps10
  go_wp2_with fail
  refine (Shorts_any _ HB.out.sh).mono ?_
  rintro e w1 ⟨v1, rfl, hv1, hb1⟩
  obtain ⟨b1, o1, c1, rfl, -, hlt1, hc1⟩ := hv1.at (by decide)
  obtain ⟨j, hj⟩ : ∃ j : Nat, n % 6 = j := ⟨(n % 6).toNat, by omega⟩
  have hj6 : j < 6 := by omega
  have x0 : w1.cell? ⟨b1, o1 + j, none⟩ = some (.string (shortAt j).1) := by
    have := hc1 j (by rw [List.length_map, shortsTbl_length]; exact hj6)
    rw [this, List.getElem_map, shortAt_getElem (by rw [shortsTbl_length]; exact hj6)]
  obtain ⟨f1, f2, f3⟩ := unset_shorts ⟨j, hj6⟩
  simp only at f1 f2 f3
  have l1 : (shortsTbl.map (·.1)).length = 6 := by rw [List.length_map, shortsTbl_length]
  simp only [l1]
  obtain ⟨nm, hnm⟩ : ∃ x, (shortAt j).1 = x := ⟨_, rfl⟩
  rw [hnm] at x0 f1 f2 f3
  have HA := Lib.hid (unset_all nm imp f1)
  have HA2 : Hid (expandA nm unV2 false = []) := Lib.hid (List.eq_nil_of_length_eq_zero f2)
  have HA3 : Hid (expandA nm [] false = []) := Lib.hid (List.eq_nil_of_length_eq_zero f3)
  have q1 : (0 : Int) ≤ (j : Int) := by omega
  have q2 : (j : Int) < 6 := by omega
  clear hc1 hv1 l1 f1 f2 f3 hnm
  go_wp2_with fail
  refine (values16_any w1 tUnset _ (Lexes.of unset_facts.1)).mono ?_
  rintro e w2 ⟨v2, rfl, hv2, hb2⟩
  obtain ⟨a2, c2, rfl, -⟩ := id hv2
  have hB2 := bNext hb1 hb2
  clear x0
  go_wp2_with fail
  refine (Expand_any w2 (HB.out.next hB2) nm _ _ imp hv2 (fits_of unset_facts.1) _ _ _ rfl).mono ?_
  rintro e w3 ⟨v3, rfl, hr3, hb3⟩
  rw [show expandA nm ((toksOf tUnset).map Val.of) imp = (longsOf nm).map fun s => (s, rUnset, imp) from HA.out] at hr3
  have hB3 := bNext hB2 hb3
  obtain ⟨longs, hlongs⟩ : ∃ x, longsOf nm = x := ⟨_, rfl⟩
  have HLn := Lib.hid hlongs
  have hle : longs.length ≤ 4 := by rw [← hlongs]; exact (longsOf_len nm).1
  rw [hlongs] at hr3
  have HR := Lib.hid hr3
  obtain ⟨a3, c3, rfl, -, -⟩ := hr3
  simp only [List.length_map]
  clear hv2 hb1 hb2 hlongs hB2 HA
  go_wp2_with fail
  refine (Longs_any nm w3 (HB.out.next hB3).sh).mono ?_
  rintro e w4 ⟨v4, rfl, hl4, -, hb4⟩
  obtain ⟨a4, c4, rfl, -⟩ := hl4.val
  have hB4 := bNext hB3 hb4
  rw [HLn.out]
  clear hl4
  go_wp2_with fail
  go_loopw [9, 35] (fun _ iv wr => ∃ k : Nat, k ≤ longs.length ∧ iv = .int .i64 k ∧ Below w4.heap.size w4 wr) (fun _ iv _ => longs.length - (intOf iv).toNat)
  case atStart => exact ⟨0, by omega, rfl, Below.refl _ _⟩
  case round =>
    obtain ⟨k, hk, rfl, hb⟩ := hrel
    have hB := bNext hB4 hb
    by_cases hlt : k < longs.length
    · have hne : ((longs.map fun s => (s, rUnset, imp)).map LongT.row) ≠ [] := by
        intro e
        rw [List.map_eq_nil_iff, List.map_eq_nil_iff] at e
        rw [e] at hlt
        simp at hlt
      obtain ⟨b5, o5, c5, e5, -, hlt5, hc5⟩ := HR.out.shape hne
      simp only [Value.slice.injEq] at e5
      obtain ⟨rfl, -, -⟩ := e5
      have hb35 := bNext hb4 hb
      have cc := fun (j : Nat) (x : Value) (hx : (LongT.row (longs[k], rUnset, imp))[j]? = some x) => (hb35.cell (p := ⟨b5, o5 + k * 3 + j, none⟩) hlt5).trans (hc5 k j x (by
        rw [List.getElem?_map, List.getElem?_map, List.getElem?_eq_getElem hlt]
        exact hx))
      have y0 : wr.cell? ⟨b5, o5 + k * 3, none⟩ = some (.string longs[k]) := cc 0 _ rfl
      have y1 : wr.cell? ⟨b5, o5 + k * 3 + 1, none⟩ = some (.string rUnset) := cc 1 _ rfl
      have y2 : wr.cell? ⟨b5, o5 + k * 3 + 2, none⟩ = some (.bool imp) := cc 2 _ rfl
      have z1 : (rUnset.toList == [117, 110, 115, 101, 116]) = true := (toList_lit rUnset rUnset _ rfl).trans (eqB_self _)
      have p0 : (0 : Int) ≤ (k : Int) := by omega
      have p1 : (k : Int) < (longs.length : Int) := by omega
      clear cc hc5 hne
      cases imp
      all_goals
        go_wp2_with fail
        go_roundw
        case rel => exact ⟨k + 1, by omega, by go_num, bNext hb (bAlloc1 _ _)⟩
        case measure => simp [intOf]; omega
    · have p1 : ¬ (k : Int) < (longs.length : Int) := by omega
      go_wp2_with fail
      refine (values16_any wr tUnset2 _ (Lexes.of unset_facts.2.2)).mono ?_
      rintro e w6 ⟨v6, rfl, hv6, hb6⟩
      obtain ⟨a6, c6, rfl, -⟩ := id hv6
      have hB6 := bNext hB hb6
      go_wp2_with fail
      refine (Expand_any w6 (HB.out.next hB6) nm _ _ false hv6 (fits_of unset_facts.2.2) _ _ _ rfl).mono ?_
      rintro e w7 ⟨v7, rfl, hr7, hb7⟩
      rw [show expandA nm ((toksOf tUnset2).map Val.of) false = [] from HA2.out] at hr7
      obtain ⟨a7, c7, rfl, -, -⟩ := hr7
      have hB7 := bNext hB6 hb7
      go_wp2_with fail
      refine (Expand_any w7 (HB.out.next hB7) nm (.slice none 0 0) [] false ⟨none, 0, rfl, Nat.le_refl _, Nat.zero_le _, fun h => absurd rfl h⟩ (fun x hx => by cases hx) _ _ _ rfl).mono ?_
      rintro e w8 ⟨v8, rfl, hr8, hb8⟩
      rw [HA3.out] at hr8
      obtain ⟨a8, c8, rfl, -, -⟩ := hr8
      have hB8 := bNext hB7 hb8
      go_wp2_with fail
      refine (lives16_any w8 (HB.out.next hB8)).mono ?_
      rintro e w9 ⟨rfl, hb9⟩
      go_wp2_with fail
      go_ret
      exact ⟨rfl, bNext hB8 hb9⟩
end Go.Proofs.YtpadcjcoafidgaaGreatDoor
/-! What a call's arguments hold: slices and structs of the reader's data, opened into rows of cells; the reach of what was read; arguments that read as they did. Over any program. -/
namespace Go.Proofs.YtpadcjcoafidgaaGreatDoor
open Go.RowKit Go.ChangeShapes Go.WideShapes

section
variable {H : Type} {enc : TypeId × Value → H} {P : Program} {W : World} {base : Nat} {sp : Nat → Bool} {held : Bool}

theorem mapM_get {α β : Type} {f : α → Option β} : ∀ {l : List α} {r : List β}, l.mapM f = some r → ∀ (i : Nat) (a : α), l[i]? = some a → ∃ b, r[i]? = some b ∧ f a = some b
  | [], _, _, i, a, hi => by simp at hi
  | x :: l, r, h, i, a, hi => by
    rw [List.mapM_cons] at h
    simp only [bind, Option.bind_eq_some_iff, pure, Option.some.injEq] at h
    obtain ⟨b, hb, r', hr, rfl⟩ := h
    cases i with
    | zero =>
      simp only [List.getElem?_cons_zero, Option.some.injEq] at hi
      subst hi
      exact ⟨b, rfl, hb⟩
    | succ i => exact mapM_get hr i a (by simpa using hi)
theorem mapM_len {α β : Type} {f : α → Option β} : ∀ {l : List α} {r : List β}, l.mapM f = some r → r.length = l.length
  | [], r, h => by
    simp at h
    subst h
    rfl
  | x :: l, r, h => by
    rw [List.mapM_cons] at h
    simp only [bind, Option.bind_eq_some_iff, pure, Option.some.injEq] at h
    obtain ⟨b, hb, r', hr, rfl⟩ := h
    simp [mapM_len hr]
/-- A struct: its fields, one by one. -/
theorem open_fields {t : TypeId} {fs : Array Field} {fuel : Nat} {cs : List Value} {x : DataW H × List MemPlace} (ht : P.underlying t = some (.struct fs)) (h : DataW.trod enc P W base sp held fuel t cs = some x) :
    ∃ (n : Nat) (ds : List (DataW H)), fuel = n + 1 ∧ cs.length = P.cellsOf t ∧ x.1 = .agg ds ∧ ds.length = fs.toList.length ∧
      ∀ (i : Nat) (f : Field), fs.toList[i]? = some f → ∃ y, ds[i]? = some y.1 ∧ DataW.trod enc P W base sp held n f.type ((cs.drop f.offset).take (P.cellsOf f.type)) = some y := by
  cases fuel with
  | zero => simp [DataW.trod] at h
  | succ n =>
    rw [DataW.trod_step] at h
    unfold DataW.trodStep at h
    simp only [ht] at h
    split at h
    · rename_i hl
      obtain ⟨xs, hx, rfl⟩ := Option.map_eq_some_iff.1 h
      refine ⟨n, xs.map (·.1), rfl, hl, rfl, by rw [List.length_map]; exact mapM_len hx, fun i f hf => ?_⟩
      obtain ⟨y, hy, hr⟩ := mapM_get hx i f hf
      exact ⟨y, by rw [List.getElem?_map, hy]; rfl, hr⟩
    · cases h
/-- A slice: its elements' rows of cells. -/
structure Rows0 (P : Program) (W : World) (e : TypeId) (v : Value) (rows : List (List Value)) : Prop where
  shape : ∃ a cap, v = .slice a rows.length cap ∧ rows.length ≤ cap ∧
    (rows ≠ [] → ∃ b off, a = some ⟨b, off, none⟩ ∧ b < W.heap.size ∧ ∀ (i j : Nat) (u : Value), (rows[i]?.getD [])[j]? = some u → W.cell? ⟨b, off + i * P.cellsOf e + j, none⟩ = some u)
  len : ∀ r ∈ rows, r.length = P.cellsOf e
theorem spot_none {a : Addr} {n : Nat} {u : Value} (h : W.cell? (a.add n) = some u) (hn : n = 0) : a.spot = none := by
  subst hn
  unfold Addr.add at h
  rw [if_pos rfl] at h
  unfold World.cell? at h
  split at h
  · split at h
    · cases h
    · rename_i hs
      simpa using hs
  · cases h
theorem open_elems {t e : TypeId} {fuel : Nat} {cs : List Value} {x : DataW H × List MemPlace} (ht : P.underlying t = some (.slice e)) (hpos : 0 < P.cellsOf e)
    (h : DataW.trod enc P W base sp held fuel t cs = some x) :
    ∃ (n : Nat) (v : Value) (rows : List (List Value)) (ds : List (DataW H)), fuel = n + 1 ∧ cs = [v] ∧ Rows0 P W e v rows ∧ ds.length = rows.length ∧ (x.1 = .nil ∧ rows = [] ∨ ∃ rest, x.1 = .slice ds rest) ∧
      ∀ (i : Nat) (r : List Value), rows[i]? = some r → ∃ y, ds[i]? = some y.1 ∧ DataW.trod enc P W base sp held n e r = some y := by
  rcases DataW.trod_slice ht h with ⟨rfl, rfl⟩ | ⟨a, len, cap, elems, rest, n, rfl, rfl, rfl, hb, hl, hm, hlen, hel, -, -⟩
  · cases fuel with
    | zero => simp [DataW.trod] at h
    | succ n => exact ⟨n, _, [], [], rfl, rfl, ⟨⟨none, 0, rfl, Nat.le_refl _, fun h => absurd rfl h⟩, fun r hr => by cases hr⟩, rfl, .inl ⟨rfl, rfl⟩, fun i r hr => by simp at hr⟩
  · have key : ∀ i, i < len → ∃ r y, W.cells? base (a.add (i * P.cellsOf e)) (P.cellsOf e) = some r ∧ elems[i]? = some y ∧ DataW.trod enc P W base sp held n e r = some y := by
      intro i hi
      have h1 := hel i hi
      rw [List.getElem?_eq_getElem (by omega), Option.bind_eq_some_iff] at h1
      obtain ⟨r, h1, h2⟩ := h1
      exact ⟨r, _, h1, List.getElem?_eq_getElem (by omega), h2⟩
    refine ⟨n, _, (List.range len).map fun i => (W.cells? base (a.add (i * P.cellsOf e)) (P.cellsOf e)).getD [], elems.map (·.1), rfl, rfl, ⟨⟨some a, cap, by simp, by simpa using hl, fun hne => ?_⟩, ?_⟩, by simp [hlen], .inr ⟨_, rfl⟩, ?_⟩
    · have hl0 : 0 < len := by
        rcases Nat.eq_zero_or_pos len with h0 | h0
        · rw [h0] at hne; exact absurd rfl hne
        · exact h0
      obtain ⟨r0, y0, h0, -, -⟩ := key 0 hl0
      obtain ⟨_, hl1, hc⟩ := World.cells?_some h0
      have h2 := hc 0 hpos
      have hlt := World.cells?_block h0 hpos
      obtain ⟨u, hu⟩ : ∃ u, r0[0]? = some u := ⟨_, List.getElem?_eq_getElem (by omega)⟩
      rw [hu, Nat.zero_mul] at h2
      have hs : a.spot = none := by
        have e0 : a.add 0 = a := by unfold Addr.add; rw [if_pos rfl]
        rw [e0] at h2
        exact spot_none (n := 0) h2 rfl
      obtain ⟨b, off, spot⟩ := a
      simp only at hs
      subst hs
      rw [add_plain] at hlt
      refine ⟨b, off, rfl, hlt, fun i j u hu => ?_⟩
      by_cases hi : i < len
      · obtain ⟨r, y, h1, -, -⟩ := key i hi
        rw [List.getElem?_map, List.getElem?_range hi] at hu
        simp only [Option.map_some, Option.getD_some, h1] at hu
        obtain ⟨_, hl1, hc⟩ := World.cells?_some h1
        have hj : j < P.cellsOf e := by rw [← hl1]; exact (List.getElem?_eq_some_iff.1 hu).1
        have h3 := hc j hj
        rw [hu, add_plain, add_plain] at h3
        exact h3
      · rw [List.getElem?_map, List.getElem?_eq_none (show (List.range len).length ≤ i by rw [List.length_range]; omega)] at hu
        simp at hu
    · intro r hr
      obtain ⟨i, hi, rfl⟩ := List.mem_map.1 hr
      obtain ⟨r, y, h1, -, -⟩ := key i (List.mem_range.1 hi)
      rw [h1]
      exact (World.cells?_some h1).2.1
    · intro i r hr
      have hi : i < len := by
        have := (List.getElem?_eq_some_iff.1 hr).1
        simpa using this
      obtain ⟨r', y, h1, h2, h3⟩ := key i hi
      rw [List.getElem?_map, List.getElem?_range hi] at hr
      simp only [Option.map_some, h1, Option.getD_some, Option.some.injEq] at hr
      subst hr
      exact ⟨y, by rw [List.getElem?_map, h2]; rfl, h3⟩
/-- WHAT WAS READ IS WITHIN THE REACH. -/
def Small (P : Program) (t : TypeId) (d : DataW H) : Prop := ∀ n ∈ d.weights P t, n ≤ reachBytes
theorem small_arg {ts : List TypeId} {ds : List (DataW H)} (h : (DataW.weightsEach P ts ds).all (· ≤ reachBytes) = true) {j : Nat} {t : TypeId} {d : DataW H} (ht : ts[j]? = some t) (hd : ds[j]? = some d) : Small P t d := by
  intro n hn
  have := List.all_eq_true.1 h _ (DataW.weights_mem_each ht hd n hn)
  simpa using this
theorem small_field {t : TypeId} {fs : Array Field} {parts : List (DataW H)} (ht : P.underlying t = some (.struct fs)) (h : Small P t (.agg parts)) {i : Nat} {f : Field} {d : DataW H} (hf : fs.toList[i]? = some f) (hd : parts[i]? = some d) : Small P f.type d := by
  intro n hn
  refine h n ?_
  simp only [DataW.weights, ht]
  exact DataW.weights_mem_each (by rw [List.getElem?_map, hf]; rfl) hd n hn
theorem small_mem {e : TypeId} : ∀ {ds : List (DataW H)} {i : Nat} {d : DataW H}, ds[i]? = some d → ∀ n ∈ d.weights P e, n ∈ DataW.weightsAll P e ds
  | [], _, _, hd, _, _ => by simp at hd
  | d0 :: ds, 0, d, hd, n, hn => by
    simp only [List.getElem?_cons_zero, Option.some.injEq] at hd
    subst hd
    simp only [DataW.weightsAll, List.mem_append]
    exact .inl hn
  | d0 :: ds, i + 1, d, hd, n, hn => by
    simp only [DataW.weightsAll, List.mem_append]
    exact .inr (small_mem (by simpa using hd) n hn)
theorem small_elem {t e : TypeId} {elems rest : List (DataW H)} (ht : P.underlying t = some (.slice e)) (h : Small P t (.slice elems rest)) {i : Nat} {d : DataW H} (hd : elems[i]? = some d) : Small P e d := by
  intro n hn
  refine h n ?_
  simp only [DataW.weights, ht, List.mem_cons, List.mem_append]
  exact .inr (.inl (small_mem hd n hn))
theorem small_len {t e : TypeId} {elems rest : List (DataW H)} (ht : P.underlying t = some (.slice e)) (h : Small P t (.slice elems rest)) : elems.length * P.bytesOf e ≤ 140737488351232 := by
  have := h ((elems.length + rest.length) * P.bytesOf e) (by simp [DataW.weights, ht])
  rw [Nat.add_mul] at this
  unfold reachBytes at this
  omega
theorem small_string {t : TypeId} {l : List UInt8} (h : Small P t (.lit (.string l) : DataW H)) : l.length ≤ 140737488351232 := by
  have := h l.length (by simp [DataW.weights])
  unfold reachBytes at this
  omega
/-- ARGUMENTS READ AS THEY DID where nothing old has turned. -/
theorem trodAll_below (hl : laidOutB P = true) {W' : World} (hb : Below W.heap.size W W') : ∀ {ts : List TypeId} {vs : List Value} {ds : List (DataW H)} {ps : List MemPlace},
    (∀ t ∈ ts, P.readableRec t = true ∧ t < P.types.size) → DataW.TrodAll enc P W 0 (fun _ => true) true ts vs ds ps → (∀ x ∈ ps, x.block < W.heap.size) →
    DataW.TrodAll enc P W' 0 (fun b => decide (b < W.heap.size)) true ts vs ds ps
  | [], vs, ds, ps, _, h, _ => by
    obtain ⟨rfl, rfl, rfl⟩ := trodAll_nil h
    exact trodAll_mk0
  | t :: ts, vs, ds, ps, hr, h, hlt => by
    obtain ⟨v, vs, d, ds, p, q, rfl, rfl, rfl, h1, h2⟩ := trodAll_cons h
    obtain ⟨r1, r2⟩ := hr t (List.mem_cons_self ..)
    exact ⟨p, q, Below.trod hl r1 r2 h1 hb (fun x hx => hlt x (List.mem_append_left _ hx)), trodAll_below hl hb (fun t ht => hr t (List.mem_cons_of_mem _ ht)) h2 (fun x hx => hlt x (List.mem_append_right _ hx)), rfl⟩
end
end Go.Proofs.YtpadcjcoafidgaaGreatDoor
/-! gouacheref03.Deep, gouacheref03.Count, gouachelaw15.great, gouachelaw16.great: each returns; what is not great has short tokens. -/
namespace Go.Proofs.YtpadcjcoafidgaaGreatDoor
open Go.RowKit

/-- The kids of a value, as the slice that it holds. -/
def Val.kids (x : Val) : Value := .slice x.ka x.kn x.kc
/-- Values that are nested less than n deep. -/
def VD (w : World) : Nat → Value → List Val → Prop
  | 0, _, _ => False
  | n + 1, v, l => Vs w v l ∧ ∀ x ∈ l, ∃ l', VD w n x.kids l'
theorem VD.below {C : Nat} {w w' : World} (hb : Below C w w') (hC : w.heap.size ≤ C) : ∀ {n : Nat} {v : Value} {l : List Val}, VD w n v l → VD w' n v l
  | 0, _, _, h => h.elim
  | n + 1, v, l, ⟨h1, h2⟩ => ⟨h1.below hb hC, fun x hx => by
    obtain ⟨l', h⟩ := h2 x hx
    exact ⟨l', VD.below hb hC h⟩⟩
theorem VD.next {w w' : World} {n : Nat} {v : Value} {l : List Val} (h : VD w n v l) (hb : Below w.heap.size w w') : VD w' n v l := h.below hb (Nat.le_refl _)
theorem VD.vs {w : World} {n : Nat} {v : Value} {l : List Val} (h : VD w n v l) : Vs w v l := by
  cases n with
  | zero => exact h.elim
  | succ n => exact h.1
/-- A bool is returned. -/
def SomeB (w : World) (e : Ending) (w' : World) : Prop := ∃ b, e = .returned (.bool b) ∧ Below w.heap.size w w'
def SomeI (w : World) (e : Ending) (w' : World) : Prop := ∃ n, e = .returned (.int .i64 n) ∧ Below w.heap.size w w'
set_option maxRecDepth 100000 in
set_option maxHeartbeats 4000000 in
theorem Deep_any : ∀ (n : Nat) (w : World) (v : Value) (l : List Val) (most : Int), VD w n v l →
    Calls Tryz.prog 38 #[v, .int .i64 most] w (SomeB w)
  | 0, _, _, _, _, h => h.elim
  | n + 1, w, v, l, most, h => by
    have IH := Lib.hid (Deep_any n)
    have HD := Lib.hid h
    obtain ⟨a, cap, rfl, hcap, hl, hr⟩ := h.1
    have HR := Lib.hid hr
    clear h hr
    go_enter Tryz.func38, Tryz.ntmps38
    go_wp2_with fail
    go_loopw [6, 9] (fun _ iv wr => ∃ k : Nat, k ≤ l.length ∧ iv = .int .i64 k ∧ Below w.heap.size w wr) (fun _ iv _ => l.length - (intOf iv).toNat)
    case atStart => exact ⟨0, by omega, rfl, Below.refl _ _⟩
    case round =>
      obtain ⟨k, hk, rfl, hb⟩ := hrel
      by_cases hlt : k < l.length
      · have hne : l ≠ [] := by intro e; rw [e] at hlt; simp at hlt
        obtain ⟨bb, off, rfl, hbb, hcc⟩ := HR.out hne
        obtain ⟨x0, x1, x2, x3, x4, x5⟩ := Vs.cells (cellsX hb hbb hcc) k hlt
        obtain ⟨l', hkids⟩ := HD.out.2 _ (List.getElem_mem hlt)
        have HK := Lib.hid ((hkids.next hb).next (bAlloc1 wr (.cells #[.int .i64 l[k].tok.k, .string l[k].tok.t, .string l[k].tok.u, .bool l[k].tok.wh, .bool l[k].tok.fl, .slice l[k].ka l[k].kn l[k].kc] 26)))
        have hb1 := bNext hb (bAlloc1 wr (.cells #[.int .i64 l[k].tok.k, .string l[k].tok.t, .string l[k].tok.u, .bool l[k].tok.wh, .bool l[k].tok.fl, .slice l[k].ka l[k].kn l[k].kc] 26))
        obtain ⟨y, hy⟩ : ∃ y, l[k] = y := ⟨_, rfl⟩
        rw [hy] at x0 x1 x2 x3 x4 x5 HK hb1
        have q0 : (0 : Int) ≤ (k : Int) := by omega
        have q1 : (k : Int) < (l.length : Int) := by omega
        clear hcc hkids hy
        by_cases hkn : 0 < y.kn
        · have p1 : (0 : Int) < (y.kn : Int) := by omega
          by_cases hm : most < 1
          · go_wp2_with fail
            go_ret
            exact ⟨_, rfl, hb1⟩
          · go_wp2_with fail
            refine (IH.out _ _ l' _ HK.out).mono ?_
            rintro e w2 ⟨b, rfl, hb2⟩
            have hB2 := bNext hb1 hb2
            cases b with
            | true =>
              go_wp2_with fail
              go_ret
              exact ⟨_, rfl, hB2⟩
            | false =>
              clear x0 x1 x2 x3 x4 x5
              go_wp2_with fail
              go_roundw
              case rel => exact ⟨k + 1, by omega, by go_num, hB2⟩
              case measure => simp [intOf]; omega
        · have p1 : ¬ (0 : Int) < (y.kn : Int) := by omega
          go_wp2_with fail
          go_roundw
          case rel => exact ⟨k + 1, by omega, by go_num, hb1⟩
          case measure => simp [intOf]; omega
      · have q1 : ¬ (k : Int) < (l.length : Int) := by omega
        go_wp2_with fail
        go_ret
        exact ⟨_, rfl, hb⟩
set_option maxRecDepth 100000 in
set_option maxHeartbeats 4000000 in
theorem Count_any : ∀ (n : Nat) (w : World) (v : Value) (l : List Val), VD w n v l →
    Calls Tryz.prog 39 #[v] w (SomeI w)
  | 0, _, _, _, h => h.elim
  | n + 1, w, v, l, h => by
    have IH := Lib.hid (Count_any n)
    have HD := Lib.hid h
    obtain ⟨a, cap, rfl, hcap, hl, hr⟩ := h.1
    have HR := Lib.hid hr
    clear h hr
    go_enter Tryz.func39, Tryz.ntmps39
    go_wp2_with fail
    go_loopw [3, 5, 8] (fun nv _ iv wr => ∃ (k : Nat) (m : Int), k ≤ l.length ∧ iv = .int .i64 k ∧ nv = .int .i64 m ∧ Below w.heap.size w wr) (fun _ _ iv _ => l.length - (intOf iv).toNat)
    case atStart => exact ⟨0, 0, by omega, rfl, rfl, Below.refl _ _⟩
    case round =>
      obtain ⟨k, m, hk, rfl, rfl, hb⟩ := hrel
      by_cases hlt : k < l.length
      · have hne : l ≠ [] := by intro e; rw [e] at hlt; simp at hlt
        obtain ⟨bb, off, rfl, hbb, hcc⟩ := HR.out hne
        obtain ⟨x0, x1, x2, x3, x4, x5⟩ := Vs.cells (cellsX hb hbb hcc) k hlt
        obtain ⟨l', hkids⟩ := HD.out.2 _ (List.getElem_mem hlt)
        have HK := Lib.hid ((hkids.next hb).next (bAlloc1 wr (.cells #[.int .i64 l[k].tok.k, .string l[k].tok.t, .string l[k].tok.u, .bool l[k].tok.wh, .bool l[k].tok.fl, .slice l[k].ka l[k].kn l[k].kc] 26)))
        have hb1 := bNext hb (bAlloc1 wr (.cells #[.int .i64 l[k].tok.k, .string l[k].tok.t, .string l[k].tok.u, .bool l[k].tok.wh, .bool l[k].tok.fl, .slice l[k].ka l[k].kn l[k].kc] 26))
        obtain ⟨y, hy⟩ : ∃ y, l[k] = y := ⟨_, rfl⟩
        rw [hy] at x0 x1 x2 x3 x4 x5 HK hb1
        have q0 : (0 : Int) ≤ (k : Int) := by omega
        have q1 : (k : Int) < (l.length : Int) := by omega
        clear hcc hkids hy
        go_wp2_with fail
        refine (IH.out _ _ l' HK.out).mono ?_
        rintro e w2 ⟨c, rfl, hb2⟩
        have hB2 := bNext hb1 hb2
        clear x0 x1 x2 x3 x4 x5
        go_wp2_with fail
        go_roundw
        case rel => exact ⟨k + 1, _, by omega, by go_num, rfl, hB2⟩
        case measure => simp [intOf]; omega
      · have q1 : ¬ (k : Int) < (l.length : Int) := by omega
        go_wp2_with fail
        go_ret
        exact ⟨_, rfl, hb⟩
/-- A bool is returned; false: the tokens are short. -/
def GreatB (w : World) (l : List Val) (e : Ending) (w' : World) : Prop := ∃ b, e = .returned (.bool b) ∧ (b = false → ∀ x ∈ l, x.tok.t.size + x.tok.u.size ≤ 500) ∧ Below w.heap.size w w'
theorem GreatB.mk {w : World} {l : List Val} (b : Bool) (h : b = false → ∀ x ∈ l, x.tok.t.size + x.tok.u.size ≤ 500) {w' : World} (hb : Below w.heap.size w w') : GreatB w l (.returned (.bool b)) w' := ⟨b, rfl, h, hb⟩
set_option maxRecDepth 100000 in
set_option maxHeartbeats 4000000 in
theorem great15_any (n : Nat) (w : World) (v : Value) (l : List Val) (h : VD w n v l) (hsz : ∀ x ∈ l, x.tok.t.size ≤ 281474976710656 ∧ x.tok.u.size ≤ 281474976710656) :
    Calls Tryz.prog 11 #[v] w (GreatB w l) := by
  have HD := Lib.hid h
  have HZ := Lib.hid hsz
  obtain ⟨a, cap, rfl, hcap, hl, hr⟩ := h.vs
  have HR := Lib.hid hr
  clear h hr hsz
  go_enter Tryz.func11, Tryz.ntmps11
  go_wp2_with fail
  go_loopw [4, 7] (fun _ iv wr => ∃ k : Nat, k ≤ l.length ∧ iv = .int .i64 k ∧ Hid (∀ x ∈ l.take k, x.tok.t.size + x.tok.u.size ≤ 500) ∧ Below w.heap.size w wr) (fun _ iv _ => l.length - (intOf iv).toNat)
  case atStart => exact ⟨0, by omega, rfl, Lib.hid (fun x hx => by simp at hx), Below.refl _ _⟩
  case round =>
    obtain ⟨k, hk, rfl, HS, hb⟩ := hrel
    by_cases hlt : k < l.length
    · have hne : l ≠ [] := by intro e; rw [e] at hlt; simp at hlt
      obtain ⟨bb, off, rfl, hbb, hcc⟩ := HR.out hne
      obtain ⟨x0, x1, x2, x3, x4, x5⟩ := Vs.cells (cellsX hb hbb hcc) k hlt
      obtain ⟨z1, z2⟩ := HZ.out _ (List.getElem_mem hlt)
      have hb1 := bNext hb (bAlloc1 wr (.cells #[.int .i64 l[k].tok.k, .string l[k].tok.t, .string l[k].tok.u, .bool l[k].tok.wh, .bool l[k].tok.fl, .slice l[k].ka l[k].kn l[k].kc] 26))
      have HT := Lib.hid (List.take_succ_eq_append_getElem hlt)
      obtain ⟨y, hy⟩ : ∃ y, l[k] = y := ⟨_, rfl⟩
      rw [hy] at x0 x1 x2 x3 x4 x5 hb1 z1 z2 HT
      have q0 : (0 : Int) ≤ (k : Int) := by omega
      have q1 : (k : Int) < (l.length : Int) := by omega
      clear hcc hy
      by_cases hs : y.tok.t.size + y.tok.u.size ≤ 500
      · have p1 : ¬ (500 : Int) < (y.tok.t.size : Int) + (y.tok.u.size : Int) := by omega
        have HS2 : Hid (∀ x ∈ l.take (k + 1), x.tok.t.size + x.tok.u.size ≤ 500) := Lib.hid (fun x hx => by
          rw [HT.out] at hx
          rcases List.mem_append.1 hx with hx | hx
          · exact HS.out x hx
          · rw [List.mem_singleton.1 hx]; exact hs)
        clear hs
        go_wp2_with fail
        go_roundw
        case rel => exact ⟨k + 1, by omega, by go_num, HS2, hb1⟩
        case measure => simp [intOf]; omega
      · have p1 : (500 : Int) < (y.tok.t.size : Int) + (y.tok.u.size : Int) := by omega
        clear hs
        go_wp2_with fail
        go_ret
        exact GreatB.mk _ (fun h => by cases h) hb1
    · have hke : k = l.length := by omega
      have q1 : ¬ (k : Int) < (l.length : Int) := by omega
      have HS2 : Hid (∀ x ∈ l, x.tok.t.size + x.tok.u.size ≤ 500) := Lib.hid (fun x hx => HS.out x (by rw [hke, List.take_length]; exact hx))
      clear hke
      go_wp2_with fail
      refine (Deep_any n _ _ l _ (HD.out.next hb)).mono ?_
      rintro e w2 ⟨b, rfl, hb2⟩
      have hB2 := bNext hb hb2
      cases b with
      | true =>
        go_wp2_with fail
        go_ret
        exact GreatB.mk _ (fun _ => HS2.out) hB2
      | false =>
        go_wp2_with fail
        refine (Count_any n _ _ l (HD.out.next hB2)).mono ?_
        rintro e w3 ⟨c, rfl, hb3⟩
        go_wp2_with fail
        go_ret
        exact GreatB.mk _ (fun _ => HS2.out) (bNext hB2 hb3)
set_option maxRecDepth 100000 in
set_option maxHeartbeats 4000000 in
theorem great16_any (n : Nat) (w : World) (v : Value) (l : List Val) (h : VD w n v l) (hsz : ∀ x ∈ l, x.tok.t.size ≤ 281474976710656 ∧ x.tok.u.size ≤ 281474976710656) :
    Calls Tryz.prog 24 #[v] w (GreatB w l) := by
  have HD := Lib.hid h
  have HZ := Lib.hid hsz
  obtain ⟨a, cap, rfl, hcap, hl, hr⟩ := h.vs
  have HR := Lib.hid hr
  clear h hr hsz
  go_enter Tryz.func24, Tryz.ntmps24
  go_wp2_with fail
  go_loopw [4, 7] (fun _ iv wr => ∃ k : Nat, k ≤ l.length ∧ iv = .int .i64 k ∧ Hid (∀ x ∈ l.take k, x.tok.t.size + x.tok.u.size ≤ 500) ∧ Below w.heap.size w wr) (fun _ iv _ => l.length - (intOf iv).toNat)
  case atStart => exact ⟨0, by omega, rfl, Lib.hid (fun x hx => by simp at hx), Below.refl _ _⟩
  case round =>
    obtain ⟨k, hk, rfl, HS, hb⟩ := hrel
    by_cases hlt : k < l.length
    · have hne : l ≠ [] := by intro e; rw [e] at hlt; simp at hlt
      obtain ⟨bb, off, rfl, hbb, hcc⟩ := HR.out hne
      obtain ⟨x0, x1, x2, x3, x4, x5⟩ := Vs.cells (cellsX hb hbb hcc) k hlt
      obtain ⟨z1, z2⟩ := HZ.out _ (List.getElem_mem hlt)
      have hb1 := bNext hb (bAlloc1 wr (.cells #[.int .i64 l[k].tok.k, .string l[k].tok.t, .string l[k].tok.u, .bool l[k].tok.wh, .bool l[k].tok.fl, .slice l[k].ka l[k].kn l[k].kc] 26))
      have HT := Lib.hid (List.take_succ_eq_append_getElem hlt)
      obtain ⟨y, hy⟩ : ∃ y, l[k] = y := ⟨_, rfl⟩
      rw [hy] at x0 x1 x2 x3 x4 x5 hb1 z1 z2 HT
      have q0 : (0 : Int) ≤ (k : Int) := by omega
      have q1 : (k : Int) < (l.length : Int) := by omega
      clear hcc hy
      by_cases hs : y.tok.t.size + y.tok.u.size ≤ 500
      · have p1 : ¬ (500 : Int) < (y.tok.t.size : Int) + (y.tok.u.size : Int) := by omega
        have HS2 : Hid (∀ x ∈ l.take (k + 1), x.tok.t.size + x.tok.u.size ≤ 500) := Lib.hid (fun x hx => by
          rw [HT.out] at hx
          rcases List.mem_append.1 hx with hx | hx
          · exact HS.out x hx
          · rw [List.mem_singleton.1 hx]; exact hs)
        clear hs
        go_wp2_with fail
        go_roundw
        case rel => exact ⟨k + 1, by omega, by go_num, HS2, hb1⟩
        case measure => simp [intOf]; omega
      · have p1 : (500 : Int) < (y.tok.t.size : Int) + (y.tok.u.size : Int) := by omega
        clear hs
        go_wp2_with fail
        go_ret
        exact GreatB.mk _ (fun h => by cases h) hb1
    · have hke : k = l.length := by omega
      have q1 : ¬ (k : Int) < (l.length : Int) := by omega
      have HS2 : Hid (∀ x ∈ l, x.tok.t.size + x.tok.u.size ≤ 500) := Lib.hid (fun x hx => HS.out x (by rw [hke, List.take_length]; exact hx))
      clear hke
      go_wp2_with fail
      refine (Deep_any n _ _ l _ (HD.out.next hb)).mono ?_
      rintro e w2 ⟨b, rfl, hb2⟩
      have hB2 := bNext hb hb2
      cases b with
      | true =>
        go_wp2_with fail
        go_ret
        exact GreatB.mk _ (fun _ => HS2.out) hB2
      | false =>
        go_wp2_with fail
        refine (Count_any n _ _ l (HD.out.next hB2)).mono ?_
        rintro e w3 ⟨c, rfl, hb3⟩
        go_wp2_with fail
        go_ret
        exact GreatB.mk _ (fun _ => HS2.out) (bNext hB2 hb3)
end Go.Proofs.YtpadcjcoafidgaaGreatDoor
/-! What the rows of this seat share: a world in which the listed variables lie as the program's text lays them. -/
namespace Go.Proofs.YtpadcjcoafidgaaGreatDoor
open Go.ChangeShapes Go.WideShapes Go.ChangeAt Go.RowKit

theorem ownKnob_none : ownKnob Tryz.prog.godebug = none := by kernel_rfl
def colourCells : List Value := (colourTbl.map fun p => [Value.string p.1, Value.string p.2]).flatten
theorem colourCells_at : ∀ i : Fin 8, colourCells[i.val * 2]? = some (.string (colourAt i.val).1) ∧ colourCells[i.val * 2 + 1]? = some (.string (colourAt i.val).2)
  | ⟨0, _⟩ => ⟨rfl, rfl⟩
  | ⟨1, _⟩ => ⟨rfl, rfl⟩
  | ⟨2, _⟩ => ⟨rfl, rfl⟩
  | ⟨3, _⟩ => ⟨rfl, rfl⟩
  | ⟨4, _⟩ => ⟨rfl, rfl⟩
  | ⟨5, _⟩ => ⟨rfl, rfl⟩
  | ⟨6, _⟩ => ⟨rfl, rfl⟩
  | ⟨7, _⟩ => ⟨rfl, rfl⟩
theorem coloursIn_of_laid {w : World} {l : List (String × DataW Unit)} (h : laidMet Tryz.prog l w) (hm : ("gouache/value.colours", Rows.laid_gouache_value_colours) ∈ l) : ColoursIn w := by
  obtain ⟨ty, fr, hh⟩ := var_of_laid h hm (g := 0) (t := 78) (by kernel_rfl) (by kernel_rfl) 5 (cs := colourCells) (by kernel_rfl)
  refine ⟨(Array.getElem?_eq_some_iff.1 hh).1, fun i hi => ?_⟩
  have := colourCells_at ⟨i, hi⟩
  simp only [World.cell?, hh]
  exact ⟨by simpa using this.1, by simpa using this.2⟩
theorem powIs_of_laid {w : World} {l : List (String × DataW Unit)} (h : laidMet Tryz.prog l w) (hm : ("internal/strconv.uint64pow10", Rows.laid_internal_strconv_uint64pow10) ∈ l) : Lib.TabIs Tryz.prog w "internal/strconv.uint64pow10" .u64 Lib.pow10Tab := by
  obtain ⟨ty, fr, hh⟩ := var_of_laid h hm (g := 4) (t := 200) (by kernel_rfl) (by kernel_rfl) 5 (cs := Lib.pow10Tab.map fun z => Value.int .u64 z) (by kernel_rfl)
  have hg : Tryz.prog.globalNamed "internal/strconv.uint64pow10" = some 4 := by kernel_rfl
  unfold Lib.TabIs World.var?
  rw [hg]
  simp [hh]
theorem base_of_laid {w : World} {l : List (String × DataW Unit)} (h : laidMet Tryz.prog l w) (hm : ("gouache/value.colours", Rows.laid_gouache_value_colours) ∈ l) (hp : ("internal/strconv.uint64pow10", Rows.laid_internal_strconv_uint64pow10) ∈ l) : Base w :=
  ⟨coloursIn_of_laid h hm, powIs_of_laid h hp⟩

/-- The cells of a variable, of its name, by the datum beside it. -/
noncomputable def cellsAs (g : Nat) (d : DataW Unit) : Array Value := ((plainAt Tryz.prog 8 (((Tryz.prog.globals[g]?).map (·.type)).getD 0) d).getD []).toArray
noncomputable def setVar (g : Nat) (d : DataW Unit) (h : Array Obj) : Array Obj := h.modify g fun
  | .cells _ t frozen => .cells (cellsAs g d) t frozen
  | o => o
/-- A world in which the listed variables lie as the program's text lays them. -/
noncomputable def laidWorld (os : Os) : World :=
  { World.holding Tryz.prog os ⟨#[], #[], []⟩ with heap := setVar 6 Rows.laid_unicode_utf8_acceptRanges (setVar 5 Rows.laid_unicode_utf8_first (setVar 2 Rows.laid_gouache_prop_shorts (setVar 0 Rows.laid_gouache_value_colours (setVar 4 Rows.laid_internal_strconv_uint64pow10 (setVar 7 Rows.laid_math_bits_deBruijn32tab (setVar 8 Rows.laid_math_bits_deBruijn64tab (setVar 1 Rows.laid_gouache_short_sides (World.holding Tryz.prog os ⟨#[], #[], []⟩).heap))))))) }
end Go.Proofs.YtpadcjcoafidgaaGreatDoor
/-! The arguments of this seat's laws, opened: texts, values with their kids, declarations; listed variables. -/
namespace Go.Proofs.YtpadcjcoafidgaaGreatDoor
open Go.RowKit Go.ChangeShapes Go.WideShapes Go.ChangeAt

section
variable {H : Type} {enc : TypeId × Value → H} {W : World} {base : Nat} {sp : Nat → Bool} {held : Bool}

theorem cells_string : Tryz.prog.cellsOf 9 = 1 := by kernel_rfl
theorem cells_val : Tryz.prog.cellsOf 26 = 6 := by kernel_rfl
theorem cells_tok : Tryz.prog.cellsOf 23 = 5 := by kernel_rfl
theorem cells_int : Tryz.prog.cellsOf 3 = 1 := by kernel_rfl
theorem cells_bool : Tryz.prog.cellsOf 4 = 1 := by kernel_rfl
theorem cells_vals : Tryz.prog.cellsOf 24 = 1 := by kernel_rfl
theorem bytes_val : Tryz.prog.bytesOf 26 = 72 := by kernel_rfl
theorem bytes_string : Tryz.prog.bytesOf 9 = 16 := by kernel_rfl
theorem laid_out : laidOutB Tryz.prog = true := by kernel_rfl
theorem trod_str1 {fuel : Nat} {v : Value} {x : DataW H × List MemPlace} (h : DataW.trod enc Tryz.prog W base sp held fuel 9 [v] = some x) : ∃ s : ByteArray, v = .string s ∧ x.1 = .lit (.string s.data.toList) := by
  obtain ⟨s, h1, rfl, -⟩ := DataW.trod_string Tryz.underlying9 h
  exact ⟨s, by simpa using h1, rfl⟩
theorem trod_int1 {fuel : Nat} {v : Value} {x : DataW H × List MemPlace} (h : DataW.trod enc Tryz.prog W base sp held fuel 3 [v] = some x) : ∃ n : Int, v = .int .i64 n := by
  obtain ⟨n, h1, -, -⟩ := DataW.trod_int Tryz.underlying3 h
  exact ⟨n, by simpa using h1⟩
theorem trod_bool1 {fuel : Nat} {v : Value} {x : DataW H × List MemPlace} (h : DataW.trod enc Tryz.prog W base sp held fuel 4 [v] = some x) : ∃ b : Bool, v = .bool b := by
  cases fuel with
  | zero => simp [DataW.trod] at h
  | succ n =>
    rw [DataW.trod_step] at h
    unfold DataW.trodStep at h
    simp only [Tryz.underlying4] at h
    split at h <;> simp_all
theorem size_toList (s : ByteArray) : s.data.toList.length = s.size := by rw [Array.length_toList]; rfl
/-- '[]string'. -/
theorem open_ss {fuel : Nat} {v : Value} {x : DataW H × List MemPlace} (h : DataW.trod enc Tryz.prog W base sp held fuel 42 [v] = some x) (hs : Small Tryz.prog 42 x.1) :
    ∃ l, Ss W v l ∧ l.length ≤ 140737488351232 ∧ ∀ s ∈ l, s.size ≤ 140737488351232 := by
  obtain ⟨n, v', rows, ds, -, e, hr, hl, hd, hx⟩ := open_elems Tryz.underlying42 (by rw [cells_string]; decide) h
  cases e
  have key : ∀ i, i < rows.length → ∃ s : ByteArray, rows[i]? = some [.string s] ∧ s.size ≤ 140737488351232 := by
    intro i hi
    obtain ⟨y, h1, h2⟩ := hx i rows[i] (List.getElem?_eq_getElem hi)
    have hlen := hr.len rows[i] (List.getElem_mem hi)
    rw [cells_string] at hlen
    obtain ⟨u, hu⟩ := List.length_eq_one_iff.1 hlen
    rw [hu] at h2
    obtain ⟨s, rfl, h3⟩ := trod_str1 h2
    refine ⟨s, by rw [List.getElem?_eq_getElem hi, hu], ?_⟩
    rcases hd with ⟨-, h0⟩ | ⟨rest, h0⟩
    · rw [h0] at hi; simp at hi
    · rw [h0] at hs
      have h4 := small_elem Tryz.underlying42 hs h1
      rw [h3] at h4
      have := small_string h4
      rwa [size_toList] at this
  obtain ⟨f, hf⟩ := Classical.axiomOfChoice (r := fun (i : Fin rows.length) (s : ByteArray) => rows[i.val]? = some [.string s] ∧ s.size ≤ 140737488351232) (fun i => key i.val i.isLt)
  have hlen : (List.ofFn f).length = rows.length := List.length_ofFn
  obtain ⟨a, cap, rfl, hcap, hc⟩ := hr.shape
  refine ⟨List.ofFn f, ⟨a, cap, by rw [hlen], by rw [hlen]; exact hcap, fun hne => ?_⟩, ?_, ?_⟩
  · obtain ⟨b, off, rfl, hb, hcell⟩ := hc (by intro e; exact hne (List.eq_nil_of_length_eq_zero (hlen.trans (by rw [e]; rfl))))
    refine ⟨b, off, rfl, hb, fun i hi => ?_⟩
    have hi' : i < rows.length := by rw [← hlen]; exact hi
    have h1 := hcell i 0 (.string (f ⟨i, hi'⟩)) (by rw [(hf ⟨i, hi'⟩).1]; rfl)
    rw [cells_string, Nat.mul_one, Nat.add_zero] at h1
    rw [h1, List.getElem_ofFn]
  · rw [hlen]
    rcases hd with ⟨-, h0⟩ | ⟨rest, h0⟩
    · rw [h0]; exact Nat.zero_le _
    · rw [h0] at hs
      have := small_len Tryz.underlying42 hs
      rw [bytes_string] at this
      omega
  · intro s hs'
    obtain ⟨i, rfl⟩ := List.mem_ofFn.1 hs'
    exact (hf i).2
set_option maxRecDepth 100000 in
theorem ss_of {r : Reach} {b0 : Nat} {v : Value} {d : DataW H} {ps : List MemPlace} (hval : Value.okWide Tryz.prog W r b0 42 v) (h : DataW.Trod enc Tryz.prog W base sp held 42 v d ps) (hs : Small Tryz.prog 42 d) : ∃ l, Ss W v l ∧ l.length ≤ 140737488351232 ∧ ∀ s ∈ l, s.size ≤ 140737488351232 := by
  obtain ⟨n, hn⟩ := h
  obtain ⟨a, len, cap, rfl⟩ := okWide_slice Tryz.underlying42 hval
  exact open_ss hn hs
theorem arr2 : Go.WideMaps.ArrKey Tryz.prog 43 3 2 := ⟨Tryz.underlying43, by kernel_rfl, cells_int, by kernel_rfl⟩
/-- A value's token is short enough. -/
def Val.Sm (x : Val) : Prop := x.tok.t.size ≤ 140737488351232 ∧ x.tok.u.size ≤ 140737488351232
theorem VD.up {w : World} : ∀ {n : Nat} {v : Value} {l : List Val}, VD w n v l → VD w (n + 1) v l
  | 0, _, _, h => h.elim
  | n + 1, v, l, ⟨h1, h2⟩ => ⟨h1, fun x hx => by
    obtain ⟨l', h⟩ := h2 x hx
    exact ⟨l', VD.up h⟩⟩
set_option maxRecDepth 100000 in
/-- A token's cells. -/
theorem open_tok {fuel : Nat} {cs : List Value} {x : DataW H × List MemPlace} (h : DataW.trod enc Tryz.prog W base sp held fuel 23 cs = some x) (hs : Small Tryz.prog 23 x.1) :
    ∃ t : Tok, cs = t.row ∧ t.t.size ≤ 140737488351232 ∧ t.u.size ≤ 140737488351232 := by
  obtain ⟨n, ds, -, hl, hx, -, hf⟩ := open_fields Tryz.underlying23 h
  rw [cells_tok] at hl
  obtain ⟨c0, c1, c2, c3, c4, rfl⟩ : ∃ a b c d e, cs = [a, b, c, d, e] := by
    match cs, hl with
    | [a, b, c, d, e], _ => exact ⟨a, b, c, d, e, rfl⟩
  rw [hx] at hs
  obtain ⟨y0, -, h0⟩ := hf 0 _ rfl
  obtain ⟨y1, d1, h1⟩ := hf 1 _ rfl
  obtain ⟨y2, d2, h2⟩ := hf 2 _ rfl
  obtain ⟨y3, -, h3⟩ := hf 3 _ rfl
  obtain ⟨y4, -, h4⟩ := hf 4 _ rfl
  simp only [cells_int, cells_string, cells_bool, List.drop_zero, List.drop_succ_cons, List.take_succ_cons, List.take_zero] at h0 h1 h2 h3 h4
  obtain ⟨k, rfl⟩ := trod_int1 h0
  obtain ⟨s1, rfl, e1⟩ := trod_str1 h1
  obtain ⟨s2, rfl, e2⟩ := trod_str1 h2
  obtain ⟨b3, rfl⟩ := trod_bool1 h3
  obtain ⟨b4, rfl⟩ := trod_bool1 h4
  have m1 := small_field Tryz.underlying23 hs (i := 1) rfl d1
  have m2 := small_field Tryz.underlying23 hs (i := 2) rfl d2
  rw [e1] at m1
  rw [e2] at m2
  have m1 := small_string m1
  have m2 := small_string m2
  rw [size_toList] at m1 m2
  exact ⟨⟨k, s1, s2, b3, b4⟩, rfl, m1, m2⟩
set_option maxRecDepth 100000 in
/-- A value's cells; '[]api.Value', to whatever depth. -/
theorem open_vals : ∀ (fuel : Nat) (v : Value) (x : DataW H × List MemPlace), DataW.trod enc Tryz.prog W base sp held fuel 24 [v] = some x → Small Tryz.prog 24 x.1 →
    ∃ l, VD W fuel v l ∧ ∀ y ∈ l, y.Sm
  | 0, _, _, h, _ => by simp [DataW.trod] at h
  | 1, v, x, h, hs => by
    obtain ⟨n, v', rows, ds, hn, e, hr, hl, hd, hx⟩ := open_elems Tryz.underlying24 (by rw [cells_val]; decide) h
    obtain rfl : n = 0 := by omega
    cases e
    have h0 : rows = [] := by
      cases rows with
      | nil => rfl
      | cons r rows =>
        obtain ⟨y, -, h2⟩ := hx 0 r rfl
        simp [DataW.trod] at h2
    subst h0
    obtain ⟨a, cap, rfl, hcap, -⟩ := hr.shape
    exact ⟨[], ⟨⟨a, cap, rfl, hcap, Nat.zero_le _, fun h => absurd rfl h⟩, fun x hx => by cases hx⟩, fun y hy => by cases hy⟩
  | fuel + 2, v, x, h, hs => by
    obtain ⟨n, v', rows, ds, hn, e, hr, hl, hd, hx⟩ := open_elems Tryz.underlying24 (by rw [cells_val]; decide) h
    obtain rfl : n = fuel + 1 := by omega
    cases e
    have key : ∀ i, i < rows.length → ∃ y : Val, rows[i]? = some y.row ∧ y.Sm ∧ ∃ l', VD W (fuel + 1) y.kids l' := by
      intro i hi
      obtain ⟨y, h1, h2⟩ := hx i rows[i] (List.getElem?_eq_getElem hi)
      have hsy : Small Tryz.prog 26 y.1 := by
        rcases hd with ⟨-, h0⟩ | ⟨rest, h0⟩
        · rw [h0] at hi; simp at hi
        · rw [h0] at hs
          exact small_elem Tryz.underlying24 hs h1
      obtain ⟨n, ds', hn, hl6, hx', -, hf⟩ := open_fields Tryz.underlying26 h2
      obtain rfl : n = fuel := by omega
      rw [cells_val] at hl6
      rw [hx'] at hsy
      obtain ⟨y0, d0, h0⟩ := hf 0 _ rfl
      obtain ⟨y1, d1, h1'⟩ := hf 1 _ rfl
      have s0 := small_field Tryz.underlying26 hsy (i := 0) rfl d0
      have s1 := small_field Tryz.underlying26 hsy (i := 1) rfl d1
      obtain ⟨c0, c1, c2, c3, c4, c5, hrow⟩ : ∃ a b c d e f, rows[i] = [a, b, c, d, e, f] := by
        generalize rows[i] = r at hl6
        match r, hl6 with
        | [a, b, c, d, e, f], _ => exact ⟨a, b, c, d, e, f, rfl⟩
      simp only [hrow, cells_tok, cells_vals, List.drop_zero, List.drop_succ_cons, List.take_succ_cons, List.take_zero] at h0 h1'
      obtain ⟨t, ht, m1, m2⟩ := open_tok h0 s0
      obtain ⟨l', hV, -⟩ := open_vals n c5 y1 h1' s1
      have hV1 := hV.vs
      obtain ⟨a, cap, e5, -⟩ := hV1
      refine ⟨⟨t, a, l'.length, cap⟩, ?_, ⟨m1, m2⟩, l', ?_⟩
      · rw [List.getElem?_eq_getElem hi, hrow, e5]
        show _ = some (t.row ++ _)
        rw [← ht]
        rfl
      · show VD W (n + 1) (.slice a l'.length cap) l'
        rw [← e5]
        exact hV.up
    obtain ⟨f, hf⟩ := Classical.axiomOfChoice (r := fun (i : Fin rows.length) (y : Val) => rows[i.val]? = some y.row ∧ y.Sm ∧ ∃ l', VD W (fuel + 1) y.kids l') (fun i => key i.val i.isLt)
    have hlen : (List.ofFn f).length = rows.length := List.length_ofFn
    obtain ⟨a, cap, rfl, hcap, hc⟩ := hr.shape
    refine ⟨List.ofFn f, ⟨⟨a, cap, by rw [hlen], by rw [hlen]; exact hcap, ?_, fun hne => ?_⟩, fun y hy => ?_⟩, fun y hy => ?_⟩
    · rw [hlen]
      rcases hd with ⟨-, h0⟩ | ⟨rest, h0⟩
      · rw [h0]; exact Nat.zero_le _
      · rw [h0] at hs
        have := small_len Tryz.underlying24 hs
        rw [bytes_val] at this
        omega
    · obtain ⟨b, off, rfl, hb, hcell⟩ := hc (by intro e; exact hne (List.eq_nil_of_length_eq_zero (hlen.trans (by rw [e]; rfl))))
      refine ⟨b, off, rfl, hb, fun i hi j u hu => ?_⟩
      have hi' : i < rows.length := by rw [← hlen]; exact hi
      rw [List.getElem_ofFn] at hu
      have h1 := hcell i j u (by rw [(hf ⟨i, hi'⟩).1]; exact hu)
      rw [cells_val] at h1
      exact h1
    · obtain ⟨i, rfl⟩ := List.mem_ofFn.1 hy
      exact (hf i).2.2
    · obtain ⟨i, rfl⟩ := List.mem_ofFn.1 hy
      exact (hf i).2.1
end
theorem sideCells_at : ∀ (a : Fin 4) (b : Fin 4), (sidesTbl.map (Value.int .i64))[a.val * 4 + b.val]? = some (.int .i64 (sideAt a.val b.val)) := by
  intro a b
  have h : a.val * 4 + b.val < sidesTbl.length := by
    have := a.isLt
    have := b.isLt
    show a.val * 4 + b.val < 16
    omega
  unfold sideAt
  rw [List.getElem?_map, List.getElem?_eq_getElem h]
  rfl
theorem sidesIn_of_laid {w : World} {l : List (String × DataW Unit)} (h : laidMet Tryz.prog l w) (hm : ("gouache/short.sides", Rows.laid_gouache_short_sides) ∈ l) : SidesIn w := by
  obtain ⟨ty, fr, hh⟩ := var_of_laid h hm (g := 1) (t := 103) (by kernel_rfl) (by kernel_rfl) 5 (cs := sidesTbl.map (Value.int .i64)) (by kernel_rfl)
  refine ⟨(Array.getElem?_eq_some_iff.1 hh).1, fun a b ha hb => ?_⟩
  have := sideCells_at ⟨a, ha⟩ ⟨b, hb⟩
  simp only [World.cell?, hh]
  simpa using this
end Go.Proofs.YtpadcjcoafidgaaGreatDoor
/-! gouachelaw16.ShortWide: whatever the number and the bool, it returns true and changes nothing. Condition: the listed tables hold what the program's text lays (the card ties that). -/
namespace Go.Proofs.YtpadcjcoafidgaaGreatDoor.shortWide
open Go.ChangeShapes Go.WideShapes Go.ChangeAt Go.RowKit

set_option maxRecDepth 100000 in
/-- WHAT THE WALK GIVES, FOR EVERY ARGUMENT. -/
theorem contract (H : Type) (enc : TypeId × Value → H) (W : World) (base : Nat) (args : Array Value) (ds gs : List (DataW H)) (before : List MemPlace)
    (hval : ∀ (j : Nat) t v, Tryz.f10.params[j]? = some t → args[j]? = some v → Value.okWide Tryz.prog W .any base t v)
    (hW : DataW.Whole enc Tryz.prog Tryz.f10.params.toList Rows.shortWideSpec.vars false W args.toList ds gs before)
    (hsz : (DataW.weightsEach Tryz.prog [27, 4] ds).all (· ≤ reachBytes) = true) (hL : laidMetH Tryz.prog Rows.shortWideRow.laid W) :
    Calls Tryz.prog 10 args W fun e W' => ∃ v, e = .returned v ∧ Rows.shortWideSpec.post enc Tryz.prog Tryz.f10 false true false false W args v W' := by
  have hW' := hW
  have hlt := hW.lt
  obtain ⟨p, q, hA0, hV, rfl, hfz, hnd⟩ := hW
  have hA : DataW.TrodAll enc Tryz.prog W 0 (fun _ => true) true Tryz.f10.params.toList args.toList ds p := hA0
  have hA1 := hA0
  rw [Tryz.params10] at hA hval
  obtain ⟨v0, v1, d0, d1, p0, p1, rfl, rfl, rfl, h0, h1⟩ := trodAll_two hA
  obtain ⟨rfl, rfl⟩ := trodVars_none hV
  have s0 : Small Tryz.prog 27 d0 := small_arg hsz (j := 0) rfl rfl
  have s1 : Small Tryz.prog 4 d1 := small_arg hsz (j := 1) rfl rfl
  obtain ⟨k, rfl, -, -, wk⟩ := open_int Tryz.underlying27 (hval 0 27 v0 rfl rfl) h0
  have hk : 0 ≤ k := by
    simp [Lit.wf, IntKind.min, IntKind.max, IntKind.signed, IntKind.bits] at wk
    omega
  obtain ⟨b, rfl, -, -⟩ := open_bool Tryz.underlying4 (hval 1 4 v1 rfl rfl) h1
  clear hA0
  simp only [List.append_nil] at hW' hlt
  have hB : Base16 W := ⟨base_of_laid hL (List.Mem.tail _ (List.Mem.tail _ (List.Mem.tail _ (List.Mem.tail _ (List.Mem.tail _ (List.Mem.head _)))))) (List.Mem.tail _ (List.Mem.tail _ (List.Mem.head _))), shortsIn_of_laid hL (List.Mem.tail _ (List.Mem.tail _ (List.Mem.tail _ (List.Mem.tail _ (List.Mem.head _))))), sidesIn_of_laid hL (List.Mem.tail _ (List.Mem.tail _ (List.Mem.tail _ (List.Mem.tail _ (List.Mem.tail _ (List.Mem.tail _ (List.Mem.head _)))))))⟩
  refine (shortWide_walk k hk b W hB).mono fun e W' ⟨he, hg⟩ => ?_
  subst he
  refine ⟨_, rfl, _, _, _, [], (p0 ++ p1), [], hW', ?_, ?_, ?_, hg.frame _, fun h => by cases h⟩
  · exact trodAll_mk1 (shut_bool Tryz.underlying4 true)
  · refine trodAll_below laid_out hg (fun t ht => ?_) hA1 hlt
    rw [Tryz.params10] at ht
    simp only [List.mem_cons, List.not_mem_nil, or_false] at ht
    rcases ht with rfl | rfl
    all_goals exact ⟨by kernel_rfl, of_decide_eq_true (by kernel_rfl)⟩
  · rfl

set_option maxRecDepth 100000 in
theorem met (os : Os) (args : Array Value) : laidMet Tryz.prog Rows.shortWideRow.laid ((laidWorld os).forCall (fun _ _ => 0) ⟨#[], args, []⟩).memory :=
  laidMet_of_run' 8 (by kernel_rfl) (by kernel_rfl)
theorem reads (os : Os) {H : Type} (enc : TypeId × Value → H) : ∃ places, DataW.whole enc Tryz.prog ((laidWorld os).forCall (fun _ _ => 0) ⟨#[], #[.int .u64 0, .bool false], []⟩).memory Tryz.f10.params.toList Rows.shortWideSpec.vars false (#[.int .u64 0, .bool false] : Array Value).toList 8 = some ([.lit (.int .u64 0), .lit (.bool false)], [], places) :=
  ⟨[], by kernel_rfl⟩

set_option maxRecDepth 100000 in
theorem lifted (os : Os) (started : os.Started) (H : Type) (enc : TypeId × Value → H) (F : Stop.Interp) :
    ReturnsInHanded {} Tryz.checked os 10 .any ((OpenSpec.ofChange Rows.shortWideSpec).preRow enc Tryz.prog Tryz.f10 Rows.shortWideRow.domain false Rows.shortWideRow.laid) (((OpenSpec.ofChange Rows.shortWideSpec).at F).post enc Tryz.prog Tryz.f10 false true false false) := by
  obtain ⟨places, hx⟩ := reads os enc
  refine returnsInHanded_of_row (C := Tryz.checked) (s := OpenSpec.ofChange Rows.shortWideSpec) ownKnob_none started (by kernel_rfl) Tryz.func10
    (witness_row_at (enc := enc) (C := Tryz.checked) false (laidWorld os) #[.int .u64 0, .bool false] rfl (by kernel_rfl) (by kernel_rfl) (by kernel_rfl)
      (OpenSpec.preRow_of_cond 8 hx (by kernel_rfl) (fun k hk => by cases hk) (by kernel_rfl) (met os _))) ?_
  intro W base args ds gs before hval hW _ _ hsz hL _ _
  have hg : gs = [] := by
    obtain ⟨p, q, _, hV, _⟩ := hW
    exact (trodVars_none hV).1
  subst hg
  have hsz' : (DataW.weightsEach Tryz.prog [27, 4] ds).all (· ≤ reachBytes) = true := by rw [List.append_nil] at hsz; exact hsz
  exact contract H enc W base args ds [] before hval hW hsz' hL

theorem said : Rows.ShortWideSaid :=
  OpenClaim.holds_of_cond 10 Tryz.f10 rfl rfl rfl rfl rfl rfl rfl ⟨rfl, rfl, rfl, rfl, rfl⟩ rfl rfl rfl rfl rfl (by kernel_rfl) Tryz.func10 (by kernel_rfl)
    (of_decide_eq_true (by kernel_rfl)) (by unfold Func.isWrapper; first | (rw [if_pos (by decide +kernel)]; kernel_rfl) | (rw [if_neg (by decide +kernel)]; exact ⟨rfl, rfl⟩))
    (fun os started H enc _ F => by rw [OpenClaim.pre_eq_preRow]; exact lifted os started H enc F)

/-- No parameter wants a stand-in; the program's own looks are off: what the card asks. -/
theorem plain (f : FuncId) (fn : Func) (hf : Tryz.pinned.checked.prog.funcNamed "gouache/gouachelaw16.ShortWide" = some f) (hfn : Tryz.pinned.checked.prog.funcs[f]? = some fn) :
    false = Tryz.pinned.checked.prog.looks [] ∧ ∀ (j : Nat) t, fn.params[j]? = some t → Tryz.pinned.checked.prog.wantsStandIn t = false := by
  obtain rfl : f = 10 := Option.some.inj ((show Tryz.prog.funcNamed "gouache/gouachelaw16.ShortWide" = some 10 by kernel_rfl).symm.trans hf) |>.symm
  obtain rfl : fn = Tryz.f10 := (Option.some.inj (Tryz.func10.symm.trans hfn)).symm
  refine ⟨by kernel_rfl, fun j t ht => ?_⟩
  rw [Tryz.params10] at ht
  have ht' : t = 27 ∨ t = 4 := by simpa using Array.mem_of_getElem? ht
  rcases ht' with rfl | rfl
  · exact (show Tryz.prog.wantsStandIn 27 = false by kernel_rfl)
  · exact (show Tryz.prog.wantsStandIn 4 = false by kernel_rfl)

/-- THE CARD. -/
theorem card : Rows.ShortWideCardSaid :=
  Claim7.holds_tied_plain_at .later [] _ _ _ _ said (fun _ h => by cases h) (by kernel_rfl) (fun _ h => by cases h) shortWide_row_tie rfl ⟨rfl, rfl⟩ (by kernel_rfl) rfl plain (by kernel_rfl)
end Go.Proofs.YtpadcjcoafidgaaGreatDoor.shortWide
