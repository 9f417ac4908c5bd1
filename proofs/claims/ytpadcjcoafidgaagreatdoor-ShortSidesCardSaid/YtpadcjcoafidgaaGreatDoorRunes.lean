/- text.Runes of a tame text. -/
import Derived.Test.YtpadcjcoafidgaaGreatDoorTokens
import Derived.Lib.ConvBytes
import Derived.Laws.IdiomStrings
namespace Go.Proofs.YtpadcjcoafidgaaGreatDoor
open Go.RowKit

def runesOf (s : ByteArray) : List Int := s.data.toList.map fun b => (b.toNat : Int)
theorem runesOf_len (s : ByteArray) : (runesOf s).length = s.size := by unfold runesOf; rw [List.length_map, Array.length_toList]; rfl
/-- The bytes that a slice value holds. -/
def Bs (w : World) (v : Value) (s : ByteArray) : Prop :=
  ∃ p off cap, v = .slice (some ⟨p, off, none⟩) s.size cap ∧ p < w.heap.size ∧ ∀ (k : Nat) (h : k < s.data.toList.length), w.cell? ⟨p, off + k, none⟩ = some (.int .u8 (s.data.toList[k].toNat : Int))
theorem own_iter {w : World} {B e size n : Nat} {v : Value} {xs : List Value} {k : Nat} {s : ByteArray} {pos : Nat} (h : w.ownsRow B e size v n xs) (hk : w.heap[k]? = some (.stringIter s pos)) (pos' : Nat) : (w.iterAt k s pos').ownsRow B e size v n xs := by
  refine ⟨h.1, ?_⟩
  rcases h.2 with h0 | ⟨g, cap, cur, hv, hb, hg, rest⟩
  · exact .inl h0
  · refine .inr ⟨g, cap, cur, hv, hb, ?_, rest⟩
    rw [Lib.iterAt_other _ _ _ _ _ (fun e => by subst e; rw [hk] at hg; cases hg)]
    exact hg
theorem own_not_iter {w : World} {B e size n : Nat} {v : Value} {xs : List Value} {k : Nat} {s : ByteArray} {pos : Nat} (h : w.ownsRow B e size v n xs) (hk : w.heap[k]? = some (.stringIter s pos)) : some k ≠ v.ownBlock := by
  intro he
  rcases h.2 with ⟨hv, _⟩ | ⟨g, cap, cur, hv, hb, hg, rest⟩
  · rw [hv] at he; cases he
  · rw [hv] at he
    simp [Value.ownBlock] at he
    subst he
    rw [hk] at hg
    cases hg
theorem infoRune : (Tryz.prog.info? 21).map (fun i => (i.zero, i.size, i.bytes)) = some (some (.int .i32 0), 1, 4) := by kernel_rfl
def rRows (l : List Int) : List (List Value) := l.map fun c => [Value.int .i32 c]
theorem rRows_flatten (l : List Int) : (rRows l).flatten = l.map (Value.int .i32) := by
  induction l with
  | nil => rfl
  | cons a l ih => simpa [rRows] using ih
theorem rn_of_owns {w : World} {B e : Nat} {v : Value} {l : List Int} (h : w.ownsRow B e 1 v (rRows l).length (rRows l).flatten) (hne : v ≠ .slice none 0 0) : Rn w.heap.size w v l := by
  obtain ⟨_, ⟨hv, _⟩ | ⟨g, cap, cur, hv, hg, hh, hcap, hmax, hsz, htake⟩⟩ := h
  · exact absurd hv hne
  · have hl : (rRows l).length = l.length := by simp [rRows]
    rw [hl] at hv hcap htake
    refine ⟨g, 0, cap, hv, hcap, (Array.getElem?_eq_some_iff.1 hh).1, fun k hk => ?_⟩
    rw [rRows_flatten] at htake
    have h2 : (l.map (Value.int .i32))[k]? = some (.int .i32 l[k]) := by simp [hk]
    rw [← htake, List.getElem?_take, Nat.mul_one, if_pos hk] at h2
    simp only [World.cell?, hh, Nat.zero_add]
    simpa using h2
set_option maxRecDepth 100000 in
set_option maxHeartbeats 4000000 in
theorem Runes_any (w : World) (v : Value) (s : ByteArray) (h : Bs w v s) (ht : Tame (runesOf s)) (hlen : s.size ≤ 10000) :
    Calls Tryz.prog 50 #[v] w fun e w' => ∃ V, e = .returned V ∧ Rn w'.heap.size w' V (runesOf s) ∧ Below w.heap.size w w' := by
  obtain ⟨p, off, cap, rfl, hp, hcell⟩ := h
  have T := Lib.hid ht
  clear ht
  obtain ⟨i0, hi, hz0, hz1, hz2⟩ := info_parts infoRune
  have Hi := Lib.hid hi
  clear hi
  have Hz0 := Lib.hid hz0
  clear hz0
  have Hz1 := Lib.hid hz1
  clear hz1
  have Hz2 := Lib.hid hz2
  clear hz2
  have HC := Lib.hid hcell
  clear hcell
  go_enter Tryz.func50, Tryz.ntmps50
  go_wp2_with (refine wpList_make_own _ rfl _ _ 88 rfl w.heap.size 21 i0 _ 1 Tryz.underlying88 Hi.out Hz0.out Hz1.out .i64 .i64 s.size s.size rfl rfl rfl (by rw [Hz2.out]; omega) (by unfold maxLen; omega) (Nat.le_refl _) ?_; intro w2 hown hg2)
  have hB2 : Below w.heap.size w w2 := (Below.refl _ w).grown hg2 (Nat.le_refl _) (fun k e => by cases e)
  have hcv : (convert 90 9 (.slice (some ⟨p, off, none⟩) s.size cap)).run Tryz.prog w2 = .ok (.string s) w2 := by
    have hsz : s.size = s.data.toList.length := by rw [Array.length_toList]; rfl
    rw [hsz, run_convert_bytes_back w2 90 9 5 ⟨p, off, none⟩ cap s.data.toList Tryz.underlying90 Tryz.underlying5 Tryz.underlying9 (fun j hj => by
      have hadd : (⟨p, off, none⟩ : Addr).add j = ⟨p, off + j, none⟩ := by unfold Addr.add; split <;> simp only [*, Nat.add_zero]
      rw [hadd]
      exact (hB2.cell (p := ⟨p, _, none⟩) hp).trans (HC.out j hj))]
  clear HC
  rw [hcv]
  go_wp2_with fail
  have hI0 := World.iter_heap w2 s 0
  have hbI : Below w.heap.size w (w2.iter s 0) := hB2.trans ((bAlloc1 w2 _).mono hB2.size)
  have hownI : (w2.iter s 0).ownsRow w.heap.size 21 1 (Value.slice (some { block := w.heap.size, off := 0 }) 0 s.size) 0 [] := hown.alloc _
  have hle2 := hB2.size
  clear hown hg2 hcv hB2
  go_loopw [3, 4, 6, 7] (fun l _ _ _ wr => ∃ pos : Nat, pos ≤ s.size ∧ wr.heap[w2.heap.size]? = some (.stringIter s pos) ∧ wr.ownsRow w.heap.size 21 1 l (rRows ((runesOf s).take pos)).length (rRows ((runesOf s).take pos)).flatten ∧ l ≠ .slice none 0 0 ∧ Below w.heap.size w wr)
    (fun _ _ _ _ wr => s.size - wr.iterPos w2.heap.size)
  case atStart => exact ⟨0, Nat.zero_le _, hI0, hownI, by simp, hbI⟩
  case round =>
    obtain ⟨pos, hps, hk, hown, hne, hb⟩ := hrel
    clear hI0 hbI hownI
    have hrl := runesOf_len s
    by_cases hp' : pos < s.size
    · have hc0 : (runesOf s)[pos]'(by omega) = ((s[pos]'hp').toNat : Int) := by simp [runesOf]; rfl
      have htm := T.out _ (List.getElem_mem (show pos < (runesOf s).length by omega))
      rw [hc0] at htm
      have hasc : (s[pos]'hp').toNat < 128 := by unfold tm at htm; omega
      have hnext : ∀ ty, (Instr.next (.pointer (some ⟨w2.heap.size, 0, none⟩)) true ty).run Tryz.prog wr = _ := fun ty => Lib.run_next_ascii_at wr w2.heap.size s pos ty hk hp' hasc
      have hk1 := Lib.iterAt_heap wr w2.heap.size s pos (pos + 1) hk
      have hb1 : Below w.heap.size w (wr.iterAt w2.heap.size s (pos + 1)) := Lib.below_iterAt hb hle2 s (pos + 1)
      have hown1 := own_iter hown hk (pos + 1)
      have hmu : wr.iterPos w2.heap.size = pos := by simp [World.iterPos, hk]
      generalize wr.iterAt w2.heap.size s (pos + 1) = W1 at hnext hk1 hb1 hown1
      have HM := Lib.hid hmu
      clear hk hmu hb hown
      obtain ⟨c, hc⟩ : ∃ c : Int, ((s[pos]'hp').toNat : Int) = c := ⟨_, rfl⟩
      rw [hc] at hnext htm
      have b10 : (c == 10) = false := by rw [beq_eq_false_iff_ne]; intro e; subst e; revert htm; decide
      have b13 : (c == 13) = false := by rw [beq_eq_false_iff_ne]; intro e; subst e; revert htm; decide
      have b12 : (c == 12) = false := by rw [beq_eq_false_iff_ne]; intro e; subst e; revert htm; decide
      have b0 : (c == 0) = false := by rw [beq_eq_false_iff_ne]; intro e; subst e; revert htm; decide
      have hrows : rRows ((runesOf s).take (pos + 1)) = rRows ((runesOf s).take pos) ++ [[.int .i32 c]] := by
        rw [List.take_succ_eq_append_getElem (show pos < (runesOf s).length by omega), hc0, hc]; simp [rRows]
      have Hrows := Lib.hid hrows
      have hrl2 : (rRows ((runesOf s).take pos)).length ≤ 10000 := by simp [rRows]; omega
      have hit2 := own_not_iter hown1 hk1
      have hlt1 : w2.heap.size < W1.heap.size := (Array.getElem?_eq_some_iff.1 hk1).1
      clear hrows hc hc0
      go_wp2_with (at_builtin; refine wpList_append_row rfl _ _ 88 21 rfl w.heap.size 1 4 _ Tryz.underlying88 infoRune rfl (by decide) _ (rRows ((runesOf s).take pos)) [.int .i32 c] rfl (hown1.alloc _) ⟨W1.heap.size, 0, none⟩ 1 rfl rfl (cells_new1 W1 _ _ _ rfl) (by intro u hu; simp only [List.mem_singleton] at hu; subst hu; rfl) (by omega) (by decide) (by have := hb1.size; simp; omega) ?_; intro v' w5 hown5 hgrow hne5)
      have hk5 : w5.heap[w2.heap.size]? = some (.stringIter s (pos + 1)) := by
        rw [hgrow.block w2.heap.size (by simp; omega) hit2, Below.heap_alloc _ _ _ hlt1]; exact hk1
      go_roundw
      case rel =>
        refine ⟨pos + 1, by omega, hk5, ?_, hne5, ?_⟩
        · rw [Hrows.out]; exact hown5
        · exact (hb1.alloc hb1.size _).grown hgrow (by have := hb1.size; simp; omega) (fun j e => (hown1.lt j e).1)
      case measure =>
        have hmu5 : w5.iterPos w2.heap.size = pos + 1 := by simp [World.iterPos, hk5]
        rw [HM.out, hmu5]; omega
    · obtain rfl : pos = s.size := by omega
      have hnext : ∀ ty, (Instr.next (.pointer (some ⟨w2.heap.size, 0, none⟩)) true ty).run Tryz.prog wr = _ := fun ty => Lib.run_next_end_at wr w2.heap.size s s.size ty hk (by omega)
      go_wp2_with fail
      go_ret
      rw [List.take_of_length_le (by omega)] at hown
      exact ⟨_, rfl, rn_of_owns hown hne, hb⟩
end Go.Proofs.YtpadcjcoafidgaaGreatDoor
