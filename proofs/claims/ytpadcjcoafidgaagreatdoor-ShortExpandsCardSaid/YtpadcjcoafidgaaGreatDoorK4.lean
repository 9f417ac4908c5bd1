/- Texts of this seat, laid together: Runes, Vs, Trim, Values, ValText, Fold. -/
import Derived.Test.YtpadcjcoafidgaaGreatDoorK3
import Derived.Lib.ConvBytes
import Derived.Laws.IdiomStrings
/-! text.Runes of a tame text. -/
namespace Go.Proofs.YtpadcjcoafidgaaGreatDoor
open Go.RowKit

def runesOf (s : ByteArray) : List Int := s.data.toList.map fun b => (b.toNat : Int)
theorem runesOf_len (s : ByteArray) : (runesOf s).length = s.size := by unfold runesOf; rw [List.length_map, Array.length_toList]; rfl
/-- The bytes that a slice value holds. -/
def Bs (w : World) (v : Value) (s : ByteArray) : Prop :=
  ∃ p off cap, v = .slice (some ⟨p, off, none⟩) s.size cap ∧ p < w.heap.size ∧ ∀ (k : Nat) (h : k < s.data.toList.length), w.cell? ⟨p, off + k, none⟩ = some (.int .u8 (s.data.toList[k].toNat : Int))
theorem own_iter {w : World} {B e size n : Nat} {v : Value} {xs : List Value} {k : Nat} {s : ByteArray} {pos : Nat} (h : w.ownsRow B e size v n xs) (hk : w.heap[k]? = some (.stringIter s pos)) (pos' : Nat) : (w.iterAt k s pos').ownsRow B e size v n xs := by
  refine ⟨h.1, ?_⟩
  rcases h.2 with h0 | ⟨g, cap, cur, hv, hb, hg, rest⟩
  · exact .inl h0
  · refine .inr ⟨g, cap, cur, hv, hb, ?_, rest⟩
    rw [Lib.iterAt_other _ _ _ _ _ (fun e => by subst e; rw [hk] at hg; cases hg)]
    exact hg
theorem own_not_iter {w : World} {B e size n : Nat} {v : Value} {xs : List Value} {k : Nat} {s : ByteArray} {pos : Nat} (h : w.ownsRow B e size v n xs) (hk : w.heap[k]? = some (.stringIter s pos)) : some k ≠ v.ownBlock := by
  intro he
  rcases h.2 with ⟨hv, _⟩ | ⟨g, cap, cur, hv, hb, hg, rest⟩
  · rw [hv] at he; cases he
  · rw [hv] at he
    simp [Value.ownBlock] at he
    subst he
    rw [hk] at hg
    cases hg
theorem infoRune : (Tryz.prog.info? 21).map (fun i => (i.zero, i.size, i.bytes)) = some (some (.int .i32 0), 1, 4) := by kernel_rfl
def rRows (l : List Int) : List (List Value) := l.map fun c => [Value.int .i32 c]
theorem rRows_flatten (l : List Int) : (rRows l).flatten = l.map (Value.int .i32) := by
  induction l with
  | nil => rfl
  | cons a l ih => simpa [rRows] using ih
theorem rn_of_owns {w : World} {B e : Nat} {v : Value} {l : List Int} (h : w.ownsRow B e 1 v (rRows l).length (rRows l).flatten) (hne : v ≠ .slice none 0 0) : Rn w.heap.size w v l := by
  obtain ⟨_, ⟨hv, _⟩ | ⟨g, cap, cur, hv, hg, hh, hcap, hmax, hsz, htake⟩⟩ := h
  · exact absurd hv hne
  · have hl : (rRows l).length = l.length := by simp [rRows]
    rw [hl] at hv hcap htake
    refine ⟨g, 0, cap, hv, hcap, (Array.getElem?_eq_some_iff.1 hh).1, fun k hk => ?_⟩
    rw [rRows_flatten] at htake
    have h2 : (l.map (Value.int .i32))[k]? = some (.int .i32 l[k]) := by simp [hk]
    rw [← htake, List.getElem?_take, Nat.mul_one, if_pos hk] at h2
    simp only [World.cell?, hh, Nat.zero_add]
    simpa using h2
set_option maxRecDepth 100000 in
set_option maxHeartbeats 4000000 in
theorem Runes_any (w : World) (v : Value) (s : ByteArray) (h : Bs w v s) (ht : Tame (runesOf s)) (hlen : s.size ≤ 10000) :
    Calls Tryz.prog 50 #[v] w fun e w' => ∃ V, e = .returned V ∧ Rn w'.heap.size w' V (runesOf s) ∧ Below w.heap.size w w' := by
  obtain ⟨p, off, cap, rfl, hp, hcell⟩ := h
  have T := Lib.hid ht
  clear ht
  obtain ⟨i0, hi, hz0, hz1, hz2⟩ := info_parts infoRune
  have Hi := Lib.hid hi
  clear hi
  have Hz0 := Lib.hid hz0
  clear hz0
  have Hz1 := Lib.hid hz1
  clear hz1
  have Hz2 := Lib.hid hz2
  clear hz2
  have HC := Lib.hid hcell
  clear hcell
  go_enter Tryz.func50, Tryz.ntmps50
  go_wp2_with (refine wpList_make_own _ rfl _ _ 88 rfl w.heap.size 21 i0 _ 1 Tryz.underlying88 Hi.out Hz0.out Hz1.out .i64 .i64 s.size s.size rfl rfl rfl (by rw [Hz2.out]; omega) (by unfold maxLen; omega) (Nat.le_refl _) ?_; intro w2 hown hg2)
  have hB2 : Below w.heap.size w w2 := (Below.refl _ w).grown hg2 (Nat.le_refl _) (fun k e => by cases e)
  have hcv : (convert 90 9 (.slice (some ⟨p, off, none⟩) s.size cap)).run Tryz.prog w2 = .ok (.string s) w2 := by
    have hsz : s.size = s.data.toList.length := by rw [Array.length_toList]; rfl
    rw [hsz, run_convert_bytes_back w2 90 9 5 ⟨p, off, none⟩ cap s.data.toList Tryz.underlying90 Tryz.underlying5 Tryz.underlying9 (fun j hj => by
      have hadd : (⟨p, off, none⟩ : Addr).add j = ⟨p, off + j, none⟩ := by unfold Addr.add; split <;> simp only [*, Nat.add_zero]
      rw [hadd]
      exact (hB2.cell (p := ⟨p, _, none⟩) hp).trans (HC.out j hj))]
  clear HC
  rw [hcv]
  go_wp2_with fail
  have hI0 := World.iter_heap w2 s 0
  have hbI : Below w.heap.size w (w2.iter s 0) := hB2.trans ((bAlloc1 w2 _).mono hB2.size)
  have hownI : (w2.iter s 0).ownsRow w.heap.size 21 1 (Value.slice (some { block := w.heap.size, off := 0 }) 0 s.size) 0 [] := hown.alloc _
  have hle2 := hB2.size
  clear hown hg2 hcv hB2
  go_loopw [3, 4, 6, 7] (fun l _ _ _ wr => ∃ pos : Nat, pos ≤ s.size ∧ wr.heap[w2.heap.size]? = some (.stringIter s pos) ∧ wr.ownsRow w.heap.size 21 1 l (rRows ((runesOf s).take pos)).length (rRows ((runesOf s).take pos)).flatten ∧ l ≠ .slice none 0 0 ∧ Below w.heap.size w wr)
    (fun _ _ _ _ wr => s.size - wr.iterPos w2.heap.size)
  case atStart => exact ⟨0, Nat.zero_le _, hI0, hownI, by simp, hbI⟩
  case round =>
    obtain ⟨pos, hps, hk, hown, hne, hb⟩ := hrel
    clear hI0 hbI hownI
    have hrl := runesOf_len s
    by_cases hp' : pos < s.size
    · have hc0 : (runesOf s)[pos]'(by omega) = ((s[pos]'hp').toNat : Int) := by simp [runesOf]; rfl
      have htm := T.out _ (List.getElem_mem (show pos < (runesOf s).length by omega))
      rw [hc0] at htm
      have hasc : (s[pos]'hp').toNat < 128 := by unfold tm at htm; omega
      have hnext : ∀ ty, (Instr.next (.pointer (some ⟨w2.heap.size, 0, none⟩)) true ty).run Tryz.prog wr = _ := fun ty => Lib.run_next_ascii_at wr w2.heap.size s pos ty hk hp' hasc
      have hk1 := Lib.iterAt_heap wr w2.heap.size s pos (pos + 1) hk
      have hb1 : Below w.heap.size w (wr.iterAt w2.heap.size s (pos + 1)) := Lib.below_iterAt hb hle2 s (pos + 1)
      have hown1 := own_iter hown hk (pos + 1)
      have hmu : wr.iterPos w2.heap.size = pos := by simp [World.iterPos, hk]
      generalize wr.iterAt w2.heap.size s (pos + 1) = W1 at hnext hk1 hb1 hown1
      have HM := Lib.hid hmu
      clear hk hmu hb hown
      obtain ⟨c, hc⟩ : ∃ c : Int, ((s[pos]'hp').toNat : Int) = c := ⟨_, rfl⟩
      rw [hc] at hnext htm
      have b10 : (c == 10) = false := by rw [beq_eq_false_iff_ne]; intro e; subst e; revert htm; decide
      have b13 : (c == 13) = false := by rw [beq_eq_false_iff_ne]; intro e; subst e; revert htm; decide
      have b12 : (c == 12) = false := by rw [beq_eq_false_iff_ne]; intro e; subst e; revert htm; decide
      have b0 : (c == 0) = false := by rw [beq_eq_false_iff_ne]; intro e; subst e; revert htm; decide
      have hrows : rRows ((runesOf s).take (pos + 1)) = rRows ((runesOf s).take pos) ++ [[.int .i32 c]] := by
        rw [List.take_succ_eq_append_getElem (show pos < (runesOf s).length by omega), hc0, hc]; simp [rRows]
      have Hrows := Lib.hid hrows
      have hrl2 : (rRows ((runesOf s).take pos)).length ≤ 10000 := by simp [rRows]; omega
      have hit2 := own_not_iter hown1 hk1
      have hlt1 : w2.heap.size < W1.heap.size := (Array.getElem?_eq_some_iff.1 hk1).1
      clear hrows hc hc0
      go_wp2_with (at_builtin; refine wpList_append_row rfl _ _ 88 21 rfl w.heap.size 1 4 _ Tryz.underlying88 infoRune rfl (by decide) _ (rRows ((runesOf s).take pos)) [.int .i32 c] rfl (hown1.alloc _) ⟨W1.heap.size, 0, none⟩ 1 rfl rfl (cells_new1 W1 _ _ _ rfl) (by intro u hu; simp only [List.mem_singleton] at hu; subst hu; rfl) (by omega) (by decide) (by have := hb1.size; simp; omega) ?_; intro v' w5 hown5 hgrow hne5)
      have hk5 : w5.heap[w2.heap.size]? = some (.stringIter s (pos + 1)) := by
        rw [hgrow.block w2.heap.size (by simp; omega) hit2, Below.heap_alloc _ _ _ hlt1]; exact hk1
      go_roundw
      case rel =>
        refine ⟨pos + 1, by omega, hk5, ?_, hne5, ?_⟩
        · rw [Hrows.out]; exact hown5
        · exact (hb1.alloc hb1.size _).grown hgrow (by have := hb1.size; simp; omega) (fun j e => (hown1.lt j e).1)
      case measure =>
        have hmu5 : w5.iterPos w2.heap.size = pos + 1 := by simp [World.iterPos, hk5]
        rw [HM.out, hmu5]; omega
    · obtain rfl : pos = s.size := by omega
      have hnext : ∀ ty, (Instr.next (.pointer (some ⟨w2.heap.size, 0, none⟩)) true ty).run Tryz.prog wr = _ := fun ty => Lib.run_next_end_at wr w2.heap.size s s.size ty hk (by omega)
      go_wp2_with fail
      go_ret
      rw [List.take_of_length_le (by omega)] at hown
      exact ⟨_, rfl, rn_of_owns hown hne, hb⟩
end Go.Proofs.YtpadcjcoafidgaaGreatDoor
/-! Slices of values; slices.Clone; parse.Trim. -/
namespace Go.Proofs.YtpadcjcoafidgaaGreatDoor
open Go.RowKit

/-- A value: its token, and the slice of its kids. -/
structure Val where
  tok : Tok
  ka : Option Addr
  kn : Nat
  kc : Nat
def Val.row (x : Val) : List Value := x.tok.row ++ [.slice x.ka x.kn x.kc]
def Val.val (x : Val) : Value := .agg x.row.toArray
theorem Val.row_one (t : Val) : ∀ u ∈ t.row, u.oneCell' = true := by
  intro u hu
  simp only [Val.row, List.mem_append, List.mem_singleton] at hu
  rcases hu with hu | rfl
  · exact t.tok.row_one u hu
  · rfl
theorem vRows_len (l : List Val) : ∀ r ∈ l.map Val.row, r.length = 6 := by
  intro r hr
  obtain ⟨t, _, rfl⟩ := List.mem_map.1 hr
  rfl
/-- The values that a slice holds. -/
def Vs (w : World) (v : Value) (l : List Val) : Prop :=
  ∃ a cap, v = .slice a l.length cap ∧ l.length ≤ cap ∧ l.length ≤ 1954687338211 ∧
    (l ≠ [] → ∃ b off, a = some ⟨b, off, none⟩ ∧ b < w.heap.size ∧ ∀ (i : Nat) (hi : i < l.length) (j : Nat) (x : Value), l[i].row[j]? = some x → w.cell? ⟨b, off + i * 6 + j, none⟩ = some x)
theorem Vs.below {C : Nat} {w w' : World} {v : Value} {l : List Val} (h : Vs w v l) (hb : Below C w w') (hC : w.heap.size ≤ C) : Vs w' v l := by
  obtain ⟨a, cap, hv, hl, hl2, hr⟩ := h
  refine ⟨a, cap, hv, hl, hl2, fun hne => ?_⟩
  obtain ⟨b, off, ha, hlt, hc⟩ := hr hne
  exact ⟨b, off, ha, Nat.lt_of_lt_of_le hlt hb.size, fun i hi j x hx => (hb.cell (p := ⟨b, _, none⟩) (Nat.lt_of_lt_of_le hlt hC)).trans (hc i hi j x hx)⟩
theorem Vs.next {w w' : World} {v : Value} {l : List Val} (h : Vs w v l) (hb : Below w.heap.size w w') : Vs w' v l := h.below hb (Nat.le_refl _)
theorem Vs.of_owns {w : World} {B e : Nat} {v : Value} {l : List Val} (h : w.ownsRow B e 6 v (l.map Val.row).length (l.map Val.row).flatten) (hl : l.length ≤ 1954687338211) : Vs w v l := by
  obtain ⟨_, ⟨hv, h0⟩ | ⟨g, cap, cur, hv, hg, hh, hcap, hmax, hsz, htake⟩⟩ := h
  · rw [List.length_map] at h0
    have : l = [] := List.eq_nil_of_length_eq_zero h0
    subst this
    exact ⟨none, 0, hv, Nat.le_refl _, hl, fun h => absurd rfl h⟩
  · rw [List.length_map] at hv hcap
    refine ⟨_, cap, hv, hcap, hl, fun _ => ⟨g, 0, rfl, (Array.getElem?_eq_some_iff.1 hh).1, fun i hi j x hx => ?_⟩⟩
    have h2 := flatten_get (m := 6) (l.map Val.row) i j x (vRows_len l) (by simpa [hi] using hx)
    rw [← htake, List.getElem?_take] at h2
    have h3 : cur.toList[i * 6 + j]? = some x := by
      split at h2
      · exact h2
      · cases h2
    simp only [World.cell?, hh, Nat.zero_add]
    simpa using h3
theorem Vs.len {w : World} {v : Value} {l : List Val} (h : Vs w v l) : l.length ≤ 1954687338211 := by
  obtain ⟨_, _, _, _, h, _⟩ := h
  exact h
theorem infoVal : (Tryz.prog.info? 26).map (fun i => (i.zero, i.size, i.bytes)) = some (some (.agg #[.int .i64 0, .string ⟨#[]⟩, .string ⟨#[]⟩, .bool false, .bool false, .slice none 0 0]), 6, 72) := by kernel_rfl
/-- The cells of all values, one behind the other. -/
theorem flat_cells {w : World} {b off : Nat} {l : List Val} (hc : ∀ (i : Nat) (hi : i < l.length) (j : Nat) (x : Value), l[i].row[j]? = some x → w.cell? ⟨b, off + i * 6 + j, none⟩ = some x) :
    ∀ (j : Nat) (u : Value), (l.map Val.row).flatten[j]? = some u → w.cell? ((⟨b, off, none⟩ : Addr).add j) = some u := by
  have key : ∀ (l : List Val) (off : Nat), (∀ (i : Nat) (hi : i < l.length) (j : Nat) (x : Value), l[i].row[j]? = some x → w.cell? ⟨b, off + i * 6 + j, none⟩ = some x) → ∀ (j : Nat) (u : Value), (l.map Val.row).flatten[j]? = some u → w.cell? ⟨b, off + j, none⟩ = some u := by
    intro l
    induction l with
    | nil => intro off _ j u h; simp at h
    | cons a l ih =>
      intro off hc j u h
      rw [List.map_cons, List.flatten_cons, List.getElem?_append] at h
      split at h
      · have := hc 0 (by simp) j u (by simpa using h)
        simpa using this
      · rename_i hj
        have hl : a.row.length = 6 := rfl
        rw [hl] at hj h
        have := ih (off + 6) (fun i hi j x hx => by
          have := hc (i + 1) (by simpa using hi) j x (by simpa using hx)
          rw [show off + 6 + i * 6 + j = off + (i + 1) * 6 + j by omega]; exact this) (j - 6) u h
        rw [show off + 6 + (j - 6) = off + j by omega] at this
        exact this
  intro j u h
  have hadd : (⟨b, off, none⟩ : Addr).add j = ⟨b, off + j, none⟩ := by unfold Addr.add; split <;> simp only [*, Nat.add_zero]
  rw [hadd]
  exact key l off hc j u h
theorem flat_len (l : List Val) : (l.map Val.row).flatten.length = l.length * 6 := by
  induction l with
  | nil => rfl
  | cons a l ih =>
    rw [List.map_cons, List.flatten_cons, List.length_append, ih, List.length_cons]
    have hl : a.row.length = 6 := rfl
    omega
theorem flat_one (l : List Val) : ∀ u ∈ (l.map Val.row).flatten, u.oneCell' = true := by
  intro u hu
  obtain ⟨r, hr, hu⟩ := List.mem_flatten.1 hu
  obtain ⟨t, _, rfl⟩ := List.mem_map.1 hr
  exact t.row_one u hu
theorem eql_nil (a : Option Addr) (l c : Nat) (w : World) : (binOp .eql 24 (.slice a l c) (.slice none 0 0)).run Tryz.prog w = .ok (.bool a.isNone) w := by
  simp only [binOp]
  simp [run_equal_slice_nil w 24 26 a l c Tryz.underlying24]
set_option maxRecDepth 100000 in
set_option maxHeartbeats 1000000 in
theorem Clone_any (w : World) (v : Value) (l : List Val) (h : Vs w v l) :
    Calls Tryz.prog 91 #[v] w fun e w' => ∃ V, e = .returned V ∧ Vs w' V l ∧ Below w.heap.size w w' := by
  obtain ⟨i0, hi, hz0, hz1, hz2⟩ := info_parts infoVal
  obtain ⟨a, cap, rfl, hcap, hl, hr⟩ := h
  cases a with
  | none =>
    have hl0 : l = [] := by
      cases l with
      | nil => rfl
      | cons x l =>
        obtain ⟨b, off, ha, _⟩ := hr (by simp)
        cases ha
    subst hl0
    clear hr
    go_enter Tryz.func91, Tryz.ntmps91
    go_wp2_with fail
    rw [eql_nil]
    go_wp2_with fail
    go_ret
    exact ⟨_, rfl, ⟨none, 0, rfl, Nat.zero_le _, Nat.zero_le _, fun h => absurd rfl h⟩, Below.refl _ _⟩
  | some ad =>
    have hcells : ∀ (j : Nat) (u : Value), (l.map Val.row).flatten[j]? = some u → w.cell? (ad.add j) = some u ∧ (ad.add j).block < w.heap.size := by
      intro j u hu
      have hne : l ≠ [] := by intro e; subst e; simp at hu
      obtain ⟨b, off, ha, hlt, hc⟩ := hr hne
      cases ha
      refine ⟨flat_cells hc j u hu, ?_⟩
      unfold Addr.add
      split <;> exact hlt
    have HC := Lib.hid hcells
    clear hcells hr
    go_enter Tryz.func91, Tryz.ntmps91
    go_wp2_with fail
    rw [eql_nil]
    go_wp2_with (at_builtin; refine wpList_append_own _ rfl _ _ 24 rfl w.heap.size 26 i0 (.agg #[.int .i64 0, .string ⟨#[]⟩, .string ⟨#[]⟩, .bool false, .bool false, .slice none 0 0]) 6 72 Tryz.underlying24 hi hz0 hz1 hz2 rfl (by decide) (.slice (some ⟨w.heap.size, 0, none⟩) 0 0) 0 [] rfl ⟨rfl, .inr ⟨w.heap.size, 0, #[], rfl, Nat.le_refl _, heap_alloc_new _ _, Nat.le_refl _, by decide, rfl, rfl⟩⟩ ad l.length cap (l.map Val.row).flatten rfl (flat_len l) (fun j u hu => (World.cell?_alloc_lt _ _ _ (HC.out j u hu).2).trans (HC.out j u hu).1) (flat_one l) (by unfold maxLen; omega) (by omega) (by simp) ?_; intro v' w1 hown hgrow hne)
    go_ret
    refine ⟨v', rfl, Vs.of_owns (by simpa using hown) hl, (bAlloc1 w _).grown hgrow (by simp) (fun j e => by simp [Value.ownBlock] at e; omega)⟩
end Go.Proofs.YtpadcjcoafidgaaGreatDoor
/-! parse.Trim. -/
namespace Go.Proofs.YtpadcjcoafidgaaGreatDoor
open Go.RowKit

def isSp (v : Val) : Bool := v.tok.k == 13
def trim (l : List Val) : List Val := ((l.dropWhile isSp).reverse.dropWhile isSp).reverse
theorem dropWhile_drop {α : Type} (p : α → Bool) : ∀ (l : List α) (k : Nat), k ≤ l.length → (∀ i (h : i < l.length), i < k → p l[i] = true) → (k = l.length ∨ ∃ h : k < l.length, p l[k] = false) → l.dropWhile p = l.drop k
  | [], k, hk, _, _ => by simp
  | a :: l, 0, _, _, h => by
    rcases h with h | ⟨h, hp⟩
    · simp at h
    · simp only [List.getElem_cons_zero] at hp
      simp [hp]
  | a :: l, k + 1, hk, h1, h2 => by
    have ha := h1 0 (by simp) (by omega)
    simp only [List.getElem_cons_zero] at ha
    rw [List.dropWhile_cons, ha, if_pos rfl, List.drop_succ_cons]
    refine dropWhile_drop p l k (by simpa using hk) (fun i hi hik => ?_) ?_
    · have := h1 (i + 1) (by simpa using hi) (by omega)
      simpa using this
    · rcases h2 with h2 | ⟨h, hp⟩
      · exact .inl (by simpa using h2)
      · exact .inr ⟨by simpa using h, by simpa using hp⟩
theorem trim_of (l : List Val) (k m : Nat) (hk : k ≤ l.length) (hm : k + m ≤ l.length) (h1 : ∀ i (h : i < l.length), i < k → isSp l[i] = true) (h2 : k = l.length ∨ ∃ h : k < l.length, isSp l[k] = false)
    (h3 : ∀ i (h : i < l.length), k + m ≤ i → isSp l[i] = true) (h4 : m = 0 ∨ ∃ h : k + m - 1 < l.length, isSp l[k + m - 1] = false) : trim l = (l.drop k).take m := by
  unfold trim
  rw [dropWhile_drop isSp l k hk h1 h2]
  have hlen : (l.drop k).length = l.length - k := List.length_drop ..
  rw [dropWhile_drop isSp (l.drop k).reverse (l.length - k - m) (by rw [List.length_reverse, hlen]; omega)]
  · rw [List.drop_reverse, List.reverse_reverse, hlen]
    congr 1
    omega
  · intro i hi hlt
    rw [List.length_reverse, hlen] at hi
    rw [List.getElem_reverse, List.getElem_drop]
    exact h3 _ _ (by rw [hlen]; omega)
  · have hlr : (l.drop k).reverse.length = l.length - k := by rw [List.length_reverse, hlen]
    rcases h4 with h4 | ⟨h, hp⟩
    · exact .inl (by omega)
    · by_cases hm0 : m = 0
      · exact .inl (by omega)
      · refine .inr ⟨by omega, ?_⟩
        rw [List.getElem_reverse, List.getElem_drop]
        have e : k + ((l.drop k).length - 1 - (l.length - k - m)) = k + m - 1 := by rw [hlen]; omega
        rw [← hp]
        congr 2
theorem isSp_any (x : Val) (w : World) :
    Calls Tryz.prog 90 #[.agg #[.int .i64 x.tok.k, .string x.tok.t, .string x.tok.u, .bool x.tok.wh, .bool x.tok.fl, .slice x.ka x.kn x.kc]] w fun e w' => e = .returned (.bool (isSp x)) ∧ Below w.heap.size w w' := by
  go_enter Tryz.func90, Tryz.ntmps90
  go_wp2_with fail
  go_ret
  exact ⟨rfl, bAlloc1 _ _⟩
/-- The six cells of a value. -/
theorem Vs.cells {w : World} {b off : Nat} {l : List Val} (hc : ∀ (i : Nat) (hi : i < l.length) (j : Nat) (x : Value), l[i].row[j]? = some x → w.cell? ⟨b, off + i * 6 + j, none⟩ = some x) (i : Nat) (hi : i < l.length) :
    w.cell? ⟨b, off + i * 6, none⟩ = some (.int .i64 l[i].tok.k) ∧ w.cell? ⟨b, off + i * 6 + 1, none⟩ = some (.string l[i].tok.t) ∧ w.cell? ⟨b, off + i * 6 + 2, none⟩ = some (.string l[i].tok.u) ∧
    w.cell? ⟨b, off + i * 6 + 3, none⟩ = some (.bool l[i].tok.wh) ∧ w.cell? ⟨b, off + i * 6 + 4, none⟩ = some (.bool l[i].tok.fl) ∧ w.cell? ⟨b, off + i * 6 + 5, none⟩ = some (.slice l[i].ka l[i].kn l[i].kc) :=
  ⟨hc i hi 0 _ rfl, hc i hi 1 _ rfl, hc i hi 2 _ rfl, hc i hi 3 _ rfl, hc i hi 4 _ rfl, hc i hi 5 _ rfl⟩
theorem cellsX {B : Nat} {w wx : World} (hx : Below B w wx) {b off : Nat} {l : List Val} (hb : b < B)
    (hc : ∀ (i : Nat) (hi : i < l.length) (j : Nat) (x : Value), l[i].row[j]? = some x → w.cell? ⟨b, off + i * 6 + j, none⟩ = some x) : ∀ (i : Nat) (hi : i < l.length) (j : Nat) (x : Value), l[i].row[j]? = some x → wx.cell? ⟨b, off + i * 6 + j, none⟩ = some x :=
  fun i hi j x h => (hx.cell (p := ⟨b, _, none⟩) hb).trans (hc i hi j x h)
theorem Vs.sub {w : World} {b off cap : Nat} {l : List Val} (hc : ∀ (i : Nat) (hi : i < l.length) (j : Nat) (x : Value), l[i].row[j]? = some x → w.cell? ⟨b, off + i * 6 + j, none⟩ = some x)
    (k m o : Nat) (ho : k < l.length → o = off + k * 6) (hk : k ≤ l.length) (hm : k + m ≤ l.length) (hb : b < w.heap.size) (hcap : l.length ≤ cap) (hl : l.length ≤ 1954687338211) : Vs w (.slice (some ⟨b, o, none⟩) m (cap - k)) ((l.drop k).take m) := by
  have hlen : ((l.drop k).take m).length = m := by rw [List.length_take, List.length_drop]; omega
  refine ⟨_, cap - k, by rw [hlen], by rw [hlen]; omega, by rw [hlen]; omega, fun _ => ⟨b, o, rfl, hb, fun i hi j x hx => ?_⟩⟩
  rw [List.getElem_take, List.getElem_drop] at hx
  have hcc := hc (k + i) (by rw [hlen] at hi; omega) j x hx
  have := ho (by rw [hlen] at hi; omega)
  rw [show o + i * 6 + j = off + (k + i) * 6 + j by omega]
  exact hcc
set_option maxRecDepth 100000 in
set_option maxHeartbeats 4000000 in
theorem Trim_ne (w : World) (b off cap : Nat) (l : List Val) (hl : l.length ≤ 1954687338211) (hcap : l.length ≤ cap) (hb : b < w.heap.size)
    (hc : ∀ (i : Nat) (hi : i < l.length) (j : Nat) (x : Value), l[i].row[j]? = some x → w.cell? ⟨b, off + i * 6 + j, none⟩ = some x) :
    Calls Tryz.prog 51 #[.slice (some ⟨b, off, none⟩) l.length cap] w fun e w' => ∃ V, e = .returned V ∧ Vs w' V (trim l) ∧ Below w.heap.size w w' := by
  have HC := Lib.hid hc
  clear hc
  go_enter Tryz.func51, Tryz.ntmps51
  go_wp2_with fail
  go_loopw [0] (fun v wr => ∃ k o : Nat, k ≤ l.length ∧ v = .slice (some ⟨b, o, none⟩) (l.length - k) (cap - k) ∧ Hid (k < l.length → o = off + k * 6) ∧ Hid (∀ i (h : i < l.length), i < k → isSp l[i] = true) ∧ Below w.heap.size w wr)
    (fun v _ => lenOf v)
  case atStart => exact ⟨0, off, Nat.zero_le _, rfl, Lib.hid (fun _ => by omega), Lib.hid (fun i _ hi => by omega), Below.refl _ _⟩
  case round =>
    obtain ⟨k, o, hk, rfl, HO, HP, hb1⟩ := hrel
    by_cases hlt : k < l.length
    · obtain ⟨x0, x1, x2, x3, x4, x5⟩ := Vs.cells HC.out k hlt
      have ho := HO.out hlt
      rw [← ho] at x0 x1 x2 x3 x4 x5
      clear ho
      have x0 := (hb1.cell (p := ⟨b, _, none⟩) hb).trans x0
      have x1 := (hb1.cell (p := ⟨b, _, none⟩) hb).trans x1
      have x2 := (hb1.cell (p := ⟨b, _, none⟩) hb).trans x2
      have x3 := (hb1.cell (p := ⟨b, _, none⟩) hb).trans x3
      have x4 := (hb1.cell (p := ⟨b, _, none⟩) hb).trans x4
      have x5 := (hb1.cell (p := ⟨b, _, none⟩) hb).trans x5
      have q0 : (0 : Int) < ((l.length - k : Nat) : Int) := by omega
      have q1 : (1 : Int) ≤ ((l.length - k : Nat) : Int) := by omega
      obtain ⟨y, hy⟩ : ∃ y, l[k] = y := ⟨_, rfl⟩
      rw [hy] at x0 x1 x2 x3 x4 x5
      have HY := Lib.hid hy
      clear hy
      go_wp2_with fail
      refine (isSp_any y _).mono ?_
      rintro e w2 ⟨rfl, hb2⟩
      have hbY := hb1.trans (hb2.mono hb1.size)
      clear x0 x1 x2 x3 x4 x5 hb1 hb2
      cases hs : isSp y
      · have HQ : Hid (k = l.length ∨ ∃ h : k < l.length, isSp l[k] = false) := Lib.hid (.inr ⟨hlt, by rw [HY.out]; exact hs⟩)
        have qk : (l.length : Int) - (k : Int) = ((l.length - k : Nat) : Int) := by omega
        go_wp2_with fail
        go_loopw [4] (fun mv wx => ∃ m : Nat, k + m ≤ l.length ∧ mv = .int .i64 m ∧ Hid (∀ i (h : i < l.length), k + m ≤ i → isSp l[i] = true) ∧ Below w.heap.size w wx)
          (fun mv _ => (intOf mv).toNat)
        case atStart => exact ⟨l.length - k, by omega, rfl, Lib.hid (fun i hi hm => by omega), hbY⟩
        case round =>
          obtain ⟨m, hm, rfl, HR, hbX⟩ := hrel
          clear hbY
          have q2 : (m : Int) ≤ ((cap - k : Nat) : Int) := by omega
          have q5 : (0 : Int) ≤ (m : Int) := by omega
          by_cases hm0 : m = 0
          · have HS : Hid (m = 0 ∨ ∃ h : k + m - 1 < l.length, isSp l[k + m - 1] = false) := Lib.hid (.inl hm0)
            have q3 : ¬ (0 : Int) < (m : Int) := by omega
            clear hm0
            go_wp2_with fail
            refine (Clone_any _ _ _ (Vs.sub (cellsX hbX hb HC.out) k m o HO.out (by omega) (by omega) (by have := hbX.size; omega) hcap hl)).mono ?_
            rintro e w9 ⟨V, rfl, hV, hb9⟩
            go_wp2_with fail
            go_ret
            refine ⟨V, rfl, ?_, hbX.trans (hb9.mono hbX.size)⟩
            rw [trim_of l k m hk (by omega) HP.out HQ.out HR.out HS.out]
            exact hV
          · have q3 : (0 : Int) < (m : Int) := by omega
            have hw1 : IntKind.i64.wrap ((m : Int) - 1) = ((m - 1 : Nat) : Int) := by rw [Go.IntWalk.i64_in _ (by omega)]; omega
            have hlt2 : k + m - 1 < l.length := by omega
            have hadd : off + (k + m - 1) * 6 = o + (m - 1) * 6 := by have := HO.out (by omega); omega
            obtain ⟨x0, x1, x2, x3, x4, x5⟩ := Vs.cells HC.out (k + m - 1) hlt2
            rw [hadd] at x0 x1 x2 x3 x4 x5
            have x0 := (hbX.cell (p := ⟨b, _, none⟩) hb).trans x0
            have x1 := (hbX.cell (p := ⟨b, _, none⟩) hb).trans x1
            have x2 := (hbX.cell (p := ⟨b, _, none⟩) hb).trans x2
            have x3 := (hbX.cell (p := ⟨b, _, none⟩) hb).trans x3
            have x4 := (hbX.cell (p := ⟨b, _, none⟩) hb).trans x4
            have x5 := (hbX.cell (p := ⟨b, _, none⟩) hb).trans x5
            have q6 : (0 : Int) ≤ ((m - 1 : Nat) : Int) := by omega
            have q7 : ((m - 1 : Nat) : Int) < ((l.length - k : Nat) : Int) := by omega
            obtain ⟨y, hy⟩ : ∃ y, l[k + m - 1] = y := ⟨_, rfl⟩
            rw [hy] at x0 x1 x2 x3 x4 x5
            have HY := Lib.hid hy
            clear hadd hy
            go_wp2_with fail
            refine (isSp_any y _).mono ?_
            rintro e w5 ⟨rfl, hb5⟩
            have hbZ := hbX.trans (hb5.mono hbX.size)
            clear x0 x1 x2 x3 x4 x5 hb5
            cases hs : isSp y
            · have HS : Hid (m = 0 ∨ ∃ h : k + m - 1 < l.length, isSp l[k + m - 1] = false) := Lib.hid (.inr ⟨hlt2, by rw [HY.out]; exact hs⟩)
              have hbX := hbZ
              go_wp2_with fail
              refine (Clone_any _ _ _ (Vs.sub (cellsX hbX hb HC.out) k m o HO.out (by omega) (by omega) (by have := hbX.size; omega) hcap hl)).mono ?_
              rintro e w9 ⟨V, rfl, hV, hb9⟩
              go_wp2_with fail
              go_ret
              refine ⟨V, rfl, ?_, hbX.trans (hb9.mono hbX.size)⟩
              rw [trim_of l k m hk (by omega) HP.out HQ.out HR.out HS.out]
              exact hV
            · go_wp2_with fail
              go_roundw
              case rel =>
                refine ⟨m - 1, by omega, rfl, Lib.hid (fun i hi hmi => ?_), hbZ⟩
                by_cases he : i = k + m - 1
                · subst he; rw [HY.out]; exact hs
                · exact HR.out i hi (by omega)
              case measure => simp [intOf] <;> omega
      · go_wp2_with fail
        go_roundw
        case rel =>
          refine ⟨k + 1, if cap - k = 1 then o else o + 6, by omega, ?_, Lib.hid (fun h' => ?_), Lib.hid (fun i hi hik => ?_), hbY⟩
          · rw [show l.length - (k + 1) = l.length - k - 1 by omega, show cap - (k + 1) = cap - k - 1 by omega]
            split <;> rfl
          · have := HO.out hlt
            rw [if_neg (by omega)]; omega
          · by_cases he : i = k
            · subst he; rw [HY.out]; exact hs
            · exact HP.out i hi (by omega)
        case measure => show l.length - k - 1 < l.length - k; omega
    · have hke : k = l.length := by omega
      have HQ : Hid (k = l.length ∨ ∃ h : k < l.length, isSp l[k] = false) := Lib.hid (.inl hke)
      have hbY := hb1
      clear hke
      have q0 : ¬ (0 : Int) < ((l.length - k : Nat) : Int) := by omega
      clear hb1
      have qk : (l.length : Int) - (k : Int) = ((l.length - k : Nat) : Int) := by omega
      go_wp2_with fail
      go_loopw [4] (fun mv wx => ∃ m : Nat, k + m ≤ l.length ∧ mv = .int .i64 m ∧ Hid (∀ i (h : i < l.length), k + m ≤ i → isSp l[i] = true) ∧ Below w.heap.size w wx)
        (fun mv _ => (intOf mv).toNat)
      case atStart => exact ⟨l.length - k, by omega, rfl, Lib.hid (fun i hi hm => by omega), hbY⟩
      case round =>
        obtain ⟨m, hm, rfl, HR, hbX⟩ := hrel
        clear hbY
        have q2 : (m : Int) ≤ ((cap - k : Nat) : Int) := by omega
        have q5 : (0 : Int) ≤ (m : Int) := by omega
        by_cases hm0 : m = 0
        · have HS : Hid (m = 0 ∨ ∃ h : k + m - 1 < l.length, isSp l[k + m - 1] = false) := Lib.hid (.inl hm0)
          have q3 : ¬ (0 : Int) < (m : Int) := by omega
          clear hm0
          go_wp2_with fail
          refine (Clone_any _ _ _ (Vs.sub (cellsX hbX hb HC.out) k m o HO.out (by omega) (by omega) (by have := hbX.size; omega) hcap hl)).mono ?_
          rintro e w9 ⟨V, rfl, hV, hb9⟩
          go_wp2_with fail
          go_ret
          refine ⟨V, rfl, ?_, hbX.trans (hb9.mono hbX.size)⟩
          rw [trim_of l k m hk (by omega) HP.out HQ.out HR.out HS.out]
          exact hV
        · exfalso; omega
theorem Trim_any (w : World) (v : Value) (l : List Val) (h : Vs w v l) :
    Calls Tryz.prog 51 #[v] w fun e w' => ∃ V, e = .returned V ∧ Vs w' V (trim l) ∧ Below w.heap.size w w' := by
  obtain ⟨a, cap, rfl, hcap, hl, hr⟩ := h
  by_cases hne : l = []
  · subst hne
    clear hr hcap hl
    go_enter Tryz.func51, Tryz.ntmps51
    go_wp2_with fail
    go_loopw [0] (fun v wr => v = .slice a 0 cap ∧ Below w.heap.size w wr) (fun _ _ => 0)
    case atStart => exact ⟨rfl, Below.refl _ _⟩
    case round =>
      obtain ⟨rfl, hb1⟩ := hrel
      go_wp2_with fail
      go_loopw [4] (fun mv wx => mv = .int .i64 0 ∧ Below w.heap.size w wx) (fun _ _ => 0)
      case atStart => exact ⟨rfl, hb1⟩
      case round =>
        obtain ⟨rfl, hb2⟩ := hrel
        cases a
        all_goals
          go_wp2_with fail
          refine (Clone_any _ _ [] ⟨_, _, rfl, Nat.zero_le _, Nat.zero_le _, fun h => absurd rfl h⟩).mono ?_
          rintro e w9 ⟨V, rfl, hV, hb9⟩
          go_wp2_with fail
          go_ret
          exact ⟨V, rfl, hV, hb2.trans (hb9.mono hb2.size)⟩
  · obtain ⟨b, off, rfl, hb, hc⟩ := hr hne
    exact Trim_ne w b off cap l hl hcap hb hc
end Go.Proofs.YtpadcjcoafidgaaGreatDoor
/-! parse.Values of tokens that open nothing. -/
namespace Go.Proofs.YtpadcjcoafidgaaGreatDoor
open Go.RowKit

/-- A kind that opens nothing. -/
def flatK (k : Int) : Prop := k ≠ 2 ∧ k ≠ 19 ∧ k ≠ 21 ∧ k ≠ 23
theorem closes_no (k : Int) (h : flatK k) (w : World) :
    Calls Tryz.prog 120 #[.int .i64 k] w fun e w' => e = .returned (.int .i64 0) ∧ w' = w := by
  obtain ⟨h1, h2, h3, h4⟩ := h
  go_enter Tryz.func120, Tryz.ntmps120
  go_wp2_with fail
  go_ret
  exact ⟨rfl, rfl⟩
theorem never_any (t : Tok) (w : World) :
    Calls Tryz.prog 85 #[.agg #[.int .i64 t.k, .string t.t, .string t.u, .bool t.wh, .bool t.fl]] w fun e w' => e = .returned (.bool false) ∧ Below w.heap.size w w' := by
  go_enter Tryz.func85, Tryz.ntmps85
  go_wp2_with fail
  go_ret
  exact ⟨rfl, bAlloc1 _ _⟩
/-- The tokens that a slice value holds, in a block below B. -/
def Tk (B : Nat) (w : World) (v : Value) (toks : List Tok) : Prop :=
  ∃ p off cap, v = .slice (some ⟨p, off, none⟩) toks.length cap ∧ p < B ∧ ∀ (k : Nat) (h : k < toks.length) (j : Nat) (x : Value), toks[k].row[j]? = some x → w.cell? ⟨p, off + k * 5 + j, none⟩ = some x
/-- The cutter in block b stands at i of the tokens. -/
structure Cu (w : World) (b : Nat) (tv : Value) (toks : List Tok) (i : Nat) : Prop where
  c0 : w.cell? ⟨b, 0, none⟩ = some tv
  c1 : w.cell? ⟨b, 0 + 1, none⟩ = some (.int .i64 (i : Int))
  f1 : w.frozen? ⟨b, 0 + 1, none⟩ = false
  le : i ≤ toks.length
  big : toks.length ≤ 100000
  tk : Tk b w tv toks
theorem Cu.below {w w' : World} {b B : Nat} {tv : Value} {toks : List Tok} {i : Nat} (h : Cu w b tv toks i) (hb : Below B w w') (hB : b < B) : Cu w' b tv toks i := by
  refine ⟨(hb.cell (p := ⟨b, _, none⟩) hB).trans h.c0, (hb.cell (p := ⟨b, _, none⟩) hB).trans h.c1, (hb.frozen (p := ⟨b, _, none⟩) hB).trans h.f1, h.le, h.big, ?_⟩
  obtain ⟨p, off, cap, hv, hp, hc⟩ := h.tk
  exact ⟨p, off, cap, hv, hp, fun k hk j x hx => (hb.cell (p := ⟨p, _, none⟩) (Nat.lt_trans hp hB)).trans (hc k hk j x hx)⟩
theorem Cu.next {w w' : World} {b : Nat} {tv : Value} {toks : List Tok} {i : Nat} (h : Cu w b tv toks i) (hb : Below w.heap.size w w') : Cu w' b tv toks i := h.below hb (World.block_lt_of_cell? w _ h.c0)
theorem Cu.own {w : World} {b : Nat} {tv : Value} {toks : List Tok} {i : Nat} (h : Cu w b tv toks i) {c : Nat} (hc : b < c) (k : Nat) (x : Value) : Cu (w.setCell ⟨c, k, none⟩ x) b tv toks i :=
  h.below ((Below.refl c w).setCell (p := ⟨c, k, none⟩) (Nat.le_refl _) x) hc
theorem Cu.store {w : World} {b : Nat} {tv : Value} {toks : List Tok} {i : Nat} (h : Cu w b tv toks i) (j : Nat) (x : Int) (hx : x = (j : Int)) (hj : j ≤ toks.length) : Cu (w.setCell ⟨b, 1, none⟩ (.int .i64 x)) b tv toks j := by
  subst hx
  refine ⟨by rw [World.cell?_setCell_other _ _ _ _ (by simp)]; exact h.c0, World.cell?_setCell_same _ _ _ h.c1, by simp [h.f1], hj, h.big, ?_⟩
  obtain ⟨p, off, cap, hv, hp, hc⟩ := h.tk
  exact ⟨p, off, cap, hv, hp, fun k hk j x hx => by rw [World.cell?_setCell_other _ _ _ _ (by simp <;> omega)]; exact hc k hk j x hx⟩
/-- A block that holds these cells. -/
structure Own (k : Nat) (W : World) (c : Array Value) : Prop where
  lt : k < W.heap.size
  m : ∀ o, W.cell? ⟨k, o, none⟩ = c[o]?
  f : ∀ o, W.frozen? ⟨k, o, none⟩ = false
theorem Own.below {k B : Nat} {W W' : World} {c : Array Value} (h : Own k W c) (hb : Below B W W') (hk : k < B) : Own k W' c :=
  ⟨Nat.lt_of_lt_of_le h.lt hb.size, fun o => (hb.cell (p := ⟨k, o, none⟩) hk).trans (h.m o), fun o => (hb.frozen (p := ⟨k, o, none⟩) hk).trans (h.f o)⟩
theorem Own.next {k : Nat} {W W' : World} {c : Array Value} (h : Own k W c) (hb : Below W.heap.size W W') : Own k W' c := h.below hb h.lt
theorem Own.new (W : World) (c : Array Value) (t : TypeId) : Own W.heap.size (W.alloc (.cells c t)) c :=
  ⟨by simp, fun o => Lib.cell_of_heap (heap_alloc_new W _) o, fun o => Lib.frozen_of_heap (heap_alloc_new W _) o⟩
theorem Own.set {k j : Nat} {W : World} {c : Array Value} (h : Own k W c) (hj : j ≠ k) (o : Nat) (x : Value) : Own k (W.setCell ⟨j, o, none⟩ x) c :=
  ⟨by have := h.lt; simpa [World.setCell] using this, fun q => by rw [World.cell?_setCell_other _ _ _ _ (by simp <;> omega)]; exact h.m q, fun q => by simp [h.f]⟩
theorem Own.drew {k : Nat} {W : World} {c : Array Value} (h : Own k W c) : Own k W.drew c := h.next ((Below.refl _ _).drew)
def vRow (t : Tok) : List Value := t.row ++ [.slice none 0 0]
def Val.of (t : Tok) : Val := ⟨t, none, 0, 0⟩
theorem vRow_one (t : Tok) : ∀ u ∈ vRow t, u.oneCell' = true := (Val.of t).row_one
theorem vRow_of (l : List Tok) : l.map vRow = (l.map Val.of).map Val.row := by rw [List.map_map]; rfl
set_option maxRecDepth 100000 in
set_option maxHeartbeats 4000000 in
theorem values_flat (w : World) (b : Nat) (tv : Value) (toks : List Tok) (h : Cu w b tv toks 0) (hf : ∀ t ∈ toks, flatK t.k) :
    Calls Tryz.prog 84 #[.pointer (some ⟨b, 0, none⟩), .int .i64 0, .func (.func 85) #[] #[]] w fun e w' => ∃ V, e = .returned V ∧ Vs w' V (toks.map Val.of) ∧ But w.heap.size b w w' := by
  have H0 := Lib.hid h
  have HF := Lib.hid hf
  have hbw : b < w.heap.size := World.block_lt_of_cell? w _ h.c0
  clear h hf
  go_enter Tryz.func84, Tryz.ntmps84
  go_wp2_with fail
  go_loopw [7] (fun l wr => ∃ i : Nat, Hid (Cu wr b tv toks i) ∧ wr.ownsRow w.heap.size 26 6 l ((toks.take i).map vRow).length ((toks.take i).map vRow).flatten ∧ But w.heap.size b w wr)
    (fun l _ => toks.length - lenOf l)
  case atStart => exact ⟨0, H0, ⟨by simp, .inl ⟨rfl, rfl⟩⟩, But.of (Below.refl _ _)⟩
  case round =>
    obtain ⟨i, HR, hown, hb⟩ := hrel
    clear H0
    have HM := Lib.hid (ownsRow_lenOf hown)
    have c0 := HR.out.c0
    have c1 := HR.out.c1
    have f1 := HR.out.f1
    have hle := HR.out.le
    have hbig := HR.out.big
    obtain ⟨p, off, cap, hv, hp, hcell⟩ := HR.out.tk
    have HV := Lib.hid hv
    rw [hv] at c0
    clear hv
    by_cases hj : i < toks.length
    · have q1 : (i : Int) < (toks.length : Int) := by omega
      have q0 : (0 : Int) ≤ (i : Int) := by omega
      have x0 := hcell i hj 0 _ rfl
      have x1 := hcell i hj 1 _ rfl
      have x2 := hcell i hj 2 _ rfl
      have x3 := hcell i hj 3 _ rfl
      have x4 := hcell i hj 4 _ rfl
      have hfk := HF.out _ (List.getElem_mem hj)
      obtain ⟨⟨tk, tt, tu, twh, tfl⟩, htk⟩ : ∃ t, toks[i] = t := ⟨_, rfl⟩
      rw [htk] at x0 x1 x2 x3 x4 hfk
      simp only at x0 x1 x2 x3 x4 hfk
      clear hcell
      go_wp2_with fail
      go_quiet (fail)
      go_wp2_with fail
      obtain ⟨W, hW⟩ : ∃ W, wr.drewN nq = W := ⟨_, rfl⟩
      have hWd : Below wr.heap.size wr W := hW ▸ bDrew (Below.refl _ _) nq
      have HR1 := Lib.hid (HR.out.next hWd)
      have hown1 := ownsRow_below hown hWd (Nat.le_refl _)
      have hb1 := hb.trans ((But.of hWd).mono hb.size)
      have c0 := HR1.out.c0
      have c1 := HR1.out.c1
      have f1 := HR1.out.f1
      rw [HV.out] at c0
      have hpr : p < wr.heap.size := Nat.lt_of_lt_of_le (Nat.lt_trans hp hbw) hb.size
      have x0 := (hWd.cell (p := ⟨p, _, none⟩) hpr).trans x0
      have x1 := (hWd.cell (p := ⟨p, _, none⟩) hpr).trans x1
      have x2 := (hWd.cell (p := ⟨p, _, none⟩) hpr).trans x2
      have x3 := (hWd.cell (p := ⟨p, _, none⟩) hpr).trans x3
      have x4 := (hWd.cell (p := ⟨p, _, none⟩) hpr).trans x4
      have hpW : p < W.heap.size := Nat.lt_of_lt_of_le hpr hWd.size
      have d0 : ∀ o, (W.alloc o).cell? ⟨b, 0, none⟩ = some (Value.slice (some { block := p, off := off }) toks.length cap) := fun o => HV.out ▸ (HR1.out.next (bAlloc1 W o)).c0
      have d1 : ∀ o, (W.alloc o).cell? ⟨b, 0 + 1, none⟩ = some (.int .i64 (i : Int)) := fun o => (HR1.out.next (bAlloc1 W o)).c1
      have y0 : ∀ o, (W.alloc o).cell? ⟨p, off + i * 5, none⟩ = some (.int .i64 tk) := fun o => (World.cell?_alloc_lt _ _ _ hpW).trans x0
      have y1 : ∀ o, (W.alloc o).cell? ⟨p, off + i * 5 + 1, none⟩ = some (.string tt) := fun o => (World.cell?_alloc_lt _ _ _ hpW).trans x1
      have y2 : ∀ o, (W.alloc o).cell? ⟨p, off + i * 5 + 2, none⟩ = some (.string tu) := fun o => (World.cell?_alloc_lt _ _ _ hpW).trans x2
      have y3 : ∀ o, (W.alloc o).cell? ⟨p, off + i * 5 + 3, none⟩ = some (.bool twh) := fun o => (World.cell?_alloc_lt _ _ _ hpW).trans x3
      have y4 : ∀ o, (W.alloc o).cell? ⟨p, off + i * 5 + 4, none⟩ = some (.bool tfl) := fun o => (World.cell?_alloc_lt _ _ _ hpW).trans x4
      have x0' : W.cell? ⟨p, off + i * 5, none⟩ = some (.int .i64 tk) := x0
      rw [hW]
      clear hW hWd HR hown hb hpr x0
      go_region
      obtain ⟨W2, hW2⟩ : ∃ W2, (W.alloc (Obj.cells #[Value.int IntKind.i64 tk, Value.string tt, Value.string tu, Value.bool twh, Value.bool tfl] 23)).drew = W2 := ⟨_, rfl⟩
      have hd2 : Below W.heap.size W W2 := hW2 ▸ (bAlloc1 W _).drew
      have HO2 := Lib.hid (hW2 ▸ (Own.new W #[Value.int IntKind.i64 tk, Value.string tt, Value.string tu, Value.bool twh, Value.bool tfl] 23).drew)
      have HR2 := Lib.hid (HR1.out.next hd2)
      have hown2 := ownsRow_below hown1 hd2 (Nat.le_refl _)
      have hb2 := hb1.trans ((But.of hd2).mono hb1.size)
      have c1 := HR2.out.c1
      have f1 := HR2.out.f1
      rw [hW2]
      have hwW := hb1.size
      obtain ⟨kt, hkt⟩ : ∃ k, W.heap.size = k := ⟨_, rfl⟩
      rw [hkt] at HO2 hwW ⊢
      clear hW2 hd2 hown1 hb1 HR1 x0' x1 x2 x3 x4 y0 y1 y2 y3 y4 d0 d1 hkt
      have hwi : IntKind.i64.wrap ((i : Int) + 1) = ((i + 1 : Nat) : Int) := by rw [Go.IntWalk.i64_in _ (by omega)]; omega
      have hbk : b ≠ kt := by omega
      have m0 : ∀ o, (W2.setCell ⟨b, 1, none⟩ (.int .i64 ((i : Int) + 1))).cell? ⟨kt, o, none⟩ = _ := (HO2.out.set hbk 1 (.int .i64 ((i : Int) + 1))).m
      go_wp2_with fail
      have HR3 := Lib.hid (HR2.out.store (i + 1) ((i : Int) + 1) (by omega) (by omega))
      have HO3 := Lib.hid (HO2.out.set hbk 1 (.int .i64 ((i : Int) + 1)))
      have hs3 : But W2.heap.size b W2 (W2.setCell ⟨b, 1, none⟩ (.int .i64 ((i : Int) + 1))) := (But.of (Below.refl _ _)).set 1 _
      have hown3 := ownsRow_but hown2 hs3 hbw
      have hb3 := hb2.trans (hs3.mono hb2.size)
      obtain ⟨W3, hW3⟩ : ∃ W3, W2.setCell ⟨b, 1, none⟩ (.int .i64 ((i : Int) + 1)) = W3 := ⟨_, rfl⟩
      rw [hW3] at HR3 HO3 hown3 hb3 ⊢
      clear hs3 hW3 m0 HO2 hown2 hb2 HR2 f1 c1 x0 x1 x2 x3 x4 hwi
      refine (never_any ⟨tk, tt, tu, twh, tfl⟩ _).mono ?_
      rintro e w4 ⟨rfl, hb4⟩
      have HR4 := Lib.hid (HR3.out.next hb4)
      have HO4 := Lib.hid (HO3.out.next hb4)
      have hown4 := ownsRow_below hown3 hb4 (Nat.le_refl _)
      have hbb4 := hb3.trans ((But.of hb4).mono hb3.size)
      have m4 := HO4.out.m
      have hk4 := HO4.out.lt
      clear hb4 hown3 hb3 HR3 HO3
      have hne4 : ¬ (kt = w4.heap.size) := by omega
      have n4 : ∀ o ob, (w4.alloc ob).cell? ⟨kt, o, none⟩ = _ := fun o ob => (World.cell?_alloc_lt _ _ _ hk4).trans (m4 o)
      go_wp2_with fail
      refine (closes_no tk hfk _).mono ?_
      rintro e w5 ⟨rfl, rfl⟩
      have HO5 := Lib.hid (Own.new w4 #[.int .i64 tk, .string tt, .string tu, .bool twh, .bool tfl, .slice none 0 0] 26)
      have HR5 := Lib.hid (HR4.out.next (bAlloc1 w4 (.cells #[.int .i64 tk, .string tt, .string tu, .bool twh, .bool tfl, .slice none 0 0] 26)))
      have hown5 := hown4.alloc (.cells #[.int .i64 tk, .string tt, .string tu, .bool twh, .bool tfl, .slice none 0 0] 26)
      have hbb5 := hbb4.trans ((But.of (bAlloc1 w4 (.cells #[.int .i64 tk, .string tt, .string tu, .bool twh, .bool tfl, .slice none 0 0] 26))).mono hbb4.size)
      obtain ⟨W5, hW5⟩ : ∃ W5, w4.alloc (.cells #[.int .i64 tk, .string tt, .string tu, .bool twh, .bool tfl, .slice none 0 0] 26) = W5 := ⟨_, rfl⟩
      rw [hW5] at HO5 HR5 hown5 hbb5 ⊢
      obtain ⟨k5, hk5⟩ : ∃ k, w4.heap.size = k := ⟨_, rfl⟩
      rw [hk5] at HO5 ⊢
      clear n4 hne4 m4 hk4 HO4 hown4 HR4 hbb4 hW5 hk5 hfk
      have m5 := HO5.out.m
      have hl5 := HO5.out.lt
      have hne5 : ¬ (k5 = W5.heap.size) := by omega
      have n5 : ∀ o ob, (W5.alloc ob).cell? ⟨k5, o, none⟩ = _ := fun o ob => (World.cell?_alloc_lt _ _ _ hl5).trans (m5 o)
      have hs5 := hbb5.size
      have htk' : (toks.take (i + 1)).map vRow = (toks.take i).map vRow ++ [vRow ⟨tk, tt, tu, twh, tfl⟩] := by
        rw [List.take_succ_eq_append_getElem hj, htk]; simp
      have HTK := Lib.hid htk'
      clear htk'
      have hrl : ((toks.take i).map vRow).length ≤ 100000 := by simp; omega
      go_wp2_with (at_builtin; refine wpList_append_row rfl _ _ 24 26 rfl w.heap.size 6 72 _ Tryz.underlying24 infoVal rfl (by decide) u7 ((toks.take i).map vRow) (vRow ⟨tk, tt, tu, twh, tfl⟩) rfl ((hown5.alloc _).alloc _) ⟨W5.heap.size + 1, 0, none⟩ 1 rfl rfl (cells_new2 W5 _ _ _) (vRow_one _) (by omega) (by decide) (by simp; omega) ?_; intro v' w6 hown6 hgrow hne6)
      have hR6 : Cu w6 b tv toks (i + 1) := by
        refine ((HR5.out.next (bAlloc2 W5 _ _)).below ((Below.refl w.heap.size _).grown hgrow (by simp; omega) (fun j e => (hown5.lt j e).1)) hbw)
      have hlen6 := ownsRow_lenOf hown6
      go_roundw
      case rel =>
        refine ⟨i + 1, Lib.hid hR6, by rw [HTK.out]; exact hown6, (hbb5.trans ((But.of (bAlloc2 W5 _ _)).mono hs5)).trans (But.of ((Below.refl w.heap.size _).grown hgrow (by simp; omega) (fun j e => (hown5.lt j e).1)))⟩
      case measure =>
        rw [HM.out]
        show toks.length - lenOf v' < _
        rw [hlen6]
        simp
        omega
    · have hi : i = toks.length := by omega
      clear hcell
      have q1 : ¬ (i : Int) < (toks.length : Int) := by omega
      rw [hi, List.take_length] at hown
      go_wp2_with fail
      go_quiet (fail)
      go_wp2_with fail
      go_ret
      rw [vRow_of] at hown
      exact ⟨_, rfl, (Vs.of_owns hown (by rw [List.length_map]; omega)).next (bDrew (Below.refl _ _) _), hb.trans (But.of (bDrew (Below.refl _ _) _))⟩
end Go.Proofs.YtpadcjcoafidgaaGreatDoor
/-! parse.Values; the laws' own 'values' of a text. -/
namespace Go.Proofs.YtpadcjcoafidgaaGreatDoor
open Go.RowKit

theorem Values_any (w : World) (tv : Value) (toks : List Tok) (h : Tk w.heap.size w tv toks) (hbig : toks.length ≤ 100000) (hf : ∀ t ∈ toks, flatK t.k) :
    Calls Tryz.prog 48 #[tv] w fun e w' => ∃ V, e = .returned V ∧ Vs w' V (toks.map Val.of) ∧ Below w.heap.size w w' := by
  obtain ⟨p, off, cap, rfl, hp, hc⟩ := h
  have hb0 : Below w.heap.size w (w.alloc (.cells #[.slice (some ⟨p, off, none⟩) toks.length cap, .int .i64 0] 135)) := bAlloc1 w _
  have H0 : Hid (Cu (w.alloc (.cells #[.slice (some ⟨p, off, none⟩) toks.length cap, .int .i64 0] 135)) w.heap.size (.slice (some ⟨p, off, none⟩) toks.length cap) toks 0) := Lib.hid ⟨by simp, by simp, by simp, Nat.zero_le _, hbig,
    p, off, cap, rfl, hp, fun k hk j x hx => (hb0.cell (p := ⟨p, _, none⟩) hp).trans (hc k hk j x hx)⟩
  clear hc
  go_enter Tryz.func48, Tryz.ntmps48
  go_wp2_with fail
  refine (values_flat _ _ _ toks H0.out hf).mono ?_
  rintro e w1 ⟨V, rfl, hv, hb1⟩
  go_wp2_with fail
  go_ret
  simp only [World.size_alloc] at hb1
  exact ⟨V, rfl, hv, hb0.trans (hb1.below (Nat.le_succ _) (Nat.le_refl _))⟩
theorem Bs.of (w : World) (s : ByteArray) (e : TypeId) : Bs (Lib.bytesWorld w e s) (.slice (some ⟨w.heap.size, 0, none⟩) s.size (grownCap w s.size 0 e)) s := by
  refine ⟨w.heap.size, 0, _, rfl, by rw [Lib.bytesWorld_size]; exact Nat.lt_succ_self _, fun k hk => ?_⟩
  have hs : k < s.size := by rw [Array.length_toList] at hk; exact hk
  rw [Nat.zero_add, Lib.bytesWorld_cell w e s k hs]
  simp [List.getD, List.getElem?_eq_getElem hk]
theorem bytes_below (w : World) (s : ByteArray) (e : TypeId) : Below w.heap.size w (Lib.bytesWorld w e s) :=
  ⟨rfl, rfl, rfl, by rw [Lib.bytesWorld_size]; exact Nat.le_succ _, fun j hj => Lib.bytesWorld_at_old w e s j hj⟩
theorem Tk.of {B : Nat} {w : World} {v : Value} {toks : List Tok} (h : Rws B w 5 v (toks.map Tok.row)) (hne : toks ≠ []) : Tk w.heap.size w v toks := by
  obtain ⟨b, off, cap, hv, _, hlt, hc⟩ := h.shape (by simpa using hne)
  rw [List.length_map] at hv
  exact ⟨b, off, cap, hv, hlt, fun k hk j x hx => hc k j x (by simpa [hk] using hx)⟩
theorem lex_flat : ∀ (n : Nat) (s : List Int) (l : List Tok), lexF n s = some l → ∀ t ∈ l, flatK t.k
  | n, [], l, h, t, ht => by
    simp only [lexF, Option.some.injEq] at h
    subst h
    cases ht
  | 0, a :: s, l, h, t, ht => by simp [lexF] at h
  | n + 1, a :: s, l, h, t, ht => by
    obtain ⟨m, t0, k, r, hn, h1, h2, rfl⟩ := lexF_cons _ _ _ (by simp) h
    obtain rfl : n = m := by omega
    rcases List.mem_cons.1 ht with rfl | ht
    · unfold step at h1
      have key : t.k = 13 ∨ t.k = 4 ∨ t.k = 12 ∨ t.k = 11 ∨ t.k = 10 ∨ t.k = 1 := by
        split at h1
        · simp only [Option.some.injEq, Prod.mk.injEq] at h1; rw [← h1.1]; exact .inl rfl
        · split at h1
          · split at h1
            · simp only [Option.some.injEq, Prod.mk.injEq] at h1; rw [← h1.1]; exact .inr (.inl rfl)
            · cases h1
          · split at h1
            · split at h1
              · simp only [Option.some.injEq, Prod.mk.injEq] at h1
                rw [← h1.1]
                unfold numT
                split
                · exact .inr (.inr (.inl rfl))
                · split
                  · exact .inr (.inr (.inr (.inl rfl)))
                  · exact .inr (.inr (.inr (.inr (.inl rfl))))
              · cases h1
            · split at h1
              · simp only [Option.some.injEq, Prod.mk.injEq] at h1; rw [← h1.1]; exact .inr (.inr (.inr (.inr (.inr rfl))))
              · cases h1
      unfold flatK
      omega
    · exact lex_flat n _ _ h2 t ht
/-- A text whose tokens are known. -/
structure Lexes (s : ByteArray) (toks : List Tok) : Prop where
  tame : Tame (runesOf s)
  lex : lex (runesOf s) = some toks
  small : s.size ≤ 10000
  ne : toks ≠ []
set_option maxHeartbeats 1000000 in
theorem values15_any (w : World) (s : ByteArray) (toks : List Tok) (h : Lexes s toks) :
    Calls Tryz.prog 14 #[.string s] w fun e w' => ∃ V, e = .returned V ∧ Vs w' V (toks.map Val.of) ∧ Below w.heap.size w w' := by
  have hcv := Lib.run_convert_string_bytes w 9 90 5 s Tryz.underlying9 Tryz.underlying90 Tryz.underlying5
  have HB := Lib.hid (Bs.of w s 5)
  have hb1 := bytes_below w s 5
  go_enter Tryz.func14, Tryz.ntmps14
  go_wp2_with fail
  try rw [hcv]
  try go_wp2_with fail
  clear hcv
  obtain ⟨w1, hw1⟩ : ∃ w1, Lib.bytesWorld w 5 s = w1 := ⟨_, rfl⟩
  rw [hw1] at HB hb1 ⊢
  refine (Runes_any w1 _ s HB.out h.tame h.small).mono ?_
  rintro e w2 ⟨v2, rfl, hr2, hb2⟩
  have hlen : (runesOf s).length ≤ 10000 := by rw [runesOf_len]; exact h.small
  have htl : toks.length ≤ (runesOf s).length := lexF_len _ _ _ h.lex
  have hB2 := bNext hb1 hb2
  clear HB hb1 hb2 hw1
  go_wp2_with fail
  refine (Tokens_any w2 v2 _ toks hr2 h.tame hlen h.lex).mono ?_
  rintro e w3 ⟨v3, rfl, ht3, hb3⟩
  have hB3 := bNext hB2 hb3
  have HT := Lib.hid (Tk.of ht3 h.ne)
  clear hB2 hb3 hr2 ht3
  go_wp2_with fail
  refine (Values_any w3 v3 toks HT.out (by omega) (lex_flat _ _ _ h.lex)).mono ?_
  rintro e w4 ⟨v4, rfl, hv4, hb4⟩
  go_wp2_with fail
  go_ret
  exact ⟨v4, rfl, hv4, bNext hB3 hb4⟩
set_option maxHeartbeats 1000000 in
theorem values16_any (w : World) (s : ByteArray) (toks : List Tok) (h : Lexes s toks) :
    Calls Tryz.prog 28 #[.string s] w fun e w' => ∃ V, e = .returned V ∧ Vs w' V (toks.map Val.of) ∧ Below w.heap.size w w' := by
  have hcv := Lib.run_convert_string_bytes w 9 90 5 s Tryz.underlying9 Tryz.underlying90 Tryz.underlying5
  have HB := Lib.hid (Bs.of w s 5)
  have hb1 := bytes_below w s 5
  go_enter Tryz.func28, Tryz.ntmps28
  go_wp2_with fail
  try rw [hcv]
  try go_wp2_with fail
  clear hcv
  obtain ⟨w1, hw1⟩ : ∃ w1, Lib.bytesWorld w 5 s = w1 := ⟨_, rfl⟩
  rw [hw1] at HB hb1 ⊢
  refine (Runes_any w1 _ s HB.out h.tame h.small).mono ?_
  rintro e w2 ⟨v2, rfl, hr2, hb2⟩
  have hlen : (runesOf s).length ≤ 10000 := by rw [runesOf_len]; exact h.small
  have htl : toks.length ≤ (runesOf s).length := lexF_len _ _ _ h.lex
  have hB2 := bNext hb1 hb2
  clear HB hb1 hb2 hw1
  go_wp2_with fail
  refine (Tokens_any w2 v2 _ toks hr2 h.tame hlen h.lex).mono ?_
  rintro e w3 ⟨v3, rfl, ht3, hb3⟩
  have hB3 := bNext hB2 hb3
  have HT := Lib.hid (Tk.of ht3 h.ne)
  clear hB2 hb3 hr2 ht3
  go_wp2_with fail
  refine (Values_any w3 v3 toks HT.out (by omega) (lex_flat _ _ _ h.lex)).mono ?_
  rintro e w4 ⟨v4, rfl, hv4, hb4⟩
  go_wp2_with fail
  go_ret
  exact ⟨v4, rfl, hv4, bNext hB3 hb4⟩
end Go.Proofs.YtpadcjcoafidgaaGreatDoor
/-! text.Fold. -/
namespace Go.Proofs.YtpadcjcoafidgaaGreatDoor
open Go.RowKit

def foldN (n : Nat) : Nat := if 65 ≤ n ∧ n ≤ 90 then n + 32 else n
def foldB (b : UInt8) : UInt8 := UInt8.ofNat (foldN b.toNat)
def fold (s : ByteArray) : ByteArray := ⟨(s.data.toList.map foldB).toArray⟩
theorem foldB_nat (b : UInt8) : (foldB b).toNat = foldN b.toNat := by
  have h := b.toNat_lt
  have : foldN b.toNat < 256 := by unfold foldN; split <;> omega
  unfold foldB
  simp [UInt8.toNat_ofNat', Nat.mod_eq_of_lt this]
theorem fold_tab : ∀ n : Fin 256, (((n.val : Int) - 65) % 256 < 26 ↔ 65 ≤ n.val ∧ n.val ≤ 90) ∧ (65 ≤ n.val ∧ n.val ≤ 90 → bits .or .u8 (n.val : Int) 32 = (n.val : Int) + 32) := by decide +kernel
theorem fold_size (s : ByteArray) : (fold s).size = s.size := by
  show (s.data.toList.map foldB).toArray.size = _
  simp
set_option maxRecDepth 100000 in
set_option maxHeartbeats 2000000 in
theorem Fold_any (w : World) (s : ByteArray) (hs : s.size ≤ 4294967295) :
    Calls Tryz.prog 43 #[.string s] w fun e w' => e = .returned (.string (fold s)) ∧ Below w.heap.size w w' := by
  have hcv := Lib.run_convert_string_bytes w 9 90 5 s Tryz.underlying9 Tryz.underlying90 Tryz.underlying5
  have hb0 := bytes_below w s 5
  have HC0 : Hid (∀ (j : Nat) (h : j < s.data.toList.length), (Lib.bytesWorld w 5 s).cell? ⟨w.heap.size, j, none⟩ = some (.int .u8 (s.data.toList[j].toNat : Int)) ∧ (Lib.bytesWorld w 5 s).frozen? ⟨w.heap.size, j, none⟩ = false) := Lib.hid (fun j hj => by
    have hs' : j < s.size := by rw [Array.length_toList] at hj; exact hj
    refine ⟨?_, ?_⟩
    · rw [Lib.bytesWorld_cell w _ s j hs']
      simp [List.getD, List.getElem?_eq_getElem hj]
    · have hsz : s.size ≤ (Lib.bytesCells w 5 s).size := by unfold Lib.bytesCells; rw [Array.size_append, Array.size_map]; exact Nat.le_add_right _ _
      simp only [World.frozen?, Lib.bytesWorld_at_new]
      rw [decide_eq_false (by omega)]
      rfl)
  have hsl : s.data.toList.length = s.size := by rw [Array.length_toList]; rfl
  go_enter Tryz.func43, Tryz.ntmps43
  go_wp2_with fail
  obtain ⟨k, hk⟩ : ∃ k, w.heap.size = k := ⟨_, rfl⟩
  obtain ⟨cap, hcp⟩ : ∃ c, grownCap w s.size 0 5 = c := ⟨_, rfl⟩
  obtain ⟨w1, hw1⟩ : ∃ w1, Lib.bytesWorld w 5 s = w1 := ⟨_, rfl⟩
  rw [hw1] at HC0 hb0 ⊢
  rw [hk] at HC0 hb0 ⊢
  rw [hcp]
  clear hcv hw1 hcp
  go_loopw [4, 9] (fun _ iv wr => ∃ i : Nat, i ≤ s.size ∧ iv = .int .i64 i ∧ Hid (∀ (j : Nat) (h : j < s.data.toList.length), wr.cell? ⟨k, j, none⟩ = some (.int .u8 ((if j < i then foldB s.data.toList[j] else s.data.toList[j]).toNat : Int)) ∧ wr.frozen? ⟨k, j, none⟩ = false) ∧ Below k w wr)
    (fun _ iv _ => s.size - (intOf iv).toNat)
  case atStart => exact ⟨0, Nat.zero_le _, rfl, Lib.hid (fun j hj => by simpa using HC0.out j hj), hb0⟩
  case round =>
    obtain ⟨i, hi, rfl, HC, hb⟩ := hrel
    clear HC0 hb0
    by_cases hlt : i < s.size
    · have hlt' : i < s.data.toList.length := by omega
      obtain ⟨c0, f0⟩ := HC.out i hlt'
      rw [if_neg (Nat.lt_irrefl i)] at c0
      obtain ⟨y, hy⟩ : ∃ y, s.data.toList[i] = y := ⟨_, rfl⟩
      rw [hy] at c0
      obtain ⟨t1, t2⟩ := fold_tab ⟨y.toNat, y.toNat_lt⟩
      simp only at t1 t2
      have q0 : (0 : Int) ≤ (i : Int) := by omega
      have q1 : (i : Int) < (s.size : Int) := by omega
      obtain ⟨n, hn⟩ : ∃ n, y.toNat = n := ⟨_, rfl⟩
      have hfn : (foldB y).toNat = foldN n := by rw [foldB_nat, hn]
      rw [hn] at c0 t1 t2
      by_cases hup : 65 ≤ n ∧ n ≤ 90
      · have t1' := t1.2 hup
        have t2' := t2 hup
        have HF : Hid (((foldB y).toNat : Int) = (n : Int) + 32) := Lib.hid (by rw [hfn]; unfold foldN; rw [if_pos hup]; rfl)
        clear t1 t2 hup hfn hn
        go_wp2_with fail
        go_roundw
        case rel =>
          refine ⟨i + 1, by omega, by go_num, Lib.hid (fun j hj => ?_), hb.setCell (p := ⟨k, i, none⟩) (Nat.le_refl _) _⟩
          refine ⟨?_, by simp [(HC.out j hj).2]⟩
          by_cases he : j = i
          · subst he
            rw [World.cell?_setCell_same _ _ _ c0, if_pos (by omega), hy, HF.out]
          · rw [World.cell?_setCell_other _ _ _ _ (by simp <;> omega), (HC.out j hj).1]
            by_cases hji : j < i
            · rw [if_pos hji, if_pos (by omega)]
            · rw [if_neg hji, if_neg (by omega)]
        case measure => simp [intOf]; omega
      · have t1' : ¬ (((n : Int) - 65) % 256 < 26) := fun h => hup (t1.1 h)
        have HF : Hid ((foldB y).toNat = n) := Lib.hid (by rw [hfn]; unfold foldN; rw [if_neg hup])
        have HN := Lib.hid hn
        clear t1 t2 hup hfn hn
        go_wp2_with fail
        go_roundw
        case rel =>
          refine ⟨i + 1, by omega, by go_num, Lib.hid (fun j hj => ?_), hb⟩
          refine ⟨?_, (HC.out j hj).2⟩
          rw [(HC.out j hj).1]
          by_cases he : j = i
          · subst he
            rw [if_neg (by omega), if_pos (by omega), hy, HF.out, HN.out]
          · by_cases hji : j < i
            · rw [if_pos hji, if_pos (by omega)]
            · rw [if_neg hji, if_neg (by omega)]
        case measure => simp [intOf]; omega
    · obtain rfl : i = s.size := by omega
      have hcv : (convert 90 9 (.slice (some ⟨k, 0, none⟩) s.size cap)).run Tryz.prog wr = .ok (.string (fold s)) wr := by
        have hsz : s.size = (s.data.toList.map foldB).length := by rw [List.length_map, hsl]
        rw [hsz, run_convert_bytes_back wr 90 9 5 ⟨k, 0, none⟩ cap (s.data.toList.map foldB) Tryz.underlying90 Tryz.underlying5 Tryz.underlying9 (fun j hj => by
          have hadd : (⟨k, 0, none⟩ : Addr).add j = ⟨k, j, none⟩ := by unfold Addr.add; split <;> simp only [*, Nat.zero_add]
          rw [List.length_map] at hj
          rw [hadd, (HC.out j hj).1, if_pos (by omega)]
          simp)]
        rfl
      go_wp2_with fail
      go_ret
      exact ⟨rfl, by rw [hk]; exact hb⟩
end Go.Proofs.YtpadcjcoafidgaaGreatDoor
