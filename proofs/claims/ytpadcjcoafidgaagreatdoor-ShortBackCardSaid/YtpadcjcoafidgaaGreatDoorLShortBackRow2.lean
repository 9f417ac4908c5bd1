/- gouachelaw16.ShortBack: whatever the declaration, it returns true and changes nothing. Condition: the listed tables hold what the program's text lays (the card ties that). -/
import Derived.Test.YtpadcjcoafidgaaGreatDoorK8
import Derived.Test.YtpadcjcoafidgaaGreatDoorLShortBackRow1
import Derived.WideKeyPair
/-! The arguments of this seat's laws, opened: texts, values with their kids, declarations; listed variables. -/
namespace Go.Proofs.YtpadcjcoafidgaaGreatDoor
open Go.RowKit Go.ChangeShapes Go.WideShapes Go.ChangeAt

section
variable {H : Type} {enc : TypeId × Value → H} {W : World} {base : Nat} {sp : Nat → Bool} {held : Bool}

theorem cells_string : Tryz.prog.cellsOf 9 = 1 := by kernel_rfl
theorem cells_val : Tryz.prog.cellsOf 26 = 6 := by kernel_rfl
theorem cells_tok : Tryz.prog.cellsOf 23 = 5 := by kernel_rfl
theorem cells_int : Tryz.prog.cellsOf 3 = 1 := by kernel_rfl
theorem cells_bool : Tryz.prog.cellsOf 4 = 1 := by kernel_rfl
theorem cells_vals : Tryz.prog.cellsOf 24 = 1 := by kernel_rfl
theorem bytes_val : Tryz.prog.bytesOf 26 = 72 := by kernel_rfl
theorem bytes_string : Tryz.prog.bytesOf 9 = 16 := by kernel_rfl
theorem laid_out : laidOutB Tryz.prog = true := by kernel_rfl
theorem trod_str1 {fuel : Nat} {v : Value} {x : DataW H × List MemPlace} (h : DataW.trod enc Tryz.prog W base sp held fuel 9 [v] = some x) : ∃ s : ByteArray, v = .string s ∧ x.1 = .lit (.string s.data.toList) := by
  obtain ⟨s, h1, rfl, -⟩ := DataW.trod_string Tryz.underlying9 h
  exact ⟨s, by simpa using h1, rfl⟩
theorem trod_int1 {fuel : Nat} {v : Value} {x : DataW H × List MemPlace} (h : DataW.trod enc Tryz.prog W base sp held fuel 3 [v] = some x) : ∃ n : Int, v = .int .i64 n := by
  obtain ⟨n, h1, -, -⟩ := DataW.trod_int Tryz.underlying3 h
  exact ⟨n, by simpa using h1⟩
theorem trod_bool1 {fuel : Nat} {v : Value} {x : DataW H × List MemPlace} (h : DataW.trod enc Tryz.prog W base sp held fuel 4 [v] = some x) : ∃ b : Bool, v = .bool b := by
  cases fuel with
  | zero => simp [DataW.trod] at h
  | succ n =>
    rw [DataW.trod_step] at h
    unfold DataW.trodStep at h
    simp only [Tryz.underlying4] at h
    split at h <;> simp_all
theorem size_toList (s : ByteArray) : s.data.toList.length = s.size := by rw [Array.length_toList]; rfl
/-- '[]string'. -/
theorem open_ss {fuel : Nat} {v : Value} {x : DataW H × List MemPlace} (h : DataW.trod enc Tryz.prog W base sp held fuel 42 [v] = some x) (hs : Small Tryz.prog 42 x.1) :
    ∃ l, Ss W v l ∧ l.length ≤ 140737488351232 ∧ ∀ s ∈ l, s.size ≤ 140737488351232 := by
  obtain ⟨n, v', rows, ds, -, e, hr, hl, hd, hx⟩ := open_elems Tryz.underlying42 (by rw [cells_string]; decide) h
  cases e
  have key : ∀ i, i < rows.length → ∃ s : ByteArray, rows[i]? = some [.string s] ∧ s.size ≤ 140737488351232 := by
    intro i hi
    obtain ⟨y, h1, h2⟩ := hx i rows[i] (List.getElem?_eq_getElem hi)
    have hlen := hr.len rows[i] (List.getElem_mem hi)
    rw [cells_string] at hlen
    obtain ⟨u, hu⟩ := List.length_eq_one_iff.1 hlen
    rw [hu] at h2
    obtain ⟨s, rfl, h3⟩ := trod_str1 h2
    refine ⟨s, by rw [List.getElem?_eq_getElem hi, hu], ?_⟩
    rcases hd with ⟨-, h0⟩ | ⟨rest, h0⟩
    · rw [h0] at hi; simp at hi
    · rw [h0] at hs
      have h4 := small_elem Tryz.underlying42 hs h1
      rw [h3] at h4
      have := small_string h4
      rwa [size_toList] at this
  obtain ⟨f, hf⟩ := Classical.axiomOfChoice (r := fun (i : Fin rows.length) (s : ByteArray) => rows[i.val]? = some [.string s] ∧ s.size ≤ 140737488351232) (fun i => key i.val i.isLt)
  have hlen : (List.ofFn f).length = rows.length := List.length_ofFn
  obtain ⟨a, cap, rfl, hcap, hc⟩ := hr.shape
  refine ⟨List.ofFn f, ⟨a, cap, by rw [hlen], by rw [hlen]; exact hcap, fun hne => ?_⟩, ?_, ?_⟩
  · obtain ⟨b, off, rfl, hb, hcell⟩ := hc (by intro e; exact hne (List.eq_nil_of_length_eq_zero (hlen.trans (by rw [e]; rfl))))
    refine ⟨b, off, rfl, hb, fun i hi => ?_⟩
    have hi' : i < rows.length := by rw [← hlen]; exact hi
    have h1 := hcell i 0 (.string (f ⟨i, hi'⟩)) (by rw [(hf ⟨i, hi'⟩).1]; rfl)
    rw [cells_string, Nat.mul_one, Nat.add_zero] at h1
    rw [h1, List.getElem_ofFn]
  · rw [hlen]
    rcases hd with ⟨-, h0⟩ | ⟨rest, h0⟩
    · rw [h0]; exact Nat.zero_le _
    · rw [h0] at hs
      have := small_len Tryz.underlying42 hs
      rw [bytes_string] at this
      omega
  · intro s hs'
    obtain ⟨i, rfl⟩ := List.mem_ofFn.1 hs'
    exact (hf i).2
set_option maxRecDepth 100000 in
theorem ss_of {r : Reach} {b0 : Nat} {v : Value} {d : DataW H} {ps : List MemPlace} (hval : Value.okWide Tryz.prog W r b0 42 v) (h : DataW.Trod enc Tryz.prog W base sp held 42 v d ps) (hs : Small Tryz.prog 42 d) : ∃ l, Ss W v l ∧ l.length ≤ 140737488351232 ∧ ∀ s ∈ l, s.size ≤ 140737488351232 := by
  obtain ⟨n, hn⟩ := h
  obtain ⟨a, len, cap, rfl⟩ := okWide_slice Tryz.underlying42 hval
  exact open_ss hn hs
theorem arr2 : Go.WideMaps.ArrKey Tryz.prog 43 3 2 := ⟨Tryz.underlying43, by kernel_rfl, cells_int, by kernel_rfl⟩
/-- A value's token is short enough. -/
def Val.Sm (x : Val) : Prop := x.tok.t.size ≤ 140737488351232 ∧ x.tok.u.size ≤ 140737488351232
theorem VD.up {w : World} : ∀ {n : Nat} {v : Value} {l : List Val}, VD w n v l → VD w (n + 1) v l
  | 0, _, _, h => h.elim
  | n + 1, v, l, ⟨h1, h2⟩ => ⟨h1, fun x hx => by
    obtain ⟨l', h⟩ := h2 x hx
    exact ⟨l', VD.up h⟩⟩
set_option maxRecDepth 100000 in
/-- A token's cells. -/
theorem open_tok {fuel : Nat} {cs : List Value} {x : DataW H × List MemPlace} (h : DataW.trod enc Tryz.prog W base sp held fuel 23 cs = some x) (hs : Small Tryz.prog 23 x.1) :
    ∃ t : Tok, cs = t.row ∧ t.t.size ≤ 140737488351232 ∧ t.u.size ≤ 140737488351232 := by
  obtain ⟨n, ds, -, hl, hx, -, hf⟩ := open_fields Tryz.underlying23 h
  rw [cells_tok] at hl
  obtain ⟨c0, c1, c2, c3, c4, rfl⟩ : ∃ a b c d e, cs = [a, b, c, d, e] := by
    match cs, hl with
    | [a, b, c, d, e], _ => exact ⟨a, b, c, d, e, rfl⟩
  rw [hx] at hs
  obtain ⟨y0, -, h0⟩ := hf 0 _ rfl
  obtain ⟨y1, d1, h1⟩ := hf 1 _ rfl
  obtain ⟨y2, d2, h2⟩ := hf 2 _ rfl
  obtain ⟨y3, -, h3⟩ := hf 3 _ rfl
  obtain ⟨y4, -, h4⟩ := hf 4 _ rfl
  simp only [cells_int, cells_string, cells_bool, List.drop_zero, List.drop_succ_cons, List.take_succ_cons, List.take_zero] at h0 h1 h2 h3 h4
  obtain ⟨k, rfl⟩ := trod_int1 h0
  obtain ⟨s1, rfl, e1⟩ := trod_str1 h1
  obtain ⟨s2, rfl, e2⟩ := trod_str1 h2
  obtain ⟨b3, rfl⟩ := trod_bool1 h3
  obtain ⟨b4, rfl⟩ := trod_bool1 h4
  have m1 := small_field Tryz.underlying23 hs (i := 1) rfl d1
  have m2 := small_field Tryz.underlying23 hs (i := 2) rfl d2
  rw [e1] at m1
  rw [e2] at m2
  have m1 := small_string m1
  have m2 := small_string m2
  rw [size_toList] at m1 m2
  exact ⟨⟨k, s1, s2, b3, b4⟩, rfl, m1, m2⟩
set_option maxRecDepth 100000 in
/-- A value's cells; '[]api.Value', to whatever depth. -/
theorem open_vals : ∀ (fuel : Nat) (v : Value) (x : DataW H × List MemPlace), DataW.trod enc Tryz.prog W base sp held fuel 24 [v] = some x → Small Tryz.prog 24 x.1 →
    ∃ l, VD W fuel v l ∧ ∀ y ∈ l, y.Sm
  | 0, _, _, h, _ => by simp [DataW.trod] at h
  | 1, v, x, h, hs => by
    obtain ⟨n, v', rows, ds, hn, e, hr, hl, hd, hx⟩ := open_elems Tryz.underlying24 (by rw [cells_val]; decide) h
    obtain rfl : n = 0 := by omega
    cases e
    have h0 : rows = [] := by
      cases rows with
      | nil => rfl
      | cons r rows =>
        obtain ⟨y, -, h2⟩ := hx 0 r rfl
        simp [DataW.trod] at h2
    subst h0
    obtain ⟨a, cap, rfl, hcap, -⟩ := hr.shape
    exact ⟨[], ⟨⟨a, cap, rfl, hcap, Nat.zero_le _, fun h => absurd rfl h⟩, fun x hx => by cases hx⟩, fun y hy => by cases hy⟩
  | fuel + 2, v, x, h, hs => by
    obtain ⟨n, v', rows, ds, hn, e, hr, hl, hd, hx⟩ := open_elems Tryz.underlying24 (by rw [cells_val]; decide) h
    obtain rfl : n = fuel + 1 := by omega
    cases e
    have key : ∀ i, i < rows.length → ∃ y : Val, rows[i]? = some y.row ∧ y.Sm ∧ ∃ l', VD W (fuel + 1) y.kids l' := by
      intro i hi
      obtain ⟨y, h1, h2⟩ := hx i rows[i] (List.getElem?_eq_getElem hi)
      have hsy : Small Tryz.prog 26 y.1 := by
        rcases hd with ⟨-, h0⟩ | ⟨rest, h0⟩
        · rw [h0] at hi; simp at hi
        · rw [h0] at hs
          exact small_elem Tryz.underlying24 hs h1
      obtain ⟨n, ds', hn, hl6, hx', -, hf⟩ := open_fields Tryz.underlying26 h2
      obtain rfl : n = fuel := by omega
      rw [cells_val] at hl6
      rw [hx'] at hsy
      obtain ⟨y0, d0, h0⟩ := hf 0 _ rfl
      obtain ⟨y1, d1, h1'⟩ := hf 1 _ rfl
      have s0 := small_field Tryz.underlying26 hsy (i := 0) rfl d0
      have s1 := small_field Tryz.underlying26 hsy (i := 1) rfl d1
      obtain ⟨c0, c1, c2, c3, c4, c5, hrow⟩ : ∃ a b c d e f, rows[i] = [a, b, c, d, e, f] := by
        generalize rows[i] = r at hl6
        match r, hl6 with
        | [a, b, c, d, e, f], _ => exact ⟨a, b, c, d, e, f, rfl⟩
      simp only [hrow, cells_tok, cells_vals, List.drop_zero, List.drop_succ_cons, List.take_succ_cons, List.take_zero] at h0 h1'
      obtain ⟨t, ht, m1, m2⟩ := open_tok h0 s0
      obtain ⟨l', hV, -⟩ := open_vals n c5 y1 h1' s1
      have hV1 := hV.vs
      obtain ⟨a, cap, e5, -⟩ := hV1
      refine ⟨⟨t, a, l'.length, cap⟩, ?_, ⟨m1, m2⟩, l', ?_⟩
      · rw [List.getElem?_eq_getElem hi, hrow, e5]
        show _ = some (t.row ++ _)
        rw [← ht]
        rfl
      · show VD W (n + 1) (.slice a l'.length cap) l'
        rw [← e5]
        exact hV.up
    obtain ⟨f, hf⟩ := Classical.axiomOfChoice (r := fun (i : Fin rows.length) (y : Val) => rows[i.val]? = some y.row ∧ y.Sm ∧ ∃ l', VD W (fuel + 1) y.kids l') (fun i => key i.val i.isLt)
    have hlen : (List.ofFn f).length = rows.length := List.length_ofFn
    obtain ⟨a, cap, rfl, hcap, hc⟩ := hr.shape
    refine ⟨List.ofFn f, ⟨⟨a, cap, by rw [hlen], by rw [hlen]; exact hcap, ?_, fun hne => ?_⟩, fun y hy => ?_⟩, fun y hy => ?_⟩
    · rw [hlen]
      rcases hd with ⟨-, h0⟩ | ⟨rest, h0⟩
      · rw [h0]; exact Nat.zero_le _
      · rw [h0] at hs
        have := small_len Tryz.underlying24 hs
        rw [bytes_val] at this
        omega
    · obtain ⟨b, off, rfl, hb, hcell⟩ := hc (by intro e; exact hne (List.eq_nil_of_length_eq_zero (hlen.trans (by rw [e]; rfl))))
      refine ⟨b, off, rfl, hb, fun i hi j u hu => ?_⟩
      have hi' : i < rows.length := by rw [← hlen]; exact hi
      rw [List.getElem_ofFn] at hu
      have h1 := hcell i j u (by rw [(hf ⟨i, hi'⟩).1]; exact hu)
      rw [cells_val] at h1
      exact h1
    · obtain ⟨i, rfl⟩ := List.mem_ofFn.1 hy
      exact (hf i).2.2
    · obtain ⟨i, rfl⟩ := List.mem_ofFn.1 hy
      exact (hf i).2.1
set_option maxRecDepth 100000 in
theorem vals_of {r : Reach} {b0 : Nat} {v : Value} {d : DataW H} {ps : List MemPlace} (hval : Value.okWide Tryz.prog W r b0 24 v) (h : DataW.Trod enc Tryz.prog W base sp held 24 v d ps) (hs : Small Tryz.prog 24 d) :
    ∃ m l, VD W m v l ∧ ∀ y ∈ l, y.Sm := by
  obtain ⟨n, hn⟩ := h
  obtain ⟨a, len, cap, rfl⟩ := okWide_slice Tryz.underlying24 hval
  obtain ⟨l, h1, h2⟩ := open_vals n _ _ hn hs
  exact ⟨n, l, h1, h2⟩
set_option maxRecDepth 100000 in
/-- One value's cells. -/
theorem open_val {fuel : Nat} {cs : List Value} {x : DataW H × List MemPlace} (h : DataW.trod enc Tryz.prog W base sp held fuel 26 cs = some x) (hs : Small Tryz.prog 26 x.1) :
    ∃ y : Val, cs = y.row ∧ y.Sm ∧ ∃ m l', VD W m y.kids l' := by
  obtain ⟨n, ds', hn, hl6, hx', -, hf⟩ := open_fields Tryz.underlying26 h
  rw [cells_val] at hl6
  rw [hx'] at hs
  obtain ⟨y0, d0, h0⟩ := hf 0 _ rfl
  obtain ⟨y1, d1, h1'⟩ := hf 1 _ rfl
  have s0 := small_field Tryz.underlying26 hs (i := 0) rfl d0
  have s1 := small_field Tryz.underlying26 hs (i := 1) rfl d1
  obtain ⟨c0, c1, c2, c3, c4, c5, rfl⟩ : ∃ a b c d e f, cs = [a, b, c, d, e, f] := by
    match cs, hl6 with
    | [a, b, c, d, e, f], _ => exact ⟨a, b, c, d, e, f, rfl⟩
  simp only [cells_tok, cells_vals, List.drop_zero, List.drop_succ_cons, List.take_succ_cons, List.take_zero] at h0 h1'
  obtain ⟨t, ht, m1, m2⟩ := open_tok h0 s0
  obtain ⟨l', hV, -⟩ := open_vals n c5 y1 h1' s1
  obtain ⟨a, cap, e5, -⟩ := hV.vs
  refine ⟨⟨t, a, l'.length, cap⟩, ?_, ⟨m1, m2⟩, n, l', ?_⟩
  · rw [e5]
    show _ = t.row ++ _
    rw [← ht]
    rfl
  · show VD W n (.slice a l'.length cap) l'
    rw [← e5]
    exact hV
set_option maxRecDepth 100000 in
theorem val_of {r : Reach} {b0 : Nat} {v : Value} {d : DataW H} {ps : List MemPlace} (hval : Value.okWide Tryz.prog W r b0 26 v) (h : DataW.Trod enc Tryz.prog W base sp held 26 v d ps) (hs : Small Tryz.prog 26 d) :
    ∃ y : Val, v = .agg #[.int .i64 y.tok.k, .string y.tok.t, .string y.tok.u, .bool y.tok.wh, .bool y.tok.fl, .slice y.ka y.kn y.kc] ∧ y.Sm ∧ ∃ m l', VD W m y.kids l' := by
  obtain ⟨n, hn⟩ := h
  have hv : ∃ cs, v = .agg cs := by
    unfold Value.okWide at hval
    rw [Tryz.underlying26] at hval
    obtain ⟨cs, h, -⟩ := hval
    exact ⟨cs, h⟩
  obtain ⟨cs, rfl⟩ := hv
  obtain ⟨y, hy, h1, h2⟩ := open_val hn hs
  refine ⟨y, ?_, h1, h2⟩
  have : cs = y.row.toArray := Array.toList_inj.1 hy
  rw [this]
  rfl
theorem cells_decl : Tryz.prog.cellsOf 48 = 3 := by kernel_rfl
set_option maxRecDepth 100000 in
/-- A declaration's cells. -/
theorem open_decl {fuel : Nat} {cs : List Value} {x : DataW H × List MemPlace} (h : DataW.trod enc Tryz.prog W base sp held fuel 48 cs = some x) (hs : Small Tryz.prog 48 x.1) :
    ∃ s a c m l b, cs = [.string s, .slice a l.length c, .bool b] ∧ s.size ≤ 140737488351232 ∧ VD W m (.slice a l.length c) l ∧ ∀ y ∈ l, y.Sm := by
  obtain ⟨n, ds', hn, hl3, hx', -, hf⟩ := open_fields Tryz.underlying48 h
  rw [cells_decl] at hl3
  rw [hx'] at hs
  obtain ⟨y0, d0, h0⟩ := hf 0 _ rfl
  obtain ⟨y1, d1, h1⟩ := hf 1 _ rfl
  obtain ⟨y2, -, h2⟩ := hf 2 _ rfl
  have s0 := small_field Tryz.underlying48 hs (i := 0) rfl d0
  have s1 := small_field Tryz.underlying48 hs (i := 1) rfl d1
  obtain ⟨c0, c1, c2, rfl⟩ : ∃ a b c, cs = [a, b, c] := by
    match cs, hl3 with
    | [a, b, c], _ => exact ⟨a, b, c, rfl⟩
  simp only [cells_string, cells_vals, cells_bool, List.drop_zero, List.drop_succ_cons, List.take_succ_cons, List.take_zero] at h0 h1 h2
  obtain ⟨s, rfl, e0⟩ := trod_str1 h0
  obtain ⟨b, rfl⟩ := trod_bool1 h2
  obtain ⟨l, hV, hS⟩ := open_vals n c1 y1 h1 s1
  obtain ⟨a, cap, rfl, -⟩ := hV.vs
  rw [e0] at s0
  have s0 := small_string s0
  rw [size_toList] at s0
  exact ⟨s, a, cap, n, l, b, rfl, s0, hV, hS⟩
set_option maxRecDepth 100000 in
theorem decl_of {r : Reach} {b0 : Nat} {v : Value} {d : DataW H} {ps : List MemPlace} (hval : Value.okWide Tryz.prog W r b0 48 v) (h : DataW.Trod enc Tryz.prog W base sp held 48 v d ps) (hs : Small Tryz.prog 48 d) :
    ∃ s a c m l b, v = .agg #[.string s, .slice a l.length c, .bool b] ∧ s.size ≤ 140737488351232 ∧ VD W m (.slice a l.length c) l ∧ ∀ y ∈ l, y.Sm := by
  obtain ⟨n, hn⟩ := h
  have hv : ∃ cs, v = .agg cs := by
    unfold Value.okWide at hval
    rw [Tryz.underlying48] at hval
    obtain ⟨cs, h, -⟩ := hval
    exact ⟨cs, h⟩
  obtain ⟨cs, rfl⟩ := hv
  obtain ⟨s, a, c, m, l, b, hy, h1, h2, h3⟩ := open_decl hn hs
  refine ⟨s, a, c, m, l, b, ?_, h1, h2, h3⟩
  have : cs = #[.string s, .slice a l.length c, .bool b] := Array.toList_inj.1 hy
  rw [this]
end
theorem sideCells_at : ∀ (a : Fin 4) (b : Fin 4), (sidesTbl.map (Value.int .i64))[a.val * 4 + b.val]? = some (.int .i64 (sideAt a.val b.val)) := by
  intro a b
  have h : a.val * 4 + b.val < sidesTbl.length := by
    have := a.isLt
    have := b.isLt
    show a.val * 4 + b.val < 16
    omega
  unfold sideAt
  rw [List.getElem?_map, List.getElem?_eq_getElem h]
  rfl
theorem sidesIn_of_laid {w : World} {l : List (String × DataW Unit)} (h : laidMet Tryz.prog l w) (hm : ("gouache/short.sides", Rows.laid_gouache_short_sides) ∈ l) : SidesIn w := by
  obtain ⟨ty, fr, hh⟩ := var_of_laid h hm (g := 1) (t := 103) (by kernel_rfl) (by kernel_rfl) 5 (cs := sidesTbl.map (Value.int .i64)) (by kernel_rfl)
  refine ⟨(Array.getElem?_eq_some_iff.1 hh).1, fun a b ha hb => ?_⟩
  have := sideCells_at ⟨a, ha⟩ ⟨b, hb⟩
  simp only [World.cell?, hh]
  simpa using this
end Go.Proofs.YtpadcjcoafidgaaGreatDoor
/-! gouachelaw16.ShortBack: whatever the declaration, it returns true and changes nothing. Condition: the listed tables hold what the program's text lays (the card ties that). -/
namespace Go.Proofs.YtpadcjcoafidgaaGreatDoor.shortBack
open Go.ChangeShapes Go.WideShapes Go.ChangeAt Go.RowKit

set_option maxRecDepth 100000 in
/-- WHAT THE WALK GIVES, FOR EVERY ARGUMENT. -/
theorem contract (H : Type) (enc : TypeId × Value → H) (W : World) (base : Nat) (args : Array Value) (ds gs : List (DataW H)) (before : List MemPlace)
    (hval : ∀ (j : Nat) t v, Tryz.f6.params[j]? = some t → args[j]? = some v → Value.okWide Tryz.prog W .any base t v)
    (hW : DataW.Whole enc Tryz.prog Tryz.f6.params.toList Rows.shortBackSpec.vars false W args.toList ds gs before)
    (hsz : (DataW.weightsEach Tryz.prog [48] ds).all (· ≤ reachBytes) = true) (hL : laidMetH Tryz.prog Rows.shortBackRow.laid W) :
    Calls Tryz.prog 6 args W fun e W' => ∃ v, e = .returned v ∧ Rows.shortBackSpec.post enc Tryz.prog Tryz.f6 false true false false W args v W' := by
  have hW' := hW
  have hlt := hW.lt
  obtain ⟨p, q, hA0, hV, rfl, hfz, hnd⟩ := hW
  have hA : DataW.TrodAll enc Tryz.prog W 0 (fun _ => true) true Tryz.f6.params.toList args.toList ds p := hA0
  have hA1 := hA0
  rw [Tryz.params6] at hA hval
  obtain ⟨v0, d0, rfl, rfl, h0⟩ := trodAll_one hA
  obtain ⟨rfl, rfl⟩ := trodVars_none hV
  have s0 : Small Tryz.prog 48 d0 := small_arg hsz (j := 0) rfl rfl
  obtain ⟨s, a, c, m, l, b, rfl, hs, hl, hl2⟩ := decl_of (hval 0 48 v0 rfl rfl) h0 s0
  clear hA0
  simp only [List.append_nil] at hW' hlt
  have hB : Base16 W := ⟨base_of_laid hL (List.Mem.tail _ (List.Mem.tail _ (List.Mem.tail _ (List.Mem.tail _ (List.Mem.tail _ (List.Mem.head _)))))) (List.Mem.tail _ (List.Mem.tail _ (List.Mem.head _))), shortsIn_of_laid hL (List.Mem.tail _ (List.Mem.tail _ (List.Mem.tail _ (List.Mem.tail _ (List.Mem.head _))))), sidesIn_of_laid hL (List.Mem.tail _ (List.Mem.tail _ (List.Mem.tail _ (List.Mem.tail _ (List.Mem.tail _ (List.Mem.tail _ (List.Mem.head _)))))))⟩
  refine (shortBack_walk s (by omega) a c m l b W hl (fun x hx => ⟨Nat.le_trans (hl2 x hx).1 (by omega), Nat.le_trans (hl2 x hx).2 (by omega)⟩) hB).mono fun e W' ⟨he, hg⟩ => ?_
  subst he
  refine ⟨_, rfl, _, _, _, [], p, [], hW', ?_, ?_, ?_, hg.frame _, fun h => by cases h⟩
  · exact trodAll_mk1 (shut_bool Tryz.underlying4 true)
  · refine trodAll_below laid_out hg (fun t ht => ?_) hA1 hlt
    rw [Tryz.params6] at ht
    simp only [List.mem_cons, List.not_mem_nil, or_false] at ht
    subst ht
    exact ⟨by kernel_rfl, of_decide_eq_true (by kernel_rfl)⟩
  · rfl

set_option maxRecDepth 100000 in
theorem met (os : Os) (args : Array Value) : laidMet Tryz.prog Rows.shortBackRow.laid ((laidWorld os).forCall (fun _ _ => 0) ⟨#[], args, []⟩).memory :=
  laidMet_of_run' 8 (by kernel_rfl) (by kernel_rfl)
theorem reads (os : Os) {H : Type} (enc : TypeId × Value → H) : ∃ places, DataW.whole enc Tryz.prog ((laidWorld os).forCall (fun _ _ => 0) ⟨#[], #[.agg #[.string ⟨#[]⟩, .slice none 0 0, .bool false]], []⟩).memory Tryz.f6.params.toList Rows.shortBackSpec.vars false (#[.agg #[.string ⟨#[]⟩, .slice none 0 0, .bool false]] : Array Value).toList 8 = some ([.agg [.lit (.string []), .nil, .lit (.bool false)]], [], places) :=
  ⟨[], by kernel_rfl⟩

set_option maxRecDepth 100000 in
theorem lifted (os : Os) (started : os.Started) (H : Type) (enc : TypeId × Value → H) (F : Stop.Interp) :
    ReturnsInHanded {} Tryz.checked os 6 .any ((OpenSpec.ofChange Rows.shortBackSpec).preRow enc Tryz.prog Tryz.f6 Rows.shortBackRow.domain false Rows.shortBackRow.laid) (((OpenSpec.ofChange Rows.shortBackSpec).at F).post enc Tryz.prog Tryz.f6 false true false false) := by
  obtain ⟨places, hx⟩ := reads os enc
  refine returnsInHanded_of_row (C := Tryz.checked) (s := OpenSpec.ofChange Rows.shortBackSpec) ownKnob_none started (by kernel_rfl) Tryz.func6
    (witness_row_at (enc := enc) (C := Tryz.checked) false (laidWorld os) #[.agg #[.string ⟨#[]⟩, .slice none 0 0, .bool false]] rfl (by kernel_rfl) (by kernel_rfl) (by kernel_rfl)
      (OpenSpec.preRow_of_cond 8 hx (by kernel_rfl) (fun k hk => by cases hk) (by kernel_rfl) (met os _))) ?_
  intro W base args ds gs before hval hW _ _ hsz hL _ _
  have hg : gs = [] := by
    obtain ⟨p, q, _, hV, _⟩ := hW
    exact (trodVars_none hV).1
  subst hg
  have hsz' : (DataW.weightsEach Tryz.prog [48] ds).all (· ≤ reachBytes) = true := by rw [List.append_nil] at hsz; exact hsz
  exact contract H enc W base args ds [] before hval hW hsz' hL

theorem said : Rows.ShortBackSaid :=
  OpenClaim.holds_of_cond 6 Tryz.f6 rfl rfl rfl rfl rfl rfl rfl ⟨rfl, rfl, rfl, rfl, rfl⟩ rfl rfl rfl rfl rfl (by kernel_rfl) Tryz.func6 (by kernel_rfl)
    (of_decide_eq_true (by kernel_rfl)) (by unfold Func.isWrapper; first | (rw [if_pos (by decide +kernel)]; kernel_rfl) | (rw [if_neg (by decide +kernel)]; exact ⟨rfl, rfl⟩))
    (fun os started H enc _ F => by rw [OpenClaim.pre_eq_preRow]; exact lifted os started H enc F)

/-- No parameter wants a stand-in; the program's own looks are off: what the card asks. -/
theorem plain (f : FuncId) (fn : Func) (hf : Tryz.pinned.checked.prog.funcNamed "gouache/gouachelaw16.ShortBack" = some f) (hfn : Tryz.pinned.checked.prog.funcs[f]? = some fn) :
    false = Tryz.pinned.checked.prog.looks [] ∧ ∀ (j : Nat) t, fn.params[j]? = some t → Tryz.pinned.checked.prog.wantsStandIn t = false := by
  obtain rfl : f = 6 := Option.some.inj ((show Tryz.prog.funcNamed "gouache/gouachelaw16.ShortBack" = some 6 by kernel_rfl).symm.trans hf) |>.symm
  obtain rfl : fn = Tryz.f6 := (Option.some.inj (Tryz.func6.symm.trans hfn)).symm
  refine ⟨by kernel_rfl, fun j t ht => ?_⟩
  rw [Tryz.params6] at ht
  have ht' : t = 48 := by simpa using Array.mem_of_getElem? ht
  subst ht'
  exact (show Tryz.prog.wantsStandIn 48 = false by kernel_rfl)

/-- THE CARD. -/
theorem card : Rows.ShortBackCardSaid :=
  Claim7.holds_tied_plain_at .later [] _ _ _ _ said (fun _ h => by cases h) (by kernel_rfl) (fun _ h => by cases h) shortBack_row_tie rfl ⟨rfl, rfl⟩ (by kernel_rfl) rfl plain (by kernel_rfl)
end Go.Proofs.YtpadcjcoafidgaaGreatDoor.shortBack
