/- token.Tokens of a tame text. -/
import Derived.Test.YtpadcjcoafidgaaGreatDoorWay
namespace Go.Proofs.YtpadcjcoafidgaaGreatDoor
open Go.RowKit

/-- 'l = append(l, x)', one row of m cells, l nil or the call's own. -/
theorem wpList_append_row {P : Program} {w : World} {ops : Array Oper} {rest : List Oper} {o : Oper} {a : Act} {Q : Exit → Act → World → Prop} (hgd : o.guard = none) (s x : Operand) (t e : TypeId)
    (ho : o.op = .call { callee := .builtin .append, args := #[s, x], argTypes := #[t, t] })
    (base m bytes : Nat) (z : Value) (ht : P.underlying t = some (.slice e)) (hinfo : (P.info? e).map (fun i => (i.zero, i.size, i.bytes)) = some (some z, m, bytes)) (hzs : z.cells.size = m) (hm : 0 < m)
    (v : Value) (rows : List (List Value)) (r : List Value) (hs : a.eval s = v) (hown : w.ownsRow base e m v rows.length rows.flatten)
    (ad : Addr) (c : Nat) (hx : a.eval x = .slice (some ad) 1 c) (hr : r.length = m) (hcell : ∀ j u, r[j]? = some u → w.cell? (ad.add j) = some u) (h1 : ∀ u ∈ r, u.oneCell' = true)
    (hlen : rows.length ≤ 1000000) (hby : bytes ≤ 1000) (hbase : base ≤ w.heap.size)
    (h : ∀ v' w', w'.ownsRow base e m v' (rows ++ [r]).length (rows ++ [r]).flatten → w.grownBy w' v.ownBlock → v' ≠ .slice none 0 0 → wpList P ops Q rest (a.put o.dst v') w') : wpList P ops Q (o :: rest) a w := by
  obtain ⟨i0, hi, hz0, hz1, hz2⟩ := info_parts hinfo
  refine wpList_append_own w hgd s x t ho base e i0 z m bytes ht hi hz0 hz1 hz2 hzs hm v rows.length _ hs hown ad 1 c r hx (by omega) hcell h1 (by unfold maxLen; omega) ?_ hbase ?_
  · exact Nat.le_trans (Nat.mul_le_mul (show rows.length + 1 ≤ 1000001 by omega) hby) (by decide)
  · intro v' w' h1 h2 h3
    refine h v' w' (by simpa using h1) h2 (fun e => ?_)
    have := h3.1 e
    omega
theorem ownsRow_but {w w' : World} {B b : Nat} {e : TypeId} {m : Nat} {v : Value} {n : Nat} {xs : List Value} (h : w.ownsRow B e m v n xs) (hb : But w.heap.size b w w') (hB : b < B) : w'.ownsRow B e m v n xs := by
  obtain ⟨h1, h2⟩ := h
  refine ⟨h1, ?_⟩
  rcases h2 with h2 | ⟨g, cap, cur, hv, hg, hh, r⟩
  · exact Or.inl h2
  · have hlt : g < w.heap.size := (Array.getElem?_eq_some_iff.1 hh).1
    exact Or.inr ⟨g, cap, cur, hv, hg, by rw [hb.block g hlt (by omega)]; exact hh, r⟩
/-- A slice's length. -/
def lenOf (v : Value) : Nat := match v with
  | .slice _ n _ => n
  | _ => 0
theorem ownsRow_lenOf {w : World} {B : Nat} {e : TypeId} {m : Nat} {v : Value} {n : Nat} {xs : List Value} (h : w.ownsRow B e m v n xs) : lenOf v = n := by
  obtain ⟨_, ⟨hv, h0⟩ | ⟨g, cap, _, hv, _⟩⟩ := h
  · rw [hv, h0]; rfl
  · rw [hv]; rfl
theorem infoTok : (Tryz.prog.info? 23).map (fun i => (i.zero, i.size, i.bytes)) = some (some (.agg #[.int .i64 0, .string ⟨#[]⟩, .string ⟨#[]⟩, .bool false, .bool false]), 5, 48) := by kernel_rfl
theorem Tok.row_len (t : Tok) : t.row.length = 5 := rfl
theorem Tok.row_one (t : Tok) : ∀ u ∈ t.row, u.oneCell' = true := by
  intro u hu
  simp only [Tok.row, List.mem_cons, List.not_mem_nil, or_false] at hu
  rcases hu with rfl | rfl | rfl | rfl | rfl <;> rfl
theorem tokRows_len (l : List Tok) : ∀ r ∈ l.map Tok.row, r.length = 5 := by
  intro r hr
  obtain ⟨t, _, rfl⟩ := List.mem_map.1 hr
  rfl
theorem lexF_len : ∀ (n : Nat) (s : List Int) (l : List Tok), lexF n s = some l → l.length ≤ n
  | n, [], l, h => by
    simp only [lexF, Option.some.injEq] at h
    subst h
    simp
  | 0, a :: s, l, h => by simp [lexF] at h
  | n + 1, a :: s, l, h => by
    obtain ⟨m, t, k, r, hn, _, h2, rfl⟩ := lexF_cons _ _ _ (by simp) h
    obtain rfl : n = m := by omega
    have := lexF_len n _ _ h2
    simp
    exact this
set_option maxRecDepth 100000 in
set_option maxHeartbeats 4000000 in
theorem Tokens_any (w : World) (v : Value) (rs : List Int) (toks : List Tok) (h : Rn w.heap.size w v rs) (ht : Tame rs) (hlen : rs.length ≤ 10000) (hlex : lex rs = some toks) :
    Calls Tryz.prog 49 #[v] w fun e w' => ∃ V, e = .returned V ∧ Rws w.heap.size w' 5 V (toks.map Tok.row) ∧ Below w.heap.size w w' := by
  have HX := Lib.hid hlex
  have T := Lib.hid ht
  have htl : toks.length ≤ rs.length := lexF_len _ _ _ hlex
  have hb0 : Below w.heap.size w (w.alloc (.cells #[v, .int .i64 0] 140)) := bAlloc1 w _
  have HR0 : Hid (Rd (w.alloc (.cells #[v, .int .i64 0] 140)) w.heap.size v rs 0) := Lib.hid ⟨by simp, by simp, by simp, Nat.zero_le _, by omega, by
    obtain ⟨p, off, cap, hv, hc, hp, hcell⟩ := h
    exact ⟨p, off, cap, hv, hc, hp, fun k hk => (hb0.cell (p := ⟨p, _, none⟩) hp).trans (hcell k hk)⟩⟩
  obtain ⟨pa, off, cap, rfl, -⟩ := h
  clear ht hlex
  go_enter Tryz.func49, Tryz.ntmps49
  go_wp2_with fail
  go_step3
  go_wp2_with fail
  go_step3
  go_wp2_with fail
  go_loopw [3] (fun l wr => ∃ (i n : Nat) (pre rest : List Tok), i ≤ rs.length ∧ Hid (Rd wr w.heap.size (Value.slice (some { block := pa, off := off }) rs.length cap) rs i) ∧ Hid (lexF n (rs.drop i) = some rest) ∧ toks = pre ++ rest ∧
      wr.ownsRow (w.heap.size + 1) 23 5 l (pre.map Tok.row).length (pre.map Tok.row).flatten ∧ Below w.heap.size w wr)
    (fun l _ => toks.length - lenOf l)
  case atStart => exact ⟨0, rs.length, [], toks, Nat.zero_le _, HR0, Lib.hid HX.out, rfl, ⟨by simp, .inl ⟨rfl, rfl⟩⟩, hb0⟩
  case round =>
    obtain ⟨i, n, pre, rest, hi, HR, HL, htk, hown, hb⟩ := hrel
    clear HR0 hb0
    have hmu := ownsRow_lenOf hown
    have HM := Lib.hid hmu
    clear hmu
    go_wp2_with fail
    refine (over_any wr _ _ rs i HR.out).mono ?_
    rintro e w1 ⟨rfl, hb1⟩
    have HR1 := Lib.hid (HR.out.next hb1)
    have hown1 := ownsRow_below hown hb1 (Nat.le_refl _)
    have hbb1 := hb.trans (hb1.mono hb.size)
    have hsz1 := HR1.out.c0
    clear HR hown hb hb1
    by_cases hj : i < rs.length
    · rw [show decide (rs.length ≤ i) = false from decide_eq_false (by omega)]
      obtain ⟨m, tok, k, r, rfl, hst, hL2, rfl⟩ := lexF_cons _ _ _ (by intro e; have := congrArg List.length e; rw [List.length_drop] at this; simp at this; omega) HL.out
      go_wp2_with fail
      refine (sees_tame w1 _ _ rs i HR1.out T.out _ (by decide) (by decide) ⟨0, by decide, by decide⟩).mono ?_
      rintro e w2 ⟨rfl, hb2⟩
      have HR2 := Lib.hid (HR1.out.next hb2)
      have hown2 := ownsRow_below hown1 hb2 (Nat.le_refl _)
      have hbb2 := hbb1.trans (hb2.mono hbb1.size)
      clear HR1 hown1 hbb1 hb2
      go_wp2_with fail
      refine (way_any w2 _ _ rs i HR2.out T.out hj tok k hst).mono ?_
      rintro e w3 ⟨g, rfl, hg, hb3, hrd⟩
      have HR3 := Lib.hid (HR2.out.next hb3)
      have HQ := Lib.hid (hrd w3 HR3.out)
      have hown3 := ownsRow_below hown2 hb3 (Nat.le_refl _)
      have hbb3 := hbb2.trans (hb3.mono hbb2.size)
      clear HR2 hown2 hbb2 hb3 hrd
      obtain ⟨tk, tt, tu, twh, tfl⟩ := tok
      simp only [Tok.val, tokV] at HQ
      rcases hg with rfl | rfl | rfl | rfl
      all_goals
        go_wp2_with fail
        refine HQ.out.mono ?_
        rintro e w4 ⟨rfl, hbut4, hrd4⟩
        have hown4 := ownsRow_but hown3 hbut4 (Nat.lt_succ_self _)
        have hbb4 : Below w.heap.size w w4 := hbb3.trans (hbut4.below hbb3.size (Nat.le_refl _))
        have HR4 := Lib.hid hrd4
        have hlt : w.heap.size < w4.heap.size := World.block_lt_of_cell? w4 _ hrd4.c0
        clear hbut4 hrd4 hown3 HQ HR3
        go_wp2_with (at_builtin; refine wpList_append_row rfl _ _ 86 23 rfl (w.heap.size + 1) 5 48 _ Tryz.underlying86 infoTok rfl (by decide) u3 (pre.map Tok.row) (Tok.row ⟨tk, tt, tu, twh, tfl⟩) rfl (hown4.alloc _) ⟨w4.heap.size, 0, none⟩ 1 rfl rfl (cells_new1 w4 _ _ _ rfl) (Tok.row_one _) (by rw [htk, List.length_append] at htl; rw [List.length_map]; omega) (by decide) (by simp; omega) ?_; intro v' w5 hown5 hgrow hne)
        have hbb5 : Below w.heap.size w w5 := (hbb4.alloc hbb4.size _).grown hgrow (by simp; omega) (fun j e => by have := (hown4.lt j e).1; omega)
        have HR5 : Hid (Rd w5 w.heap.size (Value.slice (some { block := pa, off := off }) rs.length cap) rs (i + k)) := Lib.hid (rd_below (rd_below HR4.out (bAlloc1 _ _) hlt) ((Below.refl (w.heap.size + 1) _).grown hgrow (by simp; omega) (fun j e => (hown4.lt j e).1)) (Nat.lt_succ_self _))
        have hlen5 := ownsRow_lenOf hown5
        go_roundw
        case rel => exact ⟨i + k, m, pre ++ [⟨tk, tt, tu, twh, tfl⟩], r, HR5.out.le, HR5, Lib.hid (by rw [← List.drop_drop]; exact hL2), by rw [htk]; simp, by simpa using hown5, hbb5⟩
        case measure =>
          rw [HM.out]
          show toks.length - lenOf v' < _
          rw [hlen5, htk]
          simp
          omega
    · rw [show decide (rs.length ≤ i) = true from decide_eq_true (by omega)]
      have hr : rest = [] := by
        have := HL.out
        rw [List.drop_eq_nil_of_le (by omega)] at this
        simp only [lexF, Option.some.injEq] at this
        exact this.symm
      subst hr
      rw [List.append_nil] at htk
      subst htk
      go_wp2_with fail
      rw [Exit.noGoto_ret]
      go_ret
      exact ⟨_, rfl, (Rws.of_owns hown1 rfl (by simp) (tokRows_len _)).base (Nat.le_succ _), hbb1⟩
end Go.Proofs.YtpadcjcoafidgaaGreatDoor
