/- parse.Values; the laws' own 'values' of a text. -/
import Derived.Test.YtpadcjcoafidgaaGreatDoorValues
import Derived.Test.YtpadcjcoafidgaaGreatDoorRunes
namespace Go.Proofs.YtpadcjcoafidgaaGreatDoor
open Go.RowKit

theorem Values_any (w : World) (tv : Value) (toks : List Tok) (h : Tk w.heap.size w tv toks) (hbig : toks.length ≤ 100000) (hf : ∀ t ∈ toks, flatK t.k) :
    Calls Tryz.prog 48 #[tv] w fun e w' => ∃ V, e = .returned V ∧ Vs w' V (toks.map Val.of) ∧ Below w.heap.size w w' := by
  obtain ⟨p, off, cap, rfl, hp, hc⟩ := h
  have hb0 : Below w.heap.size w (w.alloc (.cells #[.slice (some ⟨p, off, none⟩) toks.length cap, .int .i64 0] 135)) := bAlloc1 w _
  have H0 : Hid (Cu (w.alloc (.cells #[.slice (some ⟨p, off, none⟩) toks.length cap, .int .i64 0] 135)) w.heap.size (.slice (some ⟨p, off, none⟩) toks.length cap) toks 0) := Lib.hid ⟨by simp, by simp, by simp, Nat.zero_le _, hbig,
    p, off, cap, rfl, hp, fun k hk j x hx => (hb0.cell (p := ⟨p, _, none⟩) hp).trans (hc k hk j x hx)⟩
  clear hc
  go_enter Tryz.func48, Tryz.ntmps48
  go_wp2_with fail
  refine (values_flat _ _ _ toks H0.out hf).mono ?_
  rintro e w1 ⟨V, rfl, hv, hb1⟩
  go_wp2_with fail
  go_ret
  simp only [World.size_alloc] at hb1
  exact ⟨V, rfl, hv, hb0.trans (hb1.below (Nat.le_succ _) (Nat.le_refl _))⟩
theorem Bs.of (w : World) (s : ByteArray) (e : TypeId) : Bs (Lib.bytesWorld w e s) (.slice (some ⟨w.heap.size, 0, none⟩) s.size (grownCap w s.size 0 e)) s := by
  refine ⟨w.heap.size, 0, _, rfl, by rw [Lib.bytesWorld_size]; exact Nat.lt_succ_self _, fun k hk => ?_⟩
  have hs : k < s.size := by rw [Array.length_toList] at hk; exact hk
  rw [Nat.zero_add, Lib.bytesWorld_cell w e s k hs]
  simp [List.getD, List.getElem?_eq_getElem hk]
theorem bytes_below (w : World) (s : ByteArray) (e : TypeId) : Below w.heap.size w (Lib.bytesWorld w e s) :=
  ⟨rfl, rfl, rfl, by rw [Lib.bytesWorld_size]; exact Nat.le_succ _, fun j hj => Lib.bytesWorld_at_old w e s j hj⟩
theorem Tk.of {B : Nat} {w : World} {v : Value} {toks : List Tok} (h : Rws B w 5 v (toks.map Tok.row)) (hne : toks ≠ []) : Tk w.heap.size w v toks := by
  obtain ⟨b, off, cap, hv, _, hlt, hc⟩ := h.shape (by simpa using hne)
  rw [List.length_map] at hv
  exact ⟨b, off, cap, hv, hlt, fun k hk j x hx => hc k j x (by simpa [hk] using hx)⟩
theorem lex_flat : ∀ (n : Nat) (s : List Int) (l : List Tok), lexF n s = some l → ∀ t ∈ l, flatK t.k
  | n, [], l, h, t, ht => by
    simp only [lexF, Option.some.injEq] at h
    subst h
    cases ht
  | 0, a :: s, l, h, t, ht => by simp [lexF] at h
  | n + 1, a :: s, l, h, t, ht => by
    obtain ⟨m, t0, k, r, hn, h1, h2, rfl⟩ := lexF_cons _ _ _ (by simp) h
    obtain rfl : n = m := by omega
    rcases List.mem_cons.1 ht with rfl | ht
    · unfold step at h1
      have key : t.k = 13 ∨ t.k = 4 ∨ t.k = 12 ∨ t.k = 11 ∨ t.k = 10 ∨ t.k = 1 := by
        split at h1
        · simp only [Option.some.injEq, Prod.mk.injEq] at h1; rw [← h1.1]; exact .inl rfl
        · split at h1
          · split at h1
            · simp only [Option.some.injEq, Prod.mk.injEq] at h1; rw [← h1.1]; exact .inr (.inl rfl)
            · cases h1
          · split at h1
            · split at h1
              · simp only [Option.some.injEq, Prod.mk.injEq] at h1
                rw [← h1.1]
                unfold numT
                split
                · exact .inr (.inr (.inl rfl))
                · split
                  · exact .inr (.inr (.inr (.inl rfl)))
                  · exact .inr (.inr (.inr (.inr (.inl rfl))))
              · cases h1
            · split at h1
              · simp only [Option.some.injEq, Prod.mk.injEq] at h1; rw [← h1.1]; exact .inr (.inr (.inr (.inr (.inr rfl))))
              · cases h1
      unfold flatK
      omega
    · exact lex_flat n _ _ h2 t ht
/-- A text whose tokens are known. -/
structure Lexes (s : ByteArray) (toks : List Tok) : Prop where
  tame : Tame (runesOf s)
  lex : lex (runesOf s) = some toks
  small : s.size ≤ 10000
  ne : toks ≠ []
set_option maxHeartbeats 1000000 in
theorem values15_any (w : World) (s : ByteArray) (toks : List Tok) (h : Lexes s toks) :
    Calls Tryz.prog 14 #[.string s] w fun e w' => ∃ V, e = .returned V ∧ Vs w' V (toks.map Val.of) ∧ Below w.heap.size w w' := by
  have hcv := Lib.run_convert_string_bytes w 9 90 5 s Tryz.underlying9 Tryz.underlying90 Tryz.underlying5
  have HB := Lib.hid (Bs.of w s 5)
  have hb1 := bytes_below w s 5
  go_enter Tryz.func14, Tryz.ntmps14
  go_wp2_with fail
  try rw [hcv]
  try go_wp2_with fail
  clear hcv
  obtain ⟨w1, hw1⟩ : ∃ w1, Lib.bytesWorld w 5 s = w1 := ⟨_, rfl⟩
  rw [hw1] at HB hb1 ⊢
  refine (Runes_any w1 _ s HB.out h.tame h.small).mono ?_
  rintro e w2 ⟨v2, rfl, hr2, hb2⟩
  have hlen : (runesOf s).length ≤ 10000 := by rw [runesOf_len]; exact h.small
  have htl : toks.length ≤ (runesOf s).length := lexF_len _ _ _ h.lex
  have hB2 := bNext hb1 hb2
  clear HB hb1 hb2 hw1
  go_wp2_with fail
  refine (Tokens_any w2 v2 _ toks hr2 h.tame hlen h.lex).mono ?_
  rintro e w3 ⟨v3, rfl, ht3, hb3⟩
  have hB3 := bNext hB2 hb3
  have HT := Lib.hid (Tk.of ht3 h.ne)
  clear hB2 hb3 hr2 ht3
  go_wp2_with fail
  refine (Values_any w3 v3 toks HT.out (by omega) (lex_flat _ _ _ h.lex)).mono ?_
  rintro e w4 ⟨v4, rfl, hv4, hb4⟩
  go_wp2_with fail
  go_ret
  exact ⟨v4, rfl, hv4, bNext hB3 hb4⟩
set_option maxHeartbeats 1000000 in
theorem values16_any (w : World) (s : ByteArray) (toks : List Tok) (h : Lexes s toks) :
    Calls Tryz.prog 28 #[.string s] w fun e w' => ∃ V, e = .returned V ∧ Vs w' V (toks.map Val.of) ∧ Below w.heap.size w w' := by
  have hcv := Lib.run_convert_string_bytes w 9 90 5 s Tryz.underlying9 Tryz.underlying90 Tryz.underlying5
  have HB := Lib.hid (Bs.of w s 5)
  have hb1 := bytes_below w s 5
  go_enter Tryz.func28, Tryz.ntmps28
  go_wp2_with fail
  try rw [hcv]
  try go_wp2_with fail
  clear hcv
  obtain ⟨w1, hw1⟩ : ∃ w1, Lib.bytesWorld w 5 s = w1 := ⟨_, rfl⟩
  rw [hw1] at HB hb1 ⊢
  refine (Runes_any w1 _ s HB.out h.tame h.small).mono ?_
  rintro e w2 ⟨v2, rfl, hr2, hb2⟩
  have hlen : (runesOf s).length ≤ 10000 := by rw [runesOf_len]; exact h.small
  have htl : toks.length ≤ (runesOf s).length := lexF_len _ _ _ h.lex
  have hB2 := bNext hb1 hb2
  clear HB hb1 hb2 hw1
  go_wp2_with fail
  refine (Tokens_any w2 v2 _ toks hr2 h.tame hlen h.lex).mono ?_
  rintro e w3 ⟨v3, rfl, ht3, hb3⟩
  have hB3 := bNext hB2 hb3
  have HT := Lib.hid (Tk.of ht3 h.ne)
  clear hB2 hb3 hr2 ht3
  go_wp2_with fail
  refine (Values_any w3 v3 toks HT.out (by omega) (lex_flat _ _ _ h.lex)).mono ?_
  rintro e w4 ⟨v4, rfl, hv4, hb4⟩
  go_wp2_with fail
  go_ret
  exact ⟨v4, rfl, hv4, bNext hB3 hb4⟩
end Go.Proofs.YtpadcjcoafidgaaGreatDoor
