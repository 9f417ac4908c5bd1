/- reader.way: what reads the token that begins here. -/
import Derived.Test.YtpadcjcoafidgaaGreatDoorLex
import Derived.Test.YtpadcjcoafidgaaGreatDoorSees
namespace Go.Proofs.YtpadcjcoafidgaaGreatDoor
open Go.RowKit

theorem Tame.asc {rs : List Int} (h : Tame rs) : Asc rs := fun c hc => by have := h c hc; unfold tm at this; unfold Go.Proofs.YtpadcjcoafidgaaGreatDoor.asc; omega
def oneOf (g : Nat) : Prop := g = 124 ∨ g = 128 ∨ g = 130 ∨ g = 134
/-- The function reads this token. -/
def Reads (b : Nat) (rv : Value) (rs : List Int) (i : Nat) (tok : Tok) (k g : Nat) : Prop :=
  ∀ W, Rd W b rv rs i → Calls Tryz.prog g #[.pointer (some ⟨b, 0, none⟩)] W fun e w' => (e = .returned tok.val) ∧ But W.heap.size b W w' ∧ Rd w' b rv rs (i + k)
theorem sees_tame (w : World) (b : Nat) (rv : Value) (rs : List Int) (i : Nat) (h : Rd w b rv rs i) (ht : Tame rs) (lit : ByteArray) (hl : lit.size ≤ 100) (ha : ∀ k (h : k < lit.size), (lit[k]'h).toNat < 128)
    (hno : ∃ k, ∃ h : k < lit.size, ¬ tm ((lit[k]'h).toNat : Int)) :
    Calls Tryz.prog 87 #[.pointer (some ⟨b, 0, none⟩), .string lit] w fun e w' => (e = .returned (.bool false)) ∧ Below w.heap.size w w' := by
  obtain ⟨k, hk, hn⟩ := hno
  refine sees_no w b rv rs i h lit hl ha ⟨k, hk, fun e => ?_⟩
  rcases ht.or (i + k) with e2 | e2
  · rw [e2] at e; omega
  · rw [e] at e2; exact hn e2
set_option maxRecDepth 100000 in
set_option maxHeartbeats 4000000 in
theorem way_any (w : World) (b : Nat) (rv : Value) (rs : List Int) (i : Nat) (h : Rd w b rv rs i) (ht : Tame rs) (hi : i < rs.length) (tok : Tok) (k : Nat) (hs : step (rs.drop i) = some (tok, k)) :
    Calls Tryz.prog 89 #[.pointer (some ⟨b, 0, none⟩)] w fun e w' => ∃ g, e = .returned (.func (.func g) #[] #[]) ∧ oneOf g ∧ Below w.heap.size w w' ∧ Reads b rv rs i tok k g := by
  have H := Lib.hid h
  have T := Lib.hid ht
  have ha := ht.asc
  obtain ⟨c, hcc⟩ : ∃ c, at_ rs (i + 0) = c := ⟨_, rfl⟩
  obtain ⟨d, hdd⟩ : ∃ c, at_ rs (i + 1) = c := ⟨_, rfl⟩
  have hq := ht.or (i + 0)
  rw [hcc] at hq
  have b34 : (c == 34) = false := by rw [beq_eq_false_iff_ne]; intro e; subst e; revert hq; decide
  have b39 : (c == 39) = false := by rw [beq_eq_false_iff_ne]; intro e; subst e; revert hq; decide
  unfold step at hs
  rw [at_drop, at_drop, hcc, hdd] at hs
  clear h hq
  cases hB : isBlank c
  · rw [hB, if_neg (by decide)] at hs
    by_cases h35 : c = 35
    · rw [if_pos h35] at hs
      split at hs
      · rename_i hp
        obtain ⟨hd1, hp⟩ := hp
        simp only [Option.some.injEq, Prod.mk.injEq] at hs
        obtain ⟨rfl, rfl⟩ := hs
        have hX : Hid (Reads b rv rs i (hashT (rs.drop i)) (1 + nameLen ((rs.drop i).drop 1)) 128) := Lib.hid (fun W hW => by
          have := hash_any W b rv rs i hW T.out ha hi
          rw [List.drop_drop, ← Nat.add_assoc]
          exact this)
        clear ha
        subst h35
        have bd : (d != -1) = true := by simpa using hd1
        go_enter Tryz.func89, Tryz.ntmps89
        go_wp2_with fail
        refine (peek_any w b rv rs i 0 H.out (by decide)).mono ?_
        rintro e w1 ⟨rfl, hb1⟩
        rw [hcc]
        have H1 := Lib.hid (H.out.next hb1)
        clear H
        go_wp2_with fail
        refine (Blank_any 35 w1).mono ?_
        rintro e w1' ⟨rfl, rfl⟩
        rw [hB]
        go_wp2_with fail
        refine (escape_no w1' b rv rs i 1 H1.out (by decide) T.out).mono ?_
        rintro e w2 ⟨rfl, hb2⟩
        have H2 := Lib.hid (H1.out.next hb2)
        have hb12 := bNext hb1 hb2
        clear hb1 hb2 H1
        go_wp2_with fail
        refine (peek_any w2 b rv rs i 1 H2.out (by decide)).mono ?_
        rintro e w3 ⟨rfl, hb3⟩
        rw [hdd]
        have H3 := Lib.hid (H2.out.next hb3)
        have hb13 := bNext hb12 hb3
        clear hb12 hb3 H2
        go_wp2_with fail
        refine (peek_any w3 b rv rs i 1 H3.out (by decide)).mono ?_
        rintro e w4 ⟨rfl, hb4⟩
        rw [hdd]
        have H4 := Lib.hid (H3.out.next hb4)
        have hb14 := bNext hb13 hb4
        clear hb13 hb4 H3
        go_wp2_with fail
        refine (Part_any d w4).mono ?_
        rintro e w5 ⟨rfl, hb5⟩
        rw [hp]
        have hb15 := bNext hb14 hb5
        go_wp2_with fail
        go_ret
        exact ⟨_, rfl, .inr (.inl rfl), hb15, hX.out⟩
      · cases hs
    · rw [if_neg h35] at hs
      have b35 : (c == 35) = false := by simpa using h35
      cases hcn : counts (rs.drop i)
      · rw [hcn, if_neg (by decide)] at hs
        cases hbg : begins (rs.drop i)
        · rw [hbg, if_neg (by decide)] at hs; cases hs
        · rw [hbg, if_pos rfl] at hs
          simp only [Option.some.injEq, Prod.mk.injEq] at hs
          obtain ⟨rfl, rfl⟩ := hs
          have hX : Hid (Reads b rv rs i (wordT (rs.drop i)) (nameLen (rs.drop i)) 134) := Lib.hid (fun W hW => word_any W b rv rs i hW T.out ha)
          clear ha
          go_enter Tryz.func89, Tryz.ntmps89
          go_wp2_with fail
          refine (peek_any w b rv rs i 0 H.out (by decide)).mono ?_
          rintro e w1 ⟨rfl, hb1⟩
          rw [hcc]
          have H1 := Lib.hid (H.out.next hb1)
          clear H
          go_wp2_with fail
          refine (Blank_any c w1).mono ?_
          rintro e w1' ⟨rfl, rfl⟩
          rw [hB]
          go_wp2_with fail
          refine (counts_any w1' b rv rs i H1.out T.out).mono ?_
          rintro e w2 ⟨rfl, hb2⟩
          rw [hcn]
          have H2 := Lib.hid (H1.out.next hb2)
          have hb12 := bNext hb1 hb2
          clear hb1 hb2 H1
          go_wp2_with fail
          refine (sees_tame w2 b rv rs i H2.out T.out _ (by decide) (by decide) ⟨2, by decide, by decide⟩).mono ?_
          rintro e w3 ⟨rfl, hb3⟩
          have H3 := Lib.hid (H2.out.next hb3)
          have hb13 := bNext hb12 hb3
          clear hb12 hb3 H2
          go_wp2_with fail
          refine (sees_tame w3 b rv rs i H3.out T.out _ (by decide) (by decide) ⟨0, by decide, by decide⟩).mono ?_
          rintro e w4 ⟨rfl, hb4⟩
          have H4 := Lib.hid (H3.out.next hb4)
          have hb14 := bNext hb13 hb4
          clear hb13 hb4 H3
          go_wp2_with fail
          refine (begins_any w4 b rv rs i 0 H4.out (by decide) T.out).mono ?_
          rintro e w5 ⟨rfl, hb5⟩
          rw [show begins (rs.drop (i + 0)) = true from hbg]
          have hb15 := bNext hb14 hb5
          go_wp2_with fail
          go_ret
          exact ⟨_, rfl, .inr (.inr (.inr rfl)), hb15, hX.out⟩
      · rw [hcn, if_pos rfl] at hs
        split at hs
        · rename_i hne
          simp only [Option.some.injEq, Prod.mk.injEq] at hs
          obtain ⟨rfl, rfl⟩ := hs
          have hX : Hid (Reads b rv rs i (numT (rs.drop i)) (numLen (rs.drop i)) 130) := Lib.hid (fun W hW => by
            rw [numT_val]
            exact number_any W b rv rs i hW T.out ha hi hcn hne)
          clear ha hne
          go_enter Tryz.func89, Tryz.ntmps89
          go_wp2_with fail
          refine (peek_any w b rv rs i 0 H.out (by decide)).mono ?_
          rintro e w1 ⟨rfl, hb1⟩
          rw [hcc]
          have H1 := Lib.hid (H.out.next hb1)
          clear H
          go_wp2_with fail
          refine (Blank_any c w1).mono ?_
          rintro e w1' ⟨rfl, rfl⟩
          rw [hB]
          go_wp2_with fail
          refine (counts_any w1' b rv rs i H1.out T.out).mono ?_
          rintro e w2 ⟨rfl, hb2⟩
          rw [hcn]
          have hb12 := bNext hb1 hb2
          go_wp2_with fail
          go_ret
          exact ⟨_, rfl, .inr (.inr (.inl rfl)), hb12, hX.out⟩
        · cases hs
  · rw [hB, if_pos rfl] at hs
    simp only [Option.some.injEq, Prod.mk.injEq] at hs
    obtain ⟨rfl, rfl⟩ := hs
    have hX : Hid (Reads b rv rs i spaceT ((rs.drop i).takeWhile isBlank).length 124) := Lib.hid (fun W hW => space_any W b rv rs i hW)
    clear ha
    go_enter Tryz.func89, Tryz.ntmps89
    go_wp2_with fail
    refine (peek_any w b rv rs i 0 H.out (by decide)).mono ?_
    rintro e w1 ⟨rfl, hb1⟩
    rw [hcc]
    go_wp2_with fail
    refine (Blank_any c w1).mono ?_
    rintro e w1' ⟨rfl, rfl⟩
    rw [hB]
    go_wp2_with fail
    go_ret
    exact ⟨_, rfl, .inl rfl, hb1, hX.out⟩
end Go.Proofs.YtpadcjcoafidgaaGreatDoor
