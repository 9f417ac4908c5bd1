/- short.spread where no value for all stands. -/
import Derived.Test.YtpadcjcoafidgaaGreatDoorShortParts
import Derived.Test.YtpadcjcoafidgaaGreatDoorLongs
namespace Go.Proofs.YtpadcjcoafidgaaGreatDoor
open Go.RowKit

/-- The listed variables lie as the program's text lays them. -/
structure Base16 (w : World) : Prop where
  base : Base w
  sh : ShortsIn w
  sd : SidesIn w
theorem Base16.next {w w' : World} (h : Base16 w) (hb : Below w.heap.size w w') : Base16 w' := ⟨h.base.next hb, h.sh.below hb (Nat.le_refl _), h.sd.next hb⟩
def spreadF (name : ByteArray) (all : List Val) (n : Int) : List ByteArray → Nat → List ByteArray → List ByteArray
  | [], _, acc => acc
  | long :: r, i, acc => if whichS name n i < 0 then [] else match all[(whichS name n i).toNat]? with
    | none => []
    | some x => match parseS long [x] with
      | none => []
      | some s => spreadF name all n r (i + 1) (acc ++ [s])
def spreadS (name : ByteArray) (longs : List ByteArray) (l : List Val) : List ByteArray := match partsS l with
  | none => []
  | some all => spreadF name all all.length longs 0 []
theorem spreadS_eq (name : ByteArray) (longs : List ByteArray) (l : List Val) : spreadS name longs l = if (partsS l).isSome = true then spreadF name ((partsS l).getD []) ((partsS l).getD []).length longs 0 [] else [] := by
  unfold spreadS
  cases partsS l <;> rfl
theorem partsF_mem : ∀ (b : Bool) (l acc : List Val) (all : List Val), partsF b l acc = some all → ∀ x ∈ all, x ∈ l ∨ x ∈ acc
  | b, [], acc, all, h, x, hx => by
    simp only [partsF, Option.some.injEq] at h
    subst h
    exact .inr hx
  | b, v :: l, acc, all, h, x, hx => by
    unfold partsF at h
    split at h
    · rcases partsF_mem _ _ _ _ h x hx with h' | h'
      · exact .inl (List.mem_cons_of_mem _ h')
      · exact .inr h'
    · split at h
      · rcases partsF_mem _ _ _ _ h x hx with h' | h'
        · exact .inl (List.mem_cons_of_mem _ h')
        · rcases List.mem_append.1 h' with h' | h'
          · exact .inr h'
          · rw [List.mem_singleton.1 h']; exact .inl (List.mem_cons_self ..)
      · cases h
theorem parts_fits {l : List Val} (hf : ∀ x ∈ l, x.fits) : ∀ x ∈ (partsS l).getD [], x.fits := by
  intro x hx
  cases hp : partsS l with
  | none => rw [hp] at hx; cases hx
  | some all =>
    rw [hp] at hx
    rcases partsF_mem _ _ _ _ hp x hx with h | h
    · exact hf x (trim_mem h)
    · cases h
set_option maxRecDepth 100000 in
set_option maxHeartbeats 8000000 in
theorem spread_some (w : World) (hB : Base16 w) (name : ByteArray) (longs : List ByteArray) (lv v : Value) (l : List Val) (B : Nat) (hs : Strs B w lv longs) (hll : longs.length ≤ 1000) (h : Vs w v l) (hf : ∀ x ∈ l, x.fits) (hw : wideS l = noStr) (all : List Val) (hpa : partsS l = some all)
    (hk : ∀ (n i : Nat), i < longs.length → whichS name n i < n) :
    Calls Tryz.prog 61 #[.string name, lv, v] w fun e w' => ∃ V, e = .returned V ∧ Strs w.heap.size w' V (spreadS name longs l) ∧ Below w.heap.size w w' := by
  have HB := Lib.hid hB
  have HS := Lib.hid hs
  have HK := Lib.hid hk
  obtain ⟨la, lc, rfl, _⟩ := hs.val
  have hF := parts_fits hf
  clear hB hs hk
  go_enter Tryz.func61, Tryz.ntmps61
  go_wp2_with fail
  refine (Wide_any w v l h hf).mono ?_
  rintro e w1 ⟨rfl, hb1⟩
  rw [hw]
  have hz1 : noStr.toList = [] := by rw [noStr, ByteArray.toList_eq]
  have hz2 : noStr.toList.isEmpty = true := by rw [hz1]; rfl
  have hv1 := h.next hb1
  go_wp2_with fail
  refine (parts_any w1 v l hv1).mono ?_
  rintro e w2 ⟨pv, rfl, hp2, hb2⟩
  have hB2 := bNext hb1 hb2
  have hSE := spreadS_eq name longs l
  rw [hpa] at hSE hp2 hF
  simp only [Option.isSome_some, Option.getD_some, if_true] at hSE hp2 hF
  rw [hpa]
  simp only [Option.isSome_some]
  have HE := Lib.hid hSE
  have hal := hp2.len
  have HP := Lib.hid hp2
  obtain ⟨pa, pc, rfl, hpc, _, hpr⟩ := hp2
  have HPR := Lib.hid hpr
  clear hv1 hb1 hb2 hpa hw h hf hSE hpr
  go_wp2_with fail
  refine (chooser_any w2 name _).mono ?_
  rintro e w3 ⟨g, rfl, hg, ht, hc3, hlt3, hb3⟩
  have hB3 := bNext hB2 hb3
  have HT := Lib.hid ht
  have HB3 := Lib.hid (HB.out.next hB3)
  have hsz3 := hB3.size
  obtain ⟨kb, hkb⟩ : ∃ k, w2.heap.size = k := ⟨_, rfl⟩
  rw [hkb] at HT hc3 hlt3 ⊢
  have HC3 := Lib.hid hc3
  have hsz2 := hb3.size
  clear ht hc3
  rcases hg with rfl | rfl
  all_goals
    go_wp2_with fail
    go_loopw [11, 12, 13, 14, 15, 16, 37] (fun out _ _ _ _ _ iv wr => ∃ (k : Nat) (acc : List ByteArray), k ≤ longs.length ∧ acc.length ≤ k ∧ iv = .int .i64 k ∧ Hid (spreadF name all all.length (longs.drop k) k acc = spreadS name longs l) ∧
        wr.ownsRow w3.heap.size 9 1 out acc.length (acc.map Value.string) ∧ Below w3.heap.size w3 wr)
      (fun _ _ _ _ _ _ iv _ => longs.length - (intOf iv).toNat)
    case atStart => exact ⟨0, [], by omega, Nat.le_refl _, rfl, Lib.hid (by rw [HE.out]; rfl), ⟨rfl, .inl ⟨rfl, rfl⟩⟩, Below.refl _ _⟩
    case round =>
      obtain ⟨k, acc, hk, hal2, rfl, HF, hown, hb⟩ := hrel
      have hBr := hB3.trans (hb.mono hsz3)
      by_cases hlt : k < longs.length
      · have hne : longs ≠ [] := by intro e; rw [e] at hlt; simp at hlt
        obtain ⟨b1, o1, c1', e1, _, hbb, hc1⟩ := HS.out.at hne
        simp only [Value.slice.injEq] at e1
        obtain ⟨rfl, -, -⟩ := e1
        have f1 : wr.cell? ⟨b1, o1 + k, none⟩ = some (.string longs[k]) := (hBr.cell (p := ⟨b1, _, none⟩) hbb).trans (hc1 k hlt)
        have hd := List.drop_eq_getElem_cons hlt
        have hkl := HK.out all.length k hlt
        obtain ⟨long, hlong⟩ : ∃ y, longs[k] = y := ⟨_, rfl⟩
        rw [hlong] at f1 hd
        have HD := Lib.hid hd
        have HBr := HB3.out.next hb
        have hbox : wr.cell? ⟨kb, 0, none⟩ = some (.int .i64 (all.length : Int)) := (hb.cell (p := ⟨kb, 0, none⟩) hlt3).trans HC3.out
        have q0 : (0 : Int) ≤ (k : Int) := by omega
        have q1 : (k : Int) < (longs.length : Int) := by omega
        clear hc1 hlong hd
        go_wp2_with fail
        refine (HT.out wr k HBr.sd hbox).mono ?_
        rintro e w5 ⟨rfl, hb5⟩
        have HB5 := HBr.next hb5
        have hb35 := hb.trans (hb5.mono hb.size)
        have hown5 := ownsRow_below hown hb5 (Nat.le_refl _)
        obtain ⟨kk, hkk⟩ : ∃ q, whichS name (all.length : Int) (k : Int) = q := ⟨_, rfl⟩
        rw [hkk] at hkl ⊢
        clear f1 hbox hown hb5
        have HN : Hid (spreadS name longs l = if kk < 0 then [] else match all[kk.toNat]? with
          | none => []
          | some x => match parseS long [x] with
            | none => []
            | some s => spreadF name all all.length (longs.drop (k + 1)) (k + 1) (acc ++ [s])) := Lib.hid (by rw [← HF.out, HD.out, spreadF, hkk])
        by_cases hk0 : kk < 0
        · have HR : Hid (spreadS name longs l = []) := Lib.hid (by rw [HN.out, if_pos hk0])
          go_wp2_with fail
          go_ret
          exact ⟨_, rfl, by rw [HR.out]; exact Rws.nil _ _ _, hB3.trans (hb35.mono hsz3)⟩
        · obtain ⟨q, rfl⟩ : ∃ q : Nat, kk = (q : Int) := ⟨kk.toNat, by omega⟩
          have hq : q < all.length := by omega
          have hane : all ≠ [] := by intro e; rw [e] at hq; simp at hq
          obtain ⟨pb, po, rfl, hpb, hpcell⟩ := HPR.out hane
          have hget : all[q]? = some all[q] := List.getElem?_eq_getElem hq
          have HN2 : Hid (spreadS name longs l = match parseS long [all[q]] with
            | none => []
            | some s => spreadF name all all.length (longs.drop (k + 1)) (k + 1) (acc ++ [s])) := Lib.hid (by rw [HN.out, if_neg hk0, Int.toNat_natCast, hget])
          have hxf := hF _ (List.getElem_mem hq)
          have hpl : pb < w3.heap.size := Nat.lt_of_lt_of_le (by omega) hsz2
          have hVs : Vs w5 (.slice (some ⟨pb, po + q * 6, none⟩) 1 (pc - q)) [all[q]] := by
            have h1 := Vs.sub (cellsX (hb3.mono (Nat.le_of_eq hkb.symm) |>.trans (hb35.mono (by omega))) (by omega) hpcell) q 1 (po + q * 6) (fun _ => rfl) (by omega) (by omega) (by have := hb35.size; omega) hpc hal
            rw [show (all.drop q).take 1 = [all[q]] by rw [List.drop_eq_getElem_cons hq]; rfl] at h1
            exact h1
          have w1' : IntKind.i64.wrap ((q : Int) + 1) = ((q + 1 : Nat) : Int) := by rw [Go.IntWalk.i64_in _ (by omega)]; omega
          have p1 : (0 : Int) ≤ (q : Int) := by omega
          have p2 : (q : Int) ≤ ((q + 1 : Nat) : Int) := by omega
          have p3 : ((q + 1 : Nat) : Int) ≤ (pc : Int) := by omega
          clear hk0 hget hpcell HN
          go_wp2_with fail
          refine (Parse_any w5 HB5.base long _ [all[q]] hVs (fun x hx => by rw [List.mem_singleton.1 hx]; exact hxf)).mono ?_
          rintro e w6 ⟨rfl, hb6⟩
          have hb36 := hb35.trans (hb6.mono hb35.size)
          have hown6 := ownsRow_below hown5 hb6 (Nat.le_refl _)
          have hsz6 := hb36.size
          clear hVs hown5 hb6 hb35
          cases hr : parseS long [all[q]] with
          | none =>
            have HR : Hid (spreadS name longs l = []) := Lib.hid (by rw [HN2.out, hr])
            simp only [resS]
            go_wp2_with fail
            go_ret
            exact ⟨_, rfl, by rw [HR.out]; exact Rws.nil _ _ _, hB3.trans (hb36.mono hsz3)⟩
          | some s =>
            have HN3 : Hid (spreadF name all all.length (longs.drop (k + 1)) (k + 1) (acc ++ [s]) = spreadS name longs l) := Lib.hid (by rw [HN2.out, hr])
            simp only [resS]
            go_wp2_with (at_builtin; refine wpList_append_str rfl _ _ 42 9 rfl w3.heap.size Tryz.underlying42 infoStr _ acc s rfl (hown6.alloc _) w6.heap.size rfl (by simp) (by omega) (by simp; omega) ?_; intro v' w7 hown7 hgrow hne7)
            go_roundw
            case rel => exact ⟨k + 1, acc ++ [s], by omega, by simp; omega, by go_num, HN3, hown7, (hb36.trans ((bAlloc1 w6 _).mono hsz6)).grown hgrow (by simp; omega) (fun j e => (hown6.lt j e).1)⟩
            case measure => simp [intOf]; omega
      · have hke : k = longs.length := by omega
        have q1 : ¬ (k : Int) < (longs.length : Int) := by omega
        have HR : Hid (spreadS name longs l = acc) := Lib.hid (by rw [← HF.out, hke, List.drop_length]; rfl)
        clear hke
        go_wp2_with fail
        go_ret
        exact ⟨_, rfl, by rw [HR.out]; exact (Strs.of_owns hown rfl).base hsz3, hB3.trans (hb.mono hsz3)⟩
set_option maxRecDepth 100000 in
set_option maxHeartbeats 8000000 in
theorem spread_none (w : World) (hB : Base16 w) (name : ByteArray) (longs : List ByteArray) (lv v : Value) (l : List Val) (B : Nat) (hs : Strs B w lv longs) (h : Vs w v l) (hf : ∀ x ∈ l, x.fits) (hw : wideS l = noStr) (hpa : partsS l = none) :
    Calls Tryz.prog 61 #[.string name, lv, v] w fun e w' => ∃ V, e = .returned V ∧ Strs w.heap.size w' V (spreadS name longs l) ∧ Below w.heap.size w w' := by
  have HB := Lib.hid hB
  have HS := Lib.hid hs
  obtain ⟨la, lc, rfl, _⟩ := hs.val
  have HR : Hid (spreadS name longs l = []) := Lib.hid (by unfold spreadS; rw [hpa])
  clear hB hs
  go_enter Tryz.func61, Tryz.ntmps61
  go_wp2_with fail
  refine (Wide_any w v l h hf).mono ?_
  rintro e w1 ⟨rfl, hb1⟩
  rw [hw]
  have hz1 : noStr.toList = [] := by rw [noStr, ByteArray.toList_eq]
  have hz2 : noStr.toList.isEmpty = true := by rw [hz1]; rfl
  have hv1 := h.next hb1
  go_wp2_with fail
  refine (parts_any w1 v l hv1).mono ?_
  rintro e w2 ⟨pv, rfl, hp2, hb2⟩
  have hB2 := bNext hb1 hb2
  rw [hpa] at hp2
  simp only [Option.getD_none] at hp2
  rw [hpa]
  simp only [Option.isSome_none]
  obtain ⟨pa, pc, rfl, _⟩ := hp2
  clear hv1 hb1 hb2 hpa hw h hf
  go_wp2_with fail
  refine (chooser_any w2 name _).mono ?_
  rintro e w3 ⟨g, rfl, hg, ht, hc3, hlt3, hb3⟩
  have hB3 := bNext hB2 hb3
  have HT := Lib.hid ht
  have HB3 := Lib.hid (HB.out.next hB3)
  obtain ⟨kb, hkb⟩ : ∃ k, w2.heap.size = k := ⟨_, rfl⟩
  rw [hkb] at HT hc3 hlt3 ⊢
  clear ht
  rcases hg with rfl | rfl
  all_goals
    go_wp2_with fail
    go_loopw [11, 12, 13, 14, 37] (fun out _ _ _ iv wr => out = .slice none 0 0 ∧ iv = .int .i64 0 ∧ wr = w3) (fun _ _ _ _ _ _ => 0)
    case atStart => exact ⟨rfl, rfl, rfl⟩
    case round =>
      obtain ⟨rfl, rfl, hwr⟩ := hrel
      subst hwr
      by_cases hlt : 0 < longs.length
      · have hne : longs ≠ [] := by intro e; rw [e] at hlt; simp at hlt
        obtain ⟨b1, o1, c1', e1, _, hbb, hc1⟩ := HS.out.at hne
        simp only [Value.slice.injEq] at e1
        obtain ⟨rfl, -, -⟩ := e1
        have f1 : wr.cell? ⟨b1, o1, none⟩ = some (.string longs[0]) := (hB3.cell (p := ⟨b1, _, none⟩) hbb).trans (hc1 0 hlt)
        have q1 : (0 : Int) < (longs.length : Int) := by omega
        clear hc1
        go_wp2_with fail
        refine (HT.out wr 0 HB3.out.sd hc3).mono ?_
        rintro e w5 ⟨rfl, hb5⟩
        have hB5 := bNext hB3 hb5
        go_wp2_with fail
        go_ret
        exact ⟨_, rfl, by rw [HR.out]; exact Rws.nil _ _ _, hB5⟩
      · have q1 : ¬ (0 : Int) < (longs.length : Int) := by omega
        go_wp2_with fail
        go_ret
        exact ⟨_, rfl, by rw [HR.out]; exact Rws.nil _ _ _, hB3⟩
theorem spread_plain (w : World) (hB : Base16 w) (name : ByteArray) (longs : List ByteArray) (lv v : Value) (l : List Val) (B : Nat) (hs : Strs B w lv longs) (hll : longs.length ≤ 1000) (h : Vs w v l) (hf : ∀ x ∈ l, x.fits) (hw : wideS l = noStr)
    (hk : ∀ (n i : Nat), i < longs.length → whichS name n i < n) :
    Calls Tryz.prog 61 #[.string name, lv, v] w fun e w' => ∃ V, e = .returned V ∧ Strs w.heap.size w' V (spreadS name longs l) ∧ Below w.heap.size w w' := by
  cases hpa : partsS l with
  | none => exact spread_none w hB name longs lv v l B hs h hf hw hpa
  | some all => exact spread_some w hB name longs lv v l B hs hll h hf hw all hpa hk
end Go.Proofs.YtpadcjcoafidgaaGreatDoor
