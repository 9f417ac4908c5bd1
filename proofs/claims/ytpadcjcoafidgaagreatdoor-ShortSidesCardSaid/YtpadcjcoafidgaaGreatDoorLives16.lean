/- gouachelaw16.lives. -/
import Derived.Test.YtpadcjcoafidgaaGreatDoorJoin
import Derived.Test.YtpadcjcoafidgaaGreatDoorLives15
namespace Go.Proofs.YtpadcjcoafidgaaGreatDoor
open Go.RowKit

def longEq (x y : LongT) : Bool := eqB x.1 y.1 && eqB x.2.1 y.2.1 && (x.2.2 == y.2.2)
theorem longEq_iff {x y : LongT} (h : longEq x y = true) : x = y := by
  obtain ⟨a, b, c⟩ := x
  obtain ⟨d, e, f⟩ := y
  unfold longEq at h
  simp only [Bool.and_eq_true, beq_iff_eq] at h
  obtain ⟨⟨h1, h2⟩, h3⟩ := h
  rw [(eqB_iff _ _).1 h1, (eqB_iff _ _).1 h2, h3]
def longsEq : List LongT → List LongT → Bool
  | [], [] => true
  | x :: l, y :: r => longEq x y && longsEq l r
  | _, _ => false
theorem longsEq_iff : ∀ {l r : List LongT}, longsEq l r = true → l = r
  | [], [], _ => rfl
  | x :: l, y :: r, h => by
    unfold longsEq at h
    rw [Bool.and_eq_true] at h
    rw [longEq_iff h.1, longsEq_iff h.2]
  | [], _ :: _, h => by cases h
  | _ :: _, [], h => by cases h
def aMargin : ByteArray := ⟨#[109, 97, 114, 103, 105, 110]⟩
def aMarginRight : ByteArray := ⟨#[109, 97, 114, 103, 105, 110, 45, 114, 105, 103, 104, 116]⟩
def aMarginBottom : ByteArray := ⟨#[109, 97, 114, 103, 105, 110, 45, 98, 111, 116, 116, 111, 109]⟩
def aMarginLeft : ByteArray := ⟨#[109, 97, 114, 103, 105, 110, 45, 108, 101, 102, 116]⟩
def t1p2p : ByteArray := ⟨#[49, 112, 120, 32, 50, 112, 120]⟩
def r1px : ByteArray := ⟨#[49, 112, 120]⟩
def r2px : ByteArray := ⟨#[50, 112, 120]⟩
def marginLongs : List LongT := [(aMarginTop, r1px, false), (aMarginRight, r2px, false), (aMarginBottom, r1px, false), (aMarginLeft, r2px, false)]
theorem live6 : lexOk t1p2p = true ∧ eqB (wideS ((toksOf t1p2p).map Val.of)) noStr = true ∧ (placeN aMargin).isNone = true ∧ longsEq (expandS aMargin ((toksOf t1p2p).map Val.of) false) marginLongs = true := by decide +kernel
theorem live7 : someEq (joinS aMargin [r1px, r2px, r1px, r2px]) t1p2p = true := by decide +kernel
theorem Ss.new (w : World) (l : List ByteArray) (t : TypeId) : Ss (w.alloc (.cells (l.map Value.string).toArray t)) (.slice (some ⟨w.heap.size, 0, none⟩) l.length l.length) l :=
  ⟨_, l.length, rfl, Nat.le_refl _, fun _ => ⟨w.heap.size, 0, rfl, by simp, fun i hi => by
    have hn := heap_alloc_new w (.cells (l.map Value.string).toArray t)
    simp only [World.cell?, hn, Nat.zero_add]
    simp [hi]⟩⟩
set_option maxRecDepth 100000 in
set_option maxHeartbeats 4000000 in
theorem lives16_any (w : World) (hB : Base16 w) :
    Calls Tryz.prog 19 #[] w fun e w' => e = .returned (.bool true) ∧ Below w.heap.size w w' := by
  have HB := Lib.hid hB
  clear hB
  go_enter Tryz.func19, Tryz.ntmps19
  go_wp2_with fail
  refine (values16_any w t1p2p _ (Lexes.of live6.1)).mono ?_
  rintro e w1 ⟨v1, rfl, hv1, hb1⟩
  obtain ⟨va, vc, rfl, hrest⟩ := id hv1
  clear hrest
  go_wp2_with fail
  refine (Expand_short w1 (HB.out.next hb1) aMargin _ _ false hv1 (fits_of live6.1) ((eqB_iff _ _).1 live6.2.1) (Option.isNone_iff_eq_none.1 live6.2.2.1) _ _ _ rfl).mono ?_
  rintro e w2 ⟨v2, rfl, hr2, hb2⟩
  rw [show expandS aMargin ((toksOf t1p2p).map Val.of) false = marginLongs from longsEq_iff live6.2.2.2] at hr2
  have hB2 := bNext hb1 hb2
  have HR2 := Lib.hid hr2
  obtain ⟨b2, o2, c2, rfl, _, hlt2, hc2⟩ := hr2.shape (by decide)
  have HC2 := Lib.hid hc2
  clear hv1 hb1 hb2 hr2 hc2
  go_wp2_with fail
  refine (Join_any _ (HB.out.next (bNext hB2 (bAlloc1 w2 _))) aMargin _ [r1px, r2px, r1px, r2px] (Ss.new w2 [r1px, r2px, r1px, r2px] 9) (by decide) (by decide)).mono ?_
  rintro e w3 ⟨rfl, hb3⟩
  rw [show joinS aMargin [r1px, r2px, r1px, r2px] = some t1p2p from someEq_iff live7]
  simp only [resS]
  have hB3 := bNext (bNext hB2 (bAlloc1 w2 _)) hb3
  have hb23 := bNext (bAlloc1 w2 _) hb3
  have cc := fun (i j : Nat) (x : Value) (h : ((marginLongs.map LongT.row)[i]?.getD [])[j]? = some x) => (hb23.cell (p := ⟨b2, o2 + i * 3 + j, none⟩) hlt2).trans (HC2.out i j x h)
  have x0 : w3.cell? ⟨b2, o2, none⟩ = some (.string aMarginTop) := cc 0 0 _ rfl
  have x1 : w3.cell? ⟨b2, o2 + 1, none⟩ = some (.string r1px) := cc 0 1 _ rfl
  have x2 : w3.cell? ⟨b2, o2 + 2, none⟩ = some (.bool false) := cc 0 2 _ rfl
  have y0 : w3.cell? ⟨b2, o2 + 9, none⟩ = some (.string aMarginLeft) := cc 3 0 _ rfl
  have y1 : w3.cell? ⟨b2, o2 + 9 + 1, none⟩ = some (.string r2px) := cc 3 1 _ rfl
  have y2 : w3.cell? ⟨b2, o2 + 9 + 2, none⟩ = some (.bool false) := cc 3 2 _ rfl
  have h_aMarginTop : aMarginTop.toList = [109, 97, 114, 103, 105, 110, 45, 116, 111, 112] := by rw [ByteArray.toList_eq]; rfl
  have h_aMarginLeft : aMarginLeft.toList = [109, 97, 114, 103, 105, 110, 45, 108, 101, 102, 116] := by rw [ByteArray.toList_eq]; rfl
  have h_r1px : r1px.toList = [49, 112, 120] := by rw [ByteArray.toList_eq]; rfl
  have h_r2px : r2px.toList = [50, 112, 120] := by rw [ByteArray.toList_eq]; rfl
  have h_t1p2p : t1p2p.toList = [49, 112, 120, 32, 50, 112, 120] := by rw [ByteArray.toList_eq]; rfl
  clear cc
  go_wp2_with fail
  go_ret
  exact ⟨rfl, hB3⟩
end Go.Proofs.YtpadcjcoafidgaaGreatDoor
