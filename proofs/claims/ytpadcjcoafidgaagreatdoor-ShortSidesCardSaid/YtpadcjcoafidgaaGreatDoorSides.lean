/- short.Sides, short.chooser and what it hands back. -/
import Derived.Test.YtpadcjcoafidgaaGreatDoorParse
import Derived.Test.YtpadcjcoafidgaaGreatDoorShorts
namespace Go.Proofs.YtpadcjcoafidgaaGreatDoor
open Go.RowKit

def sidesTbl : List Int := [0, 0, 0, 0, 0, 1, 0, 1, 0, 1, 2, 1, 0, 1, 2, 3]
def sideAt (a b : Nat) : Int := sidesTbl[a * 4 + b]?.getD 0
/-- The variable short.sides lies as the program's text lays it. -/
def SidesIn (w : World) : Prop := 1 < w.heap.size ∧ ∀ a b, a < 4 → b < 4 → w.cell? ⟨1, a * 4 + b, none⟩ = some (.int .i64 (sideAt a b))
theorem SidesIn.next {w w' : World} (h : SidesIn w) (hb : Below w.heap.size w w') : SidesIn w' :=
  ⟨Nat.lt_of_lt_of_le h.1 hb.size, fun a b ha hb' => (hb.cell (p := ⟨1, _, none⟩) h.1).trans (h.2 a b ha hb')⟩
def sidesS (n i : Int) : Int := if n < 1 ∨ 4 < n ∨ i < 0 ∨ 4 ≤ i then -1 else sideAt (n - 1).toNat i.toNat
set_option maxHeartbeats 1000000 in
theorem Sides_any (w : World) (h : SidesIn w) (n i : Int) :
    Calls Tryz.prog 22 #[.int .i64 n, .int .i64 i] w fun e w' => e = .returned (.int .i64 (sidesS n i)) ∧ w' = w := by
  have H := Lib.hid h
  clear h
  by_cases h1 : n < 1
  · have HV : Hid (sidesS n i = -1) := Lib.hid (if_pos (.inl h1))
    go_enter Tryz.func22, Tryz.ntmps22
    go_wp2_with fail
    go_ret
    exact ⟨by rw [HV.out]; rfl, rfl⟩
  · by_cases h2 : 4 < n
    · have HV : Hid (sidesS n i = -1) := Lib.hid (if_pos (.inr (.inl h2)))
      go_enter Tryz.func22, Tryz.ntmps22
      go_wp2_with fail
      go_ret
      exact ⟨by rw [HV.out]; rfl, rfl⟩
    · by_cases h3 : i < 0
      · have HV : Hid (sidesS n i = -1) := Lib.hid (if_pos (.inr (.inr (.inl h3))))
        go_enter Tryz.func22, Tryz.ntmps22
        go_wp2_with fail
        go_ret
        exact ⟨by rw [HV.out]; rfl, rfl⟩
      · by_cases h4 : 4 ≤ i
        · have HV : Hid (sidesS n i = -1) := Lib.hid (if_pos (.inr (.inr (.inr h4))))
          go_enter Tryz.func22, Tryz.ntmps22
          go_wp2_with fail
          go_ret
          exact ⟨by rw [HV.out]; rfl, rfl⟩
        · have HV : Hid (sidesS n i = sideAt (n - 1).toNat i.toNat) := Lib.hid (if_neg (by omega))
          obtain ⟨a, ha⟩ : ∃ a : Nat, n - 1 = (a : Int) := ⟨(n - 1).toNat, by omega⟩
          obtain ⟨b, rfl⟩ : ∃ b : Nat, i = (b : Int) := ⟨i.toNat, by omega⟩
          have ha4 : a < 4 := by omega
          have hb4 : b < 4 := by omega
          have c0 := H.out.2 a b ha4 hb4
          have hw : IntKind.i64.wrap (n - 1) = (a : Int) := by rw [Go.IntWalk.i64_in _ (by omega)]; exact ha
          have q1 : (0 : Int) ≤ (a : Int) := by omega
          have q2 : (a : Int) < 4 := by omega
          have q3 : (0 : Int) ≤ (b : Int) := by omega
          have q4 : (b : Int) < 4 := by omega
          have HV2 : Hid (sidesS n (b : Int) = sideAt a b) := Lib.hid (by rw [HV.out, ha]; rfl)
          clear HV ha
          go_enter Tryz.func22, Tryz.ntmps22
          go_wp2_with fail
          go_ret
          exact ⟨by rw [HV2.out]; rfl, rfl⟩
def overS (n i : Int) : Int := if n = 1 then 0 else if n = 2 then i else -1
theorem which_sides (w : World) (h : SidesIn w) (n i : Int) (b : Nat) (hc : w.cell? ⟨b, 0, none⟩ = some (.int .i64 n)) :
    Calls Tryz.prog 94 #[.int .i64 i, .pointer (some ⟨b, 0, none⟩)] w fun e w' => e = .returned (.int .i64 (sidesS n i)) ∧ Below w.heap.size w w' := by
  go_enter Tryz.func94, Tryz.ntmps94
  go_wp2_with fail
  refine (Sides_any w h n i).mono ?_
  rintro e w1 ⟨rfl, rfl⟩
  go_wp2_with fail
  go_ret
  exact ⟨rfl, Below.refl _ _⟩
theorem which_over (w : World) (n i : Int) (b : Nat) (hc : w.cell? ⟨b, 0, none⟩ = some (.int .i64 n)) :
    Calls Tryz.prog 95 #[.int .i64 i, .pointer (some ⟨b, 0, none⟩)] w fun e w' => e = .returned (.int .i64 (overS n i)) ∧ Below w.heap.size w w' := by
  by_cases h1 : n = 1
  · have HV : Hid (overS n i = 0) := Lib.hid (if_pos h1)
    go_enter Tryz.func95, Tryz.ntmps95
    go_wp2_with fail
    go_ret
    exact ⟨by rw [HV.out]; rfl, Below.refl _ _⟩
  · by_cases h2 : n = 2
    · have HV : Hid (overS n i = i) := Lib.hid (by unfold overS; rw [if_neg h1, if_pos h2])
      go_enter Tryz.func95, Tryz.ntmps95
      go_wp2_with fail
      go_ret
      exact ⟨by rw [HV.out]; rfl, Below.refl _ _⟩
    · have HV : Hid (overS n i = -1) := Lib.hid (by unfold overS; rw [if_neg h1, if_neg h2])
      go_enter Tryz.func95, Tryz.ntmps95
      go_wp2_with fail
      go_ret
      exact ⟨by rw [HV.out]; rfl, Below.refl _ _⟩
def aOverflow : ByteArray := ⟨#[111, 118, 101, 114, 102, 108, 111, 119]⟩
/-- Which part a longhand has, of n. -/
def whichS (name : ByteArray) (n i : Int) : Int := if eqB name aOverflow = true then overS n i else sidesS n i
theorem chooser_any (w : World) (name : ByteArray) (n : Int) :
    Calls Tryz.prog 56 #[.string name, .int .i64 n] w fun e w' => ∃ g, e = .returned (.func (.func g) #[] #[.pointer (some ⟨w.heap.size, 0, none⟩)]) ∧ (g = 94 ∨ g = 95) ∧
      (∀ (W : World) (i : Int), SidesIn W → W.cell? ⟨w.heap.size, 0, none⟩ = some (.int .i64 n) → Calls Tryz.prog g #[.int .i64 i, .pointer (some ⟨w.heap.size, 0, none⟩)] W fun e w' => e = .returned (.int .i64 (whichS name n i)) ∧ Below W.heap.size W w') ∧
      w'.cell? ⟨w.heap.size, 0, none⟩ = some (.int .i64 n) ∧ w.heap.size < w'.heap.size ∧ Below w.heap.size w w' := by
  have t1 : (name.toList == [111, 118, 101, 114, 102, 108, 111, 119]) = eqB name aOverflow := toList_lit name aOverflow _ rfl
  cases he : eqB name aOverflow
  · rw [he] at t1
    have HT : Hid (∀ (W : World) (i : Int), SidesIn W → W.cell? ⟨w.heap.size, 0, none⟩ = some (.int .i64 n) → Calls Tryz.prog 94 #[.int .i64 i, .pointer (some ⟨w.heap.size, 0, none⟩)] W fun e w' => e = .returned (.int .i64 (whichS name n i)) ∧ Below W.heap.size W w') := Lib.hid (fun W i hS hc => by
      have := which_sides W hS n i _ hc
      unfold whichS
      rw [he]
      exact this)
    clear he
    go_enter Tryz.func56, Tryz.ntmps56
    go_wp2_with fail
    go_ret
    exact ⟨_, rfl, .inl rfl, HT.out, by simp, by simp, bAlloc1 _ _⟩
  · rw [he] at t1
    have HT : Hid (∀ (W : World) (i : Int), SidesIn W → W.cell? ⟨w.heap.size, 0, none⟩ = some (.int .i64 n) → Calls Tryz.prog 95 #[.int .i64 i, .pointer (some ⟨w.heap.size, 0, none⟩)] W fun e w' => e = .returned (.int .i64 (whichS name n i)) ∧ Below W.heap.size W w') := Lib.hid (fun W i hS hc => by
      have := which_over W n i _ hc
      unfold whichS
      rw [he]
      exact this)
    clear he
    go_enter Tryz.func56, Tryz.ntmps56
    go_wp2_with fail
    go_ret
    exact ⟨_, rfl, .inr rfl, HT.out, by simp, by simp, bAlloc1 _ _⟩
end Go.Proofs.YtpadcjcoafidgaaGreatDoor
