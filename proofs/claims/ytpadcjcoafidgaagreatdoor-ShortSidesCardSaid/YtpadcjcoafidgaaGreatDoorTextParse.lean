/- Texts whose tokens and values are computed. -/
import Derived.Test.YtpadcjcoafidgaaGreatDoorParse
import Derived.Test.YtpadcjcoafidgaaGreatDoorShapes
namespace Go.Proofs.YtpadcjcoafidgaaGreatDoor
open Go.RowKit

def toksOf (s : ByteArray) : List Tok := (lex (runesOf s)).getD []
def lexOk (s : ByteArray) : Bool := (runesOf s).all (fun c => decide (tm c)) && decide (s.size ≤ 10000) && (lex (runesOf s)).isSome && !(toksOf s).isEmpty && (toksOf s).all (fun t => decide (t.t.size ≤ 10000) && decide (t.u.size ≤ 10000))
theorem Lexes.of {s : ByteArray} (h : lexOk s = true) : Lexes s (toksOf s) := by
  unfold lexOk at h
  simp only [Bool.and_eq_true, List.all_eq_true, decide_eq_true_eq, Bool.not_eq_true'] at h
  obtain ⟨⟨⟨⟨h1, h2⟩, h3⟩, h4⟩, h5⟩ := h
  refine ⟨h1, ?_, h2, fun e => by rw [e] at h4; cases h4⟩
  unfold toksOf
  cases hl : Go.Proofs.YtpadcjcoafidgaaGreatDoor.lex (runesOf s) with
  | none => rw [hl] at h3; cases h3
  | some l => rfl
theorem fits_of {s : ByteArray} (h : lexOk s = true) : ∀ x ∈ (toksOf s).map Val.of, x.fits := by
  unfold lexOk at h
  simp only [Bool.and_eq_true, List.all_eq_true, decide_eq_true_eq, Bool.not_eq_true'] at h
  intro x hx
  obtain ⟨t, ht, rfl⟩ := List.mem_map.1 hx
  have := h.2 t ht
  exact ⟨Nat.le_trans this.1 (by decide), Nat.le_trans this.2 (by decide)⟩
def parseT (name s : ByteArray) : Option ByteArray := parseS name ((toksOf s).map Val.of)
def someEq (o : Option ByteArray) (b : ByteArray) : Bool := match o with
  | some x => eqB x b
  | none => false
theorem someEq_iff {o : Option ByteArray} {b : ByteArray} (h : someEq o b = true) : o = some b := by
  unfold someEq at h
  cases o with
  | none => cases h
  | some x => rw [(eqB_iff x b).1 h]
def initOk (r : Row) : Bool := lexOk r.2.1 && someEq (parseT r.1 r.2.1) r.2.1
theorem init_all : ∀ n : Fin 48, initOk (rowAt n.val) = true := by decide +kernel
def aWidth : ByteArray := ⟨#[119, 105, 100, 116, 104]⟩
def aColor : ByteArray := ⟨#[99, 111, 108, 111, 114]⟩
def aMarginTop : ByteArray := ⟨#[109, 97, 114, 103, 105, 110, 45, 116, 111, 112]⟩
def t10PX : ByteArray := ⟨#[49, 48, 80, 88]⟩
def tm1px : ByteArray := ⟨#[45, 49, 112, 120]⟩
def tF00 : ByteArray := ⟨#[35, 70, 48, 48]⟩
def t0 : ByteArray := ⟨#[48]⟩
def r10px : ByteArray := ⟨#[49, 48, 112, 120]⟩
def rff0000 : ByteArray := ⟨#[35, 102, 102, 48, 48, 48, 48]⟩
def r0px : ByteArray := ⟨#[48, 112, 120]⟩
theorem live1 : lexOk t10PX = true ∧ someEq (parseT aWidth t10PX) r10px = true := by decide +kernel
theorem live2 : lexOk tm1px = true ∧ (parseT aWidth tm1px).isNone = true := by decide +kernel
theorem live3 : lexOk tF00 = true ∧ someEq (parseT aColor tF00) rff0000 = true := by decide +kernel
theorem live4 : lexOk t0 = true ∧ someEq (parseT aMarginTop t0) r0px = true := by decide +kernel
def tINHERIT : ByteArray := ⟨#[32, 73, 78, 72, 69, 82, 73, 84, 32]⟩
def rinherit : ByteArray := ⟨#[105, 110, 104, 101, 114, 105, 116]⟩
theorem live5 : lexOk tINHERIT = true ∧ eqB (wideS ((toksOf tINHERIT).map Val.of)) rinherit = true := by decide +kernel
end Go.Proofs.YtpadcjcoafidgaaGreatDoor
