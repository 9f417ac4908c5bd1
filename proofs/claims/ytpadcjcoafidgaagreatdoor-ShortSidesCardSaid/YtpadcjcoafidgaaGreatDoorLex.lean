/- What the tokens of a tame text are. -/
import Derived.Test.YtpadcjcoafidgaaGreatDoorNumberWalk
namespace Go.Proofs.YtpadcjcoafidgaaGreatDoor
open Go.RowKit

/-- A token. -/
structure Tok where
  k : Int
  t : ByteArray
  u : ByteArray
  wh : Bool
  fl : Bool
def Tok.row (x : Tok) : List Value := [.int .i64 x.k, .string x.t, .string x.u, .bool x.wh, .bool x.fl]
def Tok.val (x : Tok) : Value := tokV x.k x.t x.u x.wh x.fl
theorem Tok.val_row (x : Tok) : x.val = .agg x.row.toArray := rfl
def spaceT : Tok := ⟨13, noStr, noStr, false, false⟩
def wordT (s : List Int) : Tok := ⟨1, strOf (s.takeWhile isPart), noStr, false, false⟩
def hashT (s : List Int) : Tok := ⟨4, strOf ((s.drop 1).takeWhile isPart), noStr, false, begins (s.drop 1)⟩
def numT (s : List Int) : Tok :=
  if begins (s.drop (digLen s)) = true then ⟨12, strOf (s.take (digLen s)), strOf ((s.drop (digLen s)).takeWhile isPart), true, false⟩
  else if at_ (s.drop (digLen s)) 0 = 37 then ⟨11, strOf (s.take (digLen s)), noStr, true, false⟩
  else ⟨10, strOf (s.take (digLen s)), noStr, true, false⟩
theorem numT_val (s : List Int) : (numT s).val = numTok s := by
  unfold numT numTok
  split
  · rfl
  · split <;> rfl
instance (s : List Int) : Decidable (NoExp s) := by unfold NoExp; infer_instance
/-- One token, and how many runes it has; none: it is none of those that are spoken of here. -/
def step (s : List Int) : Option (Tok × Nat) :=
  if isBlank (at_ s 0) = true then some (spaceT, (s.takeWhile isBlank).length)
  else if at_ s 0 = 35 then (if at_ s 1 ≠ -1 ∧ isPart (at_ s 1) = true then some (hashT s, 1 + nameLen (s.drop 1)) else none)
  else if counts s = true then (if NoExp s then some (numT s, numLen s) else none)
  else if begins s = true then some (wordT s, nameLen s)
  else none
def lexF : Nat → List Int → Option (List Tok)
  | _, [] => some []
  | 0, _ :: _ => none
  | n + 1, a :: s => (step (a :: s)).bind fun p => (lexF n ((a :: s).drop p.2)).map (p.1 :: ·)
/-- The tokens of a text. -/
def lex (s : List Int) : Option (List Tok) := lexF s.length s
theorem lexF_cons (n : Nat) (s : List Int) (l : List Tok) (hs : s ≠ []) (h : lexF n s = some l) : ∃ m t k r, n = m + 1 ∧ step s = some (t, k) ∧ lexF m (s.drop k) = some r ∧ l = t :: r := by
  cases s with
  | nil => exact absurd rfl hs
  | cons a s =>
    cases n with
    | zero => simp [lexF] at h
    | succ m =>
      rw [lexF] at h
      obtain ⟨⟨t, k⟩, h1, h2⟩ := Option.bind_eq_some_iff.1 h
      obtain ⟨r, h3, h4⟩ := Option.map_eq_some_iff.1 h2
      exact ⟨m, t, k, r, rfl, h1, h3, h4.symm⟩
theorem lexF_step (n : Nat) (s : List Int) (t : Tok) (k : Nat) (r : List Tok) (hs : s ≠ []) (h1 : step s = some (t, k)) (h2 : lexF n (s.drop k) = some r) : lexF (n + 1) s = some (t :: r) := by
  cases s with
  | nil => exact absurd rfl hs
  | cons a s => rw [lexF, h1]; simp only [Option.bind_some, h2, Option.map_some]
end Go.Proofs.YtpadcjcoafidgaaGreatDoor
