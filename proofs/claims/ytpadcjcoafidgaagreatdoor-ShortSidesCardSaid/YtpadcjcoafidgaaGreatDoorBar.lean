/- Plain laws on the parts of a text between the signs 124: put together again they are the text; none has the sign. -/
import Derived.Test.YtpadcjcoafidgaaGreatDoorSplit
namespace Go.Proofs.YtpadcjcoafidgaaGreatDoor

/-- Parts with the sign between. -/
def joinBar : List (List UInt8) → List UInt8
  | [] => []
  | [x] => x
  | x :: y :: r => x ++ 124 :: joinBar (y :: r)
theorem splitBar_ne (l : List UInt8) : splitBar l ≠ [] := by
  cases l with
  | nil => simp [splitBar]
  | cons c l => simp only [splitBar]; split <;> simp
theorem joinBar_cons {x : List UInt8} {r : List (List UInt8)} (h : r ≠ []) : joinBar (x :: r) = x ++ 124 :: joinBar r := by
  cases r with
  | nil => exact absurd rfl h
  | cons y r => rfl
theorem join_split : ∀ l : List UInt8, joinBar (splitBar l) = l
  | [] => rfl
  | c :: l => by
    have ih := join_split l
    simp only [splitBar]
    split
    · rename_i hc
      rw [joinBar_cons (splitBar_ne l), ih]
      simp at hc
      simp [hc]
    · cases h : splitBar l with
      | nil => exact absurd h (splitBar_ne l)
      | cons y r =>
        rw [h] at ih
        cases r with
        | nil => simp only [List.headD_cons, List.tail_cons, joinBar] at ih ⊢; rw [ih]
        | cons z r => simp only [List.headD_cons, List.tail_cons, joinBar, List.cons_append] at ih ⊢; rw [ih]
theorem split_noBar : ∀ (l : List UInt8), ∀ p ∈ splitBar l, ∀ c ∈ p, c ≠ 124
  | [], p, hp, c, hc => by simp [splitBar] at hp; subst hp; simp at hc
  | d :: l, p, hp, c, hc => by
    have ih := split_noBar l
    simp only [splitBar] at hp
    split at hp
    · rcases List.mem_cons.1 hp with rfl | hp
      · simp at hc
      · exact ih p hp c hc
    · rename_i hd
      cases h : splitBar l with
      | nil => exact absurd h (splitBar_ne l)
      | cons y r =>
        rw [h] at hp ih
        simp only [List.headD_cons, List.tail_cons] at hp
        rcases List.mem_cons.1 hp with rfl | hp
        · rcases List.mem_cons.1 hc with rfl | hc
          · simpa using hd
          · exact ih y (by simp) c hc
        · exact ih p (by simp [hp]) c hc
theorem joinBar_snoc : ∀ (L : List (List UInt8)) (x : List UInt8), joinBar (L ++ [x]) = (if L = [] then [] else joinBar L ++ [124]) ++ x
  | [], x => by simp [joinBar]
  | [y], x => by simp [joinBar]
  | y :: z :: r, x => by
    have ih := joinBar_snoc (z :: r) x
    rw [show y :: z :: r ++ [x] = y :: (z :: r ++ [x]) from rfl, joinBar_cons (r := z :: r ++ [x]) (by simp), ih, if_neg (by simp), if_neg (by simp), joinBar_cons (x := y) (r := z :: r) (by simp)]
    simp
theorem joinBar_prefix : ∀ (L M : List (List UInt8)), (joinBar L).length ≤ (joinBar (L ++ M)).length
  | [], M => by simp [joinBar]
  | [y], M => by
    cases M with
    | nil => simp
    | cons m M => simp [joinBar]
  | y :: z :: r, M => by
    have ih := joinBar_prefix (z :: r) M
    rw [show y :: z :: r ++ M = y :: (z :: r ++ M) from rfl, joinBar_cons (r := z :: r ++ M) (by simp), joinBar_cons (x := y) (r := z :: r) (by simp)]
    simp only [List.length_append, List.length_cons]
    exact Nat.add_le_add_left (Nat.succ_le_succ ih) _

/-- What the first k parts come to, with the sign between. -/
def acc (f : ByteArray) (k : Nat) : ByteArray := bts (joinBar ((splitBar f.data.toList).take k))
theorem parts_len (f : ByteArray) : (parts f).length = (splitBar f.data.toList).length := by simp [parts]
theorem bts_append (a b : List UInt8) : bts a ++ bts b = bts (a ++ b) := by
  rw [← Joins.bytes_eta (bts a ++ bts b), Joins.data_append]
  simp [bts]
theorem acc_zero (f : ByteArray) : acc f 0 = ⟨#[]⟩ := by simp [acc, joinBar, bts]
theorem acc_one (f : ByteArray) (h : 0 < (parts f).length) : acc f 0 ++ (parts f)[0] = acc f 1 := by
  rw [parts_len] at h
  have e1 : (parts f)[0]'(by rw [parts_len]; exact h) = bts (splitBar f.data.toList)[0] := by simp [parts]
  rw [e1]
  unfold acc
  rw [bts_append, List.take_succ_eq_append_getElem h]
  simp [joinBar]
theorem acc_succ (f : ByteArray) (k : Nat) (h0 : 0 < k) (h : k < (parts f).length) : acc f k ++ ⟨#[124]⟩ ++ (parts f)[k] = acc f (k + 1) := by
  have h' := h
  rw [parts_len] at h'
  have e1 : (parts f)[k] = bts (splitBar f.data.toList)[k] := by simp [parts]
  have e2 : (⟨#[124]⟩ : ByteArray) = bts [124] := rfl
  rw [e1, e2]
  unfold acc
  rw [bts_append, bts_append, List.take_succ_eq_append_getElem h', joinBar_snoc, if_neg]
  intro e
  have h3 : ((splitBar f.data.toList).take k).length = k := by rw [List.length_take]; omega
  rw [e] at h3
  simp at h3
  omega
theorem acc_all (f : ByteArray) : acc f (parts f).length = f := by
  unfold acc
  rw [parts_len, List.take_length, join_split]
  exact Joins.bytes_eta f
theorem acc_size (f : ByteArray) (k : Nat) : (acc f k).size ≤ f.size := by
  have h1 := joinBar_prefix ((splitBar f.data.toList).take k) ((splitBar f.data.toList).drop k)
  rw [List.take_append_drop, join_split] at h1
  have e1 : (acc f k).size = (joinBar ((splitBar f.data.toList).take k)).length := List.size_toArray
  have e2 : f.size = f.data.toList.length := Array.length_toList.symm
  omega
theorem parts_size (f : ByteArray) (k : Nat) (h : k < (parts f).length) : (parts f)[k].size ≤ f.size := by
  have h1 := acc_size f (k + 1)
  by_cases h0 : k = 0
  · subst h0
    rw [← acc_one f h] at h1
    simp at h1
    omega
  · rw [← acc_succ f k (by omega) h] at h1
    simp at h1
    omega
theorem parts_noBar (f : ByteArray) (k : Nat) (h : k < (parts f).length) (j : Nat) (hj : j < (parts f)[k].size) : ((parts f)[k])[j] ≠ 124 := by
  have hm : (splitBar f.data.toList)[k]'(by rw [← parts_len]; exact h) ∈ splitBar f.data.toList := List.getElem_mem _
  refine split_noBar f.data.toList _ hm _ ?_
  have e1 : (parts f)[k] = bts ((splitBar f.data.toList)[k]'(by rw [← parts_len]; exact h)) := by simp [parts]
  have e2 : ∀ (x : ByteArray) (l : List UInt8) (e : x = bts l) (j : Nat) (hj : j < x.size), x[j] ∈ l := by
    intro x l e j hj
    subst e
    have : (bts l)[j] = l[j]'(by simpa [bts, ByteArray.size] using hj) := rfl
    rw [this]
    exact List.getElem_mem _
  exact e2 _ _ e1 j hj
theorem parts_pos (f : ByteArray) : 1 ≤ (parts f).length := by
  rw [parts_len]
  have := splitBar_ne f.data.toList
  cases h : splitBar f.data.toList with
  | nil => exact absurd h this
  | cons _ _ => simp
end Go.Proofs.YtpadcjcoafidgaaGreatDoor
