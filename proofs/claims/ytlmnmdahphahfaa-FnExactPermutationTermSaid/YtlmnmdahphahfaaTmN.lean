/-
  THE STACK MACHINE's STEPS (plain).
-/
import Derived.Test.YtlmnmdahphahfaaTmL
namespace Go.Proofs.Ytlmnmdahphahfaa
open Go.RowKit

theorem parse_none {l : List Nd} {k : Nat} {n : Nd} {st : List Tr} (h : parse [] (l.take k) = some st) (hn : l[k]? = some n) (hs : stepT st n = none) : treeM l = none := by
  have hk := (List.getElem?_eq_some_iff.1 hn).1
  have e : l = l.take (k + 1) ++ l.drop (k + 1) := (List.take_append_drop _ _).symm
  have e2 : l.take (k + 1) = l.take k ++ [n] := by rw [List.take_add_one, hn]; rfl
  have : parse [] l = none := by
    rw [e, parse_append, e2, parse_snoc, h, Option.bind_some, hs]; rfl
  unfold treeM
  rw [this]
  split <;> rfl
theorem parse_more {l : List Nd} {k : Nat} {n : Nd} {st st' : List Tr} (h : parse [] (l.take k) = some st) (hn : l[k]? = some n) (hs : stepT st n = some st') : parse [] (l.take (k + 1)) = some st' := by
  have e2 : l.take (k + 1) = l.take k ++ [n] := by rw [List.take_add_one, hn]; rfl
  rw [e2, parse_snoc, h, Option.bind_some, hs]

def oneOf : List Tr → Option Tr
  | [t] => some t
  | _ => none
theorem treeM_of {l : List Nd} {st : List Tr} (h : 1 ≤ l.length ∧ l.length ≤ 400) (hp : parse [] l = some st) : treeM l = oneOf st := by
  unfold treeM
  rw [if_pos h, hp]
  match st with
  | [] => rfl
  | [_] => rfl
  | _ :: _ :: _ => rfl
theorem oneOf_some : ∀ {st : List Tr} {t : Tr}, oneOf st = some t → st = [t]
  | [_], _, h => by rw [Option.some.inj h]
theorem oneOf_one : ∀ {st : List Tr} {n : Nat}, n = st.length → ((n : Int) == 1) = (oneOf st).isSome
  | [], n, h => by obtain rfl : n = 0 := h; rfl
  | [_], n, h => by obtain rfl : n = 1 := h; rfl
  | _ :: _ :: r, n, h => by
    have : ((n : Int) == 1) = false := by simp only [beq_eq_false_iff_ne]; simp only [List.length_cons] at h; omega
    rw [this]; rfl
theorem step_leaf {st : List Tr} {n : Nd} (hj : ¬ isJoin n) : stepT st n = if leafB n = true then some (.leaf n :: st) else none := by
  unfold stepT; rw [if_neg hj]
theorem step_none {st : List Tr} {n : Nd} (hj : isJoin n) (h : n.2.1 ≠ 0 ∨ n.2.2 ≠ noName ∨ st.length < 2) : stepT st n = none := by
  unfold stepT
  rw [if_pos hj]
  match st, h with
  | [], _ => rfl
  | [_], _ => rfl
  | b :: a :: r, h =>
    simp only [List.length_cons]  at h
    simp only
    rw [if_neg]
    rintro ⟨h1, h2, _⟩
    rcases h with h | h | h
    · exact h h1
    · exact h h2
    · omega
theorem step_join {r : List Tr} {a b : Tr} (p : Bool) : stepT (b :: a :: r) (joinNd p) = if joinB p (ty a) (ty b) = true then some (.node p a b :: r) else none := by
  unfold stepT
  rw [if_pos (joinNd_is p)]
  simp only [joinNd_kd]
  by_cases h : joinB p (ty a) (ty b) = true
  · rw [if_pos ⟨rfl, rfl, h⟩, if_pos h]
  · rw [if_neg (fun hh => h hh.2.2), if_neg h]
theorem name_eq {s : ByteArray} (h : s.toList = []) : s = noName := name_yes (by simp [h])
theorem name_ne {s : ByteArray} (h : ¬ s.toList = []) : s ≠ noName := name_no (by simpa using h)
theorem two_of {st : List Tr} {q : Nat} (h : q + 2 = st.length) : ∃ b a r, st = b :: a :: r ∧ r.length = q := by
  match st, h with
  | [], h => simp at h
  | [_], h => simp at h
  | b :: a :: r, h => exact ⟨b, a, r, rfl, by simp at h; omega⟩
end Go.Proofs.Ytlmnmdahphahfaa
