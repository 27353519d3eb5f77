/-
  PLAIN: the part of a term at a place: subM.
-/
import Derived.Test.YtlmnmdahphahfaaTmM
import Derived.Test.YtlmnmdahphahfaaTmB
namespace Go.Proofs.Ytlmnmdahphahfaa
open Go.RowKit

/-- The walk back ends. -/
def reach : Nat → List Nd → Prop
  | _, [] => False
  | o, n :: r => (if isJoin n then o + 1 else o - 1) = 0 ∨ reach (if isJoin n then o + 1 else o - 1) r
theorem reach_flat : ∀ (t : Tr), wt t → ∀ (o : Nat) (r : List Nd), (o = 0 ∨ reach o r) → reach (o + 1) ((flat t).reverse ++ r)
  | .leaf n, h, o, r, hr => by
    have := leafB_kind h
    simp only [flat, List.reverse_cons, List.reverse_nil, List.nil_append, List.cons_append, reach, this, if_false, Nat.add_sub_cancel]
    exact hr
  | .node p a b, h, o, r, hr => by
    obtain ⟨ha, hb, _⟩ := h
    have hf : (flat (.node p a b)).reverse ++ r = joinNd p :: ((flat b).reverse ++ ((flat a).reverse ++ r)) := by simp [flat]
    rw [hf]
    simp only [reach, joinNd_is, if_true]
    exact .inr (reach_flat b hb (o + 1) _ (.inr (reach_flat a ha o r hr)))
theorem backM_le : ∀ (o : Nat) (l : List Nd), backM o l ≤ l.length
  | _, [] => Nat.le_refl _
  | o, n :: r => by
    have := backM_le (if isJoin n then o + 1 else o - 1) r
    by_cases hj : isJoin n
    · rw [if_pos hj] at this
      simp only [backM, hj, if_true, List.length_cons]
      split <;> omega
    · rw [if_neg hj] at this
      simp only [backM, hj, if_false, List.length_cons]
      split <;> omega
/-- Where the part that ends at k begins. -/
def subS (l : List Nd) (k : Nat) : Nat := k + 1 - backM 1 (l.take (k + 1)).reverse
theorem take_rev {l : List Nd} {k : Nat} {n : Nd} (h : l[k]? = some n) : (l.take (k + 1)).reverse = n :: (l.take k).reverse := by
  rw [List.take_add_one, h]
  simp
theorem sub_at {l : List Nd} {t : Tr} (h : treeM l = some t) {k : Nat} (hk : k < l.length) :
    ∃ s, wt s ∧ subS l k ≤ k ∧ subS l k + sz s = k + 1 ∧ (l.take (k + 1)).drop (subS l k) = flat s ∧ reach 1 (l.take (k + 1)).reverse ∧ (frL [t])[k]? = some (subS l k : Int) ∧ (inL [t])[k]? = some (ty s).1 ∧ (ouL [t])[k]? = some (ty s).2 ∧ treeM (flat s) = some s := by
  obtain ⟨hl, hw, hz⟩ := treeM_some h
  have hlen : l.length = sz t := by rw [hl]; rfl
  obtain ⟨pre, s, post, hf, hks, hi, hws⟩ := part_at t 0 hw k (by omega)
  have hsp := sz_pos s
  have ht : l.take (k + 1) = pre ++ flat s := by
    rw [hl, hf, ← List.append_assoc]
    exact List.take_left' (by rw [List.length_append, hks]; rfl)
  have hrev : (l.take (k + 1)).reverse = (flat s).reverse ++ pre.reverse := by rw [ht, List.reverse_append]
  have hbk : backM 1 (l.take (k + 1)).reverse = sz s := by
    rw [hrev, back_flat s hws 0, if_pos rfl]
  have hS : subS l k = pre.length := by unfold subS; rw [hbk]; omega
  have hinf : (infos [t])[k]? = some (0 + pre.length, ty s) := by
    have : infos [t] = info t 0 := by simp [infos, flats]
    rw [this]; exact hi
  rw [hS]
  refine ⟨s, hws, by omega, by omega, by rw [ht]; simp, by rw [hrev]; exact reach_flat s hws 0 _ (.inl rfl), ?_, ?_, ?_, treeM_flat hws ?_⟩
  · simp only [frL, List.getElem?_map, hinf, Option.map_some, Nat.zero_add]
  · simp only [inL, List.getElem?_map, hinf, Option.map_some]
  · simp only [ouL, List.getElem?_map, hinf, Option.map_some]
  · have : sz s + pre.length ≤ sz t := by
      have e := congrArg List.length hf
      simp only [List.length_append] at e
      have e1 : (flat t).length = sz t := rfl
      have e2 : (flat s).length = sz s := rfl
      omega
    omega
/-- SubtermAt. -/
def subM (l : List Nd) (at_ : Int) : List Nd × Bool :=
  if (treeM l).isSome = true ∧ 0 ≤ at_ ∧ at_ < (l.length : Int) then ((l.take (at_.toNat + 1)).drop (subS l at_.toNat), true) else ([], false)
theorem subM_yes {l : List Nd} {t : Tr} (h : treeM l = some t) {k : Nat} (hk : k < l.length) : subM l (k : Int) = ((l.take (k + 1)).drop (subS l k), true) := by
  unfold subM
  rw [if_pos ⟨by rw [h]; rfl, by omega, by omega⟩]
  rfl
theorem subM_no {l : List Nd} {a : Int} (h : treeM l = none ∨ ¬ (0 ≤ a ∧ a < (l.length : Int))) : subM l a = ([], false) := by
  unfold subM
  rw [if_neg]
  rintro ⟨h1, h2⟩
  rcases h with h | h
  · rw [h] at h1; cases h1
  · exact h h2
end Go.Proofs.Ytlmnmdahphahfaa
