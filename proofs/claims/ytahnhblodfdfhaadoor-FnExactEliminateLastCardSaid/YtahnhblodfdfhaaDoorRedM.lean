/-
  PLAIN LAW: THE STEPS OF THE REDUCTION, as the walks meet them.
-/
import Derived.Test.YtahnhblodfdfhaaDoorLinB
namespace Go.Proofs.YtahnhblodfdfhaaDoor

theorem getD_lt {α : Type} {L : List α} {i : Nat} {d : α} (h : i < L.length) : L.getD i d = L[i] := by simp [List.getD, h]
theorem getElem?_getD {α : Type} {L : List α} {i : Nat} {d : α} (h : i < L.length) : L[i]? = some (L.getD i d) := by rw [getD_lt h]; exact List.getElem?_eq_getElem h
theorem set_getD {α : Type} {L : List α} {i : Nat} {d : α} : L.set i (L.getD i d) = L := by
  by_cases h : i < L.length
  · rw [getD_lt h]; exact List.set_getElem_self h
  · exact List.set_eq_of_length_le (by omega)
theorem getD_set_self {α : Type} {L : List α} {i : Nat} {x d : α} (h : i < L.length) : (L.set i x).getD i d = x := by rw [getD_set _ _ _ _ _ h, if_pos rfl]
theorem getD_set_ne' {α : Type} {L : List α} {i k : Nat} {x d : α} (h : i ≠ k) : (L.set i x).getD k d = L.getD k d := by simp [List.getD, List.getElem?_set_ne h]

section
variable {p : Int} {m n r q : Nat} {L : List (List Int)} {f : Nat → Int}
theorem Mat.set (h : Mat p m n L) {i : Nat} {l : List Int} (hl : l.length = n) (hr : Res p l) : Mat p m n (L.set i l) := by
  refine ⟨by rw [List.length_set]; exact h.len, fun v hv => ?_⟩
  rcases List.mem_or_eq_of_mem_set hv with hv | hv
  · exact h.row v hv
  · subst hv; exact ⟨hl, hr⟩
theorem Mat.swap (h : Mat p m n L) {k : Nat} (hr : r < m) (hk : k < m) : Mat p m n (swapL L r k) :=
  (h.set (h.get hk).1 (h.get hk).2).set (h.get hr).1 (h.get hr).2
theorem scaleV_length (p iv : Int) (v : List Int) : (scaleV p iv v).length = v.length := by simp [scaleV]
theorem Mat.scale (h : Mat p m n L) (hp : 0 < p) (hr : r < m) (iv : Int) : Mat p m n (scaleL p r iv L) :=
  h.set (by rw [scaleV_length]; exact (h.get hr).1) (scaleV_res hp _)
theorem elimTo_zero : elimTo p r f L 0 = L := by
  apply List.ext_getElem?
  intro i
  simp only [elimTo, List.getElem?_map, Nat.not_lt_zero, false_and, if_false]
  by_cases h : i < L.length
  · rw [List.getElem?_range h]; simp [List.getD, h]
  · rw [List.getElem?_eq_none (by simpa using h), List.getElem?_eq_none (by omega)]; rfl
theorem elimTo_at (hq : q < L.length) : (elimTo p r f L q).getD q [] = L.getD q [] := by
  rw [elimTo_get hq, if_neg (by omega)]
theorem elimTo_piv (hr : r < L.length) : (elimTo p r f L q).getD r [] = L.getD r [] := by
  rw [elimTo_get hr, if_neg (by simp)]
theorem elimTo_skip (h : q = r ∨ f q = 0) : elimTo p r f L (q + 1) = elimTo p r f L q := by
  unfold elimTo
  apply List.map_congr_left
  intro i _
  by_cases hi : i = q
  · subst hi
    rcases h with h | h
    · simp [h]
    · simp [h]
  · have : (i < q + 1) = (i < q) := by apply propext; omega
    simp only [this]
theorem elimTo_step (hq : q < L.length) (h1 : q ≠ r) (h2 : f q ≠ 0) : elimTo p r f L (q + 1) = (elimTo p r f L q).set q (addT p (L.getD q []) (-(f q)) (L.getD r [])) := by
  apply List.ext_getElem?
  intro i
  by_cases hi : i < L.length
  · have e1 : (elimTo p r f L (q + 1))[i]? = some ((elimTo p r f L (q + 1)).getD i []) := getElem?_getD (by simpa using hi)
    have e2 : ((elimTo p r f L q).set q (addT p (L.getD q []) (-(f q)) (L.getD r [])))[i]? = some (((elimTo p r f L q).set q (addT p (L.getD q []) (-(f q)) (L.getD r []))).getD i []) := getElem?_getD (by simpa using hi)
    rw [e1, e2, elimTo_get hi, getD_set _ _ _ _ _ (by simpa using hq), elimTo_get hi]
    by_cases hiq : i = q
    · subst hiq; simp [h1, h2]
    · have : (i < q + 1) = (i < q) := by apply propext; omega
      simp only [this, if_neg hiq]
  · rw [List.getElem?_eq_none (by simpa using hi), List.getElem?_eq_none (by simpa using hi)]
theorem Mat.elim (h : Mat p m n L) (hp : 0 < p) : Mat p m n (elimTo p r f L q) := by
  refine Mat.of_get (by rw [elimTo_length]; exact h.len) fun i hi => ?_
  rw [elimTo_get (by rw [h.len]; exact hi)]
  split
  · exact ⟨by rw [addT_length]; exact (h.get hi).1, Res.addT hp (h.get hi).2⟩
  · exact h.get hi
end

/-- The rounds that are left find nothing: all rows have been found. -/
theorem redTo_stable {p : Int} {L A : List (List Int)} {c : Nat} (h : (redTo p L A c).2.1.length ≤ (redTo p L A c).1) : ∀ d, redTo p L A (c + d) = redTo p L A c
  | 0 => rfl
  | d + 1 => by
    have ih := redTo_stable h d
    show colStep p (c + d) (redTo p L A (c + d)) = _
    rw [ih]
    unfold colStep
    have : (redTo p L A c).2.1.length - (redTo p L A c).1 = 0 := by omega
    rw [this]
    have h2 : ¬ (redTo p L A c).1 < (redTo p L A c).2.1.length := by omega
    simp only [pvFrom, h2, if_false]
theorem redTo_mat {p : Int} (hp : fieldB p = true) {m n : Nat} {L : List (List Int)} (hm : Mat p m n L) (A : List (List Int)) {c : Nat} (hc : c ≤ n) : Mat p m n (redTo p L A c).2.1 ∧ (redTo p L A c).1 ≤ m := by
  obtain ⟨ld, h⟩ := redTo_inv hp hm A c hc
  exact ⟨h.mat, h.inv.le⟩
/-- A round that finds nothing. -/
theorem redTo_none {p : Int} {L A : List (List Int)} {c : Nat} (h : ¬ pvFrom (redTo p L A c).2.1 c ((redTo p L A c).2.1.length - (redTo p L A c).1) (redTo p L A c).1 < (redTo p L A c).2.1.length) : redTo p L A (c + 1) = redTo p L A c := by
  show colStep p c (redTo p L A c) = _
  unfold colStep
  rw [if_neg h]
/-- A round that finds row k. -/
theorem redTo_some {p : Int} {L A : List (List Int)} {c k : Nat} (hk : pvFrom (redTo p L A c).2.1 c ((redTo p L A c).2.1.length - (redTo p L A c).1) (redTo p L A c).1 = k) (h : k < (redTo p L A c).2.1.length) {M : List (List Int)} (hM : M = scaleL p (redTo p L A c).1 (invM p (en (redTo p L A c).2.1 k c)) (swapL (redTo p L A c).2.1 (redTo p L A c).1 k)) :
    (redTo p L A (c + 1)).1 = (redTo p L A c).1 + 1 ∧ (redTo p L A (c + 1)).2.1 = elimTo p (redTo p L A c).1 (fun i => en M i c) M M.length ∧
      (redTo p L A (c + 1)).2.2 = elimTo p (redTo p L A c).1 (fun i => en M i c) (scaleL p (redTo p L A c).1 (invM p (en (redTo p L A c).2.1 k c)) (swapL (redTo p L A c).2.2 (redTo p L A c).1 k)) (redTo p L A c).2.2.length := by
  subst hM
  show (colStep p c (redTo p L A c)).1 = _ ∧ _
  have e : redTo p L A (c + 1) = colStep p c (redTo p L A c) := rfl
  rw [e]
  unfold colStep
  rw [hk, if_pos h]
  exact ⟨rfl, rfl, rfl⟩
theorem sub_mod_mul (p x f y : Int) : (x - f * y % p) % p = (x + -f * y) % p := by
  rw [Int.sub_emod, Int.emod_emod_of_dvd _ (Int.dvd_refl p), ← Int.sub_emod, Int.neg_mul, Int.sub_eq_add_neg]
end Go.Proofs.YtahnhblodfdfhaaDoor
