/-
  PLAIN LAW: the reference's null space, as its walk meets it.
-/
import Derived.Test.YtpfidjegdpkhdaaDoorLinD
import Derived.Test.YtpfidjegdpkhdaaDoorRedM
namespace Go.Proofs.YtpfidjegdpkhdaaDoor

/-- The table of the leading columns, the first i rows done. -/
def leadTo (R : List (List Int)) (n : Nat) : Nat → List Int
  | 0 => List.replicate n (-1)
  | i + 1 => (leadTo R n i).set (leadV (R.getD i [])) (i : Nat)
@[simp] theorem leadTo_length (R : List (List Int)) (n : Nat) : ∀ i, (leadTo R n i).length = n
  | 0 => by simp [leadTo]
  | i + 1 => by simp [leadTo, leadTo_length R n i]
theorem leadTo_get (R : List (List Int)) {n : Nat} : ∀ (i j : Nat), j < n → (0 ≤ (leadTo R n i).getD j 0 ↔ ∃ k, k < i ∧ leadV (R.getD k []) = j)
  | 0, j, hj => by
    have : (leadTo R n 0).getD j 0 = -1 := by simp [leadTo, List.getD, hj]
    rw [this]
    exact ⟨fun h => by omega, fun ⟨k, h, _⟩ => by omega⟩
  | i + 1, j, hj => by
    have ih := leadTo_get R i j hj
    rw [leadTo]
    by_cases hl : leadV (R.getD i []) = j
    · have : ((leadTo R n i).set (leadV (R.getD i [])) (i : Nat)).getD j 0 = (i : Nat) := by rw [hl]; exact getD_set_self (by simpa using hj)
      rw [this]
      exact ⟨fun _ => ⟨i, by omega, hl⟩, fun _ => by omega⟩
    · rw [getD_set_ne' hl, ih]
      constructor
      · rintro ⟨k, h1, h2⟩; exact ⟨k, by omega, h2⟩
      · rintro ⟨k, h1, h2⟩
        by_cases hk : k = i
        · subst hk; exact absurd h2 hl
        · exact ⟨k, by omega, h2⟩
/-- Is column j free? -/
def freeB (R : List (List Int)) (j : Nat) : Bool := R.all fun v => leadV v != j
theorem freeB_lead {R : List (List Int)} {n j : Nat} (hj : j < n) : freeB R j = true ↔ ¬ 0 ≤ (leadTo R n R.length).getD j 0 := by
  rw [leadTo_get R R.length j hj]
  unfold freeB
  rw [List.all_eq_true]
  constructor
  · rintro h ⟨k, hk, he⟩
    have := h (R.getD k []) (by rw [getD_lt hk]; exact List.getElem_mem hk)
    rw [he] at this
    simp at this
  · intro h v hv
    obtain ⟨k, hk, rfl⟩ := List.getElem_of_mem hv
    simp only [bne_iff_ne, ne_eq]
    intro he
    exact h ⟨k, hk, by rw [getD_lt hk]; exact he⟩
/-- The vectors of the first j columns. -/
def nvTo (p : Int) (n : Nat) (R : List (List Int)) (j : Nat) : List (List Int) := ((List.range j).filter (freeB R)).map fun j => nvL p n R j R.length
theorem nvTo_succ (p : Int) (n : Nat) (R : List (List Int)) (j : Nat) : nvTo p n R (j + 1) = nvTo p n R j ++ (if freeB R j then [nvL p n R j R.length] else []) := by
  unfold nvTo
  rw [List.range_succ, List.filter_append, List.map_append]
  congr 1
  by_cases h : freeB R j = true
  · simp [h]
  · simp [h]
theorem nvTo_end (p : Int) (n : Nat) (R : List (List Int)) : nvTo p n R n = nvecs p n R := rfl
theorem nvTo_length (p : Int) (n : Nat) (R : List (List Int)) (j : Nat) : (nvTo p n R j).length ≤ j := by
  unfold nvTo
  rw [List.length_map]
  have := List.length_filter_le (freeB R) (List.range j)
  simpa using this
theorem nvTo_mat {p : Int} (hp : 1 < p) (n : Nat) (R : List (List Int)) (j : Nat) : Mat p (nvTo p n R j).length n (nvTo p n R j) := by
  refine ⟨rfl, fun v hv => ?_⟩
  obtain ⟨k, _, rfl⟩ := List.mem_map.1 hv
  exact ⟨nvL_length p n R k _, nvL_res hp n R k _⟩
/-- The leading columns of a reduced list lie within. -/
theorem lead_lt {p : Int} {n : Nat} {R : List (List Int)} (h : RedL p n R) {i : Nat} (hi : i < R.length) : leadV (R.getD i []) < n := by
  obtain ⟨hm, ld, hr⟩ := h
  rw [red_lead hm hr hi]
  exact hr.lt i hi
theorem leadV_step {l : List Int} {k : Nat} {x : Int} (h : l[k]? = some x) (hx : x = 0) : (l.take k).all (· == 0) = true → (l.take (k + 1)).all (· == 0) = true := by
  intro h'
  rw [List.take_add_one, h]
  simp [hx] at h' ⊢
  exact h'
theorem leadV_at {l : List Int} {k : Nat} (hk : k ≤ l.length) (hz : (l.take k).all (· == 0) = true) (hx : k < l.length → l.getD k 0 ≠ 0) : leadV l = k := by
  unfold leadV
  have hz' : ∀ j, j < k → l.getD j 0 = 0 := by
    intro j hj
    have := List.all_eq_true.1 hz (l.getD j 0) (by
      rw [getD_lt (show j < l.length by omega)]
      rw [show l[j] = (l.take k)[j]'(by simp; omega) by simp]
      exact List.getElem_mem _)
    simpa using this
  by_cases hlt : k < l.length
  · rw [List.findIdx_eq hlt]
    refine ⟨by have := hx hlt; rw [getD_lt hlt] at this; simpa using this, fun j hj => ?_⟩
    have := hz' j hj
    rw [getD_lt (by omega)] at this
    simpa using this
  · obtain rfl : k = l.length := by omega
    rw [List.findIdx_eq_length_of_false]
    intro x hxm
    have := List.all_eq_true.1 hz x (by rw [List.take_length]; exact hxm)
    simp at this ⊢
    exact this
end Go.Proofs.YtpfidjegdpkhdaaDoor
