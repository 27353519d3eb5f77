/-
  PLAIN LAW: THE STEPS OF A REDUCTION, over entries: what stays true, what stays orthogonal; the null space's two bases. No program is looked at.
-/
import Derived.Test.YtomekicglojhhaaDoorLin
import Derived.Test.YtomekicglojhhaaDoorPolyM
namespace Go.Proofs.YtomekicglojhhaaDoor

theorem dvd_emod_sub (p a : Int) : p ∣ a % p - a := by
  have := Int.emod_add_mul_ediv a p
  exact ⟨-(a / p), by rw [Int.mul_neg]; omega⟩
theorem dvd_sub_emod (p a : Int) : p ∣ a - a % p := by
  have := Int.emod_add_mul_ediv a p
  exact ⟨a / p, by omega⟩
/-- A row that is a combination of two others stands on what these stand on. -/
theorem comb_dvd {p : Int} {n : Nat} {A B C x : Nat → Int} (a b : Int) (h : ∀ j, j < n → p ∣ A j - (a * B j + b * C j)) (hB : p ∣ sm n fun j => B j * x j) (hC : p ∣ sm n fun j => C j * x j) : p ∣ sm n fun j => A j * x j := by
  have h1 : p ∣ (sm n fun j => A j * x j) - sm n fun j => (a * (B j * x j) + b * (C j * x j)) := sm_dvd_sub fun j hj => by
    have := dvd_l (h j hj) (x j)
    have e : (A j - (a * B j + b * C j)) * x j = A j * x j - (a * (B j * x j) + b * (C j * x j)) := by
      rw [Int.sub_mul, Int.add_mul, Int.mul_assoc, Int.mul_assoc]
    rwa [e] at this
  rw [sm_add, sm_mul, sm_mul] at h1
  have h2 : p ∣ a * (sm n fun j => B j * x j) + b * (sm n fun j => C j * x j) := Int.dvd_add (dvd_r hB a) (dvd_r hC b)
  have := Int.dvd_add h1 h2
  rwa [Int.sub_add_cancel] at this

/-- A round of the reduction: row k comes to place r, is divided, is taken from the others. -/
def tr (r k i : Nat) : Nat := if i = k then r else i
def stepE (p : Int) (c r k : Nat) (iv : Int) (E : Nat → Nat → Int) (i j : Nat) : Int :=
  if i = r then E k j * iv % p else (E (tr r k i) j - E (tr r k i) c * (E k j * iv % p)) % p

/-- What holds when the columns below c are done, r rows being found. -/
structure Inv (p : Int) (n m c r : Nat) (E : Nat → Nat → Int) (ld : Nat → Nat) : Prop where
  le : r ≤ m
  lt : ∀ i, i < r → ld i < c
  one : ∀ i, i < r → E i (ld i) = 1
  zero : ∀ i k, i < r → k < m → k ≠ i → E k (ld i) = 0
  before : ∀ i j, i < r → j < ld i → E i j = 0
  mono : ∀ i k, i < k → k < r → ld i < ld k
  rest : ∀ k j, r ≤ k → k < m → j < c → E k j = 0
  res : ∀ i j, i < m → j < n → 0 ≤ E i j ∧ E i j < p

theorem Inv.start {p : Int} {n m : Nat} {E : Nat → Nat → Int} (h : ∀ i j, i < m → j < n → 0 ≤ E i j ∧ E i j < p) (ld : Nat → Nat) : Inv p n m 0 0 E ld :=
  ⟨Nat.zero_le _, fun i hi => by omega, fun i hi => by omega, fun i k hi => by omega, fun i j hi => by omega, fun i k _ hk => by omega, fun k j _ _ hj => by omega, h⟩
theorem Inv.skip {p : Int} {n m c r : Nat} {E : Nat → Nat → Int} {ld : Nat → Nat} (h : Inv p n m c r E ld) (hz : ∀ k, r ≤ k → k < m → E k c = 0) : Inv p n m (c + 1) r E ld :=
  ⟨h.le, fun i hi => by have := h.lt i hi; omega, h.one, h.zero, h.before, h.mono, fun k j hk hm hj => by
    rcases Nat.lt_or_ge j c with hl | hl
    · exact h.rest k j hk hm hl
    · obtain rfl : j = c := by omega
      exact hz k hk hm, h.res⟩

section
variable {p : Int} {n m c r k : Nat} {E : Nat → Nat → Int} {ld : Nat → Nat} {iv : Int}

theorem tr_lt (hr : r < m) {i : Nat} (hi : i < m) : tr r k i < m := by unfold tr; split <;> omega
theorem step_low (h : Inv p n m c r E ld) (hc : c < n) (hrk : r ≤ k) (hk : k < m) {i j : Nat} (hi : i < m) (hj : j < c) (hir : i ≠ r) : stepE p c r k iv E i j = E (tr r k i) j := by
  unfold stepE
  rw [if_neg hir, h.rest k j hrk hk hj]
  have := h.res (tr r k i) j (tr_lt (by omega) hi) (by omega)
  simp only [Int.zero_mul, Int.zero_emod, Int.mul_zero, Int.sub_zero]
  exact Int.emod_eq_of_lt this.1 this.2
theorem step_piv (h : Inv p n m c r E ld) (hrk : r ≤ k) (hk : k < m) {j : Nat} (hj : j < c) : stepE p c r k iv E r j = 0 := by
  unfold stepE
  rw [if_pos rfl, h.rest k j hrk hk hj, Int.zero_mul, Int.zero_emod]

theorem Inv.step (h : Inv p n m c r E ld) (hp : 0 < p) (hc : c < n) (hrk : r ≤ k) (hk : k < m) (hiv : E k c * iv % p = 1) :
    Inv p n m (c + 1) (r + 1) (stepE p c r k iv E) (fun i => if i < r then ld i else c) := by
  have hcol : ∀ i, i < m → i ≠ r → stepE p c r k iv E i c = 0 := by
    intro i hi hir
    unfold stepE
    rw [if_neg hir, hiv, Int.mul_one, Int.sub_self, Int.zero_emod]
  refine ⟨by omega, ?_, ?_, ?_, ?_, ?_, ?_, ?_⟩
  · intro i hi
    by_cases hir : i < r
    · have := h.lt i hir; simp only [hir, if_true]; omega
    · simp only [hir, if_false]; omega
  · intro i hi
    by_cases hir : i < r
    · simp only [hir, if_true]
      rw [step_low h hc hrk hk (by omega) (h.lt i hir) (by omega)]
      unfold tr; rw [if_neg (by omega)]; exact h.one i hir
    · obtain rfl : i = r := by omega
      simp only [hir, if_false]
      unfold stepE; rw [if_pos rfl]; exact hiv
  · intro i k' hi hk' hne
    by_cases hir : i < r
    · simp only [hir, if_true]
      by_cases hkr : k' = r
      · subst hkr; exact step_piv h hrk hk (h.lt i hir)
      · rw [step_low h hc hrk hk hk' (h.lt i hir) hkr]
        refine h.zero i _ hir (tr_lt (by omega) hk') ?_
        unfold tr; split <;> omega
    · obtain rfl : i = r := by omega
      simp only [hir, if_false]
      exact hcol k' hk' hne
  · intro i j hi hj
    by_cases hir : i < r
    · simp only [hir, if_true] at hj
      have := h.lt i hir
      rw [step_low h hc hrk hk (by omega) (by omega) (by omega)]
      unfold tr; rw [if_neg (by omega)]; exact h.before i j hir hj
    · obtain rfl : i = r := by omega
      simp only [hir, if_false] at hj
      exact step_piv h hrk hk hj
  · intro i k' hik hk'
    have h1 : i < r := by omega
    by_cases hkr : k' < r
    · simp only [h1, hkr, if_true]; exact h.mono i k' hik hkr
    · simp only [h1, hkr, if_true, if_false]; exact h.lt i h1
  · intro k' j hk' hm hj
    rcases Nat.lt_or_ge j c with hl | hl
    · rw [step_low h hc hrk hk hm hl (by omega)]
      exact h.rest _ j (by unfold tr; split <;> omega) (tr_lt (by omega) hm) hl
    · obtain rfl : j = c := by omega
      exact hcol k' hm (by omega)
  · intro i j _ _
    unfold stepE
    split <;> exact ⟨Int.emod_nonneg _ (by omega), Int.emod_lt_of_pos _ hp⟩

theorem step_rowr (j : Nat) : p ∣ stepE p c r k iv E r j - (iv * E k j + 0 * E k j) := by
  unfold stepE
  rw [if_pos rfl, Int.zero_mul, Int.add_zero, Int.mul_comm iv]
  exact dvd_emod_sub _ _
theorem step_rowi {i : Nat} (hir : i ≠ r) (j : Nat) : p ∣ stepE p c r k iv E i j - (1 * E (tr r k i) j + (-(E (tr r k i) c)) * stepE p c r k iv E r j) := by
  have e : stepE p c r k iv E r j = E k j * iv % p := by unfold stepE; rw [if_pos rfl]
  rw [e]
  unfold stepE
  rw [if_neg hir, Int.one_mul, Int.neg_mul, ← Int.sub_eq_add_neg]
  exact dvd_emod_sub _ _

theorem step_nul (hr : r < m) (hk : k < m) (hiv : E k c * iv % p = 1) (x : Nat → Int) : Nul p n (stepE p c r k iv E) m x ↔ Nul p n E m x := by
  constructor
  · intro hx i hi
    have hkk : p ∣ sm n fun j => E k j * x j := by
      refine comb_dvd (E k c) 0 (B := stepE p c r k iv E r) (C := stepE p c r k iv E r) (fun j _ => ?_) (hx r hr) (hx r hr)
      have h1 := dvd_sub_emod p (E k j * iv)
      have h2 := dvd_sub_emod p (E k c * iv)
      rw [hiv] at h2
      have e : stepE p c r k iv E r j = E k j * iv % p := by unfold stepE; rw [if_pos rfl]
      rw [e, Int.zero_mul, Int.add_zero]
      obtain ⟨a, ha⟩ := h1
      obtain ⟨b, hb⟩ := h2
      refine ⟨E k c * a - E k j * b, ?_⟩
      have e1 : E k j * iv % p = E k j * iv - p * a := by omega
      have e2 : E k c * (E k j * iv) = E k j * (E k c * iv) := by rw [Int.mul_left_comm]
      have e3 : E k c * iv = p * b + 1 := by omega
      rw [e1, Int.mul_sub, e2, e3, Int.mul_add, Int.mul_one, Int.mul_sub, Int.mul_left_comm p (E k c) a, Int.mul_left_comm p (E k j) b]
      omega
    by_cases hik : i = k
    · subst hik; exact hkk
    · have hi' : tr r k (if i = r then k else i) = i := by
        unfold tr
        by_cases h1 : i = r
        · simp [h1]
        · simp [h1, hik]
      have hne : (if i = r then k else i) ≠ r := by
        by_cases h1 : i = r
        · simp only [h1, if_true]; omega
        · simp only [h1, if_false]; exact h1
      have hlt : (if i = r then k else i) < m := by split <;> omega
      refine comb_dvd 1 (E i c) (B := stepE p c r k iv E (if i = r then k else i)) (C := stepE p c r k iv E r) (fun j _ => ?_) (hx _ hlt) (hx r hr)
      have := step_rowi (p := p) (c := c) (k := k) (iv := iv) (E := E) hne j
      rw [hi'] at this
      obtain ⟨a, ha⟩ := this
      rw [Int.one_mul, Int.neg_mul] at ha
      exact ⟨-a, by rw [Int.mul_neg, ← ha, Int.one_mul]; omega⟩
  · intro hx i hi
    have hrr : p ∣ sm n fun j => stepE p c r k iv E r j * x j := comb_dvd iv 0 (fun j _ => step_rowr j) (hx k hk) (hx k hk)
    by_cases hir : i = r
    · subst hir; exact hrr
    · exact comb_dvd 1 (-(E (tr r k i) c)) (fun j _ => step_rowi hir j) (hx _ (tr_lt hr hi)) hrr

theorem Inv.red (h : Inv p n m n r E ld) : Red p n E r ld :=
  ⟨h.lt, h.one, fun i k hi hk hne => h.zero i k hi (Nat.lt_of_lt_of_le hk h.le) hne, h.before, h.mono, fun i j hi hj => h.res i j (Nat.lt_of_lt_of_le hi h.le) hj⟩
theorem Inv.nul (h : Inv p n m n r E ld) (x : Nat → Int) : Nul p n E m x ↔ Nul p n E r x := by
  constructor
  · intro hx i hi; exact hx i (Nat.lt_of_lt_of_le hi h.le)
  · intro hx i hi
    rcases Nat.lt_or_ge i r with hl | hl
    · exact hx i hl
    · rw [sm_congr (g := fun _ => 0) (fun j hj => by rw [h.rest i j hl hi hj, Int.zero_mul]), sm_zero]; exact Int.dvd_zero p
end

/-! ### Bases of a null space -/
/-- The rows K lie in N, and what is orthogonal to them is orthogonal to all of N. -/
def Gen (p : Int) (n : Nat) (N : (Nat → Int) → Prop) (K : Nat → Nat → Int) (s : Nat) : Prop :=
  (∀ k, k < s → N (K k)) ∧ ∀ x, Nul p n K s x → ∀ y, N y → p ∣ sm n fun j => x j * y j
theorem Gen.nul {p : Int} {n : Nat} {N : (Nat → Int) → Prop} {K K' : Nat → Nat → Int} {s s' : Nat} (h : Gen p n N K s) (h' : Gen p n N K' s') (x : Nat → Int) (hx : Nul p n K s x) : Nul p n K' s' x := by
  intro k hk
  have := h.2 x hx _ (h'.1 k hk)
  rw [sm_congr (g := fun j => x j * K' k j) (fun j _ => Int.mul_comm _ _)]
  exact this

/-- The null vectors of the columns of reduced rows generate what is orthogonal to these. -/
theorem Red.gen {p : Int} {n r : Nat} {R : Nat → Nat → Int} {c : Nat → Nat} (h : Red p n R r c) {K : Nat → Nat → Int} {s : Nat} (at_ : Nat → Nat) (hat : ∀ k, k < s → at_ k < n)
    (hK : ∀ k, k < s → ∀ j, j < n → p ∣ K k j - nv R r c (at_ k) j) (hall : ∀ j, j < n → (∀ i, i < r → c i ≠ j) → ∃ k, k < s ∧ at_ k = j) : Gen p n (Nul p n R r) K s := by
  refine ⟨fun k hk i hi => ?_, fun x hx y hy => ?_⟩
  · have := h.nul_nv (hat k hk) i hi
    have h2 : p ∣ (sm n fun j => R i j * K k j) - sm n fun j => R i j * nv R r c (at_ k) j := sm_dvd_sub fun j hj => by
      rw [← Int.mul_sub]; exact dvd_r (hK k hk j hj) _
    have := Int.dvd_add h2 this
    rwa [Int.sub_add_cancel] at this
  · have hxj : ∀ j, j < n → p ∣ x j - sm r fun i => x (c i) * R i j := by
      intro j hj
      by_cases hl : ∀ i, i < r → c i ≠ j
      · obtain ⟨k, hk, e⟩ := hall j hj hl
        rw [← dot_nv h.lt R hj, ← e]
        have h2 : p ∣ (sm n fun l => x l * nv R r c (at_ k) l) - sm n fun l => K k l * x l := sm_dvd_sub fun l hl => by
          obtain ⟨a, ha⟩ := hK k hk l hl
          exact ⟨-(x l * a), by rw [Int.mul_neg, Int.mul_left_comm, ← ha, Int.mul_sub, Int.mul_comm (K k l)]; omega⟩
        have := Int.dvd_add h2 (hx k hk)
        rwa [Int.sub_add_cancel] at this
      · obtain ⟨i, hi, e⟩ : ∃ i, i < r ∧ c i = j := Classical.byContradiction fun hno => hl fun i hi e => hno ⟨i, hi, e⟩
        rw [sm_one hi (fun k hk hki => by rw [← e, h.zero i k hi hk hki, Int.mul_zero]), ← e, h.one i hi, Int.mul_one, Int.sub_self]
        exact Int.dvd_zero p
    have h2 : p ∣ (sm n fun j => x j * y j) - sm n fun j => sm r fun i => x (c i) * (R i j * y j) := sm_dvd_sub fun j hj => by
      have e : (fun i => x (c i) * (R i j * y j)) = fun i => y j * (x (c i) * R i j) := by funext i; rw [← Int.mul_assoc, Int.mul_comm]
      rw [e, sm_mul, Int.mul_comm (x j), ← Int.mul_sub]
      exact dvd_r (hxj j hj) _
    rw [sm_swap] at h2
    have h3 : p ∣ sm r fun i => sm n fun j => x (c i) * (R i j * y j) := sm_dvd fun i hi => by
      rw [sm_mul]; exact dvd_r (hy i hi) _
    have := Int.dvd_add h2 h3
    rwa [Int.sub_add_cancel] at this
end Go.Proofs.YtomekicglojhhaaDoor
