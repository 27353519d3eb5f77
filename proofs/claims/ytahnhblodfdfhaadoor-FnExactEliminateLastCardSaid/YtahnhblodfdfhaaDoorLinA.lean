/-
  PLAIN LAW: THE REDUCTION OF A LIST OF ROWS, AS BOTH SIDES RECKON IT: its words, and that its entries turn by stepG. No program is looked at.

  PLAIN LAW: A REDUCTION WITH THE SAME STEPS ON THE IDENTITY's ROWS: the rows beside the zero rows generate the left null space. No program is looked at.

  PLAIN LAW: THE STEPS OF A REDUCTION, over entries: what stays true, what stays orthogonal; the null space's two bases. No program is looked at.

  PLAIN LAW: REDUCED ROWS OVER A FIELD OF p ELEMENTS: a reduced list is known by what is orthogonal to it. No program is looked at.
-/
import Derived.Test.YtahnhblodfdfhaaDoorFieldM
import Derived.Test.YtahnhblodfdfhaaDoorPolyM
import Derived.Test.YtahnhblodfdfhaaDoorPolyN
namespace Go.Proofs.YtahnhblodfdfhaaDoor

theorem dvd_l {p a : Int} (h : p ∣ a) (b : Int) : p ∣ a * b := by
  obtain ⟨k, rfl⟩ := h; exact ⟨k * b, Int.mul_assoc _ _ _⟩
theorem dvd_r {p a : Int} (h : p ∣ a) (b : Int) : p ∣ b * a := by
  rw [Int.mul_comm]; exact dvd_l h b

/-- f 0 + .. + f (n - 1) -/
def sm : Nat → (Nat → Int) → Int
  | 0, _ => 0
  | n + 1, f => sm n f + f n
theorem sm_congr {n : Nat} {f g : Nat → Int} (h : ∀ i, i < n → f i = g i) : sm n f = sm n g := by
  induction n with
  | zero => rfl
  | succ n ih => rw [sm, sm, ih fun i hi => h i (by omega), h n (by omega)]
theorem sm_zero (n : Nat) : sm n (fun _ => 0) = 0 := by
  induction n with
  | zero => rfl
  | succ n ih => rw [sm, ih]; rfl
theorem sm_add (n : Nat) (f g : Nat → Int) : sm n (fun i => f i + g i) = sm n f + sm n g := by
  induction n with
  | zero => rfl
  | succ n ih => rw [sm, sm, sm, ih]; omega
theorem sm_sub (n : Nat) (f g : Nat → Int) : sm n (fun i => f i - g i) = sm n f - sm n g := by
  induction n with
  | zero => rfl
  | succ n ih => rw [sm, sm, sm, ih]; omega
theorem sm_mul (n : Nat) (c : Int) (f : Nat → Int) : sm n (fun i => c * f i) = c * sm n f := by
  induction n with
  | zero => simp [sm]
  | succ n ih => rw [sm, sm, ih, Int.mul_add]
theorem sm_swap (n m : Nat) (f : Nat → Nat → Int) : sm n (fun i => sm m (fun j => f i j)) = sm m (fun j => sm n (fun i => f i j)) := by
  induction n with
  | zero => simp only [sm]; exact (sm_zero m).symm
  | succ n ih => simp only [sm]; rw [ih, sm_add]
/-- A sum of which one part alone may not be 0. -/
theorem sm_one {n k : Nat} (hk : k < n) {f : Nat → Int} (h : ∀ i, i < n → i ≠ k → f i = 0) : sm n f = f k := by
  induction n with
  | zero => omega
  | succ n ih =>
    rw [sm]
    by_cases e : k = n
    · subst e
      rw [sm_congr (g := fun _ => 0) (fun i hi => h i (by omega) (by omega)), sm_zero, Int.zero_add]
    · rw [ih (by omega) fun i hi hik => h i (by omega) hik, h n (by omega) (by omega), Int.add_zero]
theorem sm_dvd {p : Int} {n : Nat} {f : Nat → Int} (h : ∀ i, i < n → p ∣ f i) : p ∣ sm n f := by
  induction n with
  | zero => exact Int.dvd_zero p
  | succ n ih => exact Int.dvd_add (ih fun i hi => h i (by omega)) (h n (by omega))
theorem sm_dvd_sub {p : Int} {n : Nat} {f g : Nat → Int} (h : ∀ i, i < n → p ∣ f i - g i) : p ∣ sm n f - sm n g := by
  rw [← sm_sub]; exact sm_dvd h

/-- x is orthogonal to the first r rows. -/
def Nul (p : Int) (n : Nat) (R : Nat → Nat → Int) (r : Nat) (x : Nat → Int) : Prop := ∀ i, i < r → p ∣ sm n fun j => R i j * x j

/-- The first r rows are reduced, c names their leads. -/
structure Red (p : Int) (n : Nat) (R : Nat → Nat → Int) (r : Nat) (c : Nat → Nat) : Prop where
  lt : ∀ i, i < r → c i < n
  one : ∀ i, i < r → R i (c i) = 1
  zero : ∀ i k, i < r → k < r → k ≠ i → R k (c i) = 0
  before : ∀ i j, i < r → j < c i → R i j = 0
  mono : ∀ i k, i < k → k < r → c i < c k
  res : ∀ i j, i < r → j < n → 0 ≤ R i j ∧ R i j < p

/-- The null vector of column j. -/
def nv (R : Nat → Nat → Int) (r : Nat) (c : Nat → Nat) (j : Nat) (k : Nat) : Int := (if k = j then 1 else 0) - sm r fun i => (if k = c i then 1 else 0) * R i j
theorem dot_delta {n j : Nat} (hj : j < n) (v : Nat → Int) : sm n (fun k => v k * (if k = j then 1 else 0)) = v j := by
  rw [sm_one hj (fun i _ hij => by simp [hij])]; simp
theorem dot_nv {n r : Nat} {c : Nat → Nat} (hc : ∀ i, i < r → c i < n) (R : Nat → Nat → Int) {j : Nat} (hj : j < n) (v : Nat → Int) :
    sm n (fun k => v k * nv R r c j k) = v j - sm r fun i => v (c i) * R i j := by
  have e1 : (fun k => v k * nv R r c j k) = fun k => v k * (if k = j then 1 else 0) - sm r fun i => R i j * (v k * (if k = c i then 1 else 0)) := by
    funext k
    unfold nv
    rw [Int.mul_sub, ← sm_mul]
    congr 2
    funext i
    rw [Int.mul_comm (R i j), Int.mul_assoc]
  rw [e1, sm_sub, dot_delta hj, sm_swap]
  congr 1
  refine sm_congr fun i hi => ?_
  rw [sm_mul, dot_delta (hc i hi), Int.mul_comm]
theorem Red.nul_nv {p : Int} {n r : Nat} {R : Nat → Nat → Int} {c : Nat → Nat} (h : Red p n R r c) {j : Nat} (hj : j < n) : Nul p n R r (nv R r c j) := by
  intro i hi
  rw [dot_nv h.lt R hj, sm_one hi (fun k hk hki => by rw [h.zero k i hk hi (fun e => hki e.symm), Int.zero_mul]), h.one i hi, Int.one_mul, Int.sub_self]
  exact Int.dvd_zero p
/-- What is orthogonal to all that is orthogonal to reduced rows is a combination of these. -/
theorem Red.expand {p : Int} {n r : Nat} {R : Nat → Nat → Int} {c : Nat → Nat} (h : Red p n R r c) {v : Nat → Int} (hv : ∀ x, Nul p n R r x → p ∣ sm n fun j => v j * x j) {j : Nat} (hj : j < n) :
    p ∣ v j - sm r fun i => v (c i) * R i j := by
  rw [← dot_nv h.lt R hj]; exact hv _ (h.nul_nv hj)

theorem res_eq {p a b : Int} (ha : 0 ≤ a ∧ a < p) (hb : 0 ≤ b ∧ b < p) (h : p ∣ a - b) : a = b := by
  obtain ⟨k, hk⟩ := h
  have h1 : p * k < p * 1 := by omega
  have h2 : p * (-1) < p * k := by omega
  have h3 := Int.lt_of_mul_lt_mul_left h1 (by omega)
  have h4 := Int.lt_of_mul_lt_mul_left h2 (by omega)
  have : k = 0 := by omega
  subst this
  omega

theorem least_of {P : Nat → Prop} {n : Nat} (h : ∃ i, i < n ∧ P i) : ∃ i, i < n ∧ P i ∧ ∀ j, j < i → ¬ P j := by
  obtain ⟨i, hi, hp⟩ := h
  induction i using Nat.strongRecOn with
  | _ i ih =>
    by_cases hh : ∃ j, j < i ∧ P j
    · obtain ⟨j, hj, hpj⟩ := hh
      exact ih j hj (by omega) hpj
    · exact ⟨i, hi, hp, fun j hj hpj => hh ⟨j, hj, hpj⟩⟩

theorem Red.lead_mem {p : Int} (hp : 1 < p) {n r s : Nat} {R T : Nat → Nat → Int} {c d : Nat → Nat} (h : Red p n R r c) (h' : Red p n T s d) (hN : ∀ x, Nul p n R r x → Nul p n T s x) {k : Nat} (hk : k < s) :
    ∃ i, i < r ∧ c i = d k := by
  have hx := fun j hj => h.expand (v := T k) (fun x hx => hN x hx k hk) (j := j) hj
  obtain ⟨i0, h1, h2, h3⟩ : ∃ i, i < r ∧ T k (c i) ≠ 0 ∧ ∀ j, j < i → ¬ T k (c j) ≠ 0 := by
    apply least_of
    apply Classical.byContradiction
    intro hno
    have := hx (d k) (h'.lt k hk)
    rw [sm_congr (g := fun _ => 0) (fun i hi => by
      have : T k (c i) = 0 := Classical.byContradiction fun e => hno ⟨i, hi, e⟩
      rw [this, Int.zero_mul]), sm_zero, h'.one k hk] at this
    obtain ⟨m, hm⟩ := this
    have : p ∣ 1 := ⟨m, by omega⟩
    have := Int.le_of_dvd (by decide) this
    omega
  refine ⟨i0, h1, ?_⟩
  have hle : d k ≤ c i0 := by
    apply Nat.le_of_not_lt
    intro hlt
    exact h2 (h'.before k (c i0) hk hlt)
  have hge : c i0 ≤ d k := by
    apply Nat.le_of_not_lt
    intro hlt
    have := hx (d k) (h'.lt k hk)
    rw [sm_congr (g := fun _ => 0) (fun i hi => by
      by_cases hii : i < i0
      · have : T k (c i) = 0 := Classical.byContradiction fun e => h3 i hii e
        rw [this, Int.zero_mul]
      · have : d k < c i := by
          rcases Nat.lt_or_ge i0 i with hl | hl
          · have := h.mono i0 i hl hi; omega
          · obtain rfl : i = i0 := by omega
            exact hlt
        rw [h.before i (d k) hi this, Int.mul_zero]), sm_zero, h'.one k hk] at this
    obtain ⟨m, hm⟩ := this
    have : p ∣ 1 := ⟨m, by omega⟩
    have := Int.le_of_dvd (by decide) this
    omega
  omega

theorem seq_eq {r s : Nat} {c d : Nat → Nat} (hc : ∀ i k, i < k → k < r → c i < c k) (hd : ∀ i k, i < k → k < s → d i < d k) (h1 : ∀ i, i < r → ∃ k, k < s ∧ d k = c i) (h2 : ∀ k, k < s → ∃ i, i < r ∧ c i = d k) :
    ∀ i, i < r → i < s ∧ c i = d i := by
  intro i
  induction i using Nat.strongRecOn with
  | _ i ih =>
    intro hi
    obtain ⟨k, hk, e⟩ := h1 i hi
    rcases Nat.lt_trichotomy k i with hlt | rfl | hgt
    · have h3 := (ih k hlt (by omega)).2
      have h4 := hc k i hlt hi
      omega
    · exact ⟨hk, e.symm⟩
    · have h3 := hd i k hgt hk
      obtain ⟨m, hm, e'⟩ := h2 i (by omega)
      have hmi : m < i := by
        rcases Nat.lt_trichotomy m i with h | rfl | h
        · exact h
        · omega
        · have := hc i m h hm; omega
      have h4 := (ih m hmi (by omega)).2
      have h5 := hd m i hmi (by omega)
      omega

/-- REDUCED ROWS ARE KNOWN BY WHAT IS ORTHOGONAL TO THEM. -/
theorem Red.unique {p : Int} (hp : 1 < p) {n r s : Nat} {R T : Nat → Nat → Int} {c d : Nat → Nat} (h : Red p n R r c) (h' : Red p n T s d) (hN : ∀ x, Nul p n R r x ↔ Nul p n T s x) :
    r = s ∧ ∀ i j, i < r → j < n → R i j = T i j := by
  have m1 := fun k hk => Red.lead_mem hp h h' (fun x hx => (hN x).1 hx) (k := k) hk
  have m2 := fun k hk => Red.lead_mem hp h' h (fun x hx => (hN x).2 hx) (k := k) hk
  have e1 := seq_eq h.mono h'.mono m2 m1
  have e2 := seq_eq h'.mono h.mono m1 m2
  have hrs : r = s := by
    rcases Nat.lt_trichotomy r s with hh | hh | hh
    · have := (e2 r hh).1; omega
    · exact hh
    · have := (e1 s hh).1; omega
  refine ⟨hrs, fun i j hi hj => ?_⟩
  subst hrs
  have hx := h.expand (v := T i) (fun x hx => (hN x).1 hx i hi) hj
  rw [sm_one hi (fun k hk hki => by rw [(e1 k hk).2, h'.zero k i hk hi (fun e => hki e.symm), Int.zero_mul]), (e1 i hi).2, h'.one i hi, Int.one_mul] at hx
  exact (res_eq (h'.res i j hi hj) (h.res i j hi hj) hx).symm
end Go.Proofs.YtahnhblodfdfhaaDoor
namespace Go.Proofs.YtahnhblodfdfhaaDoor

theorem dvd_emod_sub (p a : Int) : p ∣ a % p - a := by
  have := Int.emod_add_mul_ediv a p
  exact ⟨-(a / p), by rw [Int.mul_neg]; omega⟩
theorem dvd_sub_emod (p a : Int) : p ∣ a - a % p := by
  have := Int.emod_add_mul_ediv a p
  exact ⟨a / p, by omega⟩
/-- A row that is a combination of two others stands on what these stand on. -/
theorem comb_dvd {p : Int} {n : Nat} {A B C x : Nat → Int} (a b : Int) (h : ∀ j, j < n → p ∣ A j - (a * B j + b * C j)) (hB : p ∣ sm n fun j => B j * x j) (hC : p ∣ sm n fun j => C j * x j) : p ∣ sm n fun j => A j * x j := by
  have h1 : p ∣ (sm n fun j => A j * x j) - sm n fun j => (a * (B j * x j) + b * (C j * x j)) := sm_dvd_sub fun j hj => by
    have := dvd_l (h j hj) (x j)
    have e : (A j - (a * B j + b * C j)) * x j = A j * x j - (a * (B j * x j) + b * (C j * x j)) := by
      rw [Int.sub_mul, Int.add_mul, Int.mul_assoc, Int.mul_assoc]
    rwa [e] at this
  rw [sm_add, sm_mul, sm_mul] at h1
  have h2 : p ∣ a * (sm n fun j => B j * x j) + b * (sm n fun j => C j * x j) := Int.dvd_add (dvd_r hB a) (dvd_r hC b)
  have := Int.dvd_add h1 h2
  rwa [Int.sub_add_cancel] at this

/-- A round of the reduction: row k comes to place r, is divided, is taken from the others. -/
def tr (r k i : Nat) : Nat := if i = k then r else i
def stepE (p : Int) (c r k : Nat) (iv : Int) (E : Nat → Nat → Int) (i j : Nat) : Int :=
  if i = r then E k j * iv % p else (E (tr r k i) j - E (tr r k i) c * (E k j * iv % p)) % p

/-- What holds when the columns below c are done, r rows being found. -/
structure Inv (p : Int) (n m c r : Nat) (E : Nat → Nat → Int) (ld : Nat → Nat) : Prop where
  le : r ≤ m
  lt : ∀ i, i < r → ld i < c
  one : ∀ i, i < r → E i (ld i) = 1
  zero : ∀ i k, i < r → k < m → k ≠ i → E k (ld i) = 0
  before : ∀ i j, i < r → j < ld i → E i j = 0
  mono : ∀ i k, i < k → k < r → ld i < ld k
  rest : ∀ k j, r ≤ k → k < m → j < c → E k j = 0
  res : ∀ i j, i < m → j < n → 0 ≤ E i j ∧ E i j < p

theorem Inv.start {p : Int} {n m : Nat} {E : Nat → Nat → Int} (h : ∀ i j, i < m → j < n → 0 ≤ E i j ∧ E i j < p) (ld : Nat → Nat) : Inv p n m 0 0 E ld :=
  ⟨Nat.zero_le _, fun i hi => by omega, fun i hi => by omega, fun i k hi => by omega, fun i j hi => by omega, fun i k _ hk => by omega, fun k j _ _ hj => by omega, h⟩
theorem Inv.skip {p : Int} {n m c r : Nat} {E : Nat → Nat → Int} {ld : Nat → Nat} (h : Inv p n m c r E ld) (hz : ∀ k, r ≤ k → k < m → E k c = 0) : Inv p n m (c + 1) r E ld :=
  ⟨h.le, fun i hi => by have := h.lt i hi; omega, h.one, h.zero, h.before, h.mono, fun k j hk hm hj => by
    rcases Nat.lt_or_ge j c with hl | hl
    · exact h.rest k j hk hm hl
    · obtain rfl : j = c := by omega
      exact hz k hk hm, h.res⟩

section
variable {p : Int} {n m c r k : Nat} {E : Nat → Nat → Int} {ld : Nat → Nat} {iv : Int}

theorem tr_lt (hr : r < m) {i : Nat} (hi : i < m) : tr r k i < m := by unfold tr; split <;> omega
theorem step_low (h : Inv p n m c r E ld) (hc : c < n) (hrk : r ≤ k) (hk : k < m) {i j : Nat} (hi : i < m) (hj : j < c) (hir : i ≠ r) : stepE p c r k iv E i j = E (tr r k i) j := by
  unfold stepE
  rw [if_neg hir, h.rest k j hrk hk hj]
  have := h.res (tr r k i) j (tr_lt (by omega) hi) (by omega)
  simp only [Int.zero_mul, Int.zero_emod, Int.mul_zero, Int.sub_zero]
  exact Int.emod_eq_of_lt this.1 this.2
theorem step_piv (h : Inv p n m c r E ld) (hrk : r ≤ k) (hk : k < m) {j : Nat} (hj : j < c) : stepE p c r k iv E r j = 0 := by
  unfold stepE
  rw [if_pos rfl, h.rest k j hrk hk hj, Int.zero_mul, Int.zero_emod]

theorem Inv.step (h : Inv p n m c r E ld) (hp : 0 < p) (hc : c < n) (hrk : r ≤ k) (hk : k < m) (hiv : E k c * iv % p = 1) :
    Inv p n m (c + 1) (r + 1) (stepE p c r k iv E) (fun i => if i < r then ld i else c) := by
  have hcol : ∀ i, i < m → i ≠ r → stepE p c r k iv E i c = 0 := by
    intro i hi hir
    unfold stepE
    rw [if_neg hir, hiv, Int.mul_one, Int.sub_self, Int.zero_emod]
  refine ⟨by omega, ?_, ?_, ?_, ?_, ?_, ?_, ?_⟩
  · intro i hi
    by_cases hir : i < r
    · have := h.lt i hir; simp only [hir, if_true]; omega
    · simp only [hir, if_false]; omega
  · intro i hi
    by_cases hir : i < r
    · simp only [hir, if_true]
      rw [step_low h hc hrk hk (by omega) (h.lt i hir) (by omega)]
      unfold tr; rw [if_neg (by omega)]; exact h.one i hir
    · obtain rfl : i = r := by omega
      simp only [hir, if_false]
      unfold stepE; rw [if_pos rfl]; exact hiv
  · intro i k' hi hk' hne
    by_cases hir : i < r
    · simp only [hir, if_true]
      by_cases hkr : k' = r
      · subst hkr; exact step_piv h hrk hk (h.lt i hir)
      · rw [step_low h hc hrk hk hk' (h.lt i hir) hkr]
        refine h.zero i _ hir (tr_lt (by omega) hk') ?_
        unfold tr; split <;> omega
    · obtain rfl : i = r := by omega
      simp only [hir, if_false]
      exact hcol k' hk' hne
  · intro i j hi hj
    by_cases hir : i < r
    · simp only [hir, if_true] at hj
      have := h.lt i hir
      rw [step_low h hc hrk hk (by omega) (by omega) (by omega)]
      unfold tr; rw [if_neg (by omega)]; exact h.before i j hir hj
    · obtain rfl : i = r := by omega
      simp only [hir, if_false] at hj
      exact step_piv h hrk hk hj
  · intro i k' hik hk'
    have h1 : i < r := by omega
    by_cases hkr : k' < r
    · simp only [h1, hkr, if_true]; exact h.mono i k' hik hkr
    · simp only [h1, hkr, if_true, if_false]; exact h.lt i h1
  · intro k' j hk' hm hj
    rcases Nat.lt_or_ge j c with hl | hl
    · rw [step_low h hc hrk hk hm hl (by omega)]
      exact h.rest _ j (by unfold tr; split <;> omega) (tr_lt (by omega) hm) hl
    · obtain rfl : j = c := by omega
      exact hcol k' hm (by omega)
  · intro i j _ _
    unfold stepE
    split <;> exact ⟨Int.emod_nonneg _ (by omega), Int.emod_lt_of_pos _ hp⟩

theorem step_rowr (j : Nat) : p ∣ stepE p c r k iv E r j - (iv * E k j + 0 * E k j) := by
  unfold stepE
  rw [if_pos rfl, Int.zero_mul, Int.add_zero, Int.mul_comm iv]
  exact dvd_emod_sub _ _
theorem step_rowi {i : Nat} (hir : i ≠ r) (j : Nat) : p ∣ stepE p c r k iv E i j - (1 * E (tr r k i) j + (-(E (tr r k i) c)) * stepE p c r k iv E r j) := by
  have e : stepE p c r k iv E r j = E k j * iv % p := by unfold stepE; rw [if_pos rfl]
  rw [e]
  unfold stepE
  rw [if_neg hir, Int.one_mul, Int.neg_mul, ← Int.sub_eq_add_neg]
  exact dvd_emod_sub _ _

theorem step_nul (hr : r < m) (hk : k < m) (hiv : E k c * iv % p = 1) (x : Nat → Int) : Nul p n (stepE p c r k iv E) m x ↔ Nul p n E m x := by
  constructor
  · intro hx i hi
    have hkk : p ∣ sm n fun j => E k j * x j := by
      refine comb_dvd (E k c) 0 (B := stepE p c r k iv E r) (C := stepE p c r k iv E r) (fun j _ => ?_) (hx r hr) (hx r hr)
      have h1 := dvd_sub_emod p (E k j * iv)
      have h2 := dvd_sub_emod p (E k c * iv)
      rw [hiv] at h2
      have e : stepE p c r k iv E r j = E k j * iv % p := by unfold stepE; rw [if_pos rfl]
      rw [e, Int.zero_mul, Int.add_zero]
      obtain ⟨a, ha⟩ := h1
      obtain ⟨b, hb⟩ := h2
      refine ⟨E k c * a - E k j * b, ?_⟩
      have e1 : E k j * iv % p = E k j * iv - p * a := by omega
      have e2 : E k c * (E k j * iv) = E k j * (E k c * iv) := by rw [Int.mul_left_comm]
      have e3 : E k c * iv = p * b + 1 := by omega
      rw [e1, Int.mul_sub, e2, e3, Int.mul_add, Int.mul_one, Int.mul_sub, Int.mul_left_comm p (E k c) a, Int.mul_left_comm p (E k j) b]
      omega
    by_cases hik : i = k
    · subst hik; exact hkk
    · have hi' : tr r k (if i = r then k else i) = i := by
        unfold tr
        by_cases h1 : i = r
        · simp [h1]
        · simp [h1, hik]
      have hne : (if i = r then k else i) ≠ r := by
        by_cases h1 : i = r
        · simp only [h1, if_true]; omega
        · simp only [h1, if_false]; exact h1
      have hlt : (if i = r then k else i) < m := by split <;> omega
      refine comb_dvd 1 (E i c) (B := stepE p c r k iv E (if i = r then k else i)) (C := stepE p c r k iv E r) (fun j _ => ?_) (hx _ hlt) (hx r hr)
      have := step_rowi (p := p) (c := c) (k := k) (iv := iv) (E := E) hne j
      rw [hi'] at this
      obtain ⟨a, ha⟩ := this
      rw [Int.one_mul, Int.neg_mul] at ha
      exact ⟨-a, by rw [Int.mul_neg, ← ha, Int.one_mul]; omega⟩
  · intro hx i hi
    have hrr : p ∣ sm n fun j => stepE p c r k iv E r j * x j := comb_dvd iv 0 (fun j _ => step_rowr j) (hx k hk) (hx k hk)
    by_cases hir : i = r
    · subst hir; exact hrr
    · exact comb_dvd 1 (-(E (tr r k i) c)) (fun j _ => step_rowi hir j) (hx _ (tr_lt hr hi)) hrr

theorem Inv.red (h : Inv p n m n r E ld) : Red p n E r ld :=
  ⟨h.lt, h.one, fun i k hi hk hne => h.zero i k hi (Nat.lt_of_lt_of_le hk h.le) hne, h.before, h.mono, fun i j hi hj => h.res i j (Nat.lt_of_lt_of_le hi h.le) hj⟩
theorem Inv.nul (h : Inv p n m n r E ld) (x : Nat → Int) : Nul p n E m x ↔ Nul p n E r x := by
  constructor
  · intro hx i hi; exact hx i (Nat.lt_of_lt_of_le hi h.le)
  · intro hx i hi
    rcases Nat.lt_or_ge i r with hl | hl
    · exact hx i hl
    · rw [sm_congr (g := fun _ => 0) (fun j hj => by rw [h.rest i j hl hi hj, Int.zero_mul]), sm_zero]; exact Int.dvd_zero p
end

/-! ### Bases of a null space -/
/-- The rows K lie in N, and what is orthogonal to them is orthogonal to all of N. -/
def Gen (p : Int) (n : Nat) (N : (Nat → Int) → Prop) (K : Nat → Nat → Int) (s : Nat) : Prop :=
  (∀ k, k < s → N (K k)) ∧ ∀ x, Nul p n K s x → ∀ y, N y → p ∣ sm n fun j => x j * y j
theorem Gen.nul {p : Int} {n : Nat} {N : (Nat → Int) → Prop} {K K' : Nat → Nat → Int} {s s' : Nat} (h : Gen p n N K s) (h' : Gen p n N K' s') (x : Nat → Int) (hx : Nul p n K s x) : Nul p n K' s' x := by
  intro k hk
  have := h.2 x hx _ (h'.1 k hk)
  rw [sm_congr (g := fun j => x j * K' k j) (fun j _ => Int.mul_comm _ _)]
  exact this

/-- The null vectors of the columns of reduced rows generate what is orthogonal to these. -/
theorem Red.gen {p : Int} {n r : Nat} {R : Nat → Nat → Int} {c : Nat → Nat} (h : Red p n R r c) {K : Nat → Nat → Int} {s : Nat} (at_ : Nat → Nat) (hat : ∀ k, k < s → at_ k < n)
    (hK : ∀ k, k < s → ∀ j, j < n → p ∣ K k j - nv R r c (at_ k) j) (hall : ∀ j, j < n → (∀ i, i < r → c i ≠ j) → ∃ k, k < s ∧ at_ k = j) : Gen p n (Nul p n R r) K s := by
  refine ⟨fun k hk i hi => ?_, fun x hx y hy => ?_⟩
  · have := h.nul_nv (hat k hk) i hi
    have h2 : p ∣ (sm n fun j => R i j * K k j) - sm n fun j => R i j * nv R r c (at_ k) j := sm_dvd_sub fun j hj => by
      rw [← Int.mul_sub]; exact dvd_r (hK k hk j hj) _
    have := Int.dvd_add h2 this
    rwa [Int.sub_add_cancel] at this
  · have hxj : ∀ j, j < n → p ∣ x j - sm r fun i => x (c i) * R i j := by
      intro j hj
      by_cases hl : ∀ i, i < r → c i ≠ j
      · obtain ⟨k, hk, e⟩ := hall j hj hl
        rw [← dot_nv h.lt R hj, ← e]
        have h2 : p ∣ (sm n fun l => x l * nv R r c (at_ k) l) - sm n fun l => K k l * x l := sm_dvd_sub fun l hl => by
          obtain ⟨a, ha⟩ := hK k hk l hl
          exact ⟨-(x l * a), by rw [Int.mul_neg, Int.mul_left_comm, ← ha, Int.mul_sub, Int.mul_comm (K k l)]; omega⟩
        have := Int.dvd_add h2 (hx k hk)
        rwa [Int.sub_add_cancel] at this
      · obtain ⟨i, hi, e⟩ : ∃ i, i < r ∧ c i = j := Classical.byContradiction fun hno => hl fun i hi e => hno ⟨i, hi, e⟩
        rw [sm_one hi (fun k hk hki => by rw [← e, h.zero i k hi hk hki, Int.mul_zero]), ← e, h.one i hi, Int.mul_one, Int.sub_self]
        exact Int.dvd_zero p
    have h2 : p ∣ (sm n fun j => x j * y j) - sm n fun j => sm r fun i => x (c i) * (R i j * y j) := sm_dvd_sub fun j hj => by
      have e : (fun i => x (c i) * (R i j * y j)) = fun i => y j * (x (c i) * R i j) := by funext i; rw [← Int.mul_assoc, Int.mul_comm]
      rw [e, sm_mul, Int.mul_comm (x j), ← Int.mul_sub]
      exact dvd_r (hxj j hj) _
    rw [sm_swap] at h2
    have h3 : p ∣ sm r fun i => sm n fun j => x (c i) * (R i j * y j) := sm_dvd fun i hi => by
      rw [sm_mul]; exact dvd_r (hy i hi) _
    have := Int.dvd_add h2 h3
    rwa [Int.sub_add_cancel] at this
end Go.Proofs.YtahnhblodfdfhaaDoor
namespace Go.Proofs.YtahnhblodfdfhaaDoor

/-- A round of the reduction on rows beside: f i is what is taken of the pivot's row from row i. -/
def stepG (p : Int) (r k : Nat) (iv : Int) (f : Nat → Int) (A : Nat → Nat → Int) (i j : Nat) : Int :=
  if i = r then A k j * iv % p else (A (tr r k i) j - f i * (A k j * iv % p)) % p
theorem stepE_eq (p : Int) (c r k : Nat) (iv : Int) (E : Nat → Nat → Int) : stepE p c r k iv E = stepG p r k iv (fun i => E (tr r k i) c) E := rfl

section
variable {p : Int} {n m r k : Nat} {A : Nat → Nat → Int} {iv : Int} {f : Nat → Int}
theorem stepG_rowr (j : Nat) : p ∣ stepG p r k iv f A r j - iv * A k j := by
  unfold stepG
  rw [if_pos rfl, Int.mul_comm iv]
  exact dvd_emod_sub _ _
theorem stepG_rowi {i : Nat} (hir : i ≠ r) (j : Nat) : p ∣ stepG p r k iv f A i j - (A (tr r k i) j - f i * stepG p r k iv f A r j) := by
  have e : stepG p r k iv f A r j = A k j * iv % p := by unfold stepG; rw [if_pos rfl]
  rw [e]
  unfold stepG
  rw [if_neg hir]
  exact dvd_emod_sub _ _

/-- y is a combination of the first m rows. -/
def InSp (p : Int) (n : Nat) (A : Nat → Nat → Int) (m : Nat) (y : Nat → Int) : Prop := ∃ z : Nat → Int, ∀ l, l < n → p ∣ y l - sm m fun i => z i * A i l
theorem InSp.row {i : Nat} (hi : i < m) : InSp p n A m (A i) :=
  ⟨fun k => if k = i then 1 else 0, fun l _ => by rw [sm_one hi (fun k _ hk => by simp [hk])]; simp⟩
theorem InSp.comb {y y1 y2 : Nat → Int} (a b : Int) (h1 : InSp p n A m y1) (h2 : InSp p n A m y2) (h : ∀ l, l < n → p ∣ y l - (a * y1 l + b * y2 l)) : InSp p n A m y := by
  obtain ⟨z1, h1⟩ := h1
  obtain ⟨z2, h2⟩ := h2
  refine ⟨fun i => a * z1 i + b * z2 i, fun l hl => ?_⟩
  have e : (fun i => (a * z1 i + b * z2 i) * A i l) = fun i => a * (z1 i * A i l) + b * (z2 i * A i l) := by
    funext i; rw [Int.add_mul, Int.mul_assoc, Int.mul_assoc]
  rw [e, sm_add, sm_mul, sm_mul]
  obtain ⟨c, hc⟩ := h l hl
  obtain ⟨c1, hc1⟩ := h1 l hl
  obtain ⟨c2, hc2⟩ := h2 l hl
  refine ⟨c + a * c1 + b * c2, ?_⟩
  rw [Int.mul_add, Int.mul_add, Int.mul_left_comm p a, Int.mul_left_comm p b, ← hc1, ← hc2, ← hc, Int.mul_sub, Int.mul_sub]
  omega
theorem InSp.zero : InSp p n A m (fun _ => 0) := ⟨fun _ => 0, fun l _ => by
  rw [sm_congr (g := fun _ => 0) (fun i _ => Int.zero_mul _), sm_zero]; simp⟩
theorem InSp.sum {B : Nat → Nat → Int} {s : Nat} (z : Nat → Int) (h : ∀ i, i < s → InSp p n A m (B i)) : InSp p n A m (fun l => sm s fun i => z i * B i l) := by
  induction s with
  | zero => exact InSp.zero
  | succ s ih =>
    refine InSp.comb 1 (z s) (ih fun i hi => h i (by omega)) (h s (by omega)) fun l _ => ?_
    rw [sm, Int.one_mul, Int.sub_self]; exact Int.dvd_zero p
theorem InSp.trans {B : Nat → Nat → Int} {s : Nat} {y : Nat → Int} (h : InSp p n B s y) (hB : ∀ i, i < s → InSp p n A m (B i)) : InSp p n A m y := by
  obtain ⟨z, hz⟩ := h
  refine InSp.comb 1 0 (InSp.sum z hB) InSp.zero fun l hl => ?_
  rw [Int.one_mul, Int.mul_zero, Int.add_zero]; exact hz l hl

/-- A round loses nothing of the span. -/
theorem stepG_span (hr : r < m) (hk : k < m) {pv : Int} (hiv : pv * iv % p = 1) {i : Nat} (hi : i < m) : InSp p n (stepG p r k iv f A) m (A i) := by
  have hR : InSp p n (stepG p r k iv f A) m (stepG p r k iv f A r) := InSp.row hr
  by_cases hik : i = k
  · subst hik
    refine InSp.comb pv 0 hR hR fun j _ => ?_
    have h2 := dvd_sub_emod p (pv * iv)
    rw [hiv] at h2
    obtain ⟨a, ha⟩ := stepG_rowr (p := p) (r := r) (k := i) (iv := iv) (f := f) (A := A) j
    obtain ⟨b, hb⟩ := h2
    have e1 : stepG p r i iv f A r j = p * a + iv * A i j := by omega
    have e2 : pv * iv = p * b + 1 := by omega
    refine ⟨-(pv * a + b * A i j), ?_⟩
    rw [e1, Int.mul_add, ← Int.mul_assoc pv iv, e2, Int.add_mul, Int.one_mul, Int.zero_mul, Int.mul_neg, Int.mul_add, Int.mul_left_comm pv p, Int.mul_assoc p b]
    omega
  · have hi' : tr r k (if i = r then k else i) = i := by
      unfold tr
      by_cases h1 : i = r
      · simp [h1]
      · simp [h1, hik]
    have hne : (if i = r then k else i) ≠ r := by
      by_cases h1 : i = r
      · simp only [h1, if_true]; omega
      · simp only [h1, if_false]; exact h1
    have hlt : (if i = r then k else i) < m := by split <;> omega
    refine InSp.comb 1 (f (if i = r then k else i)) (InSp.row hlt) hR fun j _ => ?_
    obtain ⟨a, ha⟩ := stepG_rowi (p := p) (k := k) (iv := iv) (f := f) (A := A) hne j
    rw [hi'] at ha
    exact ⟨-a, by rw [Int.mul_neg, ← ha, Int.one_mul]; omega⟩

/-- The rows beside make the rows out of T. -/
def Makes (p : Int) (M n : Nat) (E A T : Nat → Nat → Int) : Prop := ∀ i, i < M → ∀ k, k < n → p ∣ E i k - sm M fun l => A i l * T l k
theorem Makes.step {M : Nat} {E T : Nat → Nat → Int} (h : Makes p M n E A T) (hr : r < M) (hk : k < M) : Makes p M n (stepG p r k iv f E) (stepG p r k iv f A) T := by
  have hR : ∀ q, q < n → p ∣ stepG p r k iv f E r q - sm M fun l => stepG p r k iv f A r l * T l q := by
    intro q hq
    obtain ⟨a, ha⟩ := h k hk q hq
    obtain ⟨b, hb⟩ := stepG_rowr (p := p) (r := r) (k := k) (iv := iv) (f := f) (A := E) q
    have h3 : p ∣ (sm M fun l => stepG p r k iv f A r l * T l q) - sm M fun l => iv * (A k l * T l q) := sm_dvd_sub fun l _ => by
      rw [← Int.mul_assoc, ← Int.sub_mul]; exact dvd_l (stepG_rowr l) _
    rw [sm_mul] at h3
    obtain ⟨c, hc⟩ := h3
    refine ⟨b + iv * a - c, ?_⟩
    rw [Int.mul_sub, Int.mul_add, Int.mul_left_comm p iv, ← ha, ← hb, ← hc, Int.mul_sub]
    omega
  intro i hi q hq
  by_cases hir : i = r
  · subst hir; exact hR q hq
  · obtain ⟨a, ha⟩ := h (tr r k i) (tr_lt (k := k) hr hi) q hq
    obtain ⟨b, hb⟩ := stepG_rowi (p := p) (k := k) (iv := iv) (f := f) (A := E) hir q
    obtain ⟨d, hd⟩ := hR q hq
    have h3 : p ∣ (sm M fun l => stepG p r k iv f A i l * T l q) - sm M fun l => (A (tr r k i) l * T l q - f i * (stepG p r k iv f A r l * T l q)) := sm_dvd_sub fun l _ => by
      rw [← Int.mul_assoc, ← Int.sub_mul, ← Int.sub_mul]; exact dvd_l (stepG_rowi hir l) _
    rw [sm_sub, sm_mul] at h3
    obtain ⟨c, hc⟩ := h3
    refine ⟨b + a - f i * d - c, ?_⟩
    rw [Int.mul_sub, Int.mul_sub, Int.mul_add, Int.mul_left_comm p (f i), ← ha, ← hb, ← hc, ← hd, Int.mul_sub]
    omega

/-- THE ROWS BESIDE THE ZERO ROWS GENERATE WHAT T TAKES TO ZERO. -/
theorem makes_gen {M : Nat} {E T : Nat → Nat → Int} {ld : Nat → Nat} (hI : Inv p n M n r E ld) (h : Makes p M n E A T) (hS : ∀ y, InSp p M A M y) :
    Gen p M (fun y => ∀ q, q < n → p ∣ sm M fun l => y l * T l q) (fun k => A (r + k)) (M - r) := by
  have hrM := hI.le
  refine ⟨fun k hk q hq => ?_, fun x hx y hy => ?_⟩
  · have := h (r + k) (by omega) q hq
    rw [hI.rest (r + k) q (by omega) (by omega) hq, Int.zero_sub] at this
    exact (Int.dvd_neg).1 this
  · obtain ⟨z, hz⟩ := hS y
    -- y T = 0, so z E = 0
    have hzE : ∀ q, q < n → p ∣ sm M fun i => z i * E i q := by
      intro q hq
      have h1 : p ∣ (sm M fun i => z i * E i q) - sm M fun i => sm M fun l => z i * (A i l * T l q) := sm_dvd_sub fun i hi => by
        rw [sm_mul, ← Int.mul_sub]; exact dvd_r (h i hi q hq) _
      rw [sm_swap] at h1
      have h2 : p ∣ (sm M fun l => y l * T l q) - sm M fun l => sm M fun i => z i * (A i l * T l q) := sm_dvd_sub fun l hl => by
        have e : (fun i => z i * (A i l * T l q)) = fun i => T l q * (z i * A i l) := by funext i; rw [← Int.mul_assoc, Int.mul_comm]
        rw [e, sm_mul, Int.mul_comm (y l), ← Int.mul_sub]
        exact dvd_r (hz l hl) _
      have h3 := Int.dvd_sub (hy q hq) h2
      rw [Int.sub_sub_self] at h3
      have := Int.dvd_add h1 h3
      rwa [Int.sub_add_cancel] at this
    have hz0 : ∀ i, i < r → p ∣ z i := by
      intro i hi
      have := hzE (ld i) (hI.lt i hi)
      rwa [sm_one (show i < M by omega) (fun k hk hki => by rw [hI.zero i k hi hk hki, Int.mul_zero]), hI.one i hi, Int.mul_one] at this
    have hxA : ∀ i, i < M → p ∣ z i * sm M fun l => A i l * x l := by
      intro i hi
      rcases Nat.lt_or_ge i r with hl | hl
      · exact dvd_l (hz0 i hl) _
      · have := hx (i - r) (by omega)
        simp only [show r + (i - r) = i by omega] at this
        exact dvd_r this _
    have h1 : p ∣ (sm M fun l => x l * y l) - sm M fun l => sm M fun i => z i * (A i l * x l) := sm_dvd_sub fun l hl => by
      have e : (fun i => z i * (A i l * x l)) = fun i => x l * (z i * A i l) := by funext i; rw [← Int.mul_assoc, Int.mul_comm]
      rw [e, sm_mul, ← Int.mul_sub]
      exact dvd_r (hz l hl) _
    rw [sm_swap] at h1
    have h2 : p ∣ sm M fun i => sm M fun l => z i * (A i l * x l) := sm_dvd fun i hi => by rw [sm_mul]; exact hxA i hi
    have := Int.dvd_add h1 h2
    rwa [Int.sub_add_cancel] at this
end
end Go.Proofs.YtahnhblodfdfhaaDoor
namespace Go.Proofs.YtahnhblodfdfhaaDoor

/-- The entry of row i, column j. -/
def en (L : List (List Int)) (i j : Nat) : Int := (L.getD i []).getD j 0
/-- m rows of n residues. -/
structure Mat (p : Int) (m n : Nat) (L : List (List Int)) : Prop where
  len : L.length = m
  row : ∀ v, v ∈ L → v.length = n ∧ Res p v
theorem Mat.get {p : Int} {m n : Nat} {L : List (List Int)} (h : Mat p m n L) {i : Nat} (hi : i < m) : (L.getD i []).length = n ∧ Res p (L.getD i []) := by
  have hl : i < L.length := by rw [h.len]; exact hi
  have : L.getD i [] = L[i] := by simp [List.getD, hl]
  rw [this]; exact h.row _ (List.getElem_mem hl)
theorem Mat.en {p : Int} (hp : 0 < p) {m n : Nat} {L : List (List Int)} (h : Mat p m n L) {i : Nat} (hi : i < m) (j : Nat) : 0 ≤ en L i j ∧ en L i j < p := (h.get hi).2.getD hp j

/-- The first row from k on that has something in column c. -/
def pvFrom (L : List (List Int)) (c : Nat) : Nat → Nat → Nat
  | 0, k => k
  | f + 1, k => if en L k c = 0 then pvFrom L c f (k + 1) else k
theorem pvFrom_spec (L : List (List Int)) (c : Nat) : ∀ (f k : Nat), k ≤ pvFrom L c f k ∧ pvFrom L c f k ≤ k + f ∧ (∀ i, k ≤ i → i < pvFrom L c f k → en L i c = 0) ∧ (pvFrom L c f k < k + f → en L (pvFrom L c f k) c ≠ 0)
  | 0, k => ⟨Nat.le_refl _, Nat.le_refl _, fun i h1 h2 => by unfold pvFrom at h2; omega, fun h => by unfold pvFrom at h; omega⟩
  | f + 1, k => by
    rw [pvFrom]
    split
    · rename_i h0
      obtain ⟨h1, h2, h3, h4⟩ := pvFrom_spec L c f (k + 1)
      refine ⟨by omega, by omega, fun i hi hlt => ?_, fun h => h4 (by omega)⟩
      rcases Nat.lt_or_ge k i with hk | hk
      · exact h3 i (by omega) hlt
      · obtain rfl : i = k := by omega
        exact h0
    · rename_i h0
      exact ⟨Nat.le_refl _, by omega, fun i hi hlt => by omega, fun _ => h0⟩

/-- The three parts of a round. -/
def swapL (L : List (List Int)) (r k : Nat) : List (List Int) := (L.set r (L.getD k [])).set k (L.getD r [])
def scaleV (p iv : Int) (v : List Int) : List Int := v.map fun a => a * iv % p
def scaleL (p : Int) (r : Nat) (iv : Int) (L : List (List Int)) : List (List Int) := L.set r (scaleV p iv (L.getD r []))
/-- The rows below q are done. -/
def elimTo (p : Int) (r : Nat) (f : Nat → Int) (L : List (List Int)) (q : Nat) : List (List Int) :=
  (List.range L.length).map fun i => if i < q ∧ i ≠ r ∧ f i ≠ 0 then addT p (L.getD i []) (-(f i)) (L.getD r []) else L.getD i []

theorem getD_set {α : Type} (L : List α) (i k : Nat) (x d : α) (hi : i < L.length) : (L.set i x).getD k d = if k = i then x else L.getD k d := by
  by_cases h : k = i
  · subst h; simp [List.getD, hi]
  · rw [if_neg h]; simp [List.getD, List.getElem?_set_ne (Ne.symm h)]
@[simp] theorem swapL_length (L : List (List Int)) (r k : Nat) : (swapL L r k).length = L.length := by simp [swapL]
theorem swapL_get {L : List (List Int)} {r k : Nat} (hr : r < L.length) (hk : k < L.length) (i : Nat) : (swapL L r k).getD i [] = if i = k then L.getD r [] else if i = r then L.getD k [] else L.getD i [] := by
  unfold swapL
  rw [getD_set _ _ _ _ _ (by rw [List.length_set]; exact hk)]
  split
  · rfl
  · exact getD_set _ _ _ _ _ hr
@[simp] theorem scaleL_length (p : Int) (r : Nat) (iv : Int) (L : List (List Int)) : (scaleL p r iv L).length = L.length := by simp [scaleL]
theorem scaleL_get {p : Int} {r : Nat} {iv : Int} {L : List (List Int)} (hr : r < L.length) (i : Nat) : (scaleL p r iv L).getD i [] = if i = r then scaleV p iv (L.getD r []) else L.getD i [] := getD_set _ _ _ _ _ hr
@[simp] theorem elimTo_length (p : Int) (r : Nat) (f : Nat → Int) (L : List (List Int)) (q : Nat) : (elimTo p r f L q).length = L.length := by simp [elimTo]
theorem elimTo_get {p : Int} {r : Nat} {f : Nat → Int} {L : List (List Int)} {q i : Nat} (hi : i < L.length) : (elimTo p r f L q).getD i [] = if i < q ∧ i ≠ r ∧ f i ≠ 0 then addT p (L.getD i []) (-(f i)) (L.getD r []) else L.getD i [] := by
  simp [elimTo, List.getD, hi]
theorem scaleV_get (p iv : Int) (v : List Int) (j : Nat) : (scaleV p iv v).getD j 0 = v.getD j 0 * iv % p := by
  unfold scaleV
  by_cases h : j < v.length
  · simp [List.getD, h]
  · simp [List.getD, h]

/-- A round: (the rows found, the rows, the rows beside). -/
def colStep (p : Int) (c : Nat) (s : Nat × List (List Int) × List (List Int)) : Nat × List (List Int) × List (List Int) :=
  if pvFrom s.2.1 c (s.2.1.length - s.1) s.1 < s.2.1.length then
    let k := pvFrom s.2.1 c (s.2.1.length - s.1) s.1
    let iv := invM p (en s.2.1 k c)
    let L2 := scaleL p s.1 iv (swapL s.2.1 s.1 k)
    (s.1 + 1, elimTo p s.1 (fun i => en L2 i c) L2 L2.length, elimTo p s.1 (fun i => en L2 i c) (scaleL p s.1 iv (swapL s.2.2 s.1 k)) s.2.2.length)
  else s
def redTo (p : Int) (L A : List (List Int)) : Nat → Nat × List (List Int) × List (List Int)
  | 0 => (0, L, A)
  | c + 1 => colStep p c (redTo p L A c)
/-- The reduced rows. -/
def redM (p : Int) (n : Nat) (L : List (List Int)) : List (List Int) := (redTo p L [] n).2.1.take (redTo p L [] n).1
end Go.Proofs.YtahnhblodfdfhaaDoor
