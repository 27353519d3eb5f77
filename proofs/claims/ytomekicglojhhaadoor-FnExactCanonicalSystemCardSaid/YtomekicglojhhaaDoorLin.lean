/-
  PLAIN LAW: REDUCED ROWS OVER A FIELD OF p ELEMENTS: a reduced list is known by what is orthogonal to it. No program is looked at.
-/
import Derived.Test.YtomekicglojhhaaDoorFieldM
namespace Go.Proofs.YtomekicglojhhaaDoor

theorem dvd_l {p a : Int} (h : p ∣ a) (b : Int) : p ∣ a * b := by
  obtain ⟨k, rfl⟩ := h; exact ⟨k * b, Int.mul_assoc _ _ _⟩
theorem dvd_r {p a : Int} (h : p ∣ a) (b : Int) : p ∣ b * a := by
  rw [Int.mul_comm]; exact dvd_l h b

/-- f 0 + .. + f (n - 1) -/
def sm : Nat → (Nat → Int) → Int
  | 0, _ => 0
  | n + 1, f => sm n f + f n
theorem sm_congr {n : Nat} {f g : Nat → Int} (h : ∀ i, i < n → f i = g i) : sm n f = sm n g := by
  induction n with
  | zero => rfl
  | succ n ih => rw [sm, sm, ih fun i hi => h i (by omega), h n (by omega)]
theorem sm_zero (n : Nat) : sm n (fun _ => 0) = 0 := by
  induction n with
  | zero => rfl
  | succ n ih => rw [sm, ih]; rfl
theorem sm_add (n : Nat) (f g : Nat → Int) : sm n (fun i => f i + g i) = sm n f + sm n g := by
  induction n with
  | zero => rfl
  | succ n ih => rw [sm, sm, sm, ih]; omega
theorem sm_sub (n : Nat) (f g : Nat → Int) : sm n (fun i => f i - g i) = sm n f - sm n g := by
  induction n with
  | zero => rfl
  | succ n ih => rw [sm, sm, sm, ih]; omega
theorem sm_mul (n : Nat) (c : Int) (f : Nat → Int) : sm n (fun i => c * f i) = c * sm n f := by
  induction n with
  | zero => simp [sm]
  | succ n ih => rw [sm, sm, ih, Int.mul_add]
theorem sm_swap (n m : Nat) (f : Nat → Nat → Int) : sm n (fun i => sm m (fun j => f i j)) = sm m (fun j => sm n (fun i => f i j)) := by
  induction n with
  | zero => simp only [sm]; exact (sm_zero m).symm
  | succ n ih => simp only [sm]; rw [ih, sm_add]
/-- A sum of which one part alone may not be 0. -/
theorem sm_one {n k : Nat} (hk : k < n) {f : Nat → Int} (h : ∀ i, i < n → i ≠ k → f i = 0) : sm n f = f k := by
  induction n with
  | zero => omega
  | succ n ih =>
    rw [sm]
    by_cases e : k = n
    · subst e
      rw [sm_congr (g := fun _ => 0) (fun i hi => h i (by omega) (by omega)), sm_zero, Int.zero_add]
    · rw [ih (by omega) fun i hi hik => h i (by omega) hik, h n (by omega) (by omega), Int.add_zero]
theorem sm_dvd {p : Int} {n : Nat} {f : Nat → Int} (h : ∀ i, i < n → p ∣ f i) : p ∣ sm n f := by
  induction n with
  | zero => exact Int.dvd_zero p
  | succ n ih => exact Int.dvd_add (ih fun i hi => h i (by omega)) (h n (by omega))
theorem sm_dvd_sub {p : Int} {n : Nat} {f g : Nat → Int} (h : ∀ i, i < n → p ∣ f i - g i) : p ∣ sm n f - sm n g := by
  rw [← sm_sub]; exact sm_dvd h

/-- x is orthogonal to the first r rows. -/
def Nul (p : Int) (n : Nat) (R : Nat → Nat → Int) (r : Nat) (x : Nat → Int) : Prop := ∀ i, i < r → p ∣ sm n fun j => R i j * x j

/-- The first r rows are reduced, c names their leads. -/
structure Red (p : Int) (n : Nat) (R : Nat → Nat → Int) (r : Nat) (c : Nat → Nat) : Prop where
  lt : ∀ i, i < r → c i < n
  one : ∀ i, i < r → R i (c i) = 1
  zero : ∀ i k, i < r → k < r → k ≠ i → R k (c i) = 0
  before : ∀ i j, i < r → j < c i → R i j = 0
  mono : ∀ i k, i < k → k < r → c i < c k
  res : ∀ i j, i < r → j < n → 0 ≤ R i j ∧ R i j < p

/-- The null vector of column j. -/
def nv (R : Nat → Nat → Int) (r : Nat) (c : Nat → Nat) (j : Nat) (k : Nat) : Int := (if k = j then 1 else 0) - sm r fun i => (if k = c i then 1 else 0) * R i j
theorem dot_delta {n j : Nat} (hj : j < n) (v : Nat → Int) : sm n (fun k => v k * (if k = j then 1 else 0)) = v j := by
  rw [sm_one hj (fun i _ hij => by simp [hij])]; simp
theorem dot_nv {n r : Nat} {c : Nat → Nat} (hc : ∀ i, i < r → c i < n) (R : Nat → Nat → Int) {j : Nat} (hj : j < n) (v : Nat → Int) :
    sm n (fun k => v k * nv R r c j k) = v j - sm r fun i => v (c i) * R i j := by
  have e1 : (fun k => v k * nv R r c j k) = fun k => v k * (if k = j then 1 else 0) - sm r fun i => R i j * (v k * (if k = c i then 1 else 0)) := by
    funext k
    unfold nv
    rw [Int.mul_sub, ← sm_mul]
    congr 2
    funext i
    rw [Int.mul_comm (R i j), Int.mul_assoc]
  rw [e1, sm_sub, dot_delta hj, sm_swap]
  congr 1
  refine sm_congr fun i hi => ?_
  rw [sm_mul, dot_delta (hc i hi), Int.mul_comm]
theorem Red.nul_nv {p : Int} {n r : Nat} {R : Nat → Nat → Int} {c : Nat → Nat} (h : Red p n R r c) {j : Nat} (hj : j < n) : Nul p n R r (nv R r c j) := by
  intro i hi
  rw [dot_nv h.lt R hj, sm_one hi (fun k hk hki => by rw [h.zero k i hk hi (fun e => hki e.symm), Int.zero_mul]), h.one i hi, Int.one_mul, Int.sub_self]
  exact Int.dvd_zero p
/-- What is orthogonal to all that is orthogonal to reduced rows is a combination of these. -/
theorem Red.expand {p : Int} {n r : Nat} {R : Nat → Nat → Int} {c : Nat → Nat} (h : Red p n R r c) {v : Nat → Int} (hv : ∀ x, Nul p n R r x → p ∣ sm n fun j => v j * x j) {j : Nat} (hj : j < n) :
    p ∣ v j - sm r fun i => v (c i) * R i j := by
  rw [← dot_nv h.lt R hj]; exact hv _ (h.nul_nv hj)

theorem res_eq {p a b : Int} (ha : 0 ≤ a ∧ a < p) (hb : 0 ≤ b ∧ b < p) (h : p ∣ a - b) : a = b := by
  obtain ⟨k, hk⟩ := h
  have h1 : p * k < p * 1 := by omega
  have h2 : p * (-1) < p * k := by omega
  have h3 := Int.lt_of_mul_lt_mul_left h1 (by omega)
  have h4 := Int.lt_of_mul_lt_mul_left h2 (by omega)
  have : k = 0 := by omega
  subst this
  omega

theorem least_of {P : Nat → Prop} {n : Nat} (h : ∃ i, i < n ∧ P i) : ∃ i, i < n ∧ P i ∧ ∀ j, j < i → ¬ P j := by
  obtain ⟨i, hi, hp⟩ := h
  induction i using Nat.strongRecOn with
  | _ i ih =>
    by_cases hh : ∃ j, j < i ∧ P j
    · obtain ⟨j, hj, hpj⟩ := hh
      exact ih j hj (by omega) hpj
    · exact ⟨i, hi, hp, fun j hj hpj => hh ⟨j, hj, hpj⟩⟩

theorem Red.lead_mem {p : Int} (hp : 1 < p) {n r s : Nat} {R T : Nat → Nat → Int} {c d : Nat → Nat} (h : Red p n R r c) (h' : Red p n T s d) (hN : ∀ x, Nul p n R r x → Nul p n T s x) {k : Nat} (hk : k < s) :
    ∃ i, i < r ∧ c i = d k := by
  have hx := fun j hj => h.expand (v := T k) (fun x hx => hN x hx k hk) (j := j) hj
  obtain ⟨i0, h1, h2, h3⟩ : ∃ i, i < r ∧ T k (c i) ≠ 0 ∧ ∀ j, j < i → ¬ T k (c j) ≠ 0 := by
    apply least_of
    apply Classical.byContradiction
    intro hno
    have := hx (d k) (h'.lt k hk)
    rw [sm_congr (g := fun _ => 0) (fun i hi => by
      have : T k (c i) = 0 := Classical.byContradiction fun e => hno ⟨i, hi, e⟩
      rw [this, Int.zero_mul]), sm_zero, h'.one k hk] at this
    obtain ⟨m, hm⟩ := this
    have : p ∣ 1 := ⟨m, by omega⟩
    have := Int.le_of_dvd (by decide) this
    omega
  refine ⟨i0, h1, ?_⟩
  have hle : d k ≤ c i0 := by
    apply Nat.le_of_not_lt
    intro hlt
    exact h2 (h'.before k (c i0) hk hlt)
  have hge : c i0 ≤ d k := by
    apply Nat.le_of_not_lt
    intro hlt
    have := hx (d k) (h'.lt k hk)
    rw [sm_congr (g := fun _ => 0) (fun i hi => by
      by_cases hii : i < i0
      · have : T k (c i) = 0 := Classical.byContradiction fun e => h3 i hii e
        rw [this, Int.zero_mul]
      · have : d k < c i := by
          rcases Nat.lt_or_ge i0 i with hl | hl
          · have := h.mono i0 i hl hi; omega
          · obtain rfl : i = i0 := by omega
            exact hlt
        rw [h.before i (d k) hi this, Int.mul_zero]), sm_zero, h'.one k hk] at this
    obtain ⟨m, hm⟩ := this
    have : p ∣ 1 := ⟨m, by omega⟩
    have := Int.le_of_dvd (by decide) this
    omega
  omega

theorem seq_eq {r s : Nat} {c d : Nat → Nat} (hc : ∀ i k, i < k → k < r → c i < c k) (hd : ∀ i k, i < k → k < s → d i < d k) (h1 : ∀ i, i < r → ∃ k, k < s ∧ d k = c i) (h2 : ∀ k, k < s → ∃ i, i < r ∧ c i = d k) :
    ∀ i, i < r → i < s ∧ c i = d i := by
  intro i
  induction i using Nat.strongRecOn with
  | _ i ih =>
    intro hi
    obtain ⟨k, hk, e⟩ := h1 i hi
    rcases Nat.lt_trichotomy k i with hlt | rfl | hgt
    · have h3 := (ih k hlt (by omega)).2
      have h4 := hc k i hlt hi
      omega
    · exact ⟨hk, e.symm⟩
    · have h3 := hd i k hgt hk
      obtain ⟨m, hm, e'⟩ := h2 i (by omega)
      have hmi : m < i := by
        rcases Nat.lt_trichotomy m i with h | rfl | h
        · exact h
        · omega
        · have := hc i m h hm; omega
      have h4 := (ih m hmi (by omega)).2
      have h5 := hd m i hmi (by omega)
      omega

/-- REDUCED ROWS ARE KNOWN BY WHAT IS ORTHOGONAL TO THEM. -/
theorem Red.unique {p : Int} (hp : 1 < p) {n r s : Nat} {R T : Nat → Nat → Int} {c d : Nat → Nat} (h : Red p n R r c) (h' : Red p n T s d) (hN : ∀ x, Nul p n R r x ↔ Nul p n T s x) :
    r = s ∧ ∀ i j, i < r → j < n → R i j = T i j := by
  have m1 := fun k hk => Red.lead_mem hp h h' (fun x hx => (hN x).1 hx) (k := k) hk
  have m2 := fun k hk => Red.lead_mem hp h' h (fun x hx => (hN x).2 hx) (k := k) hk
  have e1 := seq_eq h.mono h'.mono m2 m1
  have e2 := seq_eq h'.mono h.mono m1 m2
  have hrs : r = s := by
    rcases Nat.lt_trichotomy r s with hh | hh | hh
    · have := (e2 r hh).1; omega
    · exact hh
    · have := (e1 s hh).1; omega
  refine ⟨hrs, fun i j hi hj => ?_⟩
  subst hrs
  have hx := h.expand (v := T i) (fun x hx => (hN x).1 hx i hi) hj
  rw [sm_one hi (fun k hk hki => by rw [(e1 k hk).2, h'.zero k i hk hi (fun e => hki e.symm), Int.zero_mul]), (e1 i hi).2, h'.one i hi, Int.one_mul] at hx
  exact (res_eq (h'.res i j hi hj) (h.res i j hi hj) hx).symm
end Go.Proofs.YtomekicglojhhaaDoor
