/-
  PLAIN ALGEBRA OF COEFFICIENT LISTS (no program in sight): trimming, sums of multiples, products, inverses.
-/
import Derived.Test.YtahnhblodfdfhaaDoorFieldM
namespace Go.Proofs.YtahnhblodfdfhaaDoor

/-! ### Lists -/
theorem getD_of_some {l : List Int} {k : Nat} {x : Int} (h : l[k]? = some x) : l.getD k 0 = x := by simp [List.getD, h]

/-- Without the zeros at the end. -/
def trimZ (l : List Int) : List Int := (l.reverse.dropWhile (· == 0)).reverse
theorem trimZ_append_zero (l : List Int) : trimZ (l ++ [0]) = trimZ l := by simp [trimZ]
theorem trimZ_append_ne (l : List Int) {x : Int} (h : x ≠ 0) : trimZ (l ++ [x]) = l ++ [x] := by simp [trimZ, h]
theorem trimZ_nil : trimZ [] = [] := rfl
theorem trimZ_of_last {l : List Int} (h : l.getLast? ≠ some 0) : trimZ l = l := by
  rcases List.eq_nil_or_concat l with rfl | ⟨m, x, rfl⟩
  · rfl
  · rw [List.concat_eq_append] at *
    rw [trimZ_append_ne]; simpa using h
theorem trimZ_last (l : List Int) : (trimZ l).getLast? ≠ some 0 := by
  induction h : l.length generalizing l with
  | zero => rw [List.eq_nil_of_length_eq_zero h]; simp [trimZ]
  | succ n ih =>
    rcases List.eq_nil_or_concat l with rfl | ⟨m, x, rfl⟩
    · simp at h
    · rw [List.concat_eq_append] at *
      by_cases hx : x = 0
      · subst hx; rw [trimZ_append_zero]; exact ih m (by simpa using h)
      · rw [trimZ_append_ne _ hx]; simpa using hx
theorem trimZ_eq_take {l : List Int} {n : Nat} (hn : n ≤ l.length) (hz : ∀ x, x ∈ l.drop n → x = 0) (hl : n = 0 ∨ l.getD (n - 1) 0 ≠ 0) : trimZ l = l.take n := by
  have key : ∀ (z a : List Int), (∀ x, x ∈ z → x = 0) → trimZ (a ++ z) = trimZ a := by
    intro z
    induction z with
    | nil => intro a _; simp
    | cons y z ih =>
      intro a hz
      have hy : y = 0 := hz y (by simp)
      subst hy
      have : a ++ 0 :: z = (a ++ [0]) ++ z := by simp
      rw [this, ih _ (fun x hx => hz x (by simp [hx])), trimZ_append_zero]
  have e : l = l.take n ++ l.drop n := (List.take_append_drop n l).symm
  conv => lhs; rw [e]
  rw [key _ _ hz]
  apply trimZ_of_last
  rcases hl with rfl | hl
  · simp
  · rw [List.getLast?_eq_getElem?, List.getElem?_take]
    by_cases h0 : n = 0
    · subst h0; simp
    · have : (l.take n).length = n := by simp; omega
      rw [this, if_pos (by omega)]
      intro h; apply hl; simp [List.getD, h]
theorem trimZ_length (l : List Int) : (trimZ l).length ≤ l.length := by
  unfold trimZ
  have := (List.dropWhile_suffix (l := l.reverse) (· == 0)).length_le
  simpa using this
theorem trimZ_mem {l : List Int} {x : Int} (h : x ∈ trimZ l) : x ∈ l := by
  unfold trimZ at h
  have := (List.dropWhile_suffix (l := l.reverse) (· == 0)).subset (List.mem_reverse.1 h)
  simpa using this
theorem trimZ_lt {l : List Int} {n : Nat} (hn : n < l.length) (hz : ∀ j, n ≤ j → l.getD j 0 = 0) : (trimZ l).length ≤ n := by
  have h1 : ∀ (k : Nat), n + k ≤ l.length → (trimZ (l.take (n + k))).length ≤ n := by
    intro k
    induction k with
    | zero => intro _; have := trimZ_length (l.take (n + 0)); simp at this; exact Nat.le_trans this (Nat.min_le_left _ _)
    | succ k ih =>
      intro hk
      have hlt : n + k < l.length := by omega
      have e : l.take (n + (k + 1)) = l.take (n + k) ++ [0] := by
        rw [← Nat.add_assoc, List.take_add_one]
        have := hz (n + k) (by omega)
        simp [List.getD, hlt] at this
        simp [hlt, this]
      rw [e, trimZ_append_zero]; exact ih (by omega)
  have := h1 (l.length - n) (by omega)
  rwa [show n + (l.length - n) = l.length by omega, List.take_length] at this

/-! ### v plus a multiple of w, in v's place -/
def addT (p : Int) (v : List Int) (c : Int) (w : List Int) : List Int := (List.range v.length).map fun i => if i < w.length then (v.getD i 0 + c * w.getD i 0) % p else v.getD i 0
@[simp] theorem addT_length (p : Int) (v : List Int) (c : Int) (w : List Int) : (addT p v c w).length = v.length := by simp [addT]
theorem addT_get {p c : Int} {v w : List Int} {k : Nat} {x y : Int} (hv : v[k]? = some x) (hw : w[k]? = some y) : (addT p v c w)[k]? = some ((x + c * y) % p) := by
  have h1 : k < v.length := (List.getElem?_eq_some_iff.1 hv).1
  have h2 : k < w.length := (List.getElem?_eq_some_iff.1 hw).1
  simp only [addT, List.getElem?_map, List.getElem?_range h1, Option.map_some, h2, if_true, getD_of_some hv, getD_of_some hw]
theorem addT_getD (p c : Int) (v w : List Int) (k : Nat) : (addT p v c w).getD k 0 = if k < v.length then (if k < w.length then (v.getD k 0 + c * w.getD k 0) % p else v.getD k 0) else 0 := by
  by_cases h : k < v.length
  · simp [addT, List.getD, h]
  · simp [addT, List.getD, h]
theorem addT_drop {p c : Int} {v w : List Int} (_h : w.length ≤ v.length) : (addT p v c w).drop w.length = v.drop w.length := by
  apply List.ext_getElem?
  intro i
  simp only [List.getElem?_drop, addT, List.getElem?_map]
  by_cases h1 : w.length + i < v.length
  · simp [h1]; intro h; omega
  · simp [h1]
theorem addT_take_end {p c : Int} {v w : List Int} (h : w.length ≤ v.length) : (addT p v c w).take w.length ++ v.drop w.length = addT p v c w := by
  rw [← addT_drop (p := p) (c := c) h, List.take_append_drop]
theorem addT_bounds {p c : Int} (hp : 0 < p) {v w : List Int} (hv : ∀ x, x ∈ v → 0 ≤ x ∧ x < p) : ∀ x, x ∈ addT p v c w → 0 ≤ x ∧ x < p := by
  intro x hx
  simp only [addT, List.mem_map, List.mem_range] at hx
  obtain ⟨i, hi, rfl⟩ := hx
  split
  · exact ⟨Int.emod_nonneg _ (by omega), Int.emod_lt_of_pos _ hp⟩
  · apply hv
    simp [List.getD, hi]

/-! ### The inverse of a residue -/
/-- a to the power n, as the program reckons it. -/
def powM (p : Int) : Nat → Int → Nat → Int → Int
  | 0, _, _, out => out
  | fuel + 1, a, n, out => if n = 0 then out else powM p fuel (a * a % p) (n / 2) (if n % 2 = 1 then out * a % p else out)
def invM (p a : Int) : Int := powM p 8 a ((p - 2).toNat + (if p = 2 then 1 else 0)) (1 % p)
theorem invM_nat : ∀ p : Fin 98, fieldB (p.val : Int) = true → ∀ a : Fin 98, 1 ≤ a.val → a.val < p.val → ((a.val : Int) * invM p.val a.val) % (p.val : Int) = 1 ∧ 1 ≤ invM p.val a.val ∧ invM p.val a.val < (p.val : Int) := by decide +kernel
theorem invM_spec {p a : Int} (hp : fieldB p = true) (h1 : 1 ≤ a) (h2 : a < p) : (a * invM p a) % p = 1 ∧ 1 ≤ invM p a ∧ invM p a < p := by
  have hb := fieldB_bounds hp
  obtain ⟨n, rfl⟩ := Int.eq_ofNat_of_zero_le (show 0 ≤ p by omega)
  obtain ⟨m, rfl⟩ := Int.eq_ofNat_of_zero_le (show 0 ≤ a by omega)
  exact invM_nat ⟨n, by omega⟩ hp ⟨m, by omega⟩ (by show 1 ≤ m; omega) (by show m < n; omega)
/-- There is but one inverse. -/
theorem inv_unique {p a x y : Int} (_hp : 0 < p) (hx : 0 ≤ x ∧ x < p) (hy : 0 ≤ y ∧ y < p) (h1 : a * x % p = 1 % p) (h2 : a * y % p = 1 % p) : x = y := by
  have e1 : x % p = (x * (a * y)) % p := by
    conv => rhs; rw [Int.mul_emod, h2, ← Int.mul_emod, Int.mul_one]
  have e2 : y % p = (y * (a * x)) % p := by
    conv => rhs; rw [Int.mul_emod, h1, ← Int.mul_emod, Int.mul_one]
  have e3 : x * (a * y) = y * (a * x) := by rw [← Int.mul_assoc, ← Int.mul_assoc, Int.mul_comm x a, Int.mul_comm y a, Int.mul_assoc, Int.mul_assoc, Int.mul_comm x y]
  rw [e3, ← e2] at e1
  rwa [Int.emod_eq_of_lt hx.1 hx.2, Int.emod_eq_of_lt hy.1 hy.2] at e1
/-- No zero divisors. -/
theorem mul_ne_zero_mod {p a b : Int} (hp : fieldB p = true) (ha : 1 ≤ a ∧ a < p) (hb : 1 ≤ b ∧ b < p) : a * b % p ≠ 0 := by
  intro h
  have hpb := fieldB_bounds hp
  obtain ⟨h1, _, _⟩ := invM_spec hp ha.1 ha.2
  have e : (invM p a * (a * b)) % p = b % p := by
    rw [← Int.mul_assoc, Int.mul_comm (invM p a) a, Int.mul_emod, h1, Int.one_mul, Int.emod_emod_of_dvd _ (Int.dvd_refl p)]
  rw [Int.mul_emod, h, Int.mul_zero, Int.zero_emod, Int.emod_eq_of_lt (by omega) hb.2] at e
  omega
end Go.Proofs.YtahnhblodfdfhaaDoor
