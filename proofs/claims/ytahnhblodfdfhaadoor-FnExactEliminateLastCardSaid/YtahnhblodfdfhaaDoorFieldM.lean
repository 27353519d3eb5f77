/-
  PLAIN ARITHMETIC OF THE FIELDS (no program in sight): which numbers are primes up to 97, sums and products of residues.
-/
import Derived.Test.YtahnhblodfdfhaaDoorBase
namespace Go.Proofs.YtahnhblodfdfhaaDoor

/-- p is a prime up to 97, as the program tests it. -/
def fieldB (p : Int) : Bool := decide (2 ≤ p ∧ p ≤ 97 ∧ (p % 2 = 0 → p = 2) ∧ (p % 3 = 0 → p = 3) ∧ (p % 5 = 0 → p = 5) ∧ (p % 7 = 0 → p = 7))
theorem fieldB_bounds {p : Int} (h : fieldB p = true) : 2 ≤ p ∧ p ≤ 97 := by
  simp only [fieldB, decide_eq_true_eq] at h; exact ⟨h.1, h.2.1⟩

/-- The reference's test, for the numbers up to 97: no k with k * k ≤ p divides p. -/
def fdTest (p : Int) (k : Nat) : Bool := (List.range k).all fun j => !decide (2 ≤ j ∧ p % (j : Int) = 0)
theorem fdTest_succ (p : Int) (k : Nat) : fdTest p (k + 1) = (fdTest p k && !decide (2 ≤ k ∧ p % (k : Int) = 0)) := by
  simp [fdTest, List.range_succ]
theorem fdTest_end_nat : ∀ p : Fin 98, ∀ k : Fin 12, 2 ≤ p.val → p.val < k.val * k.val → ((k.val - 1) * (k.val - 1) ≤ p.val ∨ k.val = 2) → fdTest (p.val : Int) k.val = fieldB (p.val : Int) := by decide +kernel
theorem fdTest_stop_nat : ∀ p : Fin 98, ∀ k : Fin 12, 2 ≤ p.val → 2 ≤ k.val → k.val * k.val ≤ p.val → (p.val : Int) % (k.val : Int) = 0 → fieldB (p.val : Int) = false := by decide +kernel
theorem fdTest_end {p : Int} {k : Nat} (h2 : 2 ≤ p) (h97 : p ≤ 97) (hk : p < (k : Int) * k) (hlast : ((k : Int) - 1) * ((k : Int) - 1) ≤ p ∨ k = 2) (hk11 : k ≤ 11) (h2k : 2 ≤ k) : fdTest p k = fieldB p := by
  obtain ⟨n, rfl⟩ := Int.eq_ofNat_of_zero_le (show 0 ≤ p by omega)
  refine fdTest_end_nat ⟨n, by omega⟩ ⟨k, by omega⟩ (by show 2 ≤ n; omega) (by show n < k * k; exact_mod_cast hk) ?_
  rcases hlast with h | h
  · left
    show (k - 1) * (k - 1) ≤ n
    have e : ((k : Int) - 1) = ((k - 1 : Nat) : Int) := by omega
    rw [e] at h; exact_mod_cast h
  · right; exact h
theorem fdTest_stop {p : Int} {k : Nat} (h2 : 2 ≤ p) (h97 : p ≤ 97) (h2k : 2 ≤ k) (hk : (k : Int) * k ≤ p) (hd : p % (k : Int) = 0) : fieldB p = false := by
  obtain ⟨n, rfl⟩ := Int.eq_ofNat_of_zero_le (show 0 ≤ p by omega)
  have hk' : k * k ≤ n := by exact_mod_cast hk
  have : k ≤ 11 := by
    by_cases h : k ≤ 11
    · exact h
    · exfalso
      have := Nat.mul_le_mul (show 12 ≤ k by omega) (show 12 ≤ k by omega)
      omega
  exact fdTest_stop_nat ⟨n, by omega⟩ ⟨k, by omega⟩ (by show 2 ≤ n; omega) h2k hk' hd

/-- All elements lie between lo and hi. -/
def inB (lo hi : Int) (l : List Int) : Bool := l.all fun x => decide (lo ≤ x) && decide (x ≤ hi)
theorem inB_iff {lo hi : Int} {l : List Int} : inB lo hi l = true ↔ ∀ x, x ∈ l → lo ≤ x ∧ x ≤ hi := by simp [inB]
theorem inB_get {lo hi : Int} {l : List Int} (h : inB lo hi l = true) {j : Nat} {x : Int} (hj : l[j]? = some x) : lo ≤ x ∧ x ≤ hi := inB_iff.1 h x (List.mem_of_getElem? hj)
theorem inB_take_succ {lo hi : Int} {l : List Int} {k : Nat} {x : Int} (h : l[k]? = some x) : inB lo hi (l.take (k + 1)) = (inB lo hi (l.take k) && (decide (lo ≤ x) && decide (x ≤ hi))) := by
  rw [List.take_add_one, h]; simp [inB]
theorem inB_false_of {lo hi : Int} {l : List Int} {k : Nat} {x : Int} (h : l[k]? = some x) (hx : ¬ (lo ≤ x ∧ x ≤ hi)) : inB lo hi l = false := by
  rw [Bool.eq_false_iff]; intro h'; exact hx (inB_get h' h)
end Go.Proofs.YtahnhblodfdfhaaDoor
