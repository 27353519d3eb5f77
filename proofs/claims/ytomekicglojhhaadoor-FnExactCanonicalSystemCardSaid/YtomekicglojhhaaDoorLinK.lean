/-
  PLAIN LAW: A REDUCTION WITH THE SAME STEPS ON THE IDENTITY's ROWS: the rows beside the zero rows generate the left null space. No program is looked at.
-/
import Derived.Test.YtomekicglojhhaaDoorLinR
namespace Go.Proofs.YtomekicglojhhaaDoor

/-- A round of the reduction on rows beside: f i is what is taken of the pivot's row from row i. -/
def stepG (p : Int) (r k : Nat) (iv : Int) (f : Nat → Int) (A : Nat → Nat → Int) (i j : Nat) : Int :=
  if i = r then A k j * iv % p else (A (tr r k i) j - f i * (A k j * iv % p)) % p
theorem stepE_eq (p : Int) (c r k : Nat) (iv : Int) (E : Nat → Nat → Int) : stepE p c r k iv E = stepG p r k iv (fun i => E (tr r k i) c) E := rfl

section
variable {p : Int} {n m r k : Nat} {A : Nat → Nat → Int} {iv : Int} {f : Nat → Int}
theorem stepG_rowr (j : Nat) : p ∣ stepG p r k iv f A r j - iv * A k j := by
  unfold stepG
  rw [if_pos rfl, Int.mul_comm iv]
  exact dvd_emod_sub _ _
theorem stepG_rowi {i : Nat} (hir : i ≠ r) (j : Nat) : p ∣ stepG p r k iv f A i j - (A (tr r k i) j - f i * stepG p r k iv f A r j) := by
  have e : stepG p r k iv f A r j = A k j * iv % p := by unfold stepG; rw [if_pos rfl]
  rw [e]
  unfold stepG
  rw [if_neg hir]
  exact dvd_emod_sub _ _

/-- y is a combination of the first m rows. -/
def InSp (p : Int) (n : Nat) (A : Nat → Nat → Int) (m : Nat) (y : Nat → Int) : Prop := ∃ z : Nat → Int, ∀ l, l < n → p ∣ y l - sm m fun i => z i * A i l
theorem InSp.row {i : Nat} (hi : i < m) : InSp p n A m (A i) :=
  ⟨fun k => if k = i then 1 else 0, fun l _ => by rw [sm_one hi (fun k _ hk => by simp [hk])]; simp⟩
theorem InSp.comb {y y1 y2 : Nat → Int} (a b : Int) (h1 : InSp p n A m y1) (h2 : InSp p n A m y2) (h : ∀ l, l < n → p ∣ y l - (a * y1 l + b * y2 l)) : InSp p n A m y := by
  obtain ⟨z1, h1⟩ := h1
  obtain ⟨z2, h2⟩ := h2
  refine ⟨fun i => a * z1 i + b * z2 i, fun l hl => ?_⟩
  have e : (fun i => (a * z1 i + b * z2 i) * A i l) = fun i => a * (z1 i * A i l) + b * (z2 i * A i l) := by
    funext i; rw [Int.add_mul, Int.mul_assoc, Int.mul_assoc]
  rw [e, sm_add, sm_mul, sm_mul]
  obtain ⟨c, hc⟩ := h l hl
  obtain ⟨c1, hc1⟩ := h1 l hl
  obtain ⟨c2, hc2⟩ := h2 l hl
  refine ⟨c + a * c1 + b * c2, ?_⟩
  rw [Int.mul_add, Int.mul_add, Int.mul_left_comm p a, Int.mul_left_comm p b, ← hc1, ← hc2, ← hc, Int.mul_sub, Int.mul_sub]
  omega
theorem InSp.zero : InSp p n A m (fun _ => 0) := ⟨fun _ => 0, fun l _ => by
  rw [sm_congr (g := fun _ => 0) (fun i _ => Int.zero_mul _), sm_zero]; simp⟩
theorem InSp.sum {B : Nat → Nat → Int} {s : Nat} (z : Nat → Int) (h : ∀ i, i < s → InSp p n A m (B i)) : InSp p n A m (fun l => sm s fun i => z i * B i l) := by
  induction s with
  | zero => exact InSp.zero
  | succ s ih =>
    refine InSp.comb 1 (z s) (ih fun i hi => h i (by omega)) (h s (by omega)) fun l _ => ?_
    rw [sm, Int.one_mul, Int.sub_self]; exact Int.dvd_zero p
theorem InSp.trans {B : Nat → Nat → Int} {s : Nat} {y : Nat → Int} (h : InSp p n B s y) (hB : ∀ i, i < s → InSp p n A m (B i)) : InSp p n A m y := by
  obtain ⟨z, hz⟩ := h
  refine InSp.comb 1 0 (InSp.sum z hB) InSp.zero fun l hl => ?_
  rw [Int.one_mul, Int.mul_zero, Int.add_zero]; exact hz l hl

/-- A round loses nothing of the span. -/
theorem stepG_span (hr : r < m) (hk : k < m) {pv : Int} (hiv : pv * iv % p = 1) {i : Nat} (hi : i < m) : InSp p n (stepG p r k iv f A) m (A i) := by
  have hR : InSp p n (stepG p r k iv f A) m (stepG p r k iv f A r) := InSp.row hr
  by_cases hik : i = k
  · subst hik
    refine InSp.comb pv 0 hR hR fun j _ => ?_
    have h2 := dvd_sub_emod p (pv * iv)
    rw [hiv] at h2
    obtain ⟨a, ha⟩ := stepG_rowr (p := p) (r := r) (k := i) (iv := iv) (f := f) (A := A) j
    obtain ⟨b, hb⟩ := h2
    have e1 : stepG p r i iv f A r j = p * a + iv * A i j := by omega
    have e2 : pv * iv = p * b + 1 := by omega
    refine ⟨-(pv * a + b * A i j), ?_⟩
    rw [e1, Int.mul_add, ← Int.mul_assoc pv iv, e2, Int.add_mul, Int.one_mul, Int.zero_mul, Int.mul_neg, Int.mul_add, Int.mul_left_comm pv p, Int.mul_assoc p b]
    omega
  · have hi' : tr r k (if i = r then k else i) = i := by
      unfold tr
      by_cases h1 : i = r
      · simp [h1]
      · simp [h1, hik]
    have hne : (if i = r then k else i) ≠ r := by
      by_cases h1 : i = r
      · simp only [h1, if_true]; omega
      · simp only [h1, if_false]; exact h1
    have hlt : (if i = r then k else i) < m := by split <;> omega
    refine InSp.comb 1 (f (if i = r then k else i)) (InSp.row hlt) hR fun j _ => ?_
    obtain ⟨a, ha⟩ := stepG_rowi (p := p) (k := k) (iv := iv) (f := f) (A := A) hne j
    rw [hi'] at ha
    exact ⟨-a, by rw [Int.mul_neg, ← ha, Int.one_mul]; omega⟩

/-- The rows beside make the rows out of T. -/
def Makes (p : Int) (M n : Nat) (E A T : Nat → Nat → Int) : Prop := ∀ i, i < M → ∀ k, k < n → p ∣ E i k - sm M fun l => A i l * T l k
theorem Makes.step {M : Nat} {E T : Nat → Nat → Int} (h : Makes p M n E A T) (hr : r < M) (hk : k < M) : Makes p M n (stepG p r k iv f E) (stepG p r k iv f A) T := by
  have hR : ∀ q, q < n → p ∣ stepG p r k iv f E r q - sm M fun l => stepG p r k iv f A r l * T l q := by
    intro q hq
    obtain ⟨a, ha⟩ := h k hk q hq
    obtain ⟨b, hb⟩ := stepG_rowr (p := p) (r := r) (k := k) (iv := iv) (f := f) (A := E) q
    have h3 : p ∣ (sm M fun l => stepG p r k iv f A r l * T l q) - sm M fun l => iv * (A k l * T l q) := sm_dvd_sub fun l _ => by
      rw [← Int.mul_assoc, ← Int.sub_mul]; exact dvd_l (stepG_rowr l) _
    rw [sm_mul] at h3
    obtain ⟨c, hc⟩ := h3
    refine ⟨b + iv * a - c, ?_⟩
    rw [Int.mul_sub, Int.mul_add, Int.mul_left_comm p iv, ← ha, ← hb, ← hc, Int.mul_sub]
    omega
  intro i hi q hq
  by_cases hir : i = r
  · subst hir; exact hR q hq
  · obtain ⟨a, ha⟩ := h (tr r k i) (tr_lt (k := k) hr hi) q hq
    obtain ⟨b, hb⟩ := stepG_rowi (p := p) (k := k) (iv := iv) (f := f) (A := E) hir q
    obtain ⟨d, hd⟩ := hR q hq
    have h3 : p ∣ (sm M fun l => stepG p r k iv f A i l * T l q) - sm M fun l => (A (tr r k i) l * T l q - f i * (stepG p r k iv f A r l * T l q)) := sm_dvd_sub fun l _ => by
      rw [← Int.mul_assoc, ← Int.sub_mul, ← Int.sub_mul]; exact dvd_l (stepG_rowi hir l) _
    rw [sm_sub, sm_mul] at h3
    obtain ⟨c, hc⟩ := h3
    refine ⟨b + a - f i * d - c, ?_⟩
    rw [Int.mul_sub, Int.mul_sub, Int.mul_add, Int.mul_left_comm p (f i), ← ha, ← hb, ← hc, ← hd, Int.mul_sub]
    omega

/-- THE ROWS BESIDE THE ZERO ROWS GENERATE WHAT T TAKES TO ZERO. -/
theorem makes_gen {M : Nat} {E T : Nat → Nat → Int} {ld : Nat → Nat} (hI : Inv p n M n r E ld) (h : Makes p M n E A T) (hS : ∀ y, InSp p M A M y) :
    Gen p M (fun y => ∀ q, q < n → p ∣ sm M fun l => y l * T l q) (fun k => A (r + k)) (M - r) := by
  have hrM := hI.le
  refine ⟨fun k hk q hq => ?_, fun x hx y hy => ?_⟩
  · have := h (r + k) (by omega) q hq
    rw [hI.rest (r + k) q (by omega) (by omega) hq, Int.zero_sub] at this
    exact (Int.dvd_neg).1 this
  · obtain ⟨z, hz⟩ := hS y
    -- y T = 0, so z E = 0
    have hzE : ∀ q, q < n → p ∣ sm M fun i => z i * E i q := by
      intro q hq
      have h1 : p ∣ (sm M fun i => z i * E i q) - sm M fun i => sm M fun l => z i * (A i l * T l q) := sm_dvd_sub fun i hi => by
        rw [sm_mul, ← Int.mul_sub]; exact dvd_r (h i hi q hq) _
      rw [sm_swap] at h1
      have h2 : p ∣ (sm M fun l => y l * T l q) - sm M fun l => sm M fun i => z i * (A i l * T l q) := sm_dvd_sub fun l hl => by
        have e : (fun i => z i * (A i l * T l q)) = fun i => T l q * (z i * A i l) := by funext i; rw [← Int.mul_assoc, Int.mul_comm]
        rw [e, sm_mul, Int.mul_comm (y l), ← Int.mul_sub]
        exact dvd_r (hz l hl) _
      have h3 := Int.dvd_sub (hy q hq) h2
      rw [Int.sub_sub_self] at h3
      have := Int.dvd_add h1 h3
      rwa [Int.sub_add_cancel] at this
    have hz0 : ∀ i, i < r → p ∣ z i := by
      intro i hi
      have := hzE (ld i) (hI.lt i hi)
      rwa [sm_one (show i < M by omega) (fun k hk hki => by rw [hI.zero i k hi hk hki, Int.mul_zero]), hI.one i hi, Int.mul_one] at this
    have hxA : ∀ i, i < M → p ∣ z i * sm M fun l => A i l * x l := by
      intro i hi
      rcases Nat.lt_or_ge i r with hl | hl
      · exact dvd_l (hz0 i hl) _
      · have := hx (i - r) (by omega)
        simp only [show r + (i - r) = i by omega] at this
        exact dvd_r this _
    have h1 : p ∣ (sm M fun l => x l * y l) - sm M fun l => sm M fun i => z i * (A i l * x l) := sm_dvd_sub fun l hl => by
      have e : (fun i => z i * (A i l * x l)) = fun i => x l * (z i * A i l) := by funext i; rw [← Int.mul_assoc, Int.mul_comm]
      rw [e, sm_mul, ← Int.mul_sub]
      exact dvd_r (hz l hl) _
    rw [sm_swap] at h1
    have h2 : p ∣ sm M fun i => sm M fun l => z i * (A i l * x l) := sm_dvd fun i hi => by rw [sm_mul]; exact hxA i hi
    have := Int.dvd_add h1 h2
    rwa [Int.sub_add_cancel] at this
end
end Go.Proofs.YtomekicglojhhaaDoor
