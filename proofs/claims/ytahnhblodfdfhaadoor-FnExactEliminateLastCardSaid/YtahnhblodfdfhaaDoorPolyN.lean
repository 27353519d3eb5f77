/-
  PLAIN ALGEBRA OF COEFFICIENT LISTS, MORE: products, division with remainder, greatest common divisors.
-/
import Derived.Test.YtahnhblodfdfhaaDoorPolyM
namespace Go.Proofs.YtahnhblodfdfhaaDoor

/-- All elements are residues. -/
def Res (p : Int) (l : List Int) : Prop := ∀ x, x ∈ l → 0 ≤ x ∧ x < p
theorem Res.getD {p : Int} {l : List Int} (h : Res p l) (hp : 0 < p) (j : Nat) : 0 ≤ l.getD j 0 ∧ l.getD j 0 < p := by
  by_cases hj : j < l.length
  · rw [List.getD_eq_getElem?_getD, List.getElem?_eq_getElem hj]; exact h _ (List.getElem_mem hj)
  · rw [List.getD_eq_getElem?_getD, List.getElem?_eq_none (by omega)]; simp; exact hp
theorem Res.take {p : Int} {l : List Int} (h : Res p l) (k : Nat) : Res p (l.take k) := fun x hx => h x (List.mem_of_mem_take hx)
theorem Res.drop {p : Int} {l : List Int} (h : Res p l) (k : Nat) : Res p (l.drop k) := fun x hx => h x (List.mem_of_mem_drop hx)
theorem Res.append {p : Int} {l m : List Int} (h : Res p l) (h' : Res p m) : Res p (l ++ m) := fun x hx => by
  rcases List.mem_append.1 hx with hx | hx
  · exact h x hx
  · exact h' x hx
theorem Res.addT {p c : Int} {v w : List Int} (hp : 0 < p) (h : Res p v) : Res p (addT p v c w) := addT_bounds hp h
theorem Res.trimZ {p : Int} {l : List Int} (h : Res p l) : Res p (trimZ l) := fun x hx => h x (trimZ_mem hx)
theorem Res.replicate {p : Int} (hp : 0 < p) (n : Nat) : Res p (List.replicate n 0) := fun x hx => by
  rw [List.mem_replicate] at hx; omega
theorem Res.set {p : Int} {l : List Int} (h : Res p l) {x : Int} (hx : 0 ≤ x ∧ x < p) (k : Nat) : Res p (l.set k x) := fun y hy => by
  rcases List.mem_or_eq_of_mem_set hy with h1 | rfl
  · exact h y h1
  · exact hx

/-! ### Products -/
/-- c times g is added from place k on. -/
def addAt (p : Int) (o : List Int) (k : Nat) (c : Int) (g : List Int) : List Int := o.take k ++ addT p (o.drop k) c g
theorem addAt_length (p : Int) (o : List Int) (k : Nat) (c : Int) (g : List Int) (h : k ≤ o.length) : (addAt p o k c g).length = o.length := by simp [addAt]; omega
theorem Res.addAt {p c : Int} {o g : List Int} {k : Nat} (hp : 0 < p) (h : Res p o) : Res p (addAt p o k c g) := (h.take k).append (Res.addT hp (h.drop k))
theorem addAt_getD (p : Int) (o : List Int) (k : Nat) (c : Int) (g : List Int) (j : Nat) (h : k ≤ o.length) :
    (addAt p o k c g).getD j 0 = if j < k then o.getD j 0 else if j < o.length then (if j - k < g.length then (o.getD j 0 + c * g.getD (j - k) 0) % p else o.getD j 0) else 0 := by
  unfold addAt
  by_cases h1 : j < k
  · rw [if_pos h1, List.getD_eq_getElem?_getD, List.getElem?_append_left (by simp; omega), List.getElem?_take, if_pos h1, List.getD_eq_getElem?_getD]
  · have e : (o.take k).length = k := by simp; omega
    rw [if_neg h1, List.getD_eq_getElem?_getD, List.getElem?_append_right (by omega), e, ← List.getD_eq_getElem?_getD, addT_getD]
    have e2 : (o.drop k).getD (j - k) 0 = o.getD j 0 := by
      rw [List.getD_eq_getElem?_getD, List.getElem?_drop, show k + (j - k) = j by omega, List.getD_eq_getElem?_getD]
    rw [e2]
    have e3 : (j - k < (o.drop k).length) = (j < o.length) := by apply propext; simp; omega
    simp only [e3]

/-- The product's coefficients when k coefficients of f have been used. -/
def mulTo (p : Int) (f g : List Int) : Nat → List Int
  | 0 => List.replicate (f.length + g.length - 1) 0
  | k + 1 => addAt p (mulTo p f g k) k (f.getD k 0) g
theorem mulTo_length (p : Int) (f g : List Int) (hg : 0 < g.length) : ∀ k, k ≤ f.length → (mulTo p f g k).length = f.length + g.length - 1
  | 0, _ => by simp [mulTo]
  | k + 1, h => by
    have ih := mulTo_length p f g hg k (by omega)
    rw [mulTo, addAt_length _ _ _ _ _ (by omega), ih]
theorem mulTo_res {p : Int} (hp : 0 < p) (f g : List Int) : ∀ k, Res p (mulTo p f g k)
  | 0 => Res.replicate hp _
  | k + 1 => (mulTo_res hp f g k).addAt hp
theorem mulTo_zero (p : Int) (f g : List Int) (hg : 0 < g.length) : ∀ k, k ≤ f.length → ∀ j, k + g.length - 1 ≤ j → (mulTo p f g k).getD j 0 = 0
  | 0, _, j, _ => by
    rw [mulTo, List.getD_eq_getElem?_getD, List.getElem?_replicate]; split <;> rfl
  | k + 1, h, j, hj => by
    have hl := mulTo_length p f g hg k (by omega)
    rw [mulTo, addAt_getD _ _ _ _ _ _ (by omega), if_neg (by omega)]
    split
    · rw [if_neg (by omega)]; exact mulTo_zero p f g hg k (by omega) j (by omega)
    · rfl
theorem last_getD {l : List Int} (h : l.getLast? ≠ some 0) (hl : 0 < l.length) : l.getD (l.length - 1) 0 ≠ 0 := by
  rw [List.getLast?_eq_getElem?, List.getElem?_eq_getElem (by omega)] at h
  rw [List.getD_eq_getElem?_getD, List.getElem?_eq_getElem (by omega)]
  intro e; apply h; simp at e; simp [e]
theorem getD_last {l : List Int} (h : l.getD (l.length - 1) 0 ≠ 0) : l.getLast? ≠ some 0 := by
  intro e; rw [List.getLast?_eq_getElem?] at e; apply h; simp [List.getD, e]
theorem mulTo_last {p : Int} (hp : fieldB p = true) {f g : List Int} (hf : Res p f) (hg : Res p g) (hfl : f.getLast? ≠ some 0) (hgl : g.getLast? ≠ some 0) (h1 : 0 < f.length) (h2 : 0 < g.length) :
    (mulTo p f g f.length).getLast? ≠ some 0 := by
  have hpb := fieldB_bounds hp
  have hl := mulTo_length p f g h2 f.length (Nat.le_refl _)
  apply getD_last
  rw [hl]
  obtain ⟨n, hn⟩ : ∃ n, f.length = n + 1 := ⟨f.length - 1, by omega⟩
  have hl' := mulTo_length p f g h2 n (by omega)
  rw [hn, mulTo, addAt_getD _ _ _ _ _ _ (by omega), if_neg (by omega), if_pos (by omega), if_pos (by omega), mulTo_zero p f g h2 n (by omega) _ (by omega), Int.zero_add]
  have a1 := last_getD hfl h1
  have a2 := last_getD hgl h2
  rw [hn, Nat.add_sub_cancel] at a1
  have b1 := hf.getD (by omega) n
  have b2 := hg.getD (by omega) (g.length - 1)
  rw [show n + 1 + g.length - 1 - 1 - n = g.length - 1 by omega]
  exact mul_ne_zero_mod hp (by omega) (by omega)
/-- The product. -/
def mulM (p : Int) (f g : List Int) : List Int := if f.length = 0 ∨ g.length = 0 then [] else mulTo p f g f.length
theorem mulM_trim {p : Int} (hp : fieldB p = true) {f g : List Int} (hf : Res p f) (hg : Res p g) (hfl : f.getLast? ≠ some 0) (hgl : g.getLast? ≠ some 0) (h1 : 0 < f.length) (h2 : 0 < g.length) :
    trimZ (mulTo p f g f.length) = mulTo p f g f.length := trimZ_of_last (mulTo_last hp hf hg hfl hgl h1 h2)

/-! ### Division with remainder -/
/-- The places i - 1, .., 0 of the quotient are still to come. -/
def divFrom (p : Int) (g : List Int) (inv : Int) : Nat → List Int → List Int → List Int × List Int
  | 0, q, r => (q, r)
  | i + 1, q, r => divFrom p g inv i (q.set i (r.getD (i + g.length - 1) 0 * inv % p)) (addAt p r i (-(r.getD (i + g.length - 1) 0 * inv % p)) g)
/-- Quotient and remainder of f by g (not trimmed). -/
def divM (p : Int) (f g : List Int) : List Int × List Int :=
  if f.length < g.length then ([], f) else divFrom p g (invM p (g.getD (g.length - 1) 0)) (f.length - g.length + 1) (List.replicate (f.length - g.length + 1) 0) f
theorem divFrom_props {p inv : Int} {g : List Int} (hp : 0 < p) (hg : 0 < g.length) : ∀ (i : Nat) (q r : List Int), i ≤ q.length → i + g.length - 1 ≤ r.length → Res p q → Res p r →
    (divFrom p g inv i q r).1.length = q.length ∧ (divFrom p g inv i q r).2.length = r.length ∧ Res p (divFrom p g inv i q r).1 ∧ Res p (divFrom p g inv i q r).2
  | 0, q, r, _, _, hq, hr => ⟨rfl, rfl, hq, hr⟩
  | i + 1, q, r, h1, h2, hq, hr => by
    have hb : 0 ≤ r.getD (i + g.length - 1) 0 * inv % p ∧ r.getD (i + g.length - 1) 0 * inv % p < p := ⟨Int.emod_nonneg _ (by omega), Int.emod_lt_of_pos _ hp⟩
    have hl := addAt_length p r i (-(r.getD (i + g.length - 1) 0 * inv % p)) g (by omega)
    obtain ⟨a, b, c, d⟩ := divFrom_props (inv := inv) hp hg i (q.set i (r.getD (i + g.length - 1) 0 * inv % p)) (addAt p r i (-(r.getD (i + g.length - 1) 0 * inv % p)) g) (by simp; omega) (by omega) (hq.set hb i) (hr.addAt hp)
    exact ⟨by rw [divFrom, a, List.length_set], by rw [divFrom, b, hl], by rw [divFrom]; exact c, by rw [divFrom]; exact d⟩
theorem divFrom_zero {p inv : Int} {g : List Int} (hp : 0 < p) (hg : 0 < g.length) (hinv : g.getD (g.length - 1) 0 * inv % p = 1) : ∀ (i : Nat) (q r : List Int), i + g.length - 1 ≤ r.length →
    (∀ j, i + g.length - 1 ≤ j → r.getD j 0 = 0) → ∀ j, g.length - 1 ≤ j → (divFrom p g inv i q r).2.getD j 0 = 0
  | 0, q, r, _, h, j, hj => h j (by omega)
  | i + 1, q, r, hl, h, j, hj => by
    rw [divFrom]
    refine divFrom_zero hp hg hinv i _ _ (by rw [addAt_length _ _ _ _ _ (by omega)]; omega) (fun j hj => ?_) j hj
    rw [addAt_getD _ _ _ _ _ _ (by omega), if_neg (by omega)]
    split
    · split
      · have e : j = i + g.length - 1 := by omega
        subst e
        rw [show i + g.length - 1 - i = g.length - 1 by omega]
        generalize r.getD (i + g.length - 1) 0 = x
        generalize hy : g.getD (g.length - 1) 0 = y at hinv
        have e1 : (x * inv % p * y) % p = x % p := by
          rw [Int.mul_emod, Int.emod_emod_of_dvd _ (Int.dvd_refl p), ← Int.mul_emod, Int.mul_assoc, Int.mul_comm inv y, Int.mul_emod, hinv]
          simp
        rw [Int.neg_mul, ← Int.sub_eq_add_neg, Int.sub_emod, e1, ← Int.sub_emod]; simp
      · exact h j (by omega)
    · rfl

/-- The remainder, trimmed. -/
def remM (p : Int) (f g : List Int) : List Int := trimZ (divM p f g).2
theorem last_res {p : Int} (hp : fieldB p = true) {g : List Int} (hg : Res p g) (hgl : g.getLast? ≠ some 0) (h : 0 < g.length) : 1 ≤ g.getD (g.length - 1) 0 ∧ g.getD (g.length - 1) 0 < p := by
  have hpb := fieldB_bounds hp
  have := hg.getD (by omega) (g.length - 1)
  have := last_getD hgl h
  omega
theorem remM_props {p : Int} (hp : fieldB p = true) {f g : List Int} (hf : Res p f) (hg : Res p g) (hgl : g.getLast? ≠ some 0) (h : 0 < g.length) :
    Res p (remM p f g) ∧ (remM p f g).getLast? ≠ some 0 ∧ (remM p f g).length < g.length := by
  have hpb := fieldB_bounds hp
  have hb := last_res hp hg hgl h
  refine ⟨?_, trimZ_last _, ?_⟩
  · unfold remM divM
    split
    · exact hf.trimZ
    · exact (divFrom_props (by omega) h _ _ _ (by simp) (by omega) (Res.replicate (by omega) _) hf).2.2.2.trimZ
  · unfold remM divM
    split
    · rename_i hlt
      exact Nat.lt_of_le_of_lt (trimZ_length _) hlt
    · have hd := divFrom_props (inv := invM p (g.getD (g.length - 1) 0)) (g := g) (p := p) (by omega) h (f.length - g.length + 1) (List.replicate (f.length - g.length + 1) 0) f (by simp) (by omega) (Res.replicate (by omega) _) hf
      have hz := divFrom_zero (p := p) (g := g) (by omega) h (invM_spec hp hb.1 hb.2).1 (f.length - g.length + 1) (List.replicate (f.length - g.length + 1) 0) f (by omega) (fun j hj => by
        rw [List.getD_eq_getElem?_getD, List.getElem?_eq_none (by omega)]; rfl)
      have := trimZ_lt (n := g.length - 1) (by rw [hd.2.1]; omega) hz
      omega

/-! ### The greatest common divisor -/
def gcdTo (p : Int) : Nat → List Int → List Int → List Int
  | 0, f, _ => f
  | n + 1, f, g => if g.length = 0 then f else gcdTo p n g (remM p f g)
theorem gcdTo_fuel {p : Int} (hp : fieldB p = true) : ∀ (a b : Nat) (f g : List Int), g.length < a → g.length < b → Res p f → Res p g → g.getLast? ≠ some 0 → gcdTo p a f g = gcdTo p b f g
  | 0, _, _, _, h, _, _, _, _ => by omega
  | _ + 1, 0, _, _, _, h, _, _, _ => by omega
  | a + 1, b + 1, f, g, h1, h2, hf, hg, hl => by
    rw [gcdTo, gcdTo]
    split
    · rfl
    · rename_i h0
      obtain ⟨c1, c2, c3⟩ := remM_props hp hf hg hl (by omega)
      exact gcdTo_fuel hp a b g _ (by omega) (by omega) hg c1 c2
def gcdM (p : Int) (f g : List Int) : List Int := gcdTo p (g.length + 1) f g
theorem gcdM_step {p : Int} (hp : fieldB p = true) {f g : List Int} (hf : Res p f) (hg : Res p g) (hl : g.getLast? ≠ some 0) (h : 0 < g.length) : gcdM p f g = gcdM p g (remM p f g) := by
  obtain ⟨c1, c2, c3⟩ := remM_props hp hf hg hl h
  unfold gcdM
  rw [gcdTo, if_neg (by omega)]
  exact gcdTo_fuel hp _ _ _ _ c3 (by omega) hg c1 c2
theorem gcdM_end {p : Int} {f g : List Int} (h : g.length = 0) : gcdM p f g = f := by unfold gcdM; rw [gcdTo, if_pos h]
end Go.Proofs.YtahnhblodfdfhaaDoor
