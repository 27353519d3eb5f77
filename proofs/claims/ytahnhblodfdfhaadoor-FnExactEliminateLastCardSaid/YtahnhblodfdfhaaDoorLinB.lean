/-
  PLAIN LAW: THE REDUCED LIST: it is reduced, it has the same orthogonal vectors, and it is the only one. No program is looked at.
-/
import Derived.Test.YtahnhblodfdfhaaDoorLinA
namespace Go.Proofs.YtahnhblodfdfhaaDoor

theorem stepG_congr {p : Int} {r k : Nat} {iv : Int} {f g : Nat → Int} {A B : Nat → Nat → Int} {m n : Nat} (hr : r < m) (hk : k < m) (hf : ∀ i, i ≠ r → f i = g i) (hA : ∀ i j, i < m → j < n → A i j = B i j) {i j : Nat} (hi : i < m) (hj : j < n) :
    stepG p r k iv f A i j = stepG p r k iv g B i j := by
  unfold stepG
  split
  · rw [hA k j hk hj]
  · rename_i h
    rw [hA k j hk hj, hA _ j (tr_lt hr hi) hj, hf i h]
theorem Inv.congr {p : Int} {n m c r : Nat} {E F : Nat → Nat → Int} {ld : Nat → Nat} (h : Inv p n m c r E ld) (hc : c ≤ n) (he : ∀ i j, i < m → j < n → E i j = F i j) : Inv p n m c r F ld := by
  have hle := h.le
  exact ⟨h.le, h.lt, fun i hi => by have := h.lt i hi; rw [← he i _ (by omega) (by omega)]; exact h.one i hi,
    fun i k hi hk hne => by have := h.lt i hi; rw [← he k _ hk (by omega)]; exact h.zero i k hi hk hne,
    fun i j hi hj => by have := h.lt i hi; rw [← he i j (by omega) (by omega)]; exact h.before i j hi hj, h.mono,
    fun k j hk hm hj => by rw [← he k j hm (by omega)]; exact h.rest k j hk hm hj,
    fun i j hi hj => by rw [← he i j hi hj]; exact h.res i j hi hj⟩
theorem Nul.congr {p : Int} {n m : Nat} {E F : Nat → Nat → Int} (he : ∀ i j, i < m → j < n → E i j = F i j) (x : Nat → Int) : Nul p n E m x ↔ Nul p n F m x := by
  constructor
  · intro h i hi; rw [sm_congr (g := fun j => E i j * x j) (fun j hj => by rw [he i j hi hj])]; exact h i hi
  · intro h i hi; rw [sm_congr (g := fun j => F i j * x j) (fun j hj => by rw [he i j hi hj])]; exact h i hi
theorem Makes.congr {p : Int} {M n : Nat} {E E' A A' T : Nat → Nat → Int} (h : Makes p M n E A T) (he : ∀ i j, i < M → j < n → E i j = E' i j) (ha : ∀ i j, i < M → j < M → A i j = A' i j) : Makes p M n E' A' T := by
  intro i hi k hk
  rw [← he i k hi hk, sm_congr (g := fun l => A i l * T l k) (fun l hl => by rw [ha i l hi hl])]
  exact h i hi k hk
theorem InSp.congr {p : Int} {n m : Nat} {A B : Nat → Nat → Int} (h : ∀ i j, i < m → j < n → A i j = B i j) {y : Nat → Int} (hy : InSp p n A m y) : InSp p n B m y := by
  obtain ⟨z, hz⟩ := hy
  exact ⟨z, fun l hl => by rw [sm_congr (g := fun i => z i * A i l) (fun i hi => by rw [h i l hi hl])]; exact hz l hl⟩

theorem scaleV_res {p iv : Int} (hp : 0 < p) (v : List Int) : Res p (scaleV p iv v) := by
  intro x hx
  simp only [scaleV, List.mem_map] at hx
  obtain ⟨a, _, rfl⟩ := hx
  exact ⟨Int.emod_nonneg _ (by omega), Int.emod_lt_of_pos _ hp⟩
theorem Mat.of_get {p : Int} {m n : Nat} {L : List (List Int)} (hl : L.length = m) (h : ∀ i, i < m → (L.getD i []).length = n ∧ Res p (L.getD i [])) : Mat p m n L := by
  refine ⟨hl, fun v hv => ?_⟩
  obtain ⟨i, hi, rfl⟩ := List.getElem_of_mem hv
  have := h i (by omega)
  simpa [List.getD, hi] using this

/-- THE ENTRIES OF A ROUND. -/
theorem step_en {p : Int} (hp : 0 < p) {m n r k : Nat} {L : List (List Int)} (h : Mat p m n L) (hr : r < m) (hk : k < m) (iv : Int) (f : Nat → Int) :
    Mat p m n (elimTo p r f (scaleL p r iv (swapL L r k)) m) ∧ ∀ i j, i < m → j < n → en (elimTo p r f (scaleL p r iv (swapL L r k)) m) i j = stepG p r k iv f (en L) i j := by
  have hl := h.len
  have l1 : r < (swapL L r k).length := by rw [swapL_length]; omega
  have g1 : ∀ i, i ≠ r → (swapL L r k).getD i [] = L.getD (tr r k i) [] := by
    intro i hi
    rw [swapL_get (by omega) (by omega)]
    unfold tr
    split
    · rfl
    · first | rfl | rw [if_neg hi]
  have g2 : (swapL L r k).getD r [] = L.getD k [] := by
    rw [swapL_get (by omega) (by omega)]
    split
    · rename_i e; rw [e]
    · rw [if_pos rfl]
  have s1 : ∀ i, i ≠ r → (scaleL p r iv (swapL L r k)).getD i [] = L.getD (tr r k i) [] := by
    intro i hi; rw [scaleL_get l1, if_neg hi, g1 i hi]
  have s2 : (scaleL p r iv (swapL L r k)).getD r [] = scaleV p iv (L.getD k []) := by rw [scaleL_get l1, if_pos rfl, g2]
  have hsl : (scaleL p r iv (swapL L r k)).length = m := by rw [scaleL_length, swapL_length, hl]
  have hrow := (h.get hk).1
  have hsv : (scaleV p iv (L.getD k [])).length = n := by unfold scaleV; rw [List.length_map]; exact hrow
  constructor
  · refine Mat.of_get (by rw [elimTo_length, hsl]) fun i hi => ?_
    rw [elimTo_get (by omega)]
    by_cases hir : i = r
    · subst hir
      rw [if_neg (by simp), s2]
      exact ⟨hsv, scaleV_res hp _⟩
    · have h3 := h.get (tr_lt (k := k) hr hi)
      rw [s1 i hir, s2]
      split
      · exact ⟨by rw [addT_length]; exact h3.1, Res.addT hp h3.2⟩
      · exact h3
  · intro i j hi hj
    show ((elimTo p r f (scaleL p r iv (swapL L r k)) m).getD i []).getD j 0 = _
    rw [elimTo_get (by omega)]
    unfold stepG
    by_cases hir : i = r
    · subst hir
      rw [if_neg (by simp), s2, if_pos rfl, scaleV_get]; rfl
    · have h3 := h.get (tr_lt (k := k) hr hi)
      rw [s1 i hir, s2, if_neg hir]
      by_cases hf : f i = 0
      · rw [if_neg (by simp [hf]), hf, Int.zero_mul, Int.sub_zero]
        have := h.en hp (tr_lt (k := k) hr hi) j
        exact (Int.emod_eq_of_lt this.1 this.2).symm
      · rw [if_pos ⟨hi, hir, hf⟩, addT_getD, if_pos (by rw [h3.1]; exact hj), if_pos (by rw [hsv]; exact hj), scaleV_get, Int.neg_mul, ← Int.sub_eq_add_neg]; rfl

/-- What is known of the rows when the columns below c are done. -/
structure RInv (p : Int) (m n c : Nat) (L0 : List (List Int)) (s : Nat × List (List Int) × List (List Int)) (ld : Nat → Nat) : Prop where
  mat : Mat p m n s.2.1
  inv : Inv p n m c s.1 (en s.2.1) ld
  nul : ∀ x, Nul p n (en s.2.1) m x ↔ Nul p n (en L0) m x

/-- What a round does, in entries. -/
theorem colStep_cases {p : Int} (hp : fieldB p = true) {m n c : Nat} (_hc : c < n) {s : Nat × List (List Int) × List (List Int)} (hm : Mat p m n s.2.1) (hs : s.1 ≤ m) :
    (colStep p c s = s ∧ ∀ k, s.1 ≤ k → k < m → en s.2.1 k c = 0) ∨
    ∃ k iv, s.1 ≤ k ∧ k < m ∧ en s.2.1 k c * iv % p = 1 ∧ (colStep p c s).1 = s.1 + 1 ∧ Mat p m n (colStep p c s).2.1 ∧ (∀ i j, i < m → j < n → en (colStep p c s).2.1 i j = stepE p c s.1 k iv (en s.2.1) i j) ∧
      (colStep p c s).2.2 = elimTo p s.1 (fun i => en (scaleL p s.1 iv (swapL s.2.1 s.1 k)) i c) (scaleL p s.1 iv (swapL s.2.2 s.1 k)) s.2.2.length ∧ ∀ i, i ≠ s.1 → en (scaleL p s.1 iv (swapL s.2.1 s.1 k)) i c = en s.2.1 (tr s.1 k i) c := by
  have hpb := fieldB_bounds hp
  obtain ⟨r, L, A⟩ := s
  have hl : L.length = m := hm.len
  have hrm : r ≤ m := hs
  obtain ⟨p1, p2, p3, p4⟩ := pvFrom_spec L c (L.length - r) r
  unfold colStep
  simp only
  split
  · rename_i hlt
    right
    obtain ⟨k, hk⟩ : ∃ k, k = pvFrom L c (L.length - r) r := ⟨_, rfl⟩
    rw [← hk] at p1 p2 p3 p4 hlt ⊢
    have hne := p4 (by omega)
    have hb := hm.en (by omega) (show k < m by omega) c
    have hiv := invM_spec hp (a := en L k c) (by show 1 ≤ en L k c; have : 0 ≤ en L k c := hb.1; omega) hb.2
    have hse := step_en (p := p) (by omega) hm (r := r) (k := k) (by omega) (by omega) (invM p (en L k c)) (fun i => en (scaleL p r (invM p (en L k c)) (swapL L r k)) i c)
    have hsl : (scaleL p r (invM p (en L k c)) (swapL L r k)).length = m := by rw [scaleL_length, swapL_length]; exact hl
    have hcoef : ∀ i, i ≠ r → en (scaleL p r (invM p (en L k c)) (swapL L r k)) i c = en L (tr r k i) c := by
      intro i hi
      unfold en
      rw [scaleL_get (by rw [swapL_length]; omega), if_neg hi, swapL_get (by omega) (by omega)]
      unfold tr
      split
      · rfl
      · first | rfl | rw [if_neg hi]
    refine ⟨k, invM p (en L k c), p1, by omega, hiv.1, rfl, ?_, ?_, rfl, hcoef⟩
    · rw [hsl]; exact hse.1
    · intro i j hi hj
      rw [hsl, hse.2 i j hi hj, stepE_eq]
      exact stepG_congr (by omega) (by omega) hcoef (fun _ _ _ _ => rfl) hi hj
  · rename_i hlt
    left
    exact ⟨rfl, fun k h1 h2 => p3 k h1 (by omega)⟩

theorem RInv.next {p : Int} (hp : fieldB p = true) {m n c : Nat} (hc : c < n) {L0 : List (List Int)} {s : Nat × List (List Int) × List (List Int)} {ld : Nat → Nat} (h : RInv p m n c L0 s ld) : ∃ ld', RInv p m n (c + 1) L0 (colStep p c s) ld' := by
  have hpb := fieldB_bounds hp
  rcases colStep_cases hp hc h.mat h.inv.le with ⟨e, hz⟩ | ⟨k, iv, h1, h2, h3, h4, h5, h6, _⟩
  · rw [e]; exact ⟨ld, h.mat, h.inv.skip hz, h.nul⟩
  · refine ⟨fun i => if i < s.1 then ld i else c, h5, ?_, fun x => ?_⟩
    · rw [h4]
      exact (h.inv.step (by omega) hc h1 h2 h3).congr (by omega) fun i j hi hj => (h6 i j hi hj).symm
    · rw [Nul.congr h6 x, step_nul (by omega) h2 h3 x]; exact h.nul x
theorem redTo_inv {p : Int} (hp : fieldB p = true) {m n : Nat} {L : List (List Int)} (hm : Mat p m n L) (A : List (List Int)) : ∀ c, c ≤ n → ∃ ld, RInv p m n c L (redTo p L A c) ld
  | 0, _ => ⟨fun _ => 0, hm, Inv.start (fun i j hi _ => hm.en (by have := fieldB_bounds hp; omega) hi j) _, fun _ => Iff.rfl⟩
  | c + 1, hc => by
    obtain ⟨ld, h⟩ := redTo_inv hp hm A c (by omega)
    exact h.next hp (by omega)

/-- The rows do not look at the rows beside. -/
theorem redTo_fst (p : Int) (L A B : List (List Int)) : ∀ c, (redTo p L A c).1 = (redTo p L B c).1 ∧ (redTo p L A c).2.1 = (redTo p L B c).2.1
  | 0 => ⟨rfl, rfl⟩
  | c + 1 => by
    obtain ⟨h1, h2⟩ := redTo_fst p L A B c
    simp only [redTo, colStep]
    rw [h1, h2]
    split <;> exact ⟨by simp [h1], by simp [h2]⟩

theorem en_take {L : List (List Int)} {r i : Nat} (hi : i < r) (j : Nat) : en (L.take r) i j = en L i j := by
  unfold en
  congr 1
  simp [List.getD, hi]

/-- A list of rows that is reduced. -/
def RedL (p : Int) (n : Nat) (R : List (List Int)) : Prop := Mat p R.length n R ∧ ∃ ld, Red p n (en R) R.length ld
/-- What is orthogonal to a list's rows. -/
def NulL (p : Int) (n : Nat) (L : List (List Int)) (x : Nat → Int) : Prop := Nul p n (en L) L.length x

theorem redM_spec {p : Int} (hp : fieldB p = true) {n : Nat} {L : List (List Int)} (hm : Mat p L.length n L) : RedL p n (redM p n L) ∧ (∀ x, NulL p n (redM p n L) x ↔ NulL p n L x) ∧ (redM p n L).length ≤ L.length := by
  obtain ⟨ld, h⟩ := redTo_inv hp hm [] n (Nat.le_refl _)
  have hle := h.inv.le
  have hlen : (redM p n L).length = (redTo p L [] n).1 := by
    unfold redM; rw [List.length_take, h.mat.len]; omega
  have he : ∀ i j, i < (redTo p L [] n).1 → j < n → en (redTo p L [] n).2.1 i j = en (redM p n L) i j := fun i j hi _ => (en_take hi j).symm
  refine ⟨⟨⟨rfl, fun v hv => h.mat.row v (List.mem_of_mem_take hv)⟩, ld, ?_⟩, fun x => ?_, by rw [hlen]; exact hle⟩
  · rw [hlen]
    have hr := h.inv.red
    exact ⟨hr.lt, fun i hi => by rw [← he i _ hi (hr.lt i hi)]; exact hr.one i hi, fun i k hi hk hne => by rw [← he k _ hk (hr.lt i hi)]; exact hr.zero i k hi hk hne,
      fun i j hi hj => by rw [← he i j hi (by have := hr.lt i hi; omega)]; exact hr.before i j hi hj, hr.mono, fun i j hi hj => by rw [← he i j hi hj]; exact hr.res i j hi hj⟩
  · unfold NulL
    rw [hlen, ← Nul.congr he x, ← h.inv.nul x]
    exact h.nul x

/-- THE REDUCED LIST IS THE ONLY ONE. -/
theorem RedL.unique {p : Int} (hp : 1 < p) {n : Nat} {R T : List (List Int)} (h : RedL p n R) (h' : RedL p n T) (hN : ∀ x, NulL p n R x ↔ NulL p n T x) : R = T := by
  obtain ⟨m1, c, h1⟩ := h
  obtain ⟨m2, d, h2⟩ := h'
  obtain ⟨e1, e2⟩ := h1.unique hp h2 hN
  apply List.ext_getElem e1
  intro i hi hi'
  have r1 := m1.row _ (List.getElem_mem hi)
  have r2 := m2.row _ (List.getElem_mem hi')
  apply List.ext_getElem (by rw [r1.1, r2.1])
  intro j hj hj'
  have := e2 i j hi (by rw [← r1.1]; exact hj)
  simpa [en, List.getD, hi, hi', hj, hj'] using this
end Go.Proofs.YtahnhblodfdfhaaDoor
