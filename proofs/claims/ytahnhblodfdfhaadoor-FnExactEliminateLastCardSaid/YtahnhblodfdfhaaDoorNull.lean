/-
  THE WALKS: spec.spLead, spec.fdNeg, spec.spNull.

  PLAIN LAW: the reference's null space, as its walk meets it.

  PLAIN LAW: the reference's null vectors generate the null space, so both sides' reduced bases are equal. No program is looked at.

  PLAIN LAW: THE TWO SIDES' BASES OF A NULL SPACE ARE ONE LIST. No program is looked at.
-/
import Derived.Test.YtahnhblodfdfhaaDoorLinB
import Derived.Test.YtahnhblodfdfhaaDoorRedM
import Derived.Test.YtahnhblodfdfhaaDoorSpRed
namespace Go.Proofs.YtahnhblodfdfhaaDoor

/-- The identity's rows. -/
def unitV (n i : Nat) : List Int := (List.range n).map fun j => if j = i then 1 else 0
def idM (n : Nat) : List (List Int) := (List.range n).map (unitV n)
theorem idM_en {n i j : Nat} (hi : i < n) (hj : j < n) : en (idM n) i j = if j = i then 1 else 0 := by simp [en, idM, unitV, List.getD, hi, hj]
theorem idM_mat {p : Int} (hp : 1 < p) (n : Nat) : Mat p n n (idM n) := by
  refine ⟨by simp [idM], fun v hv => ?_⟩
  simp only [idM, List.mem_map] at hv
  obtain ⟨i, _, rfl⟩ := hv
  refine ⟨by simp [unitV], fun x hx => ?_⟩
  simp only [unitV, List.mem_map] at hx
  obtain ⟨j, _, rfl⟩ := hx
  split <;> omega

theorem redTo_also {p : Int} (hp : fieldB p = true) {m n : Nat} {L A : List (List Int)} {T : Nat → Nat → Int} (hm : Mat p m n L) (hA : Mat p m m A) (hK : Makes p m n (en L) (en A) T) (hS : ∀ y, InSp p m (en A) m y) :
    ∀ c, c ≤ n → Mat p m m (redTo p L A c).2.2 ∧ Makes p m n (en (redTo p L A c).2.1) (en (redTo p L A c).2.2) T ∧ ∀ y, InSp p m (en (redTo p L A c).2.2) m y
  | 0, _ => ⟨hA, hK, hS⟩
  | c + 1, hc => by
    have hpb := fieldB_bounds hp
    obtain ⟨ld, hR⟩ := redTo_inv hp hm A c (by omega)
    obtain ⟨h1, h2, h3⟩ := redTo_also hp hm hA hK hS c (by omega)
    rw [redTo]
    obtain ⟨s, hs⟩ : ∃ s, s = redTo p L A c := ⟨_, rfl⟩
    rw [← hs] at hR h1 h2 h3 ⊢
    rcases colStep_cases hp (show c < n by omega) hR.mat hR.inv.le with ⟨e, _⟩ | ⟨k, iv, k1, k2, k3, _, _, k6, k7, k8⟩
    · rw [e]; exact ⟨h1, h2, h3⟩
    · rw [k7]
      have hr : s.1 < m := by omega
      have hse := step_en (p := p) (by omega) h1 hr k2 iv (fun i => en (scaleL p s.1 iv (swapL s.2.1 s.1 k)) i c)
      rw [h1.len]
      refine ⟨hse.1, ?_, fun y => ?_⟩
      · refine (h2.step (iv := iv) (f := fun i => en (scaleL p s.1 iv (swapL s.2.1 s.1 k)) i c) hr k2).congr (fun i j hi hj => ?_) (fun i j hi hj => (hse.2 i j hi hj).symm)
        rw [k6 i j hi hj, stepE_eq]
        exact stepG_congr hr k2 k8 (fun _ _ _ _ => rfl) hi hj
      · exact ((h3 y).trans fun i hi => stepG_span hr k2 k3 hi).congr fun i j hi hj => (hse.2 i j hi hj).symm

/-- Rows and columns exchanged. -/
def transM (L : List (List Int)) (n : Nat) : List (List Int) := (List.range n).map fun j => L.map fun v => v.getD j 0
theorem transM_en {L : List (List Int)} {n i j : Nat} (hi : i < n) (hj : j < L.length) : en (transM L n) i j = en L j i := by simp [en, transM, List.getD, hi, hj]
theorem transM_mat {p : Int} (hp : 0 < p) {m n : Nat} {L : List (List Int)} (h : Mat p m n L) : Mat p n m (transM L n) := by
  refine ⟨by simp [transM], fun v hv => ?_⟩
  simp only [transM, List.mem_map] at hv
  obtain ⟨j, _, rfl⟩ := hv
  refine ⟨by rw [List.length_map]; exact h.len, fun x hx => ?_⟩
  simp only [List.mem_map] at hx
  obtain ⟨w, hw, rfl⟩ := hx
  exact (h.row w hw).2.getD hp j

/-- What the program's kernel returns. -/
def kerM (p : Int) (n : Nat) (L : List (List Int)) : List (List Int) := redM p L.length ((redTo p L (idM L.length) n).2.2.drop (redTo p L (idM L.length) n).1)
/-- What the program's orthogonal returns. -/
def perpM (p : Int) (n : Nat) (L : List (List Int)) : List (List Int) := kerM p L.length (transM L n)

/-- K generates what N says. -/
def GenL (p : Int) (n : Nat) (N : (Nat → Int) → Prop) (K : List (List Int)) : Prop := Mat p K.length n K ∧ Gen p n N (en K) K.length
theorem gen_unique {p : Int} (hp : fieldB p = true) {n : Nat} {N : (Nat → Int) → Prop} {K K' : List (List Int)} (h : GenL p n N K) (h' : GenL p n N K') : redM p n K = redM p n K' := by
  have hpb := fieldB_bounds hp
  have r1 := redM_spec hp h.1
  have r2 := redM_spec hp h'.1
  refine RedL.unique (by omega) r1.1 r2.1 fun x => ?_
  rw [r1.2.1 x, r2.2.1 x]
  exact ⟨h.2.nul h'.2 x, h'.2.nul h.2 x⟩

theorem perp_gen {p : Int} (hp : fieldB p = true) {n : Nat} {L : List (List Int)} (hm : Mat p L.length n L) :
    GenL p n (NulL p n L) ((redTo p (transM L n) (idM n) L.length).2.2.drop (redTo p (transM L n) (idM n) L.length).1) := by
  have hpb := fieldB_bounds hp
  have hT := transM_mat (by omega) hm
  obtain ⟨ld, hR⟩ := redTo_inv hp hT (idM n) L.length (Nat.le_refl _)
  obtain ⟨h1, h2, h3⟩ := redTo_also hp hT (idM_mat (by omega) n) (T := en (transM L n)) (fun i hi k hk => by
      rw [sm_congr (g := fun l => en (transM L n) l k * (if l = i then 1 else 0)) (fun l hl => by rw [idM_en hi hl, Int.mul_comm]), dot_delta hi (fun l => en (transM L n) l k), Int.sub_self]
      exact Int.dvd_zero p) (fun y => ⟨y, fun l hl => by
      rw [sm_congr (g := fun i => y i * (if i = l then 1 else 0)) (fun i hi => by rw [idM_en hi hl]; congr 1; by_cases e : l = i <;> simp [e, eq_comm]), dot_delta hl, Int.sub_self]
      exact Int.dvd_zero p⟩) L.length (Nat.le_refl _)
  have hg := makes_gen hR.inv h2 h3
  obtain ⟨s, hs⟩ : ∃ s, s = redTo p (transM L n) (idM n) L.length := ⟨_, rfl⟩
  rw [← hs] at hg h1 hR ⊢
  have hd : ∀ i j, en (s.2.2.drop s.1) i j = en s.2.2 (s.1 + i) j := by
    intro i j; simp [en, List.getD]
  refine ⟨⟨rfl, fun v hv => h1.row v (List.mem_of_mem_drop hv)⟩, ?_⟩
  have hN : ∀ y, (∀ q, q < L.length → p ∣ sm n fun l => y l * en (transM L n) l q) ↔ NulL p n L y := by
    intro y
    constructor
    · intro h i hi
      rw [sm_congr (g := fun l => y l * en (transM L n) l i) (fun l hl => by rw [transM_en hl hi, Int.mul_comm])]; exact h i hi
    · intro h q hq
      rw [sm_congr (g := fun l => en L q l * y l) (fun l hl => by rw [transM_en hl hq, Int.mul_comm])]; exact h q hq
  have hlen : (s.2.2.drop s.1).length = n - s.1 := by rw [List.length_drop, h1.len]
  rw [hlen]
  refine ⟨fun k hk => ?_, fun x hx y hy => hg.2 x (fun i hi => ?_) y ((hN y).2 hy)⟩
  · have := (hN _).1 (hg.1 k hk)
    have e : en (s.2.2.drop s.1) k = fun j => en s.2.2 (s.1 + k) j := by funext j; exact hd k j
    rw [e]; exact this
  · have := hx i hi
    rw [sm_congr (g := fun j => en s.2.2 (s.1 + i) j * x j) (fun j _ => by rw [hd])] at this
    exact this

theorem perpM_eq (p : Int) (n : Nat) (L : List (List Int)) : perpM p n L = redM p n ((redTo p (transM L n) (idM n) L.length).2.2.drop (redTo p (transM L n) (idM n) L.length).1) := by
  have : (transM L n).length = n := by simp [transM]
  unfold perpM kerM
  rw [this]

/-! ### The reference's null space -/
/-- The index of the first element that is not 0, or the length. -/
def leadV (v : List Int) : Nat := v.findIdx fun a => a != 0
/-- The null vector of a column. -/
def nvL (p : Int) (n : Nat) (R : List (List Int)) (j : Nat) : Nat → List Int
  | 0 => (List.replicate n 0).set j 1
  | i + 1 => (nvL p n R j i).set (leadV (R.getD i [])) (-(en R i j) % p)
def freeCols (n : Nat) (R : List (List Int)) : List Nat := (List.range n).filter fun j => R.all fun v => leadV v != j
def nvecs (p : Int) (n : Nat) (R : List (List Int)) : List (List Int) := (freeCols n R).map fun j => nvL p n R j R.length
/-- What the reference's spNull returns. -/
def nullM (p : Int) (n : Nat) (L : List (List Int)) : List (List Int) := redM p n (nvecs p n (redM p n L))
end Go.Proofs.YtahnhblodfdfhaaDoor
namespace Go.Proofs.YtahnhblodfdfhaaDoor

theorem leadV_eq {v : List Int} {c : Nat} (hc : c < v.length) (h : v.getD c 0 ≠ 0) (hb : ∀ j, j < c → v.getD j 0 = 0) : leadV v = c := by
  unfold leadV
  rw [List.findIdx_eq hc]
  refine ⟨?_, fun j hj => ?_⟩
  · simp [List.getD, hc] at h; simp [h]
  · have := hb j hj
    have hjl : j < v.length := by omega
    simp [List.getD, hjl] at this; simp [this]
theorem nvL_length (p : Int) (n : Nat) (R : List (List Int)) (j : Nat) : ∀ i, (nvL p n R j i).length = n
  | 0 => by simp [nvL]
  | i + 1 => by rw [nvL, List.length_set]; exact nvL_length p n R j i
theorem nvL_res {p : Int} (hp : 1 < p) (n : Nat) (R : List (List Int)) (j : Nat) : ∀ i, Res p (nvL p n R j i)
  | 0 => by unfold nvL; exact (Res.replicate (by omega) n).set ⟨by omega, hp⟩ j
  | i + 1 => by rw [nvL]; exact (nvL_res hp n R j i).set ⟨Int.emod_nonneg _ (by omega), Int.emod_lt_of_pos _ (by omega)⟩ _
theorem red_lead {p : Int} {n : Nat} {R : List (List Int)} (h : Mat p R.length n R) {ld : Nat → Nat} (hr : Red p n (en R) R.length ld) {i : Nat} (hi : i < R.length) : leadV (R.getD i []) = ld i := by
  refine leadV_eq (by rw [(h.get hi).1]; exact hr.lt i hi) ?_ fun j hj => hr.before i j hi hj
  have := hr.one i hi
  unfold en at this
  rw [this]; decide
theorem nvL_en {p : Int} {n : Nat} {R : List (List Int)} (h : Mat p R.length n R) {ld : Nat → Nat} (hr : Red p n (en R) R.length ld) {j : Nat} (hj : j < n) (hf : ∀ i, i < R.length → ld i ≠ j) :
    ∀ i, i ≤ R.length → ∀ q, q < n → p ∣ (nvL p n R j i).getD q 0 - ((if q = j then 1 else 0) - sm i fun t => (if q = ld t then 1 else 0) * en R t j)
  | 0, _, q, hq => by
    rw [nvL, getD_set _ _ _ _ _ (by simpa using hj)]
    simp only [sm, Int.sub_zero]
    split
    · simp
    · simp [List.getD, hq]
  | i + 1, hi, q, hq => by
    have ih := nvL_en h hr hj hf i (by omega) q hq
    rw [nvL, red_lead h hr (by omega), getD_set _ _ _ _ _ (by rw [nvL_length]; exact hr.lt i (by omega)), sm]
    by_cases e : q = ld i
    · subst e
      rw [if_pos rfl, if_neg (hf i (by omega)), if_pos rfl, sm_congr (g := fun _ => 0) (fun t ht => by rw [if_neg (by have := hr.mono t i ht (by omega); omega), Int.zero_mul]), sm_zero]
      have := dvd_emod_sub p (-(en R i j))
      simpa using this
    · rw [if_neg e, if_neg e, Int.zero_mul, Int.add_zero]
      exact ih

theorem nvecs_gen {p : Int} (hp : 1 < p) {n : Nat} {R : List (List Int)} (h : RedL p n R) : GenL p n (NulL p n R) (nvecs p n R) := by
  obtain ⟨hm, ld, hr⟩ := h
  have hfree : ∀ j, j ∈ freeCols n R ↔ j < n ∧ ∀ i, i < R.length → ld i ≠ j := by
    intro j
    unfold freeCols
    rw [List.mem_filter, List.mem_range, List.all_eq_true]
    refine and_congr_right fun _ => ⟨fun hh i hi => ?_, fun hh v hv => ?_⟩
    · have hv : R.getD i [] ∈ R := by
        have : R.getD i [] = R[i] := by simp [List.getD, hi]
        rw [this]; exact List.getElem_mem hi
      have := hh _ hv
      rw [red_lead hm hr hi] at this
      simpa using this
    · obtain ⟨i, hi, rfl⟩ := List.getElem_of_mem hv
      have := hh i hi
      rw [← red_lead hm hr hi] at this
      have e : R.getD i [] = R[i] := by simp [List.getD, hi]
      rw [e] at this
      simpa using this
  have hlen : (nvecs p n R).length = (freeCols n R).length := by simp [nvecs]
  have hget : ∀ k, k < (freeCols n R).length → (nvecs p n R).getD k [] = nvL p n R ((freeCols n R).getD k 0) R.length := by
    intro k hk; simp [nvecs, List.getD, hk]
  have hmem : ∀ k, k < (freeCols n R).length → (freeCols n R).getD k 0 ∈ freeCols n R := by
    intro k hk
    have : (freeCols n R).getD k 0 = (freeCols n R)[k] := by simp [List.getD, hk]
    rw [this]; exact List.getElem_mem hk
  refine ⟨⟨rfl, fun v hv => ?_⟩, ?_⟩
  · simp only [nvecs, List.mem_map] at hv
    obtain ⟨j, _, rfl⟩ := hv
    exact ⟨nvL_length p n R j _, nvL_res hp n R j _⟩
  · rw [hlen]
    refine hr.gen (fun k => (freeCols n R).getD k 0) (fun k hk => ((hfree _).1 (hmem k hk)).1) (fun k hk j hj => ?_) fun j hj hl => ?_
    · have hf := (hfree _).1 (hmem k hk)
      have := nvL_en hm hr hf.1 hf.2 R.length (Nat.le_refl _) j hj
      unfold en
      rw [hget k hk]
      exact this
    · have : j ∈ freeCols n R := (hfree j).2 ⟨hj, hl⟩
      obtain ⟨k, hk, e⟩ := List.getElem_of_mem this
      exact ⟨k, hk, by simp [List.getD, hk, e]⟩

theorem GenL.congr {p : Int} {n : Nat} {N N' : (Nat → Int) → Prop} (hN : ∀ x, N x ↔ N' x) {K : List (List Int)} (h : GenL p n N K) : GenL p n N' K :=
  ⟨h.1, fun k hk => (hN _).1 (h.2.1 k hk), fun x hx y hy => h.2.2 x hx y ((hN y).2 hy)⟩

/-- THE TWO SIDES' BASES OF THE NULL SPACE ARE EQUAL. -/
theorem null_eq_perp {p : Int} (hp : fieldB p = true) {n : Nat} {L : List (List Int)} (hm : Mat p L.length n L) : nullM p n L = perpM p n L := by
  have hpb := fieldB_bounds hp
  have hr := redM_spec hp hm
  rw [perpM_eq]
  unfold nullM
  exact gen_unique hp ((nvecs_gen (by omega) hr.1).congr hr.2.1) (perp_gen hp hm)
end Go.Proofs.YtahnhblodfdfhaaDoor
namespace Go.Proofs.YtahnhblodfdfhaaDoor

/-- The table of the leading columns, the first i rows done. -/
def leadTo (R : List (List Int)) (n : Nat) : Nat → List Int
  | 0 => List.replicate n (-1)
  | i + 1 => (leadTo R n i).set (leadV (R.getD i [])) (i : Nat)
@[simp] theorem leadTo_length (R : List (List Int)) (n : Nat) : ∀ i, (leadTo R n i).length = n
  | 0 => by simp [leadTo]
  | i + 1 => by simp [leadTo, leadTo_length R n i]
theorem leadTo_get (R : List (List Int)) {n : Nat} : ∀ (i j : Nat), j < n → (0 ≤ (leadTo R n i).getD j 0 ↔ ∃ k, k < i ∧ leadV (R.getD k []) = j)
  | 0, j, hj => by
    have : (leadTo R n 0).getD j 0 = -1 := by simp [leadTo, List.getD, hj]
    rw [this]
    exact ⟨fun h => by omega, fun ⟨k, h, _⟩ => by omega⟩
  | i + 1, j, hj => by
    have ih := leadTo_get R i j hj
    rw [leadTo]
    by_cases hl : leadV (R.getD i []) = j
    · have : ((leadTo R n i).set (leadV (R.getD i [])) (i : Nat)).getD j 0 = (i : Nat) := by rw [hl]; exact getD_set_self (by simpa using hj)
      rw [this]
      exact ⟨fun _ => ⟨i, by omega, hl⟩, fun _ => by omega⟩
    · rw [getD_set_ne' hl, ih]
      constructor
      · rintro ⟨k, h1, h2⟩; exact ⟨k, by omega, h2⟩
      · rintro ⟨k, h1, h2⟩
        by_cases hk : k = i
        · subst hk; exact absurd h2 hl
        · exact ⟨k, by omega, h2⟩
/-- Is column j free? -/
def freeB (R : List (List Int)) (j : Nat) : Bool := R.all fun v => leadV v != j
theorem freeB_lead {R : List (List Int)} {n j : Nat} (hj : j < n) : freeB R j = true ↔ ¬ 0 ≤ (leadTo R n R.length).getD j 0 := by
  rw [leadTo_get R R.length j hj]
  unfold freeB
  rw [List.all_eq_true]
  constructor
  · rintro h ⟨k, hk, he⟩
    have := h (R.getD k []) (by rw [getD_lt hk]; exact List.getElem_mem hk)
    rw [he] at this
    simp at this
  · intro h v hv
    obtain ⟨k, hk, rfl⟩ := List.getElem_of_mem hv
    simp only [bne_iff_ne, ne_eq]
    intro he
    exact h ⟨k, hk, by rw [getD_lt hk]; exact he⟩
/-- The vectors of the first j columns. -/
def nvTo (p : Int) (n : Nat) (R : List (List Int)) (j : Nat) : List (List Int) := ((List.range j).filter (freeB R)).map fun j => nvL p n R j R.length
theorem nvTo_succ (p : Int) (n : Nat) (R : List (List Int)) (j : Nat) : nvTo p n R (j + 1) = nvTo p n R j ++ (if freeB R j then [nvL p n R j R.length] else []) := by
  unfold nvTo
  rw [List.range_succ, List.filter_append, List.map_append]
  congr 1
  by_cases h : freeB R j = true
  · simp [h]
  · simp [h]
theorem nvTo_end (p : Int) (n : Nat) (R : List (List Int)) : nvTo p n R n = nvecs p n R := rfl
theorem nvTo_length (p : Int) (n : Nat) (R : List (List Int)) (j : Nat) : (nvTo p n R j).length ≤ j := by
  unfold nvTo
  rw [List.length_map]
  have := List.length_filter_le (freeB R) (List.range j)
  simpa using this
theorem nvTo_mat {p : Int} (hp : 1 < p) (n : Nat) (R : List (List Int)) (j : Nat) : Mat p (nvTo p n R j).length n (nvTo p n R j) := by
  refine ⟨rfl, fun v hv => ?_⟩
  obtain ⟨k, _, rfl⟩ := List.mem_map.1 hv
  exact ⟨nvL_length p n R k _, nvL_res hp n R k _⟩
/-- The leading columns of a reduced list lie within. -/
theorem lead_lt {p : Int} {n : Nat} {R : List (List Int)} (h : RedL p n R) {i : Nat} (hi : i < R.length) : leadV (R.getD i []) < n := by
  obtain ⟨hm, ld, hr⟩ := h
  rw [red_lead hm hr hi]
  exact hr.lt i hi
theorem leadV_step {l : List Int} {k : Nat} {x : Int} (h : l[k]? = some x) (hx : x = 0) : (l.take k).all (· == 0) = true → (l.take (k + 1)).all (· == 0) = true := by
  intro h'
  rw [List.take_add_one, h]
  simp [hx] at h' ⊢
  exact h'
theorem leadV_at {l : List Int} {k : Nat} (hk : k ≤ l.length) (hz : (l.take k).all (· == 0) = true) (hx : k < l.length → l.getD k 0 ≠ 0) : leadV l = k := by
  unfold leadV
  have hz' : ∀ j, j < k → l.getD j 0 = 0 := by
    intro j hj
    have := List.all_eq_true.1 hz (l.getD j 0) (by
      rw [getD_lt (show j < l.length by omega)]
      rw [show l[j] = (l.take k)[j]'(by simp; omega) by simp]
      exact List.getElem_mem _)
    simpa using this
  by_cases hlt : k < l.length
  · rw [List.findIdx_eq hlt]
    refine ⟨by have := hx hlt; rw [getD_lt hlt] at this; simpa using this, fun j hj => ?_⟩
    have := hz' j hj
    rw [getD_lt (by omega)] at this
    simpa using this
  · obtain rfl : k = l.length := by omega
    rw [List.findIdx_eq_length_of_false]
    intro x hxm
    have := List.all_eq_true.1 hz x (by rw [List.take_length]; exact hxm)
    simp at this ⊢
    exact this
end Go.Proofs.YtahnhblodfdfhaaDoor
namespace Go.Proofs.YtahnhblodfdfhaaDoor
open Go.RowKit

set_option maxHeartbeats 400000 in
theorem spLead_any (A : Option Addr) (c n : Nat) (l : List Int) (w : World) (h : RdI w A l) (hn : l.length = n) (hl : n ≤ 17592186044416) :
    Calls Tryd.prog 63 #[.slice A n c] w fun e w' => e = .returned (.int .i64 (leadV l : Nat)) ∧ w = w' := by
  have HN := Lib.hid hn
  clear hn
  go_enter Tryd.func63, Tryd.ntmps63
  go_wp2_with (fail)
  go_loop [3] (fun v => ∃ k : Nat, k ≤ n ∧ v = .int .i64 k ∧ (l.take k).all (· == 0) = true) (fun v => n - (intOf v).toNat)
  case atStart => exact ⟨0, Nat.zero_le _, rfl, by simp⟩
  case round =>
    obtain ⟨k, hk, rfl, hz⟩ := hrel
    have HZ := Lib.hid hz
    clear hz
    by_cases hlt : k < n
    · obtain ⟨ad, x, rfl, hx, hc⟩ := h.at_ (j := k) (by rw [HN.out]; exact hlt)
      have HX := Lib.hid hx
      have hkI : (k : Int) < (n : Int) := by omega
      clear hx h
      by_cases hx0 : x = 0
      · subst hx0
        have hs := leadV_step HX.out rfl HZ.out
        have HS := Lib.hid hs
        clear hs
        go_wp2_with (fail)
        go_round
        case rel => exact ⟨k + 1, by omega, by go_num, HS.out⟩
        case measure => simp [intOf]; omega
      · have hx1 : (x == 0) = false := by rw [beq_eq_false_iff_ne]; exact hx0
        have he := leadV_at (l := l) (k := k) (by rw [HN.out]; omega) HZ.out (fun _ => by rw [getD_of_some HX.out]; exact hx0)
        have HE := Lib.hid he
        clear he hx0
        go_wp2_with (fail)
        go_ret
        exact ⟨ret_int (by rw [HE.out]), rfl⟩
    · obtain rfl : n = k := by omega
      have he := leadV_at (l := l) (k := n) (by rw [HN.out]; omega) HZ.out (fun h => absurd h (by rw [HN.out]; omega))
      have HE := Lib.hid he
      clear he h
      go_wp2_with (fail)
      go_ret
      exact ⟨ret_int (by rw [HE.out]), rfl⟩

set_option maxHeartbeats 400000 in
theorem fdNeg_any (p a : Int) (w : World) (h0 : 0 < p) (h97 : p ≤ 97) (ha : 0 ≤ a) (ha' : a < p) :
    Calls Tryd.prog 57 #[.int .i64 p, .int .i64 a] w fun e w' => e = .returned (.int .i64 (-a % p)) ∧ w = w' := by
  have hz : (p == 0) = false := by rw [beq_eq_false_iff_ne]; omega
  have he : (p - a) % p = -a % p := by rw [show p - a = -a + p by omega, Int.add_emod_right]
  have HE := Lib.hid he
  clear he
  go_enter Tryd.func57, Tryd.ntmps57
  go_wp2_with (fail)
  go_ret
  exact ⟨ret_int HE.out, rfl⟩

theorem RetSS.mono {w0 w w' : World} {L : List (List Int)} {e : Ending} (h : RetSS w L e w') (hb : Below w0.heap.size w0 w) : RetSS w0 L e w' := by
  obtain ⟨A, cap, hs, rfl, hL, hO, hf, h0⟩ := h
  exact ⟨A, cap, hs, rfl, hL, hO, fun b hb' => Nat.le_trans hb.size (hf b hb'), below_trans hb h0 hb.size⟩

theorem made_is {w : World} {G : Addr} {n : Nat} (h : Sl w tInt 1 (some G) n n ((madeCells (Value.int .i64 0).cells (n * 1)).toList.take (n * 1))) : IS w (some G) n (List.replicate n 0) := by
  unfold IS; rw [← madeZeros]; simpa using h
theorem is_cell {w : World} {G : Addr} {c : Nat} {l : List Int} (h : IS w (some G) c l) {j : Nat} (hj : j < l.length) : ∃ y, w.cell? (G.add j) = some (.int .i64 y) ∧ w.frozen? (G.add j) = false := by
  obtain ⟨ad, y, hA, _, _, hc, hf⟩ := h.at_ hj
  obtain rfl := Option.some.inj hA
  exact ⟨y, hc, hf j⟩

set_option maxRecDepth 100000 in
set_option maxHeartbeats 4000000 in
theorem spNull_any (p : Int) (n : Nat) (A : Option Addr) (c : Nat) (hs : List Hd) (w : World) (h : RdR w A hs) (hp : fieldB p = true) (hm : Mat p hs.length n (hs.map fun h : Hd => h.2.2)) (hl : hs.length ≤ 1048576) (hn : n ≤ 1048576) :
    Calls Tryd.prog 60 #[.int .i64 p, .int .i64 n, .slice A hs.length c] w (RetSS w (nullM p n (hs.map fun h : Hd => h.2.2))) := by
  have hC := spReduce_any p n A c hs w h hp hm hl hn
  obtain ⟨hred, _, hRl⟩ := redM_spec hp (L := hs.map fun h : Hd => h.2.2) (by rw [List.length_map]; exact hm)
  rw [List.length_map] at hRl
  obtain ⟨R, hR⟩ : ∃ R, R = redM p n (hs.map fun h : Hd => h.2.2) := ⟨_, rfl⟩
  have hres : nullM p n (hs.map fun h : Hd => h.2.2) = redM p n (nvecs p n R) := by rw [hR]; rfl
  rw [← hR] at hC hred hRl
  rw [hres]
  have hpb := fieldB_bounds hp
  obtain ⟨r, hr⟩ : ∃ r, r = R.length := ⟨_, rfl⟩
  rw [← hr] at hRl
  have hRm : Mat p r n R := by rw [hr]; exact hred.1
  have HC := Lib.hid hC
  have HRED := Lib.hid hred
  have HR := Lib.hid hr
  have HRM := Lib.hid hRm
  have HP := Lib.hid hp
  clear hC hred hR hres hr hRm hm h hp
  go_enter Tryd.func60, Tryd.ntmps60
  go_wp2_with (fail)
  refine HC.out.mono ?_
  rintro e w1 hret
  obtain ⟨A1, c1, rfl, hO1⟩ := hret.om
  rw [← HR.out]
  clear hret
  obtain ⟨gs, hLg, hRd⟩ := hO1.rdr
  have hgl : gs.length = r := by rw [HR.out, hLg, List.length_map]
  have hb01 := hO1.below_
  have HLG := Lib.hid hLg
  have HGL := Lib.hid hgl
  clear hLg hgl hO1
  go_wp2_with (at_make; refine wpList_make_Sl _ rfl _ _ _ rfl 3 Tryd.underlying33 info_int n n rfl rfl rfl rfl (Nat.le_refl _) (by omega) (by unfold maxLen; omega) ?_; intro G w2 hs2 hG hb2)
  have his0 : IS w2 (some G) n (List.replicate n 0) := by unfold IS; rw [← madeZeros]; simpa using hs2
  clear hs2
  go_loopw [25] (fun i wr => ∃ k : Nat, k ≤ n ∧ i = .int .i64 k ∧ IS wr (some G) n ((List.replicate n (-1 : Int)).take k ++ (List.replicate n (0 : Int)).drop k) ∧ Below w1.heap.size w1 wr) (fun i _ => n - (intOf i).toNat)
  case atStart => exact ⟨0, Nat.zero_le _, rfl, by simpa using his0, hb2⟩
  case round =>
    clear his0
    obtain ⟨k, hk, rfl, his, hb⟩ := hrel
    have hlen : ((List.replicate n (-1 : Int)).take k ++ (List.replicate n (0 : Int)).drop k).length = n := by simp; omega
    by_cases hlt : k < n
    · obtain ⟨ad', y, hA', hy, hlt', hc', hf'⟩ := his.at_ (j := k) (by rw [hlen]; exact hlt)
      obtain rfl := Option.some.inj hA'
      have hf := hf' k
      have his' := his.set (ad := G) rfl (j := k) (-1) (by rw [hlen]; exact hlt)
      rw [take_append_step (by simp) (show (List.replicate n (-1 : Int))[k]? = some (-1) by simp [hlt])] at his'
      have HI := Lib.hid his'
      have hb' := Lib.hid (hb.setCell (p := G.add k) (by rw [block_of_add]; exact hG) (.int .i64 (-1)))
      have hkI : (k : Int) < (n : Int) := by omega
      clear his' hf' hA' his hy hlen
      go_wp2_with (fail)
      go_roundw
      case rel => exact ⟨k + 1, by omega, by go_num, HI.out, hb'.out⟩
      case measure => simp [intOf]; omega
    · obtain rfl : n = k := by omega
      have his1 : IS wr (some G) n (leadTo R n 0) := by
        have := his
        rwa [List.take_of_length_le (by simp), List.drop_of_length_le (by simp), List.append_nil] at this
      clear his hlen
      go_wp2_with (fail)
      go_loopw [34] (fun i wr => ∃ k : Nat, k ≤ r ∧ i = .int .i64 k ∧ IS wr (some G) n (leadTo R n k) ∧ Below w1.heap.size w1 wr) (fun i _ => r - (intOf i).toNat)
      case atStart => exact ⟨0, Nat.zero_le _, rfl, his1, hb⟩
      case round =>
        clear his1 hb
        obtain ⟨k, hk, rfl, his, hb⟩ := hrel
        by_cases hlt : k < r
        · obtain ⟨ad, B, d, l, rfl, hx, hc, hri⟩ := (hRd.below hb).at_ (k := k) (by rw [HGL.out]; exact hlt)
          have hlR : R.getD k [] = l := by rw [HLG.out]; exact getD_map_hd hx
          have hll : l.length = n := by rw [← hlR]; exact (HRM.out.get hlt).1
          have hld : leadV l < n := by rw [← hlR]; exact lead_lt HRED.out (by rw [← HR.out]; exact hlt)
          rw [hll] at hc
          obtain ⟨ad', y, hA', hy, hlt', hc', hf'⟩ := his.at_ (j := leadV l) (by rw [leadTo_length]; exact hld)
          obtain rfl := Option.some.inj hA'
          have hf := hf' (leadV l)
          have his' := his.set (ad := G) rfl (j := leadV l) ((k : Nat) : Int) (by rw [leadTo_length]; exact hld)
          have hst : (leadTo R n k).set (leadV l) ((k : Nat) : Int) = leadTo R n (k + 1) := by rw [leadTo, hlR]
          rw [hst] at his'
          have hC := spLead_any B d n l wr hri hll (by omega)
          obtain ⟨ld, hldd⟩ : ∃ ld, ld = leadV l := ⟨_, rfl⟩
          rw [← hldd] at hld hc' hf his' hC
          have HCC := Lib.hid hC
          have HI := Lib.hid his'
          have hb' := Lib.hid (hb.setCell (p := G.add ld) (by rw [block_of_add]; exact hG) (.int .i64 ((k : Nat) : Int)))
          have hkI : (k : Int) < (r : Int) := by omega
          have hldI : (ld : Int) < (n : Int) := by omega
          clear his' hst hf' hA' his hy hldd hC hx hlR hll hri hb
          go_wp2_with (fail)
          refine HCC.out.mono ?_
          rintro e w' ⟨rfl, rfl⟩
          go_wp2_with (fail)
          go_roundw
          case rel => exact ⟨k + 1, by omega, by go_num, HI.out, hb'.out⟩
          case measure => simp [intOf]; omega
        · obtain rfl : r = k := by omega
          have hRd3 := hRd.below hb
          have hbw3 := below_trans hb01 hb hb01.size
          obtain ⟨w3, hw3⟩ : ∃ w3, w3 = wr := ⟨_, rfl⟩
          rw [← hw3] at his hRd3 hbw3
          have hO3 : OM w3 wr none 0 [] := by rw [hw3]; exact OM.nil wr
          clear hRd hb hw3
          go_wp2_with (fail)
          go_loopw [13, 12] (fun jv ov wr => ∃ (j : Nat) (Ao : Option Addr) (co : Nat), j ≤ n ∧ jv = .int .i64 j ∧ ov = .slice Ao (nvTo p n R j).length co ∧ OM w3 wr Ao co (nvTo p n R j)) (fun jv _ _ => n - (intOf jv).toNat)
          case atStart => exact ⟨0, none, 0, Nat.zero_le _, rfl, rfl, hO3⟩
          case round =>
            clear hO3
            obtain ⟨j, Ao, co, hj, rfl, rfl, hO⟩ := hrel
            by_cases hjn : j < n
            case neg =>
              obtain rfl : n = j := by omega
              obtain ⟨os, hLo, hRo⟩ := hO.rdr
              have hmo := nvTo_mat (p := p) (by omega) n R n
              have hlo := nvTo_length p n R n
              have hol : os.length = (nvTo p n R n).length := by rw [hLo, List.length_map]
              rw [hLo] at hmo
              rw [List.length_map] at hmo
              have hS := spReduce_any p n Ao co os wr hRo HP.out hmo (by omega) (by omega)
              rw [← hLo, hol, nvTo_end] at hS
              have HS := Lib.hid hS
              have hbww := Lib.hid (below_trans hbw3 hO.below_ hbw3.size)
              rw [nvTo_end]
              clear hS hLo hol hmo hlo hRo hO hRd3 his
              go_wp2_with (fail)
              refine HS.out.mono ?_
              rintro e w' hret
              have HRT := Lib.hid (hret.mono hbww.out)
              obtain ⟨A9, c9, rfl, _⟩ := hret.om
              clear hret
              go_wp2_with (fail)
              go_ret
              exact HRT.out
            case pos =>
              have hisj := his.below hO.below_
              obtain ⟨ad', y, hA', hy, _, hc', _⟩ := hisj.at_ (j := j) (by rw [leadTo_length]; exact hjn)
              obtain rfl := Option.some.inj hA'
              have hyd : (leadTo R n r).getD j 0 = y := by simp [List.getD, hy]
              have hfree := freeB_lead (R := R) hjn
              rw [← HR.out, hyd] at hfree
              have hjI : (j : Int) < (n : Int) := by omega
              have hsucc := nvTo_succ p n R j
              by_cases hy0 : 0 ≤ y
              · have hfb : freeB R j = false := by
                  rw [Bool.eq_false_iff]; intro hh; exact hfree.1 hh hy0
                rw [hfb] at hsucc
                have hs2 : nvTo p n R (j + 1) = nvTo p n R j := by rw [hsucc]; simp
                have HS2 := Lib.hid hs2
                have HO := Lib.hid hO
                clear hs2 hsucc hfb hfree hyd hy hisj hO hRd3 his hA'
                go_wp2_with (fail)
                go_roundw
                case rel => exact ⟨j + 1, Ao, co, by omega, by go_num, by rw [HS2.out], by rw [HS2.out]; exact HO.out⟩
                case measure => simp [intOf]; omega
              · have hfb : freeB R j = true := hfree.2 hy0
                rw [hfb] at hsucc
                have hs2 : nvTo p n R (j + 1) = nvTo p n R j ++ [nvL p n R j r] := by rw [hsucc, HR.out]; rfl
                have HS2 := Lib.hid hs2
                have hRdj := hRd3.below hO.below_
                have hlo := nvTo_length p n R j
                obtain ⟨m0, hm0⟩ : ∃ m0, m0 = (nvTo p n R j).length := ⟨_, rfl⟩
                rw [← hm0] at hlo
                rw [← hm0]
                obtain ⟨os, hLo, hOo, hfo, h0o⟩ := hO
                have hol : os.length = m0 := by rw [hm0, hLo, List.length_map]
                obtain ⟨wr0, hwr0⟩ : ∃ wr0, wr0 = wr := ⟨_, rfl⟩
                rw [← hwr0] at hOo h0o hRdj hc'
                have HLO := Lib.hid hLo
                have HOL := Lib.hid hol
                have HM0 := Lib.hid hm0
                have HWR := Lib.hid hwr0
                rw [hwr0] at hc'
                clear hs2 hsucc hfb hfree hyd hy hisj his hA' hLo hol hm0 hRd3
                go_wp2_with (at_make; refine wpList_make_Sl _ rfl _ _ _ rfl 3 Tryd.underlying33 info_int n n rfl rfl rfl rfl (Nat.le_refl _) (by omega) (by unfold maxLen; omega) ?_; intro Gv w4 hs4 hGv hb4; have hisv := made_is hs4; obtain ⟨yv, hcv, hfv⟩ := is_cell hisv (j := j) (by rw [List.length_replicate]; exact hjn); have HISV := Lib.hid hisv; clear hs4 hisv)
                rw [← hwr0] at hGv hb4
                have hisv1 := HISV.out.set (ad := Gv) rfl (j := j) 1 (by simp; exact hjn)
                have hb5 := hb4.setCell (p := Gv.add j) (by rw [block_of_add]; exact hGv) (.int .i64 1)
                have HV1 := Lib.hid (show IS (w4.setCell (Gv.add j) (.int .i64 1)) (some Gv) n (nvL p n R j 0) from hisv1)
                have HB5 := Lib.hid hb5
                clear hisv1 hb5 hwr0 hc' hcv hfv
                go_loopw [62] (fun iv wr5 => ∃ i : Nat, i ≤ r ∧ iv = .int .i64 i ∧ IS wr5 (some Gv) n (nvL p n R j i) ∧ Below wr0.heap.size wr0 wr5) (fun iv _ => r - (intOf iv).toNat)
                case atStart => exact ⟨0, Nat.zero_le _, rfl, HV1.out, HB5.out⟩
                case round =>
                  obtain ⟨i, hi, rfl, hiv, hbi⟩ := hrel
                  by_cases hir : i < r
                  · obtain ⟨ad, B, d, l, rfl, hx, hc, hri⟩ := (hRdj.below hbi).at_ (k := i) (by rw [HGL.out]; exact hir)
                    have hlR : R.getD i [] = l := by rw [HLG.out]; exact getD_map_hd hx
                    have hll : l.length = n := by rw [← hlR]; exact (HRM.out.get hir).1
                    have hld : leadV l < n := by rw [← hlR]; exact lead_lt HRED.out (by rw [← HR.out]; exact hir)
                    rw [hll] at hc
                    obtain ⟨bd, x, hB, hxx, hcx⟩ := hri.at_ (j := j) (by rw [hll]; exact hjn)
                    have hxe : x = en R i j := by unfold en; rw [hlR]; simp [List.getD, hxx]
                    have hxb := HRM.out.en (by omega) hir j
                    rw [← hxe] at hxb
                    obtain ⟨adv, yv, hAv, hyv, _, hcv, hfv'⟩ := hiv.at_ (j := leadV l) (by rw [nvL_length]; exact hld)
                    obtain rfl := Option.some.inj hAv
                    have hfv := hfv' (leadV l)
                    have hisv' := hiv.set (ad := Gv) rfl (j := leadV l) (-x % p) (by rw [nvL_length]; exact hld)
                    have hst : (nvL p n R j i).set (leadV l) (-x % p) = nvL p n R j (i + 1) := by rw [nvL, hlR, hxe]
                    rw [hst] at hisv'
                    have hC1 := spLead_any B d n l wr.drew hri hll (by omega)
                    obtain ⟨ld, hldd⟩ : ∃ ld, ld = leadV l := ⟨_, rfl⟩
                    rw [← hldd] at hld hcv hfv hisv' hC1
                    have C1 := Lib.hid (stillC2 hC1)
                    have C2 := Lib.hid (stillC2 (fdNeg_any p x wr.drew (by omega) (by omega) hxb.1 hxb.2))
                    have HI := Lib.hid hisv'.drew
                    have hb' := Lib.hid (below_drewN (hbi.setCell (p := Gv.add ld) (by rw [block_of_add]; exact hGv) (.int .i64 (-x % p))) 1)
                    have hiI : (i : Int) < (r : Int) := by omega
                    have hldI : (ld : Int) < (n : Int) := by omega
                    subst hB
                    clear hisv' hst hfv' hAv hiv hyv hldd hC1 hx hlR hll hri hxx hxe hbi
                    go_wp2_with (fail)
                    refine wp_region_still_tail 12 (by kernel_rfl) (by kernel_rfl) ?_
                    simp only [List.take_succ_cons, List.take_zero, List.drop_succ_cons, List.drop_zero]
                    change wpStill _ _ wr.drew (fun a' => wpList _ _ _ _ a' wr.drew) _ _
                    repeat still_step
                    still_call C1.out
                    repeat still_step
                    still_call C2.out
                    repeat still_step
                    refine wpStill_nil ?_
                    go_wp2_with (fail)
                    go_roundw
                    case rel => exact ⟨i + 1, by omega, by go_num, HI.out, hb'.out⟩
                    case measure => simp [intOf]; omega
                  · obtain rfl : r = i := by omega
                    have hsl : Sl (wr.alloc (.cells #[.slice (some Gv) n n] 33)) 33 1 Ao m0 co (os.map Hd.val) := by
                      have := (hOo.sl.below hbi).alloc (.cells #[.slice (some Gv) n n] 33)
                      rwa [HOL.out] at this
                    go_wp2_with (at_builtin; refine wpList_append_Sl _ rfl _ _ _ rfl 33 Tryd.underlying22 info_ints rfl (by omega) rfl hsl rfl (news := [.slice (some Gv) n n]) rfl (Sl.rdc (Sl.laid wr 33 1 1 #[.slice (some Gv) n n] (by unfold maxLen; omega) rfl)) (by intro u hu; simp at hu; subst hu; rfl) (by unfold maxLen; omega) (by omega) ?_; intro A6 c6 w6 hs6 hA6 hk6)
                    have hal : Below wr.heap.size wr (wr.alloc (.cells #[.slice (some Gv) n n] 33)) := (Below.refl _ _).alloc (Nat.le_refl _) _
                    have hOM2 := OM.snoc (w1 := wr.alloc (.cells #[.slice (some Gv) n n] 33)) (l := nvL p n R j r) (B := some Gv) (c := n) HLO.out hOo hfo h0o (below_trans hbi hal hbi.size) (hiv.below hal) (fun b hb => by simp at hb; subst hb; exact hGv) (by rw [HOL.out]) (by rw [nvL_length]; exact hs6) hA6 hk6
                    have HO := Lib.hid hOM2
                    have hlen2 : (nvTo p n R (j + 1)).length = m0 + 1 := by rw [HS2.out, List.length_append, ← HM0.out]; rfl
                    have HL2 := Lib.hid hlen2
                    clear hOM2 hs6 hsl hOo hfo hiv hlen2
                    go_wp2_with (fail)
                    go_roundw
                    case rel => exact ⟨j + 1, A6, c6, by omega, by go_num, by rw [HL2.out], by rw [HS2.out]; exact HO.out⟩
                    case measure => simp [intOf]; omega
end Go.Proofs.YtahnhblodfdfhaaDoor
