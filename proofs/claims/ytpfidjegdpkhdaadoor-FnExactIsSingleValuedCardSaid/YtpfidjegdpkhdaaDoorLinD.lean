/-
  PLAIN LAW: the reference's null vectors generate the null space, so both sides' reduced bases are equal. No program is looked at.

  PLAIN LAW: THE TWO SIDES' BASES OF A NULL SPACE ARE ONE LIST. No program is looked at.
-/
import Derived.Test.YtpfidjegdpkhdaaDoorLinB
namespace Go.Proofs.YtpfidjegdpkhdaaDoor

/-- The identity's rows. -/
def unitV (n i : Nat) : List Int := (List.range n).map fun j => if j = i then 1 else 0
def idM (n : Nat) : List (List Int) := (List.range n).map (unitV n)
theorem idM_en {n i j : Nat} (hi : i < n) (hj : j < n) : en (idM n) i j = if j = i then 1 else 0 := by simp [en, idM, unitV, List.getD, hi, hj]
theorem idM_mat {p : Int} (hp : 1 < p) (n : Nat) : Mat p n n (idM n) := by
  refine ⟨by simp [idM], fun v hv => ?_⟩
  simp only [idM, List.mem_map] at hv
  obtain ⟨i, _, rfl⟩ := hv
  refine ⟨by simp [unitV], fun x hx => ?_⟩
  simp only [unitV, List.mem_map] at hx
  obtain ⟨j, _, rfl⟩ := hx
  split <;> omega

theorem redTo_also {p : Int} (hp : fieldB p = true) {m n : Nat} {L A : List (List Int)} {T : Nat → Nat → Int} (hm : Mat p m n L) (hA : Mat p m m A) (hK : Makes p m n (en L) (en A) T) (hS : ∀ y, InSp p m (en A) m y) :
    ∀ c, c ≤ n → Mat p m m (redTo p L A c).2.2 ∧ Makes p m n (en (redTo p L A c).2.1) (en (redTo p L A c).2.2) T ∧ ∀ y, InSp p m (en (redTo p L A c).2.2) m y
  | 0, _ => ⟨hA, hK, hS⟩
  | c + 1, hc => by
    have hpb := fieldB_bounds hp
    obtain ⟨ld, hR⟩ := redTo_inv hp hm A c (by omega)
    obtain ⟨h1, h2, h3⟩ := redTo_also hp hm hA hK hS c (by omega)
    rw [redTo]
    obtain ⟨s, hs⟩ : ∃ s, s = redTo p L A c := ⟨_, rfl⟩
    rw [← hs] at hR h1 h2 h3 ⊢
    rcases colStep_cases hp (show c < n by omega) hR.mat hR.inv.le with ⟨e, _⟩ | ⟨k, iv, k1, k2, k3, _, _, k6, k7, k8⟩
    · rw [e]; exact ⟨h1, h2, h3⟩
    · rw [k7]
      have hr : s.1 < m := by omega
      have hse := step_en (p := p) (by omega) h1 hr k2 iv (fun i => en (scaleL p s.1 iv (swapL s.2.1 s.1 k)) i c)
      rw [h1.len]
      refine ⟨hse.1, ?_, fun y => ?_⟩
      · refine (h2.step (iv := iv) (f := fun i => en (scaleL p s.1 iv (swapL s.2.1 s.1 k)) i c) hr k2).congr (fun i j hi hj => ?_) (fun i j hi hj => (hse.2 i j hi hj).symm)
        rw [k6 i j hi hj, stepE_eq]
        exact stepG_congr hr k2 k8 (fun _ _ _ _ => rfl) hi hj
      · exact ((h3 y).trans fun i hi => stepG_span hr k2 k3 hi).congr fun i j hi hj => (hse.2 i j hi hj).symm

/-- Rows and columns exchanged. -/
def transM (L : List (List Int)) (n : Nat) : List (List Int) := (List.range n).map fun j => L.map fun v => v.getD j 0
theorem transM_en {L : List (List Int)} {n i j : Nat} (hi : i < n) (hj : j < L.length) : en (transM L n) i j = en L j i := by simp [en, transM, List.getD, hi, hj]
theorem transM_mat {p : Int} (hp : 0 < p) {m n : Nat} {L : List (List Int)} (h : Mat p m n L) : Mat p n m (transM L n) := by
  refine ⟨by simp [transM], fun v hv => ?_⟩
  simp only [transM, List.mem_map] at hv
  obtain ⟨j, _, rfl⟩ := hv
  refine ⟨by rw [List.length_map]; exact h.len, fun x hx => ?_⟩
  simp only [List.mem_map] at hx
  obtain ⟨w, hw, rfl⟩ := hx
  exact (h.row w hw).2.getD hp j

/-- What the program's kernel returns. -/
def kerM (p : Int) (n : Nat) (L : List (List Int)) : List (List Int) := redM p L.length ((redTo p L (idM L.length) n).2.2.drop (redTo p L (idM L.length) n).1)
/-- What the program's orthogonal returns. -/
def perpM (p : Int) (n : Nat) (L : List (List Int)) : List (List Int) := kerM p L.length (transM L n)

/-- K generates what N says. -/
def GenL (p : Int) (n : Nat) (N : (Nat → Int) → Prop) (K : List (List Int)) : Prop := Mat p K.length n K ∧ Gen p n N (en K) K.length
theorem gen_unique {p : Int} (hp : fieldB p = true) {n : Nat} {N : (Nat → Int) → Prop} {K K' : List (List Int)} (h : GenL p n N K) (h' : GenL p n N K') : redM p n K = redM p n K' := by
  have hpb := fieldB_bounds hp
  have r1 := redM_spec hp h.1
  have r2 := redM_spec hp h'.1
  refine RedL.unique (by omega) r1.1 r2.1 fun x => ?_
  rw [r1.2.1 x, r2.2.1 x]
  exact ⟨h.2.nul h'.2 x, h'.2.nul h.2 x⟩

theorem perp_gen {p : Int} (hp : fieldB p = true) {n : Nat} {L : List (List Int)} (hm : Mat p L.length n L) :
    GenL p n (NulL p n L) ((redTo p (transM L n) (idM n) L.length).2.2.drop (redTo p (transM L n) (idM n) L.length).1) := by
  have hpb := fieldB_bounds hp
  have hT := transM_mat (by omega) hm
  obtain ⟨ld, hR⟩ := redTo_inv hp hT (idM n) L.length (Nat.le_refl _)
  obtain ⟨h1, h2, h3⟩ := redTo_also hp hT (idM_mat (by omega) n) (T := en (transM L n)) (fun i hi k hk => by
      rw [sm_congr (g := fun l => en (transM L n) l k * (if l = i then 1 else 0)) (fun l hl => by rw [idM_en hi hl, Int.mul_comm]), dot_delta hi (fun l => en (transM L n) l k), Int.sub_self]
      exact Int.dvd_zero p) (fun y => ⟨y, fun l hl => by
      rw [sm_congr (g := fun i => y i * (if i = l then 1 else 0)) (fun i hi => by rw [idM_en hi hl]; congr 1; by_cases e : l = i <;> simp [e, eq_comm]), dot_delta hl, Int.sub_self]
      exact Int.dvd_zero p⟩) L.length (Nat.le_refl _)
  have hg := makes_gen hR.inv h2 h3
  obtain ⟨s, hs⟩ : ∃ s, s = redTo p (transM L n) (idM n) L.length := ⟨_, rfl⟩
  rw [← hs] at hg h1 hR ⊢
  have hd : ∀ i j, en (s.2.2.drop s.1) i j = en s.2.2 (s.1 + i) j := by
    intro i j; simp [en, List.getD]
  refine ⟨⟨rfl, fun v hv => h1.row v (List.mem_of_mem_drop hv)⟩, ?_⟩
  have hN : ∀ y, (∀ q, q < L.length → p ∣ sm n fun l => y l * en (transM L n) l q) ↔ NulL p n L y := by
    intro y
    constructor
    · intro h i hi
      rw [sm_congr (g := fun l => y l * en (transM L n) l i) (fun l hl => by rw [transM_en hl hi, Int.mul_comm])]; exact h i hi
    · intro h q hq
      rw [sm_congr (g := fun l => en L q l * y l) (fun l hl => by rw [transM_en hl hq, Int.mul_comm])]; exact h q hq
  have hlen : (s.2.2.drop s.1).length = n - s.1 := by rw [List.length_drop, h1.len]
  rw [hlen]
  refine ⟨fun k hk => ?_, fun x hx y hy => hg.2 x (fun i hi => ?_) y ((hN y).2 hy)⟩
  · have := (hN _).1 (hg.1 k hk)
    have e : en (s.2.2.drop s.1) k = fun j => en s.2.2 (s.1 + k) j := by funext j; exact hd k j
    rw [e]; exact this
  · have := hx i hi
    rw [sm_congr (g := fun j => en s.2.2 (s.1 + i) j * x j) (fun j _ => by rw [hd])] at this
    exact this

theorem perpM_eq (p : Int) (n : Nat) (L : List (List Int)) : perpM p n L = redM p n ((redTo p (transM L n) (idM n) L.length).2.2.drop (redTo p (transM L n) (idM n) L.length).1) := by
  have : (transM L n).length = n := by simp [transM]
  unfold perpM kerM
  rw [this]

/-! ### The reference's null space -/
/-- The index of the first element that is not 0, or the length. -/
def leadV (v : List Int) : Nat := v.findIdx fun a => a != 0
/-- The null vector of a column. -/
def nvL (p : Int) (n : Nat) (R : List (List Int)) (j : Nat) : Nat → List Int
  | 0 => (List.replicate n 0).set j 1
  | i + 1 => (nvL p n R j i).set (leadV (R.getD i [])) (-(en R i j) % p)
def freeCols (n : Nat) (R : List (List Int)) : List Nat := (List.range n).filter fun j => R.all fun v => leadV v != j
def nvecs (p : Int) (n : Nat) (R : List (List Int)) : List (List Int) := (freeCols n R).map fun j => nvL p n R j R.length
/-- What the reference's spNull returns. -/
def nullM (p : Int) (n : Nat) (L : List (List Int)) : List (List Int) := redM p n (nvecs p n (redM p n L))
end Go.Proofs.YtpfidjegdpkhdaaDoor
namespace Go.Proofs.YtpfidjegdpkhdaaDoor

theorem leadV_eq {v : List Int} {c : Nat} (hc : c < v.length) (h : v.getD c 0 ≠ 0) (hb : ∀ j, j < c → v.getD j 0 = 0) : leadV v = c := by
  unfold leadV
  rw [List.findIdx_eq hc]
  refine ⟨?_, fun j hj => ?_⟩
  · simp [List.getD, hc] at h; simp [h]
  · have := hb j hj
    have hjl : j < v.length := by omega
    simp [List.getD, hjl] at this; simp [this]
theorem nvL_length (p : Int) (n : Nat) (R : List (List Int)) (j : Nat) : ∀ i, (nvL p n R j i).length = n
  | 0 => by simp [nvL]
  | i + 1 => by rw [nvL, List.length_set]; exact nvL_length p n R j i
theorem nvL_res {p : Int} (hp : 1 < p) (n : Nat) (R : List (List Int)) (j : Nat) : ∀ i, Res p (nvL p n R j i)
  | 0 => by unfold nvL; exact (Res.replicate (by omega) n).set ⟨by omega, hp⟩ j
  | i + 1 => by rw [nvL]; exact (nvL_res hp n R j i).set ⟨Int.emod_nonneg _ (by omega), Int.emod_lt_of_pos _ (by omega)⟩ _
theorem red_lead {p : Int} {n : Nat} {R : List (List Int)} (h : Mat p R.length n R) {ld : Nat → Nat} (hr : Red p n (en R) R.length ld) {i : Nat} (hi : i < R.length) : leadV (R.getD i []) = ld i := by
  refine leadV_eq (by rw [(h.get hi).1]; exact hr.lt i hi) ?_ fun j hj => hr.before i j hi hj
  have := hr.one i hi
  unfold en at this
  rw [this]; decide
theorem nvL_en {p : Int} {n : Nat} {R : List (List Int)} (h : Mat p R.length n R) {ld : Nat → Nat} (hr : Red p n (en R) R.length ld) {j : Nat} (hj : j < n) (hf : ∀ i, i < R.length → ld i ≠ j) :
    ∀ i, i ≤ R.length → ∀ q, q < n → p ∣ (nvL p n R j i).getD q 0 - ((if q = j then 1 else 0) - sm i fun t => (if q = ld t then 1 else 0) * en R t j)
  | 0, _, q, hq => by
    rw [nvL, getD_set _ _ _ _ _ (by simpa using hj)]
    simp only [sm, Int.sub_zero]
    split
    · simp
    · simp [List.getD, hq]
  | i + 1, hi, q, hq => by
    have ih := nvL_en h hr hj hf i (by omega) q hq
    rw [nvL, red_lead h hr (by omega), getD_set _ _ _ _ _ (by rw [nvL_length]; exact hr.lt i (by omega)), sm]
    by_cases e : q = ld i
    · subst e
      rw [if_pos rfl, if_neg (hf i (by omega)), if_pos rfl, sm_congr (g := fun _ => 0) (fun t ht => by rw [if_neg (by have := hr.mono t i ht (by omega); omega), Int.zero_mul]), sm_zero]
      have := dvd_emod_sub p (-(en R i j))
      simpa using this
    · rw [if_neg e, if_neg e, Int.zero_mul, Int.add_zero]
      exact ih

theorem nvecs_gen {p : Int} (hp : 1 < p) {n : Nat} {R : List (List Int)} (h : RedL p n R) : GenL p n (NulL p n R) (nvecs p n R) := by
  obtain ⟨hm, ld, hr⟩ := h
  have hfree : ∀ j, j ∈ freeCols n R ↔ j < n ∧ ∀ i, i < R.length → ld i ≠ j := by
    intro j
    unfold freeCols
    rw [List.mem_filter, List.mem_range, List.all_eq_true]
    refine and_congr_right fun _ => ⟨fun hh i hi => ?_, fun hh v hv => ?_⟩
    · have hv : R.getD i [] ∈ R := by
        have : R.getD i [] = R[i] := by simp [List.getD, hi]
        rw [this]; exact List.getElem_mem hi
      have := hh _ hv
      rw [red_lead hm hr hi] at this
      simpa using this
    · obtain ⟨i, hi, rfl⟩ := List.getElem_of_mem hv
      have := hh i hi
      rw [← red_lead hm hr hi] at this
      have e : R.getD i [] = R[i] := by simp [List.getD, hi]
      rw [e] at this
      simpa using this
  have hlen : (nvecs p n R).length = (freeCols n R).length := by simp [nvecs]
  have hget : ∀ k, k < (freeCols n R).length → (nvecs p n R).getD k [] = nvL p n R ((freeCols n R).getD k 0) R.length := by
    intro k hk; simp [nvecs, List.getD, hk]
  have hmem : ∀ k, k < (freeCols n R).length → (freeCols n R).getD k 0 ∈ freeCols n R := by
    intro k hk
    have : (freeCols n R).getD k 0 = (freeCols n R)[k] := by simp [List.getD, hk]
    rw [this]; exact List.getElem_mem hk
  refine ⟨⟨rfl, fun v hv => ?_⟩, ?_⟩
  · simp only [nvecs, List.mem_map] at hv
    obtain ⟨j, _, rfl⟩ := hv
    exact ⟨nvL_length p n R j _, nvL_res hp n R j _⟩
  · rw [hlen]
    refine hr.gen (fun k => (freeCols n R).getD k 0) (fun k hk => ((hfree _).1 (hmem k hk)).1) (fun k hk j hj => ?_) fun j hj hl => ?_
    · have hf := (hfree _).1 (hmem k hk)
      have := nvL_en hm hr hf.1 hf.2 R.length (Nat.le_refl _) j hj
      unfold en
      rw [hget k hk]
      exact this
    · have : j ∈ freeCols n R := (hfree j).2 ⟨hj, hl⟩
      obtain ⟨k, hk, e⟩ := List.getElem_of_mem this
      exact ⟨k, hk, by simp [List.getD, hk, e]⟩

theorem GenL.congr {p : Int} {n : Nat} {N N' : (Nat → Int) → Prop} (hN : ∀ x, N x ↔ N' x) {K : List (List Int)} (h : GenL p n N K) : GenL p n N' K :=
  ⟨h.1, fun k hk => (hN _).1 (h.2.1 k hk), fun x hx y hy => h.2.2 x hx y ((hN y).2 hy)⟩

/-- THE TWO SIDES' BASES OF THE NULL SPACE ARE EQUAL. -/
theorem null_eq_perp {p : Int} (hp : fieldB p = true) {n : Nat} {L : List (List Int)} (hm : Mat p L.length n L) : nullM p n L = perpM p n L := by
  have hpb := fieldB_bounds hp
  have hr := redM_spec hp hm
  rw [perpM_eq]
  unfold nullM
  exact gen_unique hp ((nvecs_gen (by omega) hr.1).congr hr.2.1) (perp_gen hp hm)
end Go.Proofs.YtpfidjegdpkhdaaDoor
