/-
  PLAIN LAW: the reference's null vectors generate the null space, so both sides' reduced bases are equal. No program is looked at.
-/
import Derived.Test.YtomekicglojhhaaDoorLinC
namespace Go.Proofs.YtomekicglojhhaaDoor

theorem leadV_eq {v : List Int} {c : Nat} (hc : c < v.length) (h : v.getD c 0 ≠ 0) (hb : ∀ j, j < c → v.getD j 0 = 0) : leadV v = c := by
  unfold leadV
  rw [List.findIdx_eq hc]
  refine ⟨?_, fun j hj => ?_⟩
  · simp [List.getD, hc] at h; simp [h]
  · have := hb j hj
    have hjl : j < v.length := by omega
    simp [List.getD, hjl] at this; simp [this]
theorem nvL_length (p : Int) (n : Nat) (R : List (List Int)) (j : Nat) : ∀ i, (nvL p n R j i).length = n
  | 0 => by simp [nvL]
  | i + 1 => by rw [nvL, List.length_set]; exact nvL_length p n R j i
theorem nvL_res {p : Int} (hp : 1 < p) (n : Nat) (R : List (List Int)) (j : Nat) : ∀ i, Res p (nvL p n R j i)
  | 0 => by unfold nvL; exact (Res.replicate (by omega) n).set ⟨by omega, hp⟩ j
  | i + 1 => by rw [nvL]; exact (nvL_res hp n R j i).set ⟨Int.emod_nonneg _ (by omega), Int.emod_lt_of_pos _ (by omega)⟩ _
theorem red_lead {p : Int} {n : Nat} {R : List (List Int)} (h : Mat p R.length n R) {ld : Nat → Nat} (hr : Red p n (en R) R.length ld) {i : Nat} (hi : i < R.length) : leadV (R.getD i []) = ld i := by
  refine leadV_eq (by rw [(h.get hi).1]; exact hr.lt i hi) ?_ fun j hj => hr.before i j hi hj
  have := hr.one i hi
  unfold en at this
  rw [this]; decide
theorem nvL_en {p : Int} {n : Nat} {R : List (List Int)} (h : Mat p R.length n R) {ld : Nat → Nat} (hr : Red p n (en R) R.length ld) {j : Nat} (hj : j < n) (hf : ∀ i, i < R.length → ld i ≠ j) :
    ∀ i, i ≤ R.length → ∀ q, q < n → p ∣ (nvL p n R j i).getD q 0 - ((if q = j then 1 else 0) - sm i fun t => (if q = ld t then 1 else 0) * en R t j)
  | 0, _, q, hq => by
    rw [nvL, getD_set _ _ _ _ _ (by simpa using hj)]
    simp only [sm, Int.sub_zero]
    split
    · simp
    · simp [List.getD, hq]
  | i + 1, hi, q, hq => by
    have ih := nvL_en h hr hj hf i (by omega) q hq
    rw [nvL, red_lead h hr (by omega), getD_set _ _ _ _ _ (by rw [nvL_length]; exact hr.lt i (by omega)), sm]
    by_cases e : q = ld i
    · subst e
      rw [if_pos rfl, if_neg (hf i (by omega)), if_pos rfl, sm_congr (g := fun _ => 0) (fun t ht => by rw [if_neg (by have := hr.mono t i ht (by omega); omega), Int.zero_mul]), sm_zero]
      have := dvd_emod_sub p (-(en R i j))
      simpa using this
    · rw [if_neg e, if_neg e, Int.zero_mul, Int.add_zero]
      exact ih

theorem nvecs_gen {p : Int} (hp : 1 < p) {n : Nat} {R : List (List Int)} (h : RedL p n R) : GenL p n (NulL p n R) (nvecs p n R) := by
  obtain ⟨hm, ld, hr⟩ := h
  have hfree : ∀ j, j ∈ freeCols n R ↔ j < n ∧ ∀ i, i < R.length → ld i ≠ j := by
    intro j
    unfold freeCols
    rw [List.mem_filter, List.mem_range, List.all_eq_true]
    refine and_congr_right fun _ => ⟨fun hh i hi => ?_, fun hh v hv => ?_⟩
    · have hv : R.getD i [] ∈ R := by
        have : R.getD i [] = R[i] := by simp [List.getD, hi]
        rw [this]; exact List.getElem_mem hi
      have := hh _ hv
      rw [red_lead hm hr hi] at this
      simpa using this
    · obtain ⟨i, hi, rfl⟩ := List.getElem_of_mem hv
      have := hh i hi
      rw [← red_lead hm hr hi] at this
      have e : R.getD i [] = R[i] := by simp [List.getD, hi]
      rw [e] at this
      simpa using this
  have hlen : (nvecs p n R).length = (freeCols n R).length := by simp [nvecs]
  have hget : ∀ k, k < (freeCols n R).length → (nvecs p n R).getD k [] = nvL p n R ((freeCols n R).getD k 0) R.length := by
    intro k hk; simp [nvecs, List.getD, hk]
  have hmem : ∀ k, k < (freeCols n R).length → (freeCols n R).getD k 0 ∈ freeCols n R := by
    intro k hk
    have : (freeCols n R).getD k 0 = (freeCols n R)[k] := by simp [List.getD, hk]
    rw [this]; exact List.getElem_mem hk
  refine ⟨⟨rfl, fun v hv => ?_⟩, ?_⟩
  · simp only [nvecs, List.mem_map] at hv
    obtain ⟨j, _, rfl⟩ := hv
    exact ⟨nvL_length p n R j _, nvL_res hp n R j _⟩
  · rw [hlen]
    refine hr.gen (fun k => (freeCols n R).getD k 0) (fun k hk => ((hfree _).1 (hmem k hk)).1) (fun k hk j hj => ?_) fun j hj hl => ?_
    · have hf := (hfree _).1 (hmem k hk)
      have := nvL_en hm hr hf.1 hf.2 R.length (Nat.le_refl _) j hj
      unfold en
      rw [hget k hk]
      exact this
    · have : j ∈ freeCols n R := (hfree j).2 ⟨hj, hl⟩
      obtain ⟨k, hk, e⟩ := List.getElem_of_mem this
      exact ⟨k, hk, by simp [List.getD, hk, e]⟩

theorem GenL.congr {p : Int} {n : Nat} {N N' : (Nat → Int) → Prop} (hN : ∀ x, N x ↔ N' x) {K : List (List Int)} (h : GenL p n N K) : GenL p n N' K :=
  ⟨h.1, fun k hk => (hN _).1 (h.2.1 k hk), fun x hx y hy => h.2.2 x hx y ((hN y).2 hy)⟩

/-- THE TWO SIDES' BASES OF THE NULL SPACE ARE EQUAL. -/
theorem null_eq_perp {p : Int} (hp : fieldB p = true) {n : Nat} {L : List (List Int)} (hm : Mat p L.length n L) : nullM p n L = perpM p n L := by
  have hpb := fieldB_bounds hp
  have hr := redM_spec hp hm
  rw [perpM_eq]
  unfold nullM
  exact gen_unique hp ((nvecs_gen (by omega) hr.1).congr hr.2.1) (perp_gen hp hm)
end Go.Proofs.YtomekicglojhhaaDoor
