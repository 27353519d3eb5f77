/-
  THE WALK: PermutationTerm of the program.
-/
import Derived.Test.YtlmnmdahphahfaaTmQc
import Derived.Test.YtlmnmdahphahfaaTmF
namespace Go.Proofs.Ytlmnmdahphahfaa
open Go.RowKit

def prM (l : List Int) : List Nd × Bool := if l.length ≤ 12 ∧ permB l = true then okM (permN l) else ([], false)
theorem prM_long {l : List Int} (h : ¬ l.length ≤ 12) : prM l = ([], false) := by unfold prM; rw [if_neg (fun hh => h hh.1)]
theorem prM_no {l : List Int} (h : permB l = false) : prM l = ([], false) := by unfold prM; rw [if_neg (fun hh => by rw [h] at hh; cases hh.2)]
theorem prM_yes {l : List Int} (h1 : l.length ≤ 12) (h2 : permB l = true) : prM l = okM (permN l) := by unfold prM; rw [if_pos ⟨h1, h2⟩]
set_option maxRecDepth 8000 in
set_option maxHeartbeats 2000000 in
theorem iPermutationTerm_any {v : Value} {l : List Int} {w : World} (h : RdIV w v l) (hl : l.length ≤ 1048576) :
    Calls Try.prog 39 #[v] w (Ret2Tm (prM l) w) := by
  obtain ⟨A, c, rfl, h⟩ := h
  obtain ⟨W, hW⟩ : ∃ W, W = w.alloc (.cells #[.slice none 0 0] tTerm) := ⟨_, rfl⟩
  have b0 := below_alloc w (.cells #[.slice none 0 0] tTerm)
  have k0 := heap_alloc_new w (.cells #[.slice none 0 0] tTerm)
  rw [← hW] at b0 k0
  have hr := h.below b0
  have hP := isPermutation_any A c l W hr hl
  have hN := fun W' (hb : Below W.heap.size W W') (h12 : l.length ≤ 12) (hp : permB l = true) => permutationNodes_any A c l W' (hr.below hb) h12 (permGo_nodup hp).1
  obtain ⟨n, hn⟩ : ∃ n, n = l.length := ⟨_, rfl⟩
  obtain ⟨M, hM⟩ : ∃ M, M = prM l := ⟨_, rfl⟩
  obtain ⟨B, hB⟩ : ∃ B, B = permB l := ⟨_, rfl⟩
  rw [← hB] at hP
  rw [← hn] at hP hl hN ⊢
  rw [← hM]
  obtain ⟨s1, s2⟩ := set1 k0 (.slice none 0 0)
  have hBs := below_keeps b0 s2 b0.size (fun k hk => by omega)
  clear h
  have b0_h := Lib.hid b0
  have k0_h := Lib.hid k0
  have hr_h := Lib.hid hr
  have hP_h := Lib.hid hP
  have hN_h := Lib.hid hN
  have hn_h := Lib.hid hn
  have hM_h := Lib.hid hM
  have hB_h := Lib.hid hB
  have s1_h := Lib.hid s1
  have s2_h := Lib.hid s2
  have hBs_h := Lib.hid hBs
  clear b0 k0 hr hP hN hn hM hB s1 s2 hBs
  obtain ⟨k0_c, k0_f⟩ := bx1 k0_h.out
  by_cases h12 : n ≤ 12
  case neg =>
    have h12I : (12 : Int) < (n : Int) := by omega
    have hM0 : M = ([], false) := by rw [hM_h.out]; exact prM_long (by rw [← hn_h.out]; exact h12)
    have hM0_h := Lib.hid hM0
    clear hM0
    go_enter Try.func39, Try.ntmps39
    go_upto_region 1 with (fail)
    rw [← hW]
    clear hW
    go_wp2_with (fail)
    refine bodyPost_ret (results_cell_tmp rfl _ _ w.heap.size _ _ (0, 0) _ rfl s1_h.out Try.underlying30 rfl (by kernel_rfl)) rfl ?_
    exact Ret2Tm.no hM0_h.out hBs_h.out
  case pos =>
  have h12I : ¬ (12 : Int) < (n : Int) := by omega
  go_enter Try.func39, Try.ntmps39
  go_upto_region 1 with (fail)
  rw [← hW]
  clear hW
  go_wp2_with (fail)
  refine (hP_h.out).mono ?_
  rintro e w1 ⟨rfl, hb1⟩
  clear k0_c k0_f
  replace k0_h := Lib.hid (box_below k0_h.out hb1)
  have hB1 := below_trans b0_h.out hb1 b0_h.out.size
  cases B
  case false =>
    have hM0 : M = ([], false) := by rw [hM_h.out]; exact prM_no hB_h.out.symm
    clear s1_h s2_h hBs_h
    obtain ⟨s1, s2⟩ := set1 k0_h.out (.slice none 0 0)
    have hBs := below_keeps hB1 s2 hB1.size (fun k hk => by omega)
    obtain ⟨k0_c, k0_f⟩ := bx1 k0_h.out
    have hM0_h := Lib.hid hM0
    have s1_h := Lib.hid s1
    have s2_h := Lib.hid s2
    have hBs_h := Lib.hid hBs
    have hb1_h := Lib.hid hb1
    have hB1_h := Lib.hid hB1
    clear hM0 s1 s2 hBs hb1 hB1
    go_wp2_with (fail)
    refine bodyPost_ret (results_cell_tmp rfl _ _ w.heap.size _ _ (0, 0) _ rfl s1_h.out Try.underlying30 rfl (by kernel_rfl)) rfl ?_
    exact Ret2Tm.no hM0_h.out hBs_h.out
  case true =>
  have hM1 : M = okM (permN l) := by rw [hM_h.out]; exact prM_yes (by rw [← hn_h.out]; exact h12) hB_h.out.symm
  have hN1 := hN_h.out w1 hb1 h12 hB_h.out.symm
  obtain ⟨X, hX⟩ : ∃ X, X = permN l := ⟨_, rfl⟩
  rw [← hX] at hM1 hN1
  unfold RetNs at hN1
  have hkz0 := box_lt k0_h.out
  have hM1_h := Lib.hid hM1
  have hN1_h := Lib.hid hN1
  have hX_h := Lib.hid hX
  have hb1_h := Lib.hid hb1
  have hB1_h := Lib.hid hB1
  clear hM1 hN1 hX hb1 hB1
  go_wp2_with (fail)
  refine (hN1_h.out).mono ?_
  rintro e w2 ⟨A2, c2, m2, rfl, hm2, hS2, hF2, hb2⟩
  replace k0_h := Lib.hid (box_below k0_h.out hb2)
  have hB2 := below_trans hB1_h.out hb2 hB1_h.out.size
  have hG := validTerm_any hS2 hm2
  rw [← hM1_h.out] at hG
  have hm2_h := Lib.hid hm2
  have hS2_h := Lib.hid hS2
  have hF2_h := Lib.hid hF2
  have hb2_h := Lib.hid hb2
  have hB2_h := Lib.hid hB2
  have hG_h := Lib.hid hG
  clear hm2 hS2 hF2 hb2 hB2 hG
  go_wp2_with (fail)
  refine (hG_h.out).mono ?_
  rintro e w5 ⟨v5, fp5, rfl, ⟨A5, c5, rfl, hN5, rfl⟩, hF5, hb5⟩
  replace k0_h := Lib.hid (box_below k0_h.out hb5)
  have hB5 := below_trans hB2_h.out hb5 hB2_h.out.size
  have hF6 : ∀ b, b ∈ fpA A5 → w1.heap.size ≤ b := fun b hb => hF2_h.out b (hF5 b hb)
  have hkz : w.heap.size < w1.heap.size := hkz0
  obtain ⟨s3, s4⟩ := set1 k0_h.out (.slice A5 M.1.length c5)
  have hB6 := below_keeps hB5 s4 hB5.size (fun k hk => by omega)
  have hN6 := NS.keeps hN5 s4 (fun b hb e => by have := hF6 b hb; omega)
  have hF7 : FreshL w.heap.size (fpA A5) := fun b hb => by have := hF6 b hb; omega
  obtain ⟨k0_c, k0_f⟩ := bx1 k0_h.out
  have hb5_h := Lib.hid hb5
  have hB5_h := Lib.hid hB5
  have s3_h := Lib.hid s3
  have s4_h := Lib.hid s4
  have hB6_h := Lib.hid hB6
  have hN6_h := Lib.hid hN6
  have hF7_h := Lib.hid hF7
  have hN5_h := Lib.hid hN5
  have hF5_h := Lib.hid hF5
  have hF6_h := Lib.hid hF6
  clear hb5 hB5 s3 s4 hB6 hN6 hF7 hN5 hF5 hF6
  go_wp2_with (fail)
  refine bodyPost_ret (results_cell_tmp rfl _ _ w.heap.size _ _ (0, 0) _ rfl s3_h.out Try.underlying30 rfl (by kernel_rfl)) rfl ?_
  exact ⟨_, fpA A5, rfl, ⟨A5, c5, rfl, hN6_h.out, rfl⟩, hF7_h.out, hB6_h.out⟩
end Go.Proofs.Ytlmnmdahphahfaa
