/-
  THE WALKS: the reference's SeqTerm and ParTerm.
-/
import Derived.Test.YtlmnmdahphahfaaTmX
namespace Go.Proofs.Ytlmnmdahphahfaa
open Go.RowKit

/-- SeqTerm (k = 15) and ParTerm (k = 16). -/
def joinM (k : Int) (a b : List Nd) : List Nd × Bool := if (treeM a).isSome = true ∧ (treeM b).isSome = true then okM (joinOf k a b) else ([], false)
theorem len_some {l : List Nd} (h : true = (treeM l).isSome) : l.length ≤ 400 := by
  cases e : treeM l with
  | none => rw [e] at h; cases h
  | some t =>
    obtain ⟨e1, -, e2⟩ := treeM_some e
    rw [e1]; exact e2
theorem joinM_no1 {k : Int} {a b : List Nd} (h : false = (treeM a).isSome) : joinM k a b = ([], false) := by
  unfold joinM; rw [if_neg]; rw [← h]; simp
theorem joinM_no2 {k : Int} {a b : List Nd} (h : false = (treeM b).isSome) : joinM k a b = ([], false) := by
  unfold joinM; rw [if_neg]; rw [← h]; simp
theorem joinM_yes {k : Int} {a b : List Nd} (h : true = (treeM a).isSome) (h' : true = (treeM b).isSome) : joinM k a b = okM (joinOf k a b) := by
  unfold joinM; rw [if_pos ⟨h.symm, h'.symm⟩]

set_option maxRecDepth 8000 in
set_option maxHeartbeats 1000000 in
theorem sSeqTerm_any {v v' : Value} {a b : List Nd} {w : World} (h : RdTm w v a) (h' : RdTm w v' b) :
    Calls Try.prog 31 #[v, v'] w (Ret2Tm (joinM 15 a b) w) := by
  obtain ⟨A, c, rfl, h⟩ := h
  obtain ⟨B, d, rfl, h'⟩ := h'
  obtain ⟨W, hW⟩ : ∃ W, W = ((w.alloc (.cells #[.slice A a.length c] tTerm)).alloc (.cells #[.slice B b.length d] tTerm)).alloc (.cells #[.slice none 0 0] tTerm) := ⟨_, rfl⟩
  obtain ⟨b0, k0, k1, k2, hz⟩ := three_boxes w (.cells #[.slice A a.length c] tTerm) (.cells #[.slice B b.length d] tTerm) (.cells #[.slice none 0 0] tTerm)
  rw [← hW] at b0 k0 k1 k2 hz
  have hra := h.below b0
  have hrb := h'.below b0
  have hC := tmValid_any (v := .agg #[.slice A a.length c]) (w := W) ⟨A, c, rfl, hra⟩
  have hD := fun W1 (hW1 : Below W.heap.size W W1) => tmValid_any (v := .agg #[.slice B b.length d]) (w := W1) ⟨B, d, rfl, hrb.below hW1⟩
  have hJ := fun W1 (hW1 : Below W.heap.size W W1) => tmSeq_any (v := .agg #[.slice A a.length c]) (v' := .agg #[.slice B b.length d]) (w := W1) ⟨A, c, rfl, hra.below hW1⟩ ⟨B, d, rfl, hrb.below hW1⟩
  obtain ⟨m, hm⟩ : ∃ m, m = a.length := ⟨_, rfl⟩
  obtain ⟨n, hn⟩ : ∃ n, n = b.length := ⟨_, rfl⟩
  obtain ⟨M, hM⟩ : ∃ M, M = joinM 15 a b := ⟨_, rfl⟩
  rw [← hm, ← hn] at hJ
  rw [← hm] at hC hW k0 ⊢
  rw [← hn] at hD hW k1 ⊢
  rw [← hM]
  clear h h' hra hrb
  have b0_h := Lib.hid b0
  have hz_h := Lib.hid hz
  have hC_h := Lib.hid hC
  have hD_h := Lib.hid hD
  have hJ_h := Lib.hid hJ
  have hm_h := Lib.hid hm
  have hn_h := Lib.hid hn
  have hM_h := Lib.hid hM
  clear b0 hz hC hD hJ hm hn hM
  go_enter Try.func31, Try.ntmps31
  go_upto_region 1 with (fail)
  rw [← hW]
  clear hW
  obtain ⟨x0, x1⟩ := box1 k0
  have k0_h := Lib.hid k0
  have k1_h := Lib.hid k1
  have k2_h := Lib.hid k2
  clear k0 k1 k2
  go_wp2_with (fail)
  refine (hC_h.out).mono ?_
  rintro e w1 ⟨f, rfl, hf, hb1⟩
  clear x0 x1
  have q0 := box_below k0_h.out hb1
  have q1 := box_below k1_h.out hb1
  have q2 := box_below k2_h.out hb1
  have hz1 := hb1.size
  have hB := below_trans b0_h.out hb1 b0_h.out.size
  obtain ⟨x0, x1⟩ := box1 q0
  obtain ⟨y0, y1⟩ := box1 q1
  obtain ⟨z0, z1⟩ := box1 q2
  obtain ⟨r1, r2⟩ := set1 q2 (.slice none 0 0)
  have hBr := below_keeps hB r2 hB.size (fun k hk => by omega)
  cases f
  · have hM0 : M = ([], false) := by rw [hM_h.out]; exact joinM_no1 hf
    have hf_h := Lib.hid hf
    have hb1_h := Lib.hid hb1
    have q0_h := Lib.hid q0
    have q1_h := Lib.hid q1
    have q2_h := Lib.hid q2
    have hz1_h := Lib.hid hz1
    have hB_h := Lib.hid hB
    have r1_h := Lib.hid r1
    have r2_h := Lib.hid r2
    have hBr_h := Lib.hid hBr
    have hM0_h := Lib.hid hM0
    clear hf hb1 q0 q1 q2 hz1 hB r1 r2 hBr hM0
    go_wp2_with (fail)
    refine bodyPost_ret (results_cell_tmp rfl _ _ (w.heap.size + 2) _ _ (0, 0) _ rfl r1_h.out Try.underlying30 rfl (by kernel_rfl)) rfl ?_
    exact Ret2Tm.no hM0_h.out hBr_h.out
  · have hf_h := Lib.hid hf
    have hb1_h := Lib.hid hb1
    have q0_h := Lib.hid q0
    have q1_h := Lib.hid q1
    have q2_h := Lib.hid q2
    have hz1_h := Lib.hid hz1
    have hB_h := Lib.hid hB
    have r1_h := Lib.hid r1
    have r2_h := Lib.hid r2
    have hBr_h := Lib.hid hBr
    clear hf hb1 q0 q1 q2 hz1 hB r1 r2 hBr
    go_wp2_with (fail)
    refine (hD_h.out w1 hb1_h.out).mono ?_
    rintro e w2 ⟨g, rfl, hg, hb2⟩
    clear x0 x1 y0 y1 z0 z1
    have p0 := box_below q0_h.out hb2
    have p1 := box_below q1_h.out hb2
    have p2 := box_below q2_h.out hb2
    have hz2 := hb2.size
    have hB2 := below_trans hB_h.out hb2 hB_h.out.size
    obtain ⟨x0, x1⟩ := box1 p0
    obtain ⟨y0, y1⟩ := box1 p1
    obtain ⟨z0, z1⟩ := box1 p2
    obtain ⟨s1, s2⟩ := set1 p2 (.slice none 0 0)
    have hBs := below_keeps hB2 s2 hB2.size (fun k hk => by omega)
    have hb12 := below_trans hb1_h.out hb2 hz1_h.out
    cases g
    · have hM0 : M = ([], false) := by rw [hM_h.out]; exact joinM_no2 hg
      have hg_h := Lib.hid hg
      have hb2_h := Lib.hid hb2
      have p0_h := Lib.hid p0
      have p1_h := Lib.hid p1
      have p2_h := Lib.hid p2
      have hz2_h := Lib.hid hz2
      have hB2_h := Lib.hid hB2
      have s1_h := Lib.hid s1
      have s2_h := Lib.hid s2
      have hBs_h := Lib.hid hBs
      have hM0_h := Lib.hid hM0
      have hb12_h := Lib.hid hb12
      clear hg hb2 p0 p1 p2 hz2 hB2 s1 s2 hBs hM0 hb12
      go_wp2_with (fail)
      refine bodyPost_ret (results_cell_tmp rfl _ _ (w.heap.size + 2) _ _ (0, 0) _ rfl s1_h.out Try.underlying30 rfl (by kernel_rfl)) rfl ?_
      exact Ret2Tm.no hM0_h.out hBs_h.out
    · have hM0 : M = okM (joinOf 15 a b) := by rw [hM_h.out]; exact joinM_yes hf_h.out hg
      have hla := len_some hf_h.out
      have hlb := len_some hg
      have hwz := hz_h.out
      have hg_h := Lib.hid hg
      have hb2_h := Lib.hid hb2
      have p0_h := Lib.hid p0
      have p1_h := Lib.hid p1
      have p2_h := Lib.hid p2
      have hz2_h := Lib.hid hz2
      have hB2_h := Lib.hid hB2
      have s1_h := Lib.hid s1
      have s2_h := Lib.hid s2
      have hBs_h := Lib.hid hBs
      have hM0_h := Lib.hid hM0
      have hb12_h := Lib.hid hb12
      have hwz_h := Lib.hid hwz
      clear hg hb2 p0 p1 p2 hz2 hB2 s1 s2 hBs hM0 hb12 hwz
      go_wp2_with (fail)
      refine (hJ_h.out w2 hb12_h.out (by have := hm_h.out; omega) (by have := hn_h.out; omega)).mono ?_
      rintro e w3 ⟨v3, fp3, rfl, hO3, hF3, hb3⟩
      clear x0 x1 y0 y1 z0 z1 hla hlb
      have t2 := box_below p2_h.out hb3
      have hB3 := below_trans hB2_h.out hb3 hB2_h.out.size
      obtain ⟨z0, z1⟩ := box1 t2
      have t2_h := Lib.hid t2
      have hB3_h := Lib.hid hB3
      clear t2 hB3
      go_wp2_with (fail)
      refine (tmIf_any hO3).mono ?_
      rintro e w4 ⟨v4, fp4, rfl, ⟨A4, c4, rfl, hN4, rfl⟩, hF4, hb4⟩
      clear z0 z1
      have u2 := box_below t2_h.out hb4
      have hB4 := below_trans hB3_h.out hb4 hB3_h.out.size
      obtain ⟨L, hL⟩ : ∃ L, L = okM (joinOf 15 a b) := ⟨_, rfl⟩
      rw [← hL] at hN4 ⊢
      obtain ⟨l, hl⟩ : ∃ l, l = L.1.length := ⟨_, rfl⟩
      have hN5 : Sl w4 tNd 3 A4 l c4 (ncs L.1) := by rw [hl]; exact hN4
      rw [← hl]
      obtain ⟨r1, r2⟩ := set1 u2 (.slice A4 l c4)
      have hF5 : FreshL w2.heap.size (fpA A4) := fun x hx => hF3 x (hF4 x hx)
      have hzz := hwz_h.out
      have hz2' := hz2_h.out
      have hz1' := hz1_h.out
      have hN6 := Sl.keeps hN5 r2 (fun x hx e => by have := hF5 x hx; omega)
      have hB5 := below_keeps hB4 r2 hB4.size (fun k hk => by omega)
      have hF6 : FreshL w.heap.size (fpA A4) := fun x hx => by have := hF5 x hx; omega
      obtain ⟨z0, z1⟩ := box1 u2
      have hO3_h := Lib.hid hO3
      have hF3_h := Lib.hid hF3
      have hb3_h := Lib.hid hb3
      have hN4_h := Lib.hid hN4
      have hF4_h := Lib.hid hF4
      have hb4_h := Lib.hid hb4
      have u2_h := Lib.hid u2
      have hB4_h := Lib.hid hB4
      have hL_h := Lib.hid hL
      have hl_h := Lib.hid hl
      have hN5_h := Lib.hid hN5
      have r1_h := Lib.hid r1
      have r2_h := Lib.hid r2
      have hF5_h := Lib.hid hF5
      have hN6_h := Lib.hid hN6
      have hB5_h := Lib.hid hB5
      have hF6_h := Lib.hid hF6
      clear hO3 hF3 hb3 hN4 hF4 hb4 u2 hB4 hL hl hN5 r1 r2 hF5 hN6 hB5 hF6
      clear hM_h
      go_wp2_with (fail)
      refine bodyPost_ret (results_cell_tmp rfl _ _ (w.heap.size + 2) _ _ (0, 0) _ rfl r1_h.out Try.underlying30 rfl (by kernel_rfl)) rfl ?_
      rw [hM0_h.out, ← hL_h.out]
      have e := hl_h.out
      subst e
      exact ⟨_, fpA A4, rfl, ⟨A4, c4, rfl, hN6_h.out, rfl⟩, hF6_h.out, hB5_h.out⟩

set_option maxRecDepth 8000 in
set_option maxHeartbeats 1000000 in
theorem sParTerm_any {v v' : Value} {a b : List Nd} {w : World} (h : RdTm w v a) (h' : RdTm w v' b) :
    Calls Try.prog 29 #[v, v'] w (Ret2Tm (joinM 16 a b) w) := by
  obtain ⟨A, c, rfl, h⟩ := h
  obtain ⟨B, d, rfl, h'⟩ := h'
  obtain ⟨W, hW⟩ : ∃ W, W = ((w.alloc (.cells #[.slice A a.length c] tTerm)).alloc (.cells #[.slice B b.length d] tTerm)).alloc (.cells #[.slice none 0 0] tTerm) := ⟨_, rfl⟩
  obtain ⟨b0, k0, k1, k2, hz⟩ := three_boxes w (.cells #[.slice A a.length c] tTerm) (.cells #[.slice B b.length d] tTerm) (.cells #[.slice none 0 0] tTerm)
  rw [← hW] at b0 k0 k1 k2 hz
  have hra := h.below b0
  have hrb := h'.below b0
  have hC := tmValid_any (v := .agg #[.slice A a.length c]) (w := W) ⟨A, c, rfl, hra⟩
  have hD := fun W1 (hW1 : Below W.heap.size W W1) => tmValid_any (v := .agg #[.slice B b.length d]) (w := W1) ⟨B, d, rfl, hrb.below hW1⟩
  have hJ := fun W1 (hW1 : Below W.heap.size W W1) => tmPar_any (v := .agg #[.slice A a.length c]) (v' := .agg #[.slice B b.length d]) (w := W1) ⟨A, c, rfl, hra.below hW1⟩ ⟨B, d, rfl, hrb.below hW1⟩
  obtain ⟨m, hm⟩ : ∃ m, m = a.length := ⟨_, rfl⟩
  obtain ⟨n, hn⟩ : ∃ n, n = b.length := ⟨_, rfl⟩
  obtain ⟨M, hM⟩ : ∃ M, M = joinM 16 a b := ⟨_, rfl⟩
  rw [← hm, ← hn] at hJ
  rw [← hm] at hC hW k0 ⊢
  rw [← hn] at hD hW k1 ⊢
  rw [← hM]
  clear h h' hra hrb
  have b0_h := Lib.hid b0
  have hz_h := Lib.hid hz
  have hC_h := Lib.hid hC
  have hD_h := Lib.hid hD
  have hJ_h := Lib.hid hJ
  have hm_h := Lib.hid hm
  have hn_h := Lib.hid hn
  have hM_h := Lib.hid hM
  clear b0 hz hC hD hJ hm hn hM
  go_enter Try.func29, Try.ntmps29
  go_upto_region 1 with (fail)
  rw [← hW]
  clear hW
  obtain ⟨x0, x1⟩ := box1 k0
  have k0_h := Lib.hid k0
  have k1_h := Lib.hid k1
  have k2_h := Lib.hid k2
  clear k0 k1 k2
  go_wp2_with (fail)
  refine (hC_h.out).mono ?_
  rintro e w1 ⟨f, rfl, hf, hb1⟩
  clear x0 x1
  have q0 := box_below k0_h.out hb1
  have q1 := box_below k1_h.out hb1
  have q2 := box_below k2_h.out hb1
  have hz1 := hb1.size
  have hB := below_trans b0_h.out hb1 b0_h.out.size
  obtain ⟨x0, x1⟩ := box1 q0
  obtain ⟨y0, y1⟩ := box1 q1
  obtain ⟨z0, z1⟩ := box1 q2
  obtain ⟨r1, r2⟩ := set1 q2 (.slice none 0 0)
  have hBr := below_keeps hB r2 hB.size (fun k hk => by omega)
  cases f
  · have hM0 : M = ([], false) := by rw [hM_h.out]; exact joinM_no1 hf
    have hf_h := Lib.hid hf
    have hb1_h := Lib.hid hb1
    have q0_h := Lib.hid q0
    have q1_h := Lib.hid q1
    have q2_h := Lib.hid q2
    have hz1_h := Lib.hid hz1
    have hB_h := Lib.hid hB
    have r1_h := Lib.hid r1
    have r2_h := Lib.hid r2
    have hBr_h := Lib.hid hBr
    have hM0_h := Lib.hid hM0
    clear hf hb1 q0 q1 q2 hz1 hB r1 r2 hBr hM0
    go_wp2_with (fail)
    refine bodyPost_ret (results_cell_tmp rfl _ _ (w.heap.size + 2) _ _ (0, 0) _ rfl r1_h.out Try.underlying30 rfl (by kernel_rfl)) rfl ?_
    exact Ret2Tm.no hM0_h.out hBr_h.out
  · have hf_h := Lib.hid hf
    have hb1_h := Lib.hid hb1
    have q0_h := Lib.hid q0
    have q1_h := Lib.hid q1
    have q2_h := Lib.hid q2
    have hz1_h := Lib.hid hz1
    have hB_h := Lib.hid hB
    have r1_h := Lib.hid r1
    have r2_h := Lib.hid r2
    have hBr_h := Lib.hid hBr
    clear hf hb1 q0 q1 q2 hz1 hB r1 r2 hBr
    go_wp2_with (fail)
    refine (hD_h.out w1 hb1_h.out).mono ?_
    rintro e w2 ⟨g, rfl, hg, hb2⟩
    clear x0 x1 y0 y1 z0 z1
    have p0 := box_below q0_h.out hb2
    have p1 := box_below q1_h.out hb2
    have p2 := box_below q2_h.out hb2
    have hz2 := hb2.size
    have hB2 := below_trans hB_h.out hb2 hB_h.out.size
    obtain ⟨x0, x1⟩ := box1 p0
    obtain ⟨y0, y1⟩ := box1 p1
    obtain ⟨z0, z1⟩ := box1 p2
    obtain ⟨s1, s2⟩ := set1 p2 (.slice none 0 0)
    have hBs := below_keeps hB2 s2 hB2.size (fun k hk => by omega)
    have hb12 := below_trans hb1_h.out hb2 hz1_h.out
    cases g
    · have hM0 : M = ([], false) := by rw [hM_h.out]; exact joinM_no2 hg
      have hg_h := Lib.hid hg
      have hb2_h := Lib.hid hb2
      have p0_h := Lib.hid p0
      have p1_h := Lib.hid p1
      have p2_h := Lib.hid p2
      have hz2_h := Lib.hid hz2
      have hB2_h := Lib.hid hB2
      have s1_h := Lib.hid s1
      have s2_h := Lib.hid s2
      have hBs_h := Lib.hid hBs
      have hM0_h := Lib.hid hM0
      have hb12_h := Lib.hid hb12
      clear hg hb2 p0 p1 p2 hz2 hB2 s1 s2 hBs hM0 hb12
      go_wp2_with (fail)
      refine bodyPost_ret (results_cell_tmp rfl _ _ (w.heap.size + 2) _ _ (0, 0) _ rfl s1_h.out Try.underlying30 rfl (by kernel_rfl)) rfl ?_
      exact Ret2Tm.no hM0_h.out hBs_h.out
    · have hM0 : M = okM (joinOf 16 a b) := by rw [hM_h.out]; exact joinM_yes hf_h.out hg
      have hla := len_some hf_h.out
      have hlb := len_some hg
      have hwz := hz_h.out
      have hg_h := Lib.hid hg
      have hb2_h := Lib.hid hb2
      have p0_h := Lib.hid p0
      have p1_h := Lib.hid p1
      have p2_h := Lib.hid p2
      have hz2_h := Lib.hid hz2
      have hB2_h := Lib.hid hB2
      have s1_h := Lib.hid s1
      have s2_h := Lib.hid s2
      have hBs_h := Lib.hid hBs
      have hM0_h := Lib.hid hM0
      have hb12_h := Lib.hid hb12
      have hwz_h := Lib.hid hwz
      clear hg hb2 p0 p1 p2 hz2 hB2 s1 s2 hBs hM0 hb12 hwz
      go_wp2_with (fail)
      refine (hJ_h.out w2 hb12_h.out (by have := hm_h.out; omega) (by have := hn_h.out; omega)).mono ?_
      rintro e w3 ⟨v3, fp3, rfl, hO3, hF3, hb3⟩
      clear x0 x1 y0 y1 z0 z1 hla hlb
      have t2 := box_below p2_h.out hb3
      have hB3 := below_trans hB2_h.out hb3 hB2_h.out.size
      obtain ⟨z0, z1⟩ := box1 t2
      have t2_h := Lib.hid t2
      have hB3_h := Lib.hid hB3
      clear t2 hB3
      go_wp2_with (fail)
      refine (tmIf_any hO3).mono ?_
      rintro e w4 ⟨v4, fp4, rfl, ⟨A4, c4, rfl, hN4, rfl⟩, hF4, hb4⟩
      clear z0 z1
      have u2 := box_below t2_h.out hb4
      have hB4 := below_trans hB3_h.out hb4 hB3_h.out.size
      obtain ⟨L, hL⟩ : ∃ L, L = okM (joinOf 16 a b) := ⟨_, rfl⟩
      rw [← hL] at hN4 ⊢
      obtain ⟨l, hl⟩ : ∃ l, l = L.1.length := ⟨_, rfl⟩
      have hN5 : Sl w4 tNd 3 A4 l c4 (ncs L.1) := by rw [hl]; exact hN4
      rw [← hl]
      obtain ⟨r1, r2⟩ := set1 u2 (.slice A4 l c4)
      have hF5 : FreshL w2.heap.size (fpA A4) := fun x hx => hF3 x (hF4 x hx)
      have hzz := hwz_h.out
      have hz2' := hz2_h.out
      have hz1' := hz1_h.out
      have hN6 := Sl.keeps hN5 r2 (fun x hx e => by have := hF5 x hx; omega)
      have hB5 := below_keeps hB4 r2 hB4.size (fun k hk => by omega)
      have hF6 : FreshL w.heap.size (fpA A4) := fun x hx => by have := hF5 x hx; omega
      obtain ⟨z0, z1⟩ := box1 u2
      have hO3_h := Lib.hid hO3
      have hF3_h := Lib.hid hF3
      have hb3_h := Lib.hid hb3
      have hN4_h := Lib.hid hN4
      have hF4_h := Lib.hid hF4
      have hb4_h := Lib.hid hb4
      have u2_h := Lib.hid u2
      have hB4_h := Lib.hid hB4
      have hL_h := Lib.hid hL
      have hl_h := Lib.hid hl
      have hN5_h := Lib.hid hN5
      have r1_h := Lib.hid r1
      have r2_h := Lib.hid r2
      have hF5_h := Lib.hid hF5
      have hN6_h := Lib.hid hN6
      have hB5_h := Lib.hid hB5
      have hF6_h := Lib.hid hF6
      clear hO3 hF3 hb3 hN4 hF4 hb4 u2 hB4 hL hl hN5 r1 r2 hF5 hN6 hB5 hF6
      clear hM_h
      go_wp2_with (fail)
      refine bodyPost_ret (results_cell_tmp rfl _ _ (w.heap.size + 2) _ _ (0, 0) _ rfl r1_h.out Try.underlying30 rfl (by kernel_rfl)) rfl ?_
      rw [hM0_h.out, ← hL_h.out]
      have e := hl_h.out
      subst e
      exact ⟨_, fpA A4, rfl, ⟨A4, c4, rfl, hN6_h.out, rfl⟩, hF6_h.out, hB5_h.out⟩
end Go.Proofs.Ytlmnmdahphahfaa
