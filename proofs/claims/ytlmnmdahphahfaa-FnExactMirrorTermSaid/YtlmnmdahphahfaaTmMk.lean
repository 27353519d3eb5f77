/-
  THE WALK: MirrorTerm of the program.
-/
import Derived.Test.YtlmnmdahphahfaaTmMi
namespace Go.Proofs.Ytlmnmdahphahfaa
open Go.RowKit

/-- The mirror image of a term. -/
def mirM (l : List Nd) : List Nd × Bool := match treeM l with | some t => (flat (mir t), true) | none => ([], false)
theorem mirM_some {l : List Nd} {t : Tr} (h : treeM l = some t) : mirM l = (flat (mir t), true) := by simp [mirM, h]
theorem mirM_none {l : List Nd} (h : treeM l = none) : mirM l = ([], false) := by simp [mirM, h]
set_option maxRecDepth 8000 in
set_option maxHeartbeats 2000000 in
theorem iMirrorTerm_any {v : Value} {l : List Nd} {fp : List Nat} {w : World} (h : OwTm w v l fp) :
    Calls Try.prog 36 #[v] w (Ret2Tm (mirM l) w) := by
  obtain ⟨A, c, rfl, hN, rfl⟩ := h
  obtain ⟨n, hn⟩ : ∃ n, n = l.length := ⟨_, rfl⟩
  obtain ⟨W, hW⟩ : ∃ W, W = (w.alloc (.cells #[.slice A n c] tTerm)).alloc (.cells #[.slice none 0 0] tTerm) := ⟨_, rfl⟩
  obtain ⟨b0, k0, k1, hz⟩ := two_boxes w (.cells #[.slice A n c] tTerm) (.cells #[.slice none 0 0] tTerm)
  rw [← hW] at b0 k0 k1 hz
  have hN1 := hN.below b0
  have hC := isValid_any (v := .agg #[.slice A n c]) (l := l) (w := W) ⟨A, c, by rw [hn], hN1.rd⟩
  have hD := fun W' (hb : Below W.heap.size W W') (t : Tr) (hT : treeM l = some t) => treeOf_any A n c l t W' hn hT (hN1.rd.below hb)
  have hE := fun W' (t : Tr) (hT : treeM l = some t) => mirrored_any t (treeM_some hT).2.1 W'
  have hF := fun W' (t : Tr) (hT : treeM l = some t) => nodes_any (mir t) (by rw [mir_sz]; exact (treeM_some hT).2.2) W'
  unfold TrA at hE
  rw [← hn]
  obtain ⟨T, hT⟩ : ∃ T, T = mirM l := ⟨_, rfl⟩
  rw [← hT]
  clear hN hN1
  have hC_h := Lib.hid hC
  have hn_h := Lib.hid hn
  have b0_h := Lib.hid b0
  have k0_h := Lib.hid k0
  have k1_h := Lib.hid k1
  have hz_h := Lib.hid hz
  have hT_h := Lib.hid hT
  have hD_h := Lib.hid hD
  have hE_h := Lib.hid hE
  have hF_h := Lib.hid hF
  clear hC hn b0 k0 k1 hz hT hD hE hF
  obtain ⟨k0_c, k0_f⟩ := bx1 k0_h.out
  go_enter Try.func36, Try.ntmps36
  go_upto_region 1 with (fail)
  rw [← hW]
  clear hW
  go_wp2_with (fail)
  refine (hC_h.out).mono ?_
  rintro e w1 ⟨b, rfl, hb, hb1⟩
  clear k0_c k0_f
  replace k0_h := Lib.hid (box_below k0_h.out hb1)
  replace k1_h := Lib.hid (box_below k1_h.out hb1)
  have hB1 := below_trans b0_h.out hb1 b0_h.out.size
  obtain ⟨k0_c, k0_f⟩ := bx1 k0_h.out
  obtain ⟨k1_c, k1_f⟩ := bx1 k1_h.out
  cases b
  · have hN : treeM l = none := by cases h : treeM l with | none => rfl | some t => rw [h] at hb; cases hb
    have hM0 : T = ([], false) := by rw [hT_h.out]; exact mirM_none hN
    obtain ⟨s1, s2⟩ := set1 k1_h.out (.slice none 0 0)
    have hBs := below_keeps hB1 s2 hB1.size (fun k hk => by omega)
    have hb_h := Lib.hid hb
    have hN_h := Lib.hid hN
    have hB1_h := Lib.hid hB1
    have hb1_h := Lib.hid hb1
    have hM0_h := Lib.hid hM0
    have s1_h := Lib.hid s1
    have s2_h := Lib.hid s2
    have hBs_h := Lib.hid hBs
    clear hb hN hB1 hb1 hM0 s1 s2 hBs
    go_wp2_with (fail)
    refine bodyPost_ret (results_cell_tmp rfl _ _ (w.heap.size + 1) _ _ (0, 0) _ rfl s1_h.out Try.underlying30 rfl (by kernel_rfl)) rfl ?_
    exact Ret2Tm.no hM0_h.out hBs_h.out
  · obtain ⟨t, hN⟩ : ∃ t, treeM l = some t := by cases h : treeM l with | none => rw [h] at hb; cases hb | some t => exact ⟨t, rfl⟩
    have hD2 := hD_h.out w1 hb1 t hN
    have hE2 := fun W' => hE_h.out W' t hN
    have hF2 := fun W' => hF_h.out W' t hN
    obtain ⟨X, hX⟩ : ∃ X, X = flat (mir t) := ⟨_, rfl⟩
    have hM1 : T = (X, true) := by rw [hT_h.out, mirM_some hN, hX]
    rw [← hX] at hF2
    have hme := fun W => nod_method (mir t) W
    obtain ⟨F, hF⟩ : ∃ F, F = nodF (mir t) := ⟨_, rfl⟩
    obtain ⟨Y, hY⟩ : ∃ F, F = nodX (mir t) := ⟨_, rfl⟩
    rw [← hF, ← hY] at hme hF2
    obtain ⟨ta, pa, hva⟩ := trV_iface t
    obtain ⟨tb, pb, hvb⟩ := trV_iface (mir t)
    rw [hva] at hD2 hE2
    rw [hvb] at hE2 hme
    unfold RetNs at hF2
    simp [callMethod, go_sem] at hme
    have hb_h := Lib.hid hb
    have hN_h := Lib.hid hN
    have hB1_h := Lib.hid hB1
    have hb1_h := Lib.hid hb1
    have hM1_h := Lib.hid hM1
    have hD2_h := Lib.hid hD2
    have hE2_h := Lib.hid hE2
    have hF2_h := Lib.hid hF2
    have hX_h := Lib.hid hX
    have hF_h := Lib.hid hF
    have hY_h := Lib.hid hY
    have hva_h := Lib.hid hva
    have hvb_h := Lib.hid hvb
    clear hb hN hB1 hb1 hM1 hD2 hE2 hF2 hX hF hY hva hvb
    go_wp2_with (fail)
    refine (hD2_h.out).mono ?_
    rintro e w2 ⟨rfl, hb2⟩
    clear k0_c k0_f k1_c k1_f
    replace k1_h := Lib.hid (box_below k1_h.out hb2)
    have hB2 := below_trans hB1_h.out hb2 hB1_h.out.size
    have hb2_h := Lib.hid hb2
    have hB2_h := Lib.hid hB2
    clear hb2 hB2
    go_wp2_with (fail)
    refine (hE2_h.out _).mono ?_
    rintro e w3 ⟨rfl, hb3⟩
    replace k1_h := Lib.hid (box_below k1_h.out hb3)
    have hB3 := below_trans hB2_h.out hb3 hB2_h.out.size
    have hb3_h := Lib.hid hb3
    have hB3_h := Lib.hid hB3
    clear hb3 hB3
    go_wp2_with (fail)
    refine (hF2_h.out _).mono ?_
    rintro e w4 ⟨A1, c1, m1, rfl, hm1, hN4, hF4, hb4⟩
    clear hme
    replace k1_h := Lib.hid (box_below k1_h.out hb4)
    have hB4 := below_trans hB3_h.out hb4 hB3_h.out.size
    obtain ⟨s1, s2⟩ := set1 k1_h.out (.slice A1 m1 c1)
    have hz1 := hz_h.out
    have hzb := hb1_h.out.size
    have hz2 := hb2_h.out.size
    have hz3 := hb3_h.out.size
    have hB5 := below_keeps hB4 s2 hB4.size (fun k hk => by omega)
    have hN5 := Sl.keeps hN4 s2 (fun b hb e => by have := hF4 b hb; omega)
    have hF5 : FreshL w.heap.size (fpA A1) := fun b hb => by have := hF4 b hb; omega
    obtain ⟨k1_c, k1_f⟩ := bx1 k1_h.out
    have hb4_h := Lib.hid hb4
    have hB4_h := Lib.hid hB4
    have s1_h := Lib.hid s1
    have s2_h := Lib.hid s2
    have hB5_h := Lib.hid hB5
    have hN5_h := Lib.hid hN5
    have hF5_h := Lib.hid hF5
    have hN4_h := Lib.hid hN4
    have hF4_h := Lib.hid hF4
    have hm1_h := Lib.hid hm1
    have hz1_h := Lib.hid hz1
    have hzb_h := Lib.hid hzb
    have hz2_h := Lib.hid hz2
    have hz3_h := Lib.hid hz3
    clear hb4 hB4 s1 s2 hB5 hN5 hF5 hN4 hF4 hm1 hz1 hzb hz2 hz3
    go_wp2_with (fail)
    refine bodyPost_ret (results_cell_tmp rfl _ _ (w.heap.size + 1) _ _ (0, 0) _ rfl s1_h.out Try.underlying30 rfl (by kernel_rfl)) rfl ?_
    rw [hM1_h.out]
    exact ⟨_, fpA A1, rfl, ⟨A1, c1, by rw [hm1_h.out], by show Sl _ tNd 3 A1 X.length c1 (ncs X); rw [← hm1_h.out]; exact hN5_h.out, rfl⟩, hF5_h.out, hB5_h.out⟩
end Go.Proofs.Ytlmnmdahphahfaa
