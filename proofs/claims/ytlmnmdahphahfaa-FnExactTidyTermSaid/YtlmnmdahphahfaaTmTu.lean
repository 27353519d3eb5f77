/-
  THE WALKS: tmTidy and TidyTerm of the reference; the contracts in the law generator's shape.
-/
import Derived.Test.YtlmnmdahphahfaaTmTr
import Derived.Test.YtlmnmdahphahfaaTmTp
namespace Go.Proofs.Ytlmnmdahphahfaa
open Go.RowKit

set_option maxRecDepth 8000 in
set_option maxHeartbeats 2000000 in
theorem tmTidy_leaf {nd : Nd} {v : Value} {fp : List Nat} {w : World} (hw : wt (.leaf nd)) (h : OwTm w v (flat (.leaf nd)) fp) :
    Calls Try.prog 73 #[v] w (RetTm w (flat (tidy (.leaf nd)))) := by
  obtain ⟨A, c, rfl, hN, rfl⟩ := h
  have e1 : flat (tidy (.leaf nd)) = flat (.leaf nd) := rfl
  have hk := leaf_top hw
  rw [e1]
  obtain ⟨n, hn⟩ : ∃ n, n = (flat (.leaf nd)).length := ⟨_, rfl⟩
  have hn1 : n ≤ 1048576 := by rw [hn]; show 1 ≤ _; omega
  rw [← hn]
  obtain ⟨W, hW⟩ : ∃ W, W = (w.alloc (.cells #[.slice A n c] tTerm)).alloc (.cells #[.slice none 0 0] tTerm) := ⟨_, rfl⟩
  obtain ⟨b0, k0, k1, hz⟩ := two_boxes w (.cells #[.slice A n c] tTerm) (.cells #[.slice none 0 0] tTerm)
  rw [← hW] at b0 k0 k1 hz
  have hN1 := hN.below b0
  have hT := tmTop_any (v := .agg #[.slice A n c]) (t := .leaf nd) (w := W) ⟨A, c, by rw [hn], hN1, rfl⟩
  obtain ⟨K, hK⟩ : ∃ K, K = topK (.leaf nd) := ⟨_, rfl⟩
  have hKl : K < 15 := by rw [hK]; show nd.1 < 15; omega
  rw [← hK] at hT
  have hO := fun W' (hb : Below W.heap.size W W') => tmOwn_any A n c (flat (.leaf nd)) W' (hN1.rd.below hb) hn (by rw [← hn]; exact hn1)
  obtain ⟨X, hX⟩ : ∃ X, X = flat (.leaf nd) := ⟨_, rfl⟩
  rw [← hX] at hO ⊢
  clear hN hN1 e1 hk hw
  have b0_h := Lib.hid b0
  have k0_h := Lib.hid k0
  have k1_h := Lib.hid k1
  have hz_h := Lib.hid hz
  have hT_h := Lib.hid hT
  have hO_h := Lib.hid hO
  have hX_h := Lib.hid hX
  have hn_h := Lib.hid hn
  have hK_h := Lib.hid hK
  clear b0 k0 k1 hz hT hO hX hn hK
  go_enter Try.func73, Try.ntmps73
  go_upto_region 1 with (fail)
  rw [← hW]
  clear hW
  obtain ⟨k0_c, k0_f⟩ := bx1 k0_h.out
  go_wp2_with (fail)
  refine (hT_h.out).mono ?_
  rintro e w1 ⟨rfl, hb1⟩
  clear k0_c k0_f
  replace k0_h := Lib.hid (box_below k0_h.out hb1)
  replace k1_h := Lib.hid (box_below k1_h.out hb1)
  have hB1 := below_trans b0_h.out hb1 b0_h.out.size
  have hO1 := hO_h.out w1 hb1
  have hz1 := hb1.size
  obtain ⟨k0_c, k0_f⟩ := bx1 k0_h.out
  have hb1_h := Lib.hid hb1
  have hB1_h := Lib.hid hB1
  have hO1_h := Lib.hid hO1
  clear hb1 hB1 hO1
  go_wp2_with (fail)
  refine (hO1_h.out).mono ?_
  rintro e w2 ⟨v2, fp2, rfl, ⟨A2, c2, rfl, hN2, rfl⟩, hF2, hb2⟩
  clear k0_c k0_f
  replace k1_h := Lib.hid (box_below k1_h.out hb2)
  have hB2 := below_trans hB1_h.out hb2 hB1_h.out.size
  have hz0 := hz_h.out
  obtain ⟨s1, s2⟩ := set1 k1_h.out (.slice A2 X.length c2)
  have hBn := below_keeps hB2 s2 hB2.size (fun k hk => by omega)
  have hNn := NS.keeps hN2 s2 (fun b hb e => by have := hF2 b hb; omega)
  have hFn : FreshL w.heap.size (fpA A2) := fun b hb => by have := hF2 b hb; omega
  obtain ⟨k1_c, k1_f⟩ := bx1 k1_h.out
  have hN2_h := Lib.hid hN2
  have hF2_h := Lib.hid hF2
  have hb2_h := Lib.hid hb2
  have hB2_h := Lib.hid hB2
  have s1_h := Lib.hid s1
  have s2_h := Lib.hid s2
  have hBn_h := Lib.hid hBn
  have hNn_h := Lib.hid hNn
  have hFn_h := Lib.hid hFn
  clear hN2 hF2 hb2 hB2 s1 s2 hBn hNn hFn
  clear hz0
  go_wp2_with (fail)
  refine bodyPost_ret (results_cell_row rfl _ _ (w.heap.size + 1) _ _ (0, 0) _ rfl s1_h.out Try.underlying30 rfl (by kernel_rfl)) rfl ?_
  exact ⟨_, _, rfl, ⟨A2, c2, rfl, hNn_h.out, rfl⟩, hFn_h.out, hBn_h.out⟩
theorem tmTidy_any : ∀ (t : Tr), wt t → sz t ≤ 400 → ∀ (v : Value) (fp : List Nat) (w : World), OwTm w v (flat t) fp → Calls Try.prog 73 #[v] w (RetTm w (flat (tidy t)))
  | .leaf _, hw, _, _, _, _, h => tmTidy_leaf hw h
  | .node p a b, hw, hs, v, fp, w, h => by
    have ⟨hwa, hwb, _⟩ := hw
    have hsn := sz_node p a b
    have hIa := tmTidy_any a hwa (by omega)
    have hIb := tmTidy_any b hwb (by omega)
    cases p
    · exact tmTidy_seq hw hs h hIa hIb
    · exact tmTidy_par hw hs h hIa hIb
set_option maxRecDepth 8000 in
set_option maxHeartbeats 2000000 in
theorem sTidyTerm_any {v : Value} {l : List Nd} {fp : List Nat} {w : World} (h : OwTm w v l fp) :
    Calls Try.prog 40 #[v] w (Ret2Tm (tdM l) w) := by
  obtain ⟨A, c, rfl, hN, rfl⟩ := h
  obtain ⟨n, hn⟩ : ∃ n, n = l.length := ⟨_, rfl⟩
  obtain ⟨W, hW⟩ : ∃ W, W = (w.alloc (.cells #[.slice A n c] tTerm)).alloc (.cells #[.slice none 0 0] tTerm) := ⟨_, rfl⟩
  obtain ⟨b0, k0, k1, hz⟩ := two_boxes w (.cells #[.slice A n c] tTerm) (.cells #[.slice none 0 0] tTerm)
  rw [← hW] at b0 k0 k1 hz
  have hN1 := hN.below b0
  have hC := tmValid_any (v := .agg #[.slice A n c]) (l := l) (w := W) ⟨A, c, by rw [hn], hN1.rd⟩
  have hD := fun W' (hb : Below W.heap.size W W') (t : Tr) (hT : treeM l = some t) => tmTidy_any t (treeM_some hT).2.1 (treeM_some hT).2.2 (.agg #[.slice A n c]) (fpA A) W' ⟨A, c, by rw [hn, (treeM_some hT).1], by have := hN1.below hb; rw [(treeM_some hT).1] at this; exact this, rfl⟩
  rw [← hn]
  obtain ⟨T, hT⟩ : ∃ T, T = tdM l := ⟨_, rfl⟩
  rw [← hT]
  clear hN hN1
  have hC_h := Lib.hid hC
  have hn_h := Lib.hid hn
  have b0_h := Lib.hid b0
  have k0_h := Lib.hid k0
  have k1_h := Lib.hid k1
  have hz_h := Lib.hid hz
  have hT_h := Lib.hid hT
  have hD_h := Lib.hid hD
  clear hC hn b0 k0 k1 hz hT hD
  obtain ⟨k0_c, k0_f⟩ := bx1 k0_h.out
  go_enter Try.func40, Try.ntmps40
  go_upto_region 1 with (fail)
  rw [← hW]
  clear hW
  go_wp2_with (fail)
  refine (hC_h.out).mono ?_
  rintro e w1 ⟨b, rfl, hb, hb1⟩
  clear k0_c k0_f
  replace k0_h := Lib.hid (box_below k0_h.out hb1)
  replace k1_h := Lib.hid (box_below k1_h.out hb1)
  have hB1 := below_trans b0_h.out hb1 b0_h.out.size
  obtain ⟨k0_c, k0_f⟩ := bx1 k0_h.out
  obtain ⟨k1_c, k1_f⟩ := bx1 k1_h.out
  cases b
  · have hN : treeM l = none := by cases h : treeM l with | none => rfl | some t => rw [h] at hb; cases hb
    have hM0 : T = ([], false) := by rw [hT_h.out]; exact tdM_none hN
    obtain ⟨s1, s2⟩ := set1 k1_h.out (.slice none 0 0)
    have hBs := below_keeps hB1 s2 hB1.size (fun k hk => by omega)
    have hb_h := Lib.hid hb
    have hN_h := Lib.hid hN
    have hB1_h := Lib.hid hB1
    have hb1_h := Lib.hid hb1
    have hM0_h := Lib.hid hM0
    have s1_h := Lib.hid s1
    have s2_h := Lib.hid s2
    have hBs_h := Lib.hid hBs
    clear hb hN hB1 hb1 hM0 s1 s2 hBs
    go_wp2_with (fail)
    refine bodyPost_ret (results_cell_tmp rfl _ _ (w.heap.size + 1) _ _ (0, 0) _ rfl s1_h.out Try.underlying30 rfl (by kernel_rfl)) rfl ?_
    exact Ret2Tm.no hM0_h.out hBs_h.out
  · obtain ⟨t, hN⟩ : ∃ t, treeM l = some t := by cases h : treeM l with | none => rw [h] at hb; cases hb | some t => exact ⟨t, rfl⟩
    have hD2 := hD_h.out w1 hb1 t hN
    obtain ⟨X, hX⟩ : ∃ X, X = flat (tidy t) := ⟨_, rfl⟩
    have hM1 : T = (X, true) := by rw [hT_h.out, tdM_some hN, hX]
    rw [← hX] at hD2
    have hb_h := Lib.hid hb
    have hN_h := Lib.hid hN
    have hB1_h := Lib.hid hB1
    have hb1_h := Lib.hid hb1
    have hM1_h := Lib.hid hM1
    have hD2_h := Lib.hid hD2
    have hX_h := Lib.hid hX
    clear hb hN hB1 hb1 hM1 hD2 hX
    go_wp2_with (fail)
    refine (hD2_h.out).mono ?_
    rintro e w2 ⟨v2, fp2, rfl, ⟨A2, c2, rfl, hN2, rfl⟩, hF2, hb2⟩
    clear k0_c k0_f k1_c k1_f
    replace k1_h := Lib.hid (box_below k1_h.out hb2)
    have hB2 := below_trans hB1_h.out hb2 hB1_h.out.size
    obtain ⟨s1, s2⟩ := set1 k1_h.out (.slice A2 X.length c2)
    have hz1 := hz_h.out
    have hzb := hb1_h.out.size
    have hB3 := below_keeps hB2 s2 hB2.size (fun k hk => by omega)
    have hN3 := NS.keeps hN2 s2 (fun b hb e => by have := hF2 b hb; omega)
    have hF3 : FreshL w.heap.size (fpA A2) := fun b hb => by have := hF2 b hb; omega
    obtain ⟨k1_c, k1_f⟩ := bx1 k1_h.out
    have hb2_h := Lib.hid hb2
    have hB2_h := Lib.hid hB2
    have s1_h := Lib.hid s1
    have s2_h := Lib.hid s2
    have hB3_h := Lib.hid hB3
    have hN3_h := Lib.hid hN3
    have hF3_h := Lib.hid hF3
    have hN2_h := Lib.hid hN2
    have hF2_h := Lib.hid hF2
    have hz1_h := Lib.hid hz1
    have hzb_h := Lib.hid hzb
    clear hb2 hB2 s1 s2 hB3 hN3 hF3 hN2 hF2 hz1 hzb
    go_wp2_with (fail)
    refine bodyPost_ret (results_cell_tmp rfl _ _ (w.heap.size + 1) _ _ (0, 0) _ rfl s1_h.out Try.underlying30 rfl (by kernel_rfl)) rfl ?_
    rw [hM1_h.out]
    exact ⟨_, fpA A2, rfl, ⟨A2, c2, rfl, hN3_h.out, rfl⟩, hF3_h.out, hB3_h.out⟩
theorem sTidyTerm_law {v : Value} {l : List Nd} {fp : List Nat} {w : World} (h : OwTm w v l fp) (_ok : OkN l) :
    Calls Try.prog 40 #[v] w fun e w' => ∃ v' fp, e = .returned (.tuple #[v', .bool (tdM l).2]) ∧ OwTm w' v' (tdM l).1 fp ∧ FreshL w.heap.size fp ∧ Below w.heap.size w w' := sTidyTerm_any h
theorem iTidyTerm_law {v : Value} {l : List Nd} {fp : List Nat} {w : World} (h : OwTm w v l fp) (_ok : OkN l) :
    Calls Try.prog 41 #[v] w fun e w' => ∃ v' fp, e = .returned (.tuple #[v', .bool (tdM l).2]) ∧ OwTm w' v' (tdM l).1 fp ∧ FreshL w.heap.size fp ∧ Below w.heap.size w w' := iTidyTerm_any h
end Go.Proofs.Ytlmnmdahphahfaa
