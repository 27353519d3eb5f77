/-
  Types compared; ReplaceAt, the program's side.
-/
import Derived.Test.YtlmnmdahphahfaaTmRm
import Derived.DeepKeys
namespace Go.Proofs.Ytlmnmdahphahfaa
open Go.RowKit

theorem run_eq_int (d : Nat) (x y : Int) (W : World) : (Op.equalIn (d + 1) tInt (.int .i64 x) (.int .i64 y)).run Try.prog W = .ok (x == y) W := by
  unfold Op.equalIn
  simp [run_underlying Try.underlying3]
theorem part_w0 (a b : Int) (W : World) : (part tInt #[.int .i64 a, .int .i64 b] 0).run Try.prog W = .ok (.int .i64 a) W := by kernel_rfl
theorem part_w1 (a b : Int) (W : World) : (part tInt #[.int .i64 a, .int .i64 b] 1).run Try.prog W = .ok (.int .i64 b) W := by kernel_rfl
theorem wires_ne (a b c d : Int) (W : World) : (binOp .neq tWires (.agg #[.int .i64 a, .int .i64 b]) (.agg #[.int .i64 c, .int .i64 d])).run Try.prog W = .ok (.bool (decide (¬ (a = c ∧ b = d)))) W := by
  have hk : ∀ m, (Op.equalIn (m + 1 + 1) tWires (.agg #[.int .i64 a, .int .i64 b]) (.agg #[.int .i64 c, .int .i64 d])).run Try.prog W = .ok (decide (a = c ∧ b = d)) W := by
    intro m
    conv => lhs; unfold Op.equalIn
    simp only [Sem.run_bind, run_underlying Try.underlying54, Result.andThen_ok]
    simp [part_w0, part_w1, run_eq_int]
    by_cases h1 : a = c <;> by_cases h2 : b = d <;> simp [h1, h2]
  have e0 : Op.maxDepth = (Op.maxDepth - 2) + 1 + 1 := rfl
  simp only [binOp, Op.equal, Sem.run_bind]
  rw [e0, hk]
  simp

set_option maxRecDepth 8000 in
set_option maxHeartbeats 8000000 in
theorem iReplaceAt_any {v v' : Value} {l s : List Nd} {fp fp' : List Nat} {w : World} (a : Int) (h : OwTm w v l fp) (h' : OwTm w v' s fp') :
    Calls Try.prog 34 #[v, .int .i64 a, v'] w (Ret2Tm (replM l a s) w) := by
  obtain ⟨A, c, rfl, hN, rfl⟩ := h
  obtain ⟨B, d, rfl, hN', rfl⟩ := h'
  obtain ⟨m, hm⟩ : ∃ m, m = l.length := ⟨_, rfl⟩
  obtain ⟨n, hn⟩ : ∃ n, n = s.length := ⟨_, rfl⟩
  obtain ⟨W, hW⟩ : ∃ W, W = ((w.alloc (.cells #[.slice A m c] tTerm)).alloc (.cells #[.slice B n d] tTerm)).alloc (.cells #[.slice none 0 0] tTerm) := ⟨_, rfl⟩
  obtain ⟨b0, k0, k1, k2, hz⟩ := three_boxes w (.cells #[.slice A m c] tTerm) (.cells #[.slice B n d] tTerm) (.cells #[.slice none 0 0] tTerm)
  rw [← hW] at b0 k0 k1 k2 hz
  have hr := hN.rd.below b0
  have hr' := hN'.rd.below b0
  have hcc := hN.2.1
  rw [← hm] at hcc
  have hC := iSubtermAt_any (v := .agg #[.slice A m c]) (l := l) (fp := fpA A) (w := W) a ⟨A, c, by rw [hm], hN.below b0, rfl⟩
  have hD := fun W' (hb : Below W.heap.size W W') => wires_any (v := .agg #[.slice B n d]) (l := s) (w := W') ⟨B, d, by rw [hn], hr'.below hb⟩
  obtain ⟨M, hM⟩ : ∃ M, M = replM l a s := ⟨_, rfl⟩
  obtain ⟨P, hP⟩ : ∃ x, x = (subM l a).1 := ⟨_, rfl⟩
  obtain ⟨pb, hpb⟩ : ∃ x, x = (subM l a).2 := ⟨_, rfl⟩
  unfold Ret2Tm at hC
  rw [← hP, ← hpb] at hC
  rw [← hM, ← hm, ← hn]
  clear hN hN'
  have b0_h := Lib.hid b0
  have k0_h := Lib.hid k0
  have k1_h := Lib.hid k1
  have k2_h := Lib.hid k2
  have hz_h := Lib.hid hz
  have hr_h := Lib.hid hr
  have hr'_h := Lib.hid hr'
  have hC_h := Lib.hid hC
  have hD_h := Lib.hid hD
  have hM_h := Lib.hid hM
  have hm_h := Lib.hid hm
  have hn_h := Lib.hid hn
  have hP_h := Lib.hid hP
  have hpb_h := Lib.hid hpb
  clear b0 k0 k1 k2 hz hr hr' hC hD hM hm hn hP hpb
  go_enter Try.func34, Try.ntmps34
  go_upto_region 1 with (fail)
  rw [← hW]
  clear hW
  obtain ⟨k0_c, k0_f⟩ := bx1 k0_h.out
  go_wp2_with (fail)
  refine (hC_h.out).mono ?_
  rintro e w1 ⟨v1, fp1, rfl, ⟨A1, c1, rfl, hN1, rfl⟩, hF1, hb1⟩
  clear k0_c k0_f
  obtain ⟨q, hq⟩ : ∃ q, q = P.length := ⟨_, rfl⟩
  rw [← hq]
  obtain ⟨W2, hW2⟩ : ∃ W2, W2 = w1.alloc (.cells #[.slice A1 q c1] tTerm) := ⟨_, rfl⟩
  have hb2 : Below w1.heap.size w1 W2 := by rw [hW2]; exact below_alloc _ _
  have k3 : W2.heap[w1.heap.size]? = some (.cells #[.slice A1 q c1] tTerm) := by rw [hW2]; exact heap_alloc_new _ _
  have hb12 := below_trans hb1 hb2 hb1.size
  replace k0_h := Lib.hid (box_below k0_h.out hb12)
  replace k1_h := Lib.hid (box_below k1_h.out hb12)
  replace k2_h := Lib.hid (box_below k2_h.out hb12)
  have hB2 := below_trans b0_h.out hb12 b0_h.out.size
  have hD2 := hD_h.out W2 hb12
  unfold TyA at hD2
  have hzb := hb1.size
  have hr1 := hN1.rd.below hb2
  obtain ⟨k1_c, k1_f⟩ := bx1 k1_h.out
  have hb2_h := Lib.hid hb2
  have hb12_h := Lib.hid hb12
  have hB2_h := Lib.hid hB2
  have k3_h := Lib.hid k3
  have hD2_h := Lib.hid hD2
  have hb1_h := Lib.hid hb1
  have hN1_h := Lib.hid hN1
  have hF1_h := Lib.hid hF1
  have hq_h := Lib.hid hq
  have hr1_h := Lib.hid hr1
  clear hb2 hb12 hB2 k3 hD2 hb1 hN1 hF1 hq hr1
  go_upto_region 2 with (fail)
  rw [← hW2]
  clear hW2
  go_wp2_with (fail)
  refine (hD2_h.out).mono ?_
  rintro e w3 ⟨ti, tz, tb, rfl, htb, htt, hb3⟩
  clear k1_c k1_f
  obtain ⟨W4, hW4⟩ : ∃ W4, W4 = w3.alloc (.cells #[.int .i64 ti, .int .i64 tz] tWires) := ⟨_, rfl⟩
  have hb4 : Below w3.heap.size w3 W4 := by rw [hW4]; exact below_alloc _ _
  have k4 : W4.heap[w3.heap.size]? = some (.cells #[.int .i64 ti, .int .i64 tz] tWires) := by rw [hW4]; exact heap_alloc_new _ _
  have hb34 := below_trans hb3 hb4 hb3.size
  replace k0_h := Lib.hid (box_below k0_h.out hb34)
  replace k1_h := Lib.hid (box_below k1_h.out hb34)
  replace k2_h := Lib.hid (box_below k2_h.out hb34)
  replace k3_h := Lib.hid (box_below k3_h.out hb34)
  have hB4 := below_trans hB2_h.out hb34 hB2_h.out.size
  have hb14 := below_trans hb12_h.out hb34 hb12_h.out.size
  have hz3 := hb34.size
  have hz2 := hb2_h.out.size
  have hrP := hr1_h.out.below hb34
  obtain ⟨s1, s2⟩ := set1 k2_h.out (.slice none 0 0)
  have hz0 := hz_h.out
  have hBs := below_keeps hB4 s2 hB4.size (fun k hk => by omega)
  have hb3_h := Lib.hid hb3
  have hb4_h := Lib.hid hb4
  have hb34_h := Lib.hid hb34
  have k4_h := Lib.hid k4
  have hB4_h := Lib.hid hB4
  have s1_h := Lib.hid s1
  have s2_h := Lib.hid s2
  have hBs_h := Lib.hid hBs
  have hb14_h := Lib.hid hb14
  have hrP_h := Lib.hid hrP
  have htb_h := Lib.hid htb
  have htt_h := Lib.hid htt
  clear hb3 hb4 hb34 k4 hB4 s1 s2 hBs hb14 hrP htb htt
  clear hz0
  obtain ⟨k2_c, k2_f⟩ := bx1 k2_h.out
  go_upto_region 3 with (fail)
  rw [← hW4]
  clear hW4
  cases pb
  case false =>
    have hM0 : M = ([], false) := by
      rw [hM_h.out]
      by_cases hN : treeM l = none
      · exact replM_t hN
      · refine replM_out (fun hh => ?_)
        have h2 := hpb_h.out
        unfold subM at h2
        rw [if_pos ⟨by cases h : treeM l with | none => exact absurd h hN | some t => rfl, hh.1, hh.2⟩] at h2
        cases h2
    have hM0_h := Lib.hid hM0
    clear hM0
    go_wp2_with (fail)
    refine bodyPost_ret (results_cell_tmp rfl _ _ (w.heap.size + 2) _ _ (0, 0) _ rfl s1_h.out Try.underlying30 rfl (by kernel_rfl)) rfl ?_
    exact Ret2Tm.no hM0_h.out hBs_h.out
  case true =>
  obtain ⟨t, k, hN, hkl, rfl⟩ : ∃ t k, treeM l = some t ∧ k < l.length ∧ a = ((k : Nat) : Int) := by
    have h2 := hpb_h.out
    unfold subM at h2
    split at h2
    · rename_i hh
      obtain ⟨h3, h4, h5⟩ := hh
      cases h : treeM l with
      | none => rw [h] at h3; cases h3
      | some t => exact ⟨t, a.toNat, rfl, by omega, by omega⟩
    · cases h2
  cases tb
  case false =>
    have hNs : treeM s = none := by cases h : treeM s with | none => rfl | some u => have h2 := htb_h.out; rw [h] at h2; cases h2
    have hM0 : M = ([], false) := by rw [hM_h.out]; exact replM_s hNs
    have hM0_h := Lib.hid hM0
    have hN_h := Lib.hid hN
    have hNs_h := Lib.hid hNs
    clear hM0 hN hNs
    go_wp2_with (fail)
    refine bodyPost_ret (results_cell_tmp rfl _ _ (w.heap.size + 2) _ _ (0, 0) _ rfl s1_h.out Try.underlying30 rfl (by kernel_rfl)) rfl ?_
    exact Ret2Tm.no hM0_h.out hBs_h.out
  case true =>
  obtain ⟨u, hNs⟩ : ∃ u, treeM s = some u := by cases h : treeM s with | none => have h2 := htb_h.out; rw [h] at h2; cases h2 | some u => exact ⟨u, rfl⟩
  have hty := htt_h.out u hNs
  have hml : m ≤ 400 := by
    have e : m = sz t := by rw [hm_h.out, (treeM_some hN).1]; rfl
    have := (treeM_some hN).2.2
    omega
  have hnl : n ≤ 400 := by
    have e : n = sz u := by rw [hn_h.out, (treeM_some hNs).1]; rfl
    have := (treeM_some hNs).2.2
    omega
  have hkm : k < m := by rw [hm_h.out]; exact hkl
  obtain ⟨p, -, hsk, hsp, hpf, -, -, hii, hoo, hpt⟩ := sub_at hN hkl
  have hPe : P = flat p := by rw [hP_h.out, subM_yes hN hkl]; exact hpf
  have hq1 : q = sz p := by rw [hq_h.out, hPe]; rfl
  have hE := wires_any (v := .agg #[.slice A1 q c1]) (l := P) (w := W4) ⟨A1, c1, by rw [hq_h.out], hrP_h.out⟩
  unfold TyA at hE
  obtain ⟨sb, hsb⟩ : ∃ x, x = subS l k := ⟨_, rfl⟩
  rw [← hsb] at hsk hsp
  obtain ⟨k3_c, k3_f⟩ := bx1 k3_h.out
  have hN_h := Lib.hid hN
  have hNs_h := Lib.hid hNs
  have hty_h := Lib.hid hty
  have hii_h := Lib.hid hii
  have hoo_h := Lib.hid hoo
  have hpt_h := Lib.hid hpt
  have hPe_h := Lib.hid hPe
  have hE_h := Lib.hid hE
  have hpf_h := Lib.hid hpf
  have hsb_h := Lib.hid hsb
  have hq1_h := Lib.hid hq1
  clear hN hNs hty hii hoo hpt hPe hE hpf hsb hq1
  go_wp2_with (fail)
  refine (hE_h.out).mono ?_
  rintro e w5 ⟨pi, po, pb2, rfl, hpb2, hpp, hb5⟩
  clear k3_c k3_f
  have hty2 := hpp p (by rw [hPe_h.out]; exact hpt_h.out)
  obtain ⟨W6, hW6⟩ : ∃ W6, W6 = w5.alloc (.cells #[.int .i64 pi, .int .i64 po] tWires) := ⟨_, rfl⟩
  have hb6 : Below w5.heap.size w5 W6 := by rw [hW6]; exact below_alloc _ _
  have k5 : W6.heap[w5.heap.size]? = some (.cells #[.int .i64 pi, .int .i64 po] tWires) := by rw [hW6]; exact heap_alloc_new _ _
  have hb56 := below_trans hb5 hb6 hb5.size
  replace k0_h := Lib.hid (box_below k0_h.out hb56)
  replace k1_h := Lib.hid (box_below k1_h.out hb56)
  replace k2_h := Lib.hid (box_below k2_h.out hb56)
  replace k3_h := Lib.hid (box_below k3_h.out hb56)
  replace k4_h := Lib.hid (box_below k4_h.out hb56)
  have hB6 := below_trans hB4_h.out hb56 hB4_h.out.size
  have hb16 := below_trans hb14_h.out hb56 hb14_h.out.size
  have hz6 := hb56.size
  clear s1_h s2_h hBs_h k2_c k2_f
  obtain ⟨s1, s2⟩ := set1 k2_h.out (.slice none 0 0)
  have hz0 := hz_h.out
  have hBs := below_keeps hB6 s2 hB6.size (fun k hk => by omega)
  clear hz0
  have hne := wires_ne pi po ti tz
  obtain ⟨k2_c, k2_f⟩ := bx1 k2_h.out
  obtain ⟨⟨z0, z1⟩, z2, z3⟩ := box2 k4_h.out
  obtain ⟨⟨z4, z5⟩, z6, z7⟩ := box2 k5
  by_cases he : pi = ti ∧ po = tz
  case neg =>
    have hM0 : M = ([], false) := by
      rw [hM_h.out]
      refine replM_ty hN_h.out hNs_h.out hii_h.out hoo_h.out (fun hh => he ?_)
      rw [← hty2, ← hty_h.out] at hh
      exact hh
    rw [decide_eq_true he] at hne
    have hM0_h := Lib.hid hM0
    have hpb2_h := Lib.hid hpb2
    have hpp_h := Lib.hid hpp
    have hb5_h := Lib.hid hb5
    have hb6_h := Lib.hid hb6
    have k5_h := Lib.hid k5
    have hb56_h := Lib.hid hb56
    have hB6_h := Lib.hid hB6
    have hb16_h := Lib.hid hb16
    have s1_h := Lib.hid s1
    have s2_h := Lib.hid s2
    have hBs_h := Lib.hid hBs
    have hty2_h := Lib.hid hty2
    have he_h := Lib.hid he
    clear hM0 hpb2 hpp hb5 hb6 k5 hb56 hB6 hb16 s1 s2 hBs hty2 he
    go_upto_region 6 with (fail)
    rw [← hW6]
    clear hW6
    go_wp2_with (fail)
    refine bodyPost_ret (results_cell_tmp rfl _ _ (w.heap.size + 2) _ _ (0, 0) _ rfl s1_h.out Try.underlying30 rfl (by kernel_rfl)) rfl ?_
    exact Ret2Tm.no hM0_h.out hBs_h.out
  case pos =>
  rw [decide_eq_false (fun h => h he)] at hne
  obtain ⟨rfl, rfl⟩ := he
  have hpb2_h := Lib.hid hpb2
  have hpp_h := Lib.hid hpp
  have hb5_h := Lib.hid hb5
  have hb6_h := Lib.hid hb6
  have k5_h := Lib.hid k5
  have hb56_h := Lib.hid hb56
  have hB6_h := Lib.hid hB6
  have hb16_h := Lib.hid hb16
  have s1_h := Lib.hid s1
  have s2_h := Lib.hid s2
  have hBs_h := Lib.hid hBs
  have hty2_h := Lib.hid hty2
  clear hpb2 hpp hb5 hb6 k5 hb56 hB6 hb16 s1 s2 hBs hty2
  go_upto_region 6 with (fail)
  rw [← hW6]
  clear hW6
  go_wp2_with (fail)
  obtain ⟨ad, -, -, -, rfl, -, -⟩ := (hr_h.out.below hb16_h.out).at_ (j := 0) (by omega)
  have hr6 := hr_h.out.below hb16_h.out
  have hr6' := hr'_h.out.below hb16_h.out
  have hM1 : M = okM (l.take sb ++ s ++ l.drop (k + 1)) := by
    rw [hM_h.out, hsb_h.out]
    have e1 := hii_h.out
    have e2 := hoo_h.out
    have e3 := hty2_h.out
    rw [hty_h.out] at e3
    exact replM_yes hN_h.out hNs_h.out hkl (by rw [e1, e3]) (by rw [e2, e3])
  obtain ⟨La, hLa⟩ : ∃ x, x = l.take sb := ⟨_, rfl⟩
  obtain ⟨Lc, hLc⟩ : ∃ x, x = l.drop (k + 1) := ⟨_, rfl⟩
  rw [← hLa, ← hLc] at hM1
  have hla : La.length = sb := by rw [hLa, List.length_take]; omega
  have hlc : Lc.length = m - (k + 1) := by rw [hLc, List.length_drop, hm_h.out]
  have hra : RdN W6 (some ad) La := by rw [hLa]; exact hr6.front sb
  have hrc : RdN W6 (some (ad.add ((k + 1) * 3))) Lc := by
    have := hr6.cut (k + 1) m
    rw [hm_h.out, List.take_of_length_le (Nat.le_refl _), ← hLc] at this
    exact this
  have hsp2 : sb + q = k + 1 := by rw [hq1_h.out]; exact hsp
  have hsc : sb ≤ c := by omega
  have hs0 : (0 : Int) ≤ (sb : Int) := by omega
  have hsc2 : (sb : Int) ≤ (c : Int) := by omega
  have hw1 : IntKind.i64.wrap ((k : Int) + 1) = (k : Int) + 1 := IntWalk.i64_in _ (by omega)
  have hw2 : IntKind.i64.wrap ((k : Int) + 1 - (q : Int)) = (sb : Int) := by rw [show (k : Int) + 1 - (q : Int) = (sb : Int) by omega]; exact IntWalk.i64_in _ (by omega)
  have hk1 : (0 : Int) ≤ (k : Int) + 1 := by omega
  have hk2 : (k : Int) + 1 ≤ (m : Int) := by omega
  have hk3 : ((k : Int) + 1).toNat = k + 1 := by omega
  have hk4 : k + 1 ≤ m := by omega
  have hmc : (m : Int) ≤ (c : Int) := by omega
  have hsb4 : sb ≤ 400 := by omega
  have hlc4 : m - (k + 1) ≤ 400 := by omega
  clear k2_c k2_f
  clear z0 z1 z2 z3 z4 z5 z6 z7 hne hsk hsp
  have hr6_h := Lib.hid hr6
  have hr6'_h := Lib.hid hr6'
  have hM1_h := Lib.hid hM1
  have hLa_h := Lib.hid hLa
  have hLc_h := Lib.hid hLc
  have hla_h := Lib.hid hla
  have hlc_h := Lib.hid hlc
  have hra_h := Lib.hid hra
  have hrc_h := Lib.hid hrc
  have hsp2_h := Lib.hid hsp2
  clear hr6 hr6' hM1 hLa hLc hla hlc hra hrc hsp2
  by_cases hck : c = k + 1
  · obtain rfl : m = k + 1 := by omega
    subst hck
    have hsc3 : (sb : Int) ≤ (k : Int) + 1 := by omega
    have hrcX : RdN W6 (some ad) Lc := by
      have h1 := hlc_h.out
      rw [Nat.sub_self] at h1
      rw [List.eq_nil_of_length_eq_zero h1]; exact RdN.nil _ _
    have hlcX : Lc.length = 0 := by rw [hlc_h.out]; omega
    refine beginH (fun w' => w'.heap[w.heap.size]? = some (.cells #[.slice (some ad) (k + 1) (k + 1)] tTerm) ∧ w'.heap[w.heap.size + 1]? = some (.cells #[.slice B n d] tTerm) ∧ w'.heap[w1.heap.size]? = some (.cells #[.slice A1 q c1] tTerm)) (by kernel_rfl) ?_
    have hbd : Below W6.heap.size W6 W6.drew := below_drew (Below.refl _ _)
    generalize W6.drew = W7 at hbd ⊢
    replace k0_h := Lib.hid (box_below k0_h.out hbd)
    replace k1_h := Lib.hid (box_below k1_h.out hbd)
    replace k2_h := Lib.hid (box_below k2_h.out hbd)
    replace k3_h := Lib.hid (box_below k3_h.out hbd)
    have hB7 := below_trans hB6_h.out hbd hB6_h.out.size
    have hra7 := hra_h.out.below hbd
    have hrs7 := hr6'_h.out.below hbd
    have hrc7 := hrcX.below hbd
    have hal := below_alloc W7 (.cells #[.slice (some ad) sb (k + 1), .slice B n d, .slice (some ad) 0 0] 28)
    have hsl := Sl.laid W7 28 1 3 #[.slice (some ad) sb (k + 1), .slice B n d, .slice (some ad) 0 0] (by unfold maxLen; omega) rfl
    have k0a := box_below k0_h.out hal
    have k1a := box_below k1_h.out hal
    have k3a := box_below k3_h.out hal
    have k2a := box_below k2_h.out hal
    have hB8 := below_trans hB7 hal hB7.size
    have hrd : RdC (W7.alloc (.cells #[.slice (some ad) sb (k + 1), .slice B n d, .slice (some ad) 0 0] 28)) (some ⟨W7.heap.size, 0, none⟩) ([(some ad, (k + 1), La), (B, d, s), ((some ad), 0, Lc)].map pv) := by
      show RdC _ _ [.slice (some ad) La.length (k + 1), .slice B s.length d, .slice (some ad) Lc.length 0]
      rw [hla_h.out, ← hn_h.out, hlcX]
      exact hsl.rdc
    have hfl : pfl [(some ad, (k + 1), La), (B, d, s), ((some ad), 0, Lc)] = La ++ s ++ Lc := by simp [pfl]
    have hCc := concat_any ⟨W7.heap.size, 0, none⟩ 3 3 [(some ad, (k + 1), La), (B, d, s), ((some ad), 0, Lc)] _ rfl hrd (fun r hr => by
      rcases List.mem_cons.1 hr with rfl | hr
      · exact hra7.below hal
      · rcases List.mem_cons.1 hr with rfl | hr
        · exact hrs7.below hal
        · rcases List.mem_cons.1 hr with rfl | hr
          · exact hrc7.below hal
          · cases hr) (by rw [hfl, List.length_append, List.length_append, hla_h.out, hlcX, ← hn_h.out]; omega) (by omega)
    rw [hfl] at hCc
    have hz7 := hbd.size
    clear hrd hfl hsl
    have hrcX_h := Lib.hid hrcX
    have hlcX_h := Lib.hid hlcX
    have hbd_h := Lib.hid hbd
    have hB7_h := Lib.hid hB7
    have hra7_h := Lib.hid hra7
    have hrs7_h := Lib.hid hrs7
    have hrc7_h := Lib.hid hrc7
    have hal_h := Lib.hid hal
    have k0a_h := Lib.hid k0a
    have k1a_h := Lib.hid k1a
    have k3a_h := Lib.hid k3a
    have k2a_h := Lib.hid k2a
    have hB8_h := Lib.hid hB8
    have hCc_h := Lib.hid hCc
    clear hrcX hlcX hbd hB7 hra7 hrs7 hrc7 hal k0a k1a k3a k2a hB8 hCc
    refine takeH 0 (v := ?_) rfl (by kernel_rfl) (by kernel_rfl) (by kernel_rfl) (fun _ _ _ h => h) ⟨k0_h.out, k1_h.out, k3_h.out⟩ (by rfl) (fun W' hW' => ?_) ?_; rotate_left; · (obtain ⟨y0, y1⟩ := bx1 hW'.1; obtain ⟨y2, y3⟩ := bx1 hW'.2.1; obtain ⟨y4, y5⟩ := bx1 hW'.2.2; clear hW'; go_simp; first | done | with_reducible rfl)
    simp only [Act.put, List.setIfInBounds_toArray, List.set_cons_zero, List.set_cons_succ]
    refine takeH 1 (v := ?_) rfl (by kernel_rfl) (by kernel_rfl) (by kernel_rfl) (fun _ _ _ h => h) ⟨k0_h.out, k1_h.out, k3_h.out⟩ (by rfl) (fun W' hW' => ?_) ?_; rotate_left; · (obtain ⟨y0, y1⟩ := bx1 hW'.1; obtain ⟨y2, y3⟩ := bx1 hW'.2.1; obtain ⟨y4, y5⟩ := bx1 hW'.2.2; clear hW'; go_simp; first | done | with_reducible rfl)
    simp only [Act.put, List.setIfInBounds_toArray, List.set_cons_zero, List.set_cons_succ]
    refine takeH 2 (v := ?_) rfl (by kernel_rfl) (by kernel_rfl) (by kernel_rfl) (fun _ _ _ h => h) ⟨k0_h.out, k1_h.out, k3_h.out⟩ (by rfl) (fun W' hW' => ?_) ?_; rotate_left; · (obtain ⟨y0, y1⟩ := bx1 hW'.1; obtain ⟨y2, y3⟩ := bx1 hW'.2.1; obtain ⟨y4, y5⟩ := bx1 hW'.2.2; clear hW'; go_simp; first | done | with_reducible rfl)
    simp only [Act.put, List.setIfInBounds_toArray, List.set_cons_zero, List.set_cons_succ]
    refine takeH 3 (v := ?_) rfl (by kernel_rfl) (by kernel_rfl) (by kernel_rfl) (fun _ _ _ h => h) ⟨k0_h.out, k1_h.out, k3_h.out⟩ (by rfl) (fun W' hW' => ?_) ?_; rotate_left; · (obtain ⟨y0, y1⟩ := bx1 hW'.1; obtain ⟨y2, y3⟩ := bx1 hW'.2.1; obtain ⟨y4, y5⟩ := bx1 hW'.2.2; clear hW'; go_simp; first | done | with_reducible rfl)
    simp only [Act.put, List.setIfInBounds_toArray, List.set_cons_zero, List.set_cons_succ]
    refine takeH 4 (v := ?_) rfl (by kernel_rfl) (by kernel_rfl) (by kernel_rfl) (fun _ _ _ h => h) ⟨k0_h.out, k1_h.out, k3_h.out⟩ (by rfl) (fun W' hW' => ?_) ?_; rotate_left; · (obtain ⟨y0, y1⟩ := bx1 hW'.1; obtain ⟨y2, y3⟩ := bx1 hW'.2.1; obtain ⟨y4, y5⟩ := bx1 hW'.2.2; clear hW'; go_simp; first | done | with_reducible rfl)
    simp only [Act.put, List.setIfInBounds_toArray, List.set_cons_zero, List.set_cons_succ]
    refine takeH 5 (v := ?_) rfl (by kernel_rfl) (by kernel_rfl) (by kernel_rfl) (fun _ _ _ h => h) ⟨k0_h.out, k1_h.out, k3_h.out⟩ (by rfl) (fun W' hW' => ?_) ?_; rotate_left; · (obtain ⟨y0, y1⟩ := bx1 hW'.1; obtain ⟨y2, y3⟩ := bx1 hW'.2.1; obtain ⟨y4, y5⟩ := bx1 hW'.2.2; clear hW'; go_simp; first | done | with_reducible rfl)
    simp only [Act.put, List.setIfInBounds_toArray, List.set_cons_zero, List.set_cons_succ]
    refine takeH 6 (v := ?_) rfl (by kernel_rfl) (by kernel_rfl) (by kernel_rfl) (fun _ _ _ h => h) ⟨k0_h.out, k1_h.out, k3_h.out⟩ (by rfl) (fun W' hW' => ?_) ?_; rotate_left; · (obtain ⟨y0, y1⟩ := bx1 hW'.1; obtain ⟨y2, y3⟩ := bx1 hW'.2.1; obtain ⟨y4, y5⟩ := bx1 hW'.2.2; clear hW'; go_simp; first | done | with_reducible rfl)
    simp only [Act.put, List.setIfInBounds_toArray, List.set_cons_zero, List.set_cons_succ]
    refine takeH 7 (v := ?_) rfl (by kernel_rfl) (by kernel_rfl) (by kernel_rfl) (fun _ _ _ h => h) ⟨k0_h.out, k1_h.out, k3_h.out⟩ (by rfl) (fun W' hW' => ?_) ?_; rotate_left; · (obtain ⟨y0, y1⟩ := bx1 hW'.1; obtain ⟨y2, y3⟩ := bx1 hW'.2.1; obtain ⟨y4, y5⟩ := bx1 hW'.2.2; clear hW'; go_simp; first | done | with_reducible rfl)
    simp only [Act.put, List.setIfInBounds_toArray, List.set_cons_zero, List.set_cons_succ]
    refine takeH 8 (v := ?_) rfl (by kernel_rfl) (by kernel_rfl) (by kernel_rfl) (fun _ _ _ h => h) ⟨k0_h.out, k1_h.out, k3_h.out⟩ (by rfl) (fun W' hW' => ?_) ?_; rotate_left; · (obtain ⟨y0, y1⟩ := bx1 hW'.1; obtain ⟨y2, y3⟩ := bx1 hW'.2.1; obtain ⟨y4, y5⟩ := bx1 hW'.2.2; clear hW'; go_simp; first | done | with_reducible rfl)
    simp only [Act.put, List.setIfInBounds_toArray, List.set_cons_zero, List.set_cons_succ]
    refine takeH 9 (v := ?_) rfl (by kernel_rfl) (by kernel_rfl) (by kernel_rfl) (fun _ _ _ h => h) ⟨k0_h.out, k1_h.out, k3_h.out⟩ (by rfl) (fun W' hW' => ?_) ?_; rotate_left; · (obtain ⟨y0, y1⟩ := bx1 hW'.1; obtain ⟨y2, y3⟩ := bx1 hW'.2.1; obtain ⟨y4, y5⟩ := bx1 hW'.2.2; clear hW'; go_simp; first | done | with_reducible rfl)
    simp only [Act.put, List.setIfInBounds_toArray, List.set_cons_zero, List.set_cons_succ]
    refine takeH 10 (v := ?_) rfl (by kernel_rfl) (by kernel_rfl) (by kernel_rfl) (fun _ _ _ h => h) ⟨k0_h.out, k1_h.out, k3_h.out⟩ (by rfl) (fun W' hW' => ?_) ?_; rotate_left; · (obtain ⟨y0, y1⟩ := bx1 hW'.1; obtain ⟨y2, y3⟩ := bx1 hW'.2.1; obtain ⟨y4, y5⟩ := bx1 hW'.2.2; clear hW'; go_simp; first | done | with_reducible rfl)
    simp only [Act.put, List.setIfInBounds_toArray, List.set_cons_zero, List.set_cons_succ]
    refine takeH 11 (v := ?_) rfl (by kernel_rfl) (by kernel_rfl) (by kernel_rfl) (fun _ _ _ h => h) ⟨k0_h.out, k1_h.out, k3_h.out⟩ (by rfl) (fun W' hW' => ?_) ?_; rotate_left; · (obtain ⟨y0, y1⟩ := bx1 hW'.1; obtain ⟨y2, y3⟩ := bx1 hW'.2.1; obtain ⟨y4, y5⟩ := bx1 hW'.2.2; clear hW'; go_simp; first | done | with_reducible rfl)
    simp only [Act.put, List.setIfInBounds_toArray, List.set_cons_zero, List.set_cons_succ]
    refine takeH 12 (v := ?_) rfl (by kernel_rfl) (by kernel_rfl) (by kernel_rfl) (fun _ _ _ h => h) ⟨k0_h.out, k1_h.out, k3_h.out⟩ (by rfl) (fun W' hW' => ?_) ?_; rotate_left; · (obtain ⟨y0, y1⟩ := bx1 hW'.1; obtain ⟨y2, y3⟩ := bx1 hW'.2.1; obtain ⟨y4, y5⟩ := bx1 hW'.2.2; clear hW'; go_simp; first | done | with_reducible rfl)
    simp only [Act.put, List.setIfInBounds_toArray, List.set_cons_zero, List.set_cons_succ]
    refine takeH 13 (v := ?_) rfl (by kernel_rfl) (by kernel_rfl) (by kernel_rfl) (fun _ _ _ h => h) ⟨k0_h.out, k1_h.out, k3_h.out⟩ (by rfl) (fun W' hW' => ?_) ?_; rotate_left; · (obtain ⟨y0, y1⟩ := bx1 hW'.1; obtain ⟨y2, y3⟩ := bx1 hW'.2.1; obtain ⟨y4, y5⟩ := bx1 hW'.2.2; clear hW'; go_simp; first | done | with_reducible rfl)
    simp only [Act.put, List.setIfInBounds_toArray, List.set_cons_zero, List.set_cons_succ]
    refine takeH 14 (v := ?_) rfl (by kernel_rfl) (by kernel_rfl) (by kernel_rfl) (fun _ _ _ h => h) ⟨k0_h.out, k1_h.out, k3_h.out⟩ (by rfl) (fun W' hW' => ?_) ?_; rotate_left; · (obtain ⟨y0, y1⟩ := bx1 hW'.1; obtain ⟨y2, y3⟩ := bx1 hW'.2.1; obtain ⟨y4, y5⟩ := bx1 hW'.2.2; clear hW'; go_simp; first | done | with_reducible rfl)
    simp only [Act.put, List.setIfInBounds_toArray, List.set_cons_zero, List.set_cons_succ]
    refine takeH 15 (v := ?_) rfl (by kernel_rfl) (by kernel_rfl) (by kernel_rfl) (fun _ _ _ h => h) ⟨k0_h.out, k1_h.out, k3_h.out⟩ (by rfl) (fun W' hW' => ?_) ?_; rotate_left; · (obtain ⟨y0, y1⟩ := bx1 hW'.1; obtain ⟨y2, y3⟩ := bx1 hW'.2.1; obtain ⟨y4, y5⟩ := bx1 hW'.2.2; clear hW'; go_simp; first | done | with_reducible rfl)
    simp only [Act.put, List.setIfInBounds_toArray, List.set_cons_zero, List.set_cons_succ]
    refine oneH 16 rfl (by kernel_rfl) (by rfl) (fun K hK => ?_)
    go_simp
    refine hK _ _ ⟨k0a_h.out, k1a_h.out, k3a_h.out⟩ ?_
    clear hK K
    refine' callH 17 (f := _) (args := _) rfl (by kernel_rfl) (by rfl) ?_ ?_; rotate_left 2; · (go_simp; first | done | with_reducible rfl | (constructor <;> with_reducible rfl))
    refine (hCc_h.out).mono ?_
    rintro e w9 ⟨A9, c9, m9, rfl, hm9, hS9, hF9, hb9⟩
    replace k0a_h := Lib.hid (box_below k0a_h.out hb9)
    replace k1a_h := Lib.hid (box_below k1a_h.out hb9)
    replace k3a_h := Lib.hid (box_below k3a_h.out hb9)
    replace k2a_h := Lib.hid (box_below k2a_h.out hb9)
    have hB9 := below_trans hB8_h.out hb9 hB8_h.out.size
    have hV := validTerm_any hS9 hm9
    rw [← hM1_h.out] at hV
    have hG9 : ∀ x, x ∈ fpA A9 → W7.heap.size ≤ x := fun x hx => by have := hF9 x hx; rw [World.size_alloc] at this; omega
    refine ⟨_, rfl, ⟨k0a_h.out, k1a_h.out, k3a_h.out⟩, ?_⟩
    have hm9_h := Lib.hid hm9
    have hS9_h := Lib.hid hS9
    have hF9_h := Lib.hid hF9
    have hb9_h := Lib.hid hb9
    have hB9_h := Lib.hid hB9
    have hV_h := Lib.hid hV
    have hG9_h := Lib.hid hG9
    clear hm9 hS9 hF9 hb9 hB9 hV hG9
    simp only [Act.put, List.setIfInBounds_toArray, List.set_cons_zero, List.set_cons_succ]
    refine' callH 18 (f := _) (args := _) rfl (by kernel_rfl) (by rfl) ?_ ?_; rotate_left 2; · (go_simp; first | done | with_reducible rfl | (constructor <;> with_reducible rfl))
    refine (hV_h.out).mono ?_
    rintro e w10 ⟨v10, fp10, rfl, ⟨A10, c10, rfl, hN10, rfl⟩, hF10, hb10⟩
    replace k0a_h := Lib.hid (box_below k0a_h.out hb10)
    replace k1a_h := Lib.hid (box_below k1a_h.out hb10)
    replace k3a_h := Lib.hid (box_below k3a_h.out hb10)
    replace k2a_h := Lib.hid (box_below k2a_h.out hb10)
    have hB10 := below_trans hB9_h.out hb10 hB9_h.out.size
    have hG10 : ∀ x, x ∈ fpA A10 → W7.heap.size ≤ x := fun x hx => hG9_h.out x (hF10 x hx)
    have hkk := box_lt k2_h.out
    have hkk3 := box_lt k3_h.out
    have hz0 := hz_h.out
    have hB7z := hB7_h.out.size
    obtain ⟨r1, r2⟩ := set1 k2a_h.out (.slice A10 M.1.length c10)
    have q0 := box_keeps k0a_h.out r2 (by omega)
    have q1 := box_keeps k1a_h.out r2 (by omega)
    have q3 := box_keeps k3a_h.out r2 (by omega)
    have hBn := below_keeps hB10 r2 hB10.size (fun x hx => by omega)
    have hNn := NS.keeps hN10 r2 (fun b hb e => by have := hG10 b hb; omega)
    have hFn : FreshL w.heap.size (fpA A10) := fun b hb => by have := hG10 b hb; omega
    obtain ⟨k2a_c, k2a_f⟩ := bx1 k2a_h.out
    refine ⟨_, rfl, ⟨k0a_h.out, k1a_h.out, k3a_h.out⟩, ?_⟩
    have hN10_h := Lib.hid hN10
    have hF10_h := Lib.hid hF10
    have hb10_h := Lib.hid hb10
    have hB10_h := Lib.hid hB10
    have hG10_h := Lib.hid hG10
    have r1_h := Lib.hid r1
    have r2_h := Lib.hid r2
    have q0_h := Lib.hid q0
    have q1_h := Lib.hid q1
    have q3_h := Lib.hid q3
    have hBn_h := Lib.hid hBn
    have hNn_h := Lib.hid hNn
    have hFn_h := Lib.hid hFn
    clear hN10 hF10 hb10 hB10 hG10 r1 r2 q0 q1 q3 hBn hNn hFn
    clear hz0
    simp only [Act.put, List.setIfInBounds_toArray, List.set_cons_zero, List.set_cons_succ]
    refine takeH 19 (v := ?_) rfl (by kernel_rfl) (by kernel_rfl) (by kernel_rfl) (fun _ _ _ h => h) ⟨k0a_h.out, k1a_h.out, k3a_h.out⟩ (by rfl) (fun W' hW' => ?_) ?_; rotate_left; · (skip; clear hW'; go_simp; first | done | with_reducible rfl)
    simp only [Act.put, List.setIfInBounds_toArray, List.set_cons_zero, List.set_cons_succ]
    refine takeH 20 (v := ?_) rfl (by kernel_rfl) (by kernel_rfl) (by kernel_rfl) (fun _ _ _ h => h) ⟨k0a_h.out, k1a_h.out, k3a_h.out⟩ (by rfl) (fun W' hW' => ?_) ?_; rotate_left; · (skip; clear hW'; go_simp; first | done | with_reducible rfl)
    simp only [Act.put, List.setIfInBounds_toArray, List.set_cons_zero, List.set_cons_succ]
    refine oneH 21 rfl (by kernel_rfl) (by rfl) (fun K hK => ?_)
    go_simp
    refine hK _ _ ⟨q0_h.out, q1_h.out, q3_h.out⟩ ?_
    clear hK K
    refine takeH 22 (v := ?_) rfl (by kernel_rfl) (by kernel_rfl) (by kernel_rfl) (fun _ _ _ h => h) ⟨q0_h.out, q1_h.out, q3_h.out⟩ (by rfl) (fun W' hW' => ?_) ?_; rotate_left; · (skip; clear hW'; go_simp; first | done | with_reducible rfl)
    simp only [Act.put, List.setIfInBounds_toArray, List.set_cons_zero, List.set_cons_succ]
    refine doneH (by kernel_rfl) ?_
    go_wp2_with (fail)
    refine bodyPost_ret (results_cell_tmp rfl _ _ (w.heap.size + 2) _ _ (0, 0) _ rfl r1_h.out Try.underlying30 rfl (by kernel_rfl)) rfl ?_
    exact ⟨_, fpA A10, rfl, ⟨A10, c10, rfl, hNn_h.out, rfl⟩, hFn_h.out, hBn_h.out⟩
  · have hck2 : k + 1 < c := by omega
    have hrcX : RdN W6 (some (ad.add ((k + 1) * 3))) Lc := hrc_h.out
    have hlcX : Lc.length = (m - (k + 1)) := by rw [hlc_h.out]
    refine beginH (fun w' => w'.heap[w.heap.size]? = some (.cells #[.slice (some ad) m c] tTerm) ∧ w'.heap[w.heap.size + 1]? = some (.cells #[.slice B n d] tTerm) ∧ w'.heap[w1.heap.size]? = some (.cells #[.slice A1 q c1] tTerm)) (by kernel_rfl) ?_
    have hbd : Below W6.heap.size W6 W6.drew := below_drew (Below.refl _ _)
    generalize W6.drew = W7 at hbd ⊢
    replace k0_h := Lib.hid (box_below k0_h.out hbd)
    replace k1_h := Lib.hid (box_below k1_h.out hbd)
    replace k2_h := Lib.hid (box_below k2_h.out hbd)
    replace k3_h := Lib.hid (box_below k3_h.out hbd)
    have hB7 := below_trans hB6_h.out hbd hB6_h.out.size
    have hra7 := hra_h.out.below hbd
    have hrs7 := hr6'_h.out.below hbd
    have hrc7 := hrcX.below hbd
    have hal := below_alloc W7 (.cells #[.slice (some ad) sb c, .slice B n d, .slice (some (ad.add ((k + 1) * 3))) (m - (k + 1)) (c - (k + 1))] 28)
    have hsl := Sl.laid W7 28 1 3 #[.slice (some ad) sb c, .slice B n d, .slice (some (ad.add ((k + 1) * 3))) (m - (k + 1)) (c - (k + 1))] (by unfold maxLen; omega) rfl
    have k0a := box_below k0_h.out hal
    have k1a := box_below k1_h.out hal
    have k3a := box_below k3_h.out hal
    have k2a := box_below k2_h.out hal
    have hB8 := below_trans hB7 hal hB7.size
    have hrd : RdC (W7.alloc (.cells #[.slice (some ad) sb c, .slice B n d, .slice (some (ad.add ((k + 1) * 3))) (m - (k + 1)) (c - (k + 1))] 28)) (some ⟨W7.heap.size, 0, none⟩) ([(some ad, c, La), (B, d, s), ((some (ad.add ((k + 1) * 3))), (c - (k + 1)), Lc)].map pv) := by
      show RdC _ _ [.slice (some ad) La.length c, .slice B s.length d, .slice (some (ad.add ((k + 1) * 3))) Lc.length (c - (k + 1))]
      rw [hla_h.out, ← hn_h.out, hlcX]
      exact hsl.rdc
    have hfl : pfl [(some ad, c, La), (B, d, s), ((some (ad.add ((k + 1) * 3))), (c - (k + 1)), Lc)] = La ++ s ++ Lc := by simp [pfl]
    have hCc := concat_any ⟨W7.heap.size, 0, none⟩ 3 3 [(some ad, c, La), (B, d, s), ((some (ad.add ((k + 1) * 3))), (c - (k + 1)), Lc)] _ rfl hrd (fun r hr => by
      rcases List.mem_cons.1 hr with rfl | hr
      · exact hra7.below hal
      · rcases List.mem_cons.1 hr with rfl | hr
        · exact hrs7.below hal
        · rcases List.mem_cons.1 hr with rfl | hr
          · exact hrc7.below hal
          · cases hr) (by rw [hfl, List.length_append, List.length_append, hla_h.out, hlcX, ← hn_h.out]; omega) (by omega)
    rw [hfl] at hCc
    have hz7 := hbd.size
    clear hrd hfl hsl
    have hrcX_h := Lib.hid hrcX
    have hlcX_h := Lib.hid hlcX
    have hbd_h := Lib.hid hbd
    have hB7_h := Lib.hid hB7
    have hra7_h := Lib.hid hra7
    have hrs7_h := Lib.hid hrs7
    have hrc7_h := Lib.hid hrc7
    have hal_h := Lib.hid hal
    have k0a_h := Lib.hid k0a
    have k1a_h := Lib.hid k1a
    have k3a_h := Lib.hid k3a
    have k2a_h := Lib.hid k2a
    have hB8_h := Lib.hid hB8
    have hCc_h := Lib.hid hCc
    clear hrcX hlcX hbd hB7 hra7 hrs7 hrc7 hal k0a k1a k3a k2a hB8 hCc
    refine takeH 0 (v := ?_) rfl (by kernel_rfl) (by kernel_rfl) (by kernel_rfl) (fun _ _ _ h => h) ⟨k0_h.out, k1_h.out, k3_h.out⟩ (by rfl) (fun W' hW' => ?_) ?_; rotate_left; · (obtain ⟨y0, y1⟩ := bx1 hW'.1; obtain ⟨y2, y3⟩ := bx1 hW'.2.1; obtain ⟨y4, y5⟩ := bx1 hW'.2.2; clear hW'; go_simp; first | done | with_reducible rfl)
    simp only [Act.put, List.setIfInBounds_toArray, List.set_cons_zero, List.set_cons_succ]
    refine takeH 1 (v := ?_) rfl (by kernel_rfl) (by kernel_rfl) (by kernel_rfl) (fun _ _ _ h => h) ⟨k0_h.out, k1_h.out, k3_h.out⟩ (by rfl) (fun W' hW' => ?_) ?_; rotate_left; · (obtain ⟨y0, y1⟩ := bx1 hW'.1; obtain ⟨y2, y3⟩ := bx1 hW'.2.1; obtain ⟨y4, y5⟩ := bx1 hW'.2.2; clear hW'; go_simp; first | done | with_reducible rfl)
    simp only [Act.put, List.setIfInBounds_toArray, List.set_cons_zero, List.set_cons_succ]
    refine takeH 2 (v := ?_) rfl (by kernel_rfl) (by kernel_rfl) (by kernel_rfl) (fun _ _ _ h => h) ⟨k0_h.out, k1_h.out, k3_h.out⟩ (by rfl) (fun W' hW' => ?_) ?_; rotate_left; · (obtain ⟨y0, y1⟩ := bx1 hW'.1; obtain ⟨y2, y3⟩ := bx1 hW'.2.1; obtain ⟨y4, y5⟩ := bx1 hW'.2.2; clear hW'; go_simp; first | done | with_reducible rfl)
    simp only [Act.put, List.setIfInBounds_toArray, List.set_cons_zero, List.set_cons_succ]
    refine takeH 3 (v := ?_) rfl (by kernel_rfl) (by kernel_rfl) (by kernel_rfl) (fun _ _ _ h => h) ⟨k0_h.out, k1_h.out, k3_h.out⟩ (by rfl) (fun W' hW' => ?_) ?_; rotate_left; · (obtain ⟨y0, y1⟩ := bx1 hW'.1; obtain ⟨y2, y3⟩ := bx1 hW'.2.1; obtain ⟨y4, y5⟩ := bx1 hW'.2.2; clear hW'; go_simp; first | done | with_reducible rfl)
    simp only [Act.put, List.setIfInBounds_toArray, List.set_cons_zero, List.set_cons_succ]
    refine takeH 4 (v := ?_) rfl (by kernel_rfl) (by kernel_rfl) (by kernel_rfl) (fun _ _ _ h => h) ⟨k0_h.out, k1_h.out, k3_h.out⟩ (by rfl) (fun W' hW' => ?_) ?_; rotate_left; · (obtain ⟨y0, y1⟩ := bx1 hW'.1; obtain ⟨y2, y3⟩ := bx1 hW'.2.1; obtain ⟨y4, y5⟩ := bx1 hW'.2.2; clear hW'; go_simp; first | done | with_reducible rfl)
    simp only [Act.put, List.setIfInBounds_toArray, List.set_cons_zero, List.set_cons_succ]
    refine takeH 5 (v := ?_) rfl (by kernel_rfl) (by kernel_rfl) (by kernel_rfl) (fun _ _ _ h => h) ⟨k0_h.out, k1_h.out, k3_h.out⟩ (by rfl) (fun W' hW' => ?_) ?_; rotate_left; · (obtain ⟨y0, y1⟩ := bx1 hW'.1; obtain ⟨y2, y3⟩ := bx1 hW'.2.1; obtain ⟨y4, y5⟩ := bx1 hW'.2.2; clear hW'; go_simp; first | done | with_reducible rfl)
    simp only [Act.put, List.setIfInBounds_toArray, List.set_cons_zero, List.set_cons_succ]
    refine takeH 6 (v := ?_) rfl (by kernel_rfl) (by kernel_rfl) (by kernel_rfl) (fun _ _ _ h => h) ⟨k0_h.out, k1_h.out, k3_h.out⟩ (by rfl) (fun W' hW' => ?_) ?_; rotate_left; · (obtain ⟨y0, y1⟩ := bx1 hW'.1; obtain ⟨y2, y3⟩ := bx1 hW'.2.1; obtain ⟨y4, y5⟩ := bx1 hW'.2.2; clear hW'; go_simp; first | done | with_reducible rfl)
    simp only [Act.put, List.setIfInBounds_toArray, List.set_cons_zero, List.set_cons_succ]
    refine takeH 7 (v := ?_) rfl (by kernel_rfl) (by kernel_rfl) (by kernel_rfl) (fun _ _ _ h => h) ⟨k0_h.out, k1_h.out, k3_h.out⟩ (by rfl) (fun W' hW' => ?_) ?_; rotate_left; · (obtain ⟨y0, y1⟩ := bx1 hW'.1; obtain ⟨y2, y3⟩ := bx1 hW'.2.1; obtain ⟨y4, y5⟩ := bx1 hW'.2.2; clear hW'; go_simp; first | done | with_reducible rfl)
    simp only [Act.put, List.setIfInBounds_toArray, List.set_cons_zero, List.set_cons_succ]
    refine takeH 8 (v := ?_) rfl (by kernel_rfl) (by kernel_rfl) (by kernel_rfl) (fun _ _ _ h => h) ⟨k0_h.out, k1_h.out, k3_h.out⟩ (by rfl) (fun W' hW' => ?_) ?_; rotate_left; · (obtain ⟨y0, y1⟩ := bx1 hW'.1; obtain ⟨y2, y3⟩ := bx1 hW'.2.1; obtain ⟨y4, y5⟩ := bx1 hW'.2.2; clear hW'; go_simp; first | done | with_reducible rfl)
    simp only [Act.put, List.setIfInBounds_toArray, List.set_cons_zero, List.set_cons_succ]
    refine takeH 9 (v := ?_) rfl (by kernel_rfl) (by kernel_rfl) (by kernel_rfl) (fun _ _ _ h => h) ⟨k0_h.out, k1_h.out, k3_h.out⟩ (by rfl) (fun W' hW' => ?_) ?_; rotate_left; · (obtain ⟨y0, y1⟩ := bx1 hW'.1; obtain ⟨y2, y3⟩ := bx1 hW'.2.1; obtain ⟨y4, y5⟩ := bx1 hW'.2.2; clear hW'; go_simp; first | done | with_reducible rfl)
    simp only [Act.put, List.setIfInBounds_toArray, List.set_cons_zero, List.set_cons_succ]
    refine takeH 10 (v := ?_) rfl (by kernel_rfl) (by kernel_rfl) (by kernel_rfl) (fun _ _ _ h => h) ⟨k0_h.out, k1_h.out, k3_h.out⟩ (by rfl) (fun W' hW' => ?_) ?_; rotate_left; · (obtain ⟨y0, y1⟩ := bx1 hW'.1; obtain ⟨y2, y3⟩ := bx1 hW'.2.1; obtain ⟨y4, y5⟩ := bx1 hW'.2.2; clear hW'; go_simp; first | done | with_reducible rfl)
    simp only [Act.put, List.setIfInBounds_toArray, List.set_cons_zero, List.set_cons_succ]
    refine takeH 11 (v := ?_) rfl (by kernel_rfl) (by kernel_rfl) (by kernel_rfl) (fun _ _ _ h => h) ⟨k0_h.out, k1_h.out, k3_h.out⟩ (by rfl) (fun W' hW' => ?_) ?_; rotate_left; · (obtain ⟨y0, y1⟩ := bx1 hW'.1; obtain ⟨y2, y3⟩ := bx1 hW'.2.1; obtain ⟨y4, y5⟩ := bx1 hW'.2.2; clear hW'; go_simp; first | done | with_reducible rfl)
    simp only [Act.put, List.setIfInBounds_toArray, List.set_cons_zero, List.set_cons_succ]
    refine takeH 12 (v := ?_) rfl (by kernel_rfl) (by kernel_rfl) (by kernel_rfl) (fun _ _ _ h => h) ⟨k0_h.out, k1_h.out, k3_h.out⟩ (by rfl) (fun W' hW' => ?_) ?_; rotate_left; · (obtain ⟨y0, y1⟩ := bx1 hW'.1; obtain ⟨y2, y3⟩ := bx1 hW'.2.1; obtain ⟨y4, y5⟩ := bx1 hW'.2.2; clear hW'; go_simp; first | done | with_reducible rfl)
    simp only [Act.put, List.setIfInBounds_toArray, List.set_cons_zero, List.set_cons_succ]
    refine takeH 13 (v := ?_) rfl (by kernel_rfl) (by kernel_rfl) (by kernel_rfl) (fun _ _ _ h => h) ⟨k0_h.out, k1_h.out, k3_h.out⟩ (by rfl) (fun W' hW' => ?_) ?_; rotate_left; · (obtain ⟨y0, y1⟩ := bx1 hW'.1; obtain ⟨y2, y3⟩ := bx1 hW'.2.1; obtain ⟨y4, y5⟩ := bx1 hW'.2.2; clear hW'; go_simp; first | done | with_reducible rfl)
    simp only [Act.put, List.setIfInBounds_toArray, List.set_cons_zero, List.set_cons_succ]
    refine takeH 14 (v := ?_) rfl (by kernel_rfl) (by kernel_rfl) (by kernel_rfl) (fun _ _ _ h => h) ⟨k0_h.out, k1_h.out, k3_h.out⟩ (by rfl) (fun W' hW' => ?_) ?_; rotate_left; · (obtain ⟨y0, y1⟩ := bx1 hW'.1; obtain ⟨y2, y3⟩ := bx1 hW'.2.1; obtain ⟨y4, y5⟩ := bx1 hW'.2.2; clear hW'; go_simp; first | done | with_reducible rfl)
    simp only [Act.put, List.setIfInBounds_toArray, List.set_cons_zero, List.set_cons_succ]
    refine takeH 15 (v := ?_) rfl (by kernel_rfl) (by kernel_rfl) (by kernel_rfl) (fun _ _ _ h => h) ⟨k0_h.out, k1_h.out, k3_h.out⟩ (by rfl) (fun W' hW' => ?_) ?_; rotate_left; · (obtain ⟨y0, y1⟩ := bx1 hW'.1; obtain ⟨y2, y3⟩ := bx1 hW'.2.1; obtain ⟨y4, y5⟩ := bx1 hW'.2.2; clear hW'; go_simp; first | done | with_reducible rfl)
    simp only [Act.put, List.setIfInBounds_toArray, List.set_cons_zero, List.set_cons_succ]
    refine oneH 16 rfl (by kernel_rfl) (by rfl) (fun K hK => ?_)
    go_simp
    refine hK _ _ ⟨k0a_h.out, k1a_h.out, k3a_h.out⟩ ?_
    clear hK K
    refine' callH 17 (f := _) (args := _) rfl (by kernel_rfl) (by rfl) ?_ ?_; rotate_left 2; · (go_simp; first | done | with_reducible rfl | (constructor <;> with_reducible rfl))
    refine (hCc_h.out).mono ?_
    rintro e w9 ⟨A9, c9, m9, rfl, hm9, hS9, hF9, hb9⟩
    replace k0a_h := Lib.hid (box_below k0a_h.out hb9)
    replace k1a_h := Lib.hid (box_below k1a_h.out hb9)
    replace k3a_h := Lib.hid (box_below k3a_h.out hb9)
    replace k2a_h := Lib.hid (box_below k2a_h.out hb9)
    have hB9 := below_trans hB8_h.out hb9 hB8_h.out.size
    have hV := validTerm_any hS9 hm9
    rw [← hM1_h.out] at hV
    have hG9 : ∀ x, x ∈ fpA A9 → W7.heap.size ≤ x := fun x hx => by have := hF9 x hx; rw [World.size_alloc] at this; omega
    refine ⟨_, rfl, ⟨k0a_h.out, k1a_h.out, k3a_h.out⟩, ?_⟩
    have hm9_h := Lib.hid hm9
    have hS9_h := Lib.hid hS9
    have hF9_h := Lib.hid hF9
    have hb9_h := Lib.hid hb9
    have hB9_h := Lib.hid hB9
    have hV_h := Lib.hid hV
    have hG9_h := Lib.hid hG9
    clear hm9 hS9 hF9 hb9 hB9 hV hG9
    simp only [Act.put, List.setIfInBounds_toArray, List.set_cons_zero, List.set_cons_succ]
    refine' callH 18 (f := _) (args := _) rfl (by kernel_rfl) (by rfl) ?_ ?_; rotate_left 2; · (go_simp; first | done | with_reducible rfl | (constructor <;> with_reducible rfl))
    refine (hV_h.out).mono ?_
    rintro e w10 ⟨v10, fp10, rfl, ⟨A10, c10, rfl, hN10, rfl⟩, hF10, hb10⟩
    replace k0a_h := Lib.hid (box_below k0a_h.out hb10)
    replace k1a_h := Lib.hid (box_below k1a_h.out hb10)
    replace k3a_h := Lib.hid (box_below k3a_h.out hb10)
    replace k2a_h := Lib.hid (box_below k2a_h.out hb10)
    have hB10 := below_trans hB9_h.out hb10 hB9_h.out.size
    have hG10 : ∀ x, x ∈ fpA A10 → W7.heap.size ≤ x := fun x hx => hG9_h.out x (hF10 x hx)
    have hkk := box_lt k2_h.out
    have hkk3 := box_lt k3_h.out
    have hz0 := hz_h.out
    have hB7z := hB7_h.out.size
    obtain ⟨r1, r2⟩ := set1 k2a_h.out (.slice A10 M.1.length c10)
    have q0 := box_keeps k0a_h.out r2 (by omega)
    have q1 := box_keeps k1a_h.out r2 (by omega)
    have q3 := box_keeps k3a_h.out r2 (by omega)
    have hBn := below_keeps hB10 r2 hB10.size (fun x hx => by omega)
    have hNn := NS.keeps hN10 r2 (fun b hb e => by have := hG10 b hb; omega)
    have hFn : FreshL w.heap.size (fpA A10) := fun b hb => by have := hG10 b hb; omega
    obtain ⟨k2a_c, k2a_f⟩ := bx1 k2a_h.out
    refine ⟨_, rfl, ⟨k0a_h.out, k1a_h.out, k3a_h.out⟩, ?_⟩
    have hN10_h := Lib.hid hN10
    have hF10_h := Lib.hid hF10
    have hb10_h := Lib.hid hb10
    have hB10_h := Lib.hid hB10
    have hG10_h := Lib.hid hG10
    have r1_h := Lib.hid r1
    have r2_h := Lib.hid r2
    have q0_h := Lib.hid q0
    have q1_h := Lib.hid q1
    have q3_h := Lib.hid q3
    have hBn_h := Lib.hid hBn
    have hNn_h := Lib.hid hNn
    have hFn_h := Lib.hid hFn
    clear hN10 hF10 hb10 hB10 hG10 r1 r2 q0 q1 q3 hBn hNn hFn
    clear hz0
    simp only [Act.put, List.setIfInBounds_toArray, List.set_cons_zero, List.set_cons_succ]
    refine takeH 19 (v := ?_) rfl (by kernel_rfl) (by kernel_rfl) (by kernel_rfl) (fun _ _ _ h => h) ⟨k0a_h.out, k1a_h.out, k3a_h.out⟩ (by rfl) (fun W' hW' => ?_) ?_; rotate_left; · (skip; clear hW'; go_simp; first | done | with_reducible rfl)
    simp only [Act.put, List.setIfInBounds_toArray, List.set_cons_zero, List.set_cons_succ]
    refine takeH 20 (v := ?_) rfl (by kernel_rfl) (by kernel_rfl) (by kernel_rfl) (fun _ _ _ h => h) ⟨k0a_h.out, k1a_h.out, k3a_h.out⟩ (by rfl) (fun W' hW' => ?_) ?_; rotate_left; · (skip; clear hW'; go_simp; first | done | with_reducible rfl)
    simp only [Act.put, List.setIfInBounds_toArray, List.set_cons_zero, List.set_cons_succ]
    refine oneH 21 rfl (by kernel_rfl) (by rfl) (fun K hK => ?_)
    go_simp
    refine hK _ _ ⟨q0_h.out, q1_h.out, q3_h.out⟩ ?_
    clear hK K
    refine takeH 22 (v := ?_) rfl (by kernel_rfl) (by kernel_rfl) (by kernel_rfl) (fun _ _ _ h => h) ⟨q0_h.out, q1_h.out, q3_h.out⟩ (by rfl) (fun W' hW' => ?_) ?_; rotate_left; · (skip; clear hW'; go_simp; first | done | with_reducible rfl)
    simp only [Act.put, List.setIfInBounds_toArray, List.set_cons_zero, List.set_cons_succ]
    refine doneH (by kernel_rfl) ?_
    go_wp2_with (fail)
    refine bodyPost_ret (results_cell_tmp rfl _ _ (w.heap.size + 2) _ _ (0, 0) _ rfl r1_h.out Try.underlying30 rfl (by kernel_rfl)) rfl ?_
    exact ⟨_, fpA A10, rfl, ⟨A10, c10, rfl, hNn_h.out, rfl⟩, hFn_h.out, hBn_h.out⟩
theorem iReplaceAt_law {v v' : Value} {l s : List Nd} {fp fp' : List Nat} {w : World} (a : Int) (h : OwTm w v l fp) (h' : OwTm w v' s fp') (_ok : OkN l) (_ok' : OkN s) :
    Calls Try.prog 34 #[v, .int .i64 a, v'] w fun e w' => ∃ v' fp, e = .returned (.tuple #[v', .bool (replM l a s).2]) ∧ OwTm w' v' (replM l a s).1 fp ∧ FreshL w.heap.size fp ∧ Below w.heap.size w w' := iReplaceAt_any a h h'
end Go.Proofs.Ytlmnmdahphahfaa
