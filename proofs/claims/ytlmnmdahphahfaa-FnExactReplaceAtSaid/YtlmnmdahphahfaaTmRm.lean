/-
  ReplaceAt: the plain law; the reference's side.
-/
import Derived.Test.YtlmnmdahphahfaaTmWj
import Derived.Test.YtlmnmdahphahfaaTmDM
import Derived.Test.YtlmnmdahphahfaaTmJl
import Derived.Test.YtlmnmdahphahfaaRegC
namespace Go.Proofs.Ytlmnmdahphahfaa
open Go.RowKit

def replM (l : List Nd) (a : Int) (s : List Nd) : List Nd × Bool :=
  match treeM l, treeM s with
  | some t, some u => if 0 ≤ a ∧ a < (l.length : Int) ∧ (inL [t])[a.toNat]? = some (ty u).1 ∧ (ouL [t])[a.toNat]? = some (ty u).2 then okM (l.take (subS l a.toNat) ++ s ++ l.drop (a.toNat + 1)) else ([], false)
  | _, _ => ([], false)
theorem replM_t {l s : List Nd} {a : Int} (h : treeM l = none) : replM l a s = ([], false) := by simp [replM, h]
theorem replM_s {l s : List Nd} {a : Int} (h : treeM s = none) : replM l a s = ([], false) := by
  unfold replM; rw [h]; cases treeM l <;> rfl
theorem replM_out {l s : List Nd} {a : Int} (h : ¬ (0 ≤ a ∧ a < (l.length : Int))) : replM l a s = ([], false) := by
  unfold replM
  split
  · rw [if_neg (fun hh => h ⟨hh.1, hh.2.1⟩)]
  · rfl
theorem replM_ty {l s : List Nd} {t u : Tr} {k : Nat} {i o : Int} (ht : treeM l = some t) (hu : treeM s = some u) (hi : (inL [t])[k]? = some i) (ho : (ouL [t])[k]? = some o) (h : ¬ (i = (ty u).1 ∧ o = (ty u).2)) : replM l (k : Int) s = ([], false) := by
  unfold replM
  simp only [ht, hu, Int.toNat_natCast, hi, ho, Option.some.injEq]
  rw [if_neg (fun hh => h ⟨hh.2.2.1, hh.2.2.2⟩)]
theorem replM_yes {l s : List Nd} {t u : Tr} {k : Nat} (ht : treeM l = some t) (hu : treeM s = some u) (hk : k < l.length) (hi : (inL [t])[k]? = some (ty u).1) (ho : (ouL [t])[k]? = some (ty u).2) : replM l (k : Int) s = okM (l.take (subS l k) ++ s ++ l.drop (k + 1)) := by
  unfold replM
  simp only [ht, hu, Int.toNat_natCast, hi, ho]
  rw [if_pos ⟨by omega, by omega, trivial, trivial⟩]
theorem replM_ok (l : List Nd) (a : Int) (s : List Nd) : OkN (replM l a s).1 := by
  unfold replM
  split
  · split
    · exact okM_ok _
    · exact .of (by simp)
  · exact .of (by simp)

set_option maxRecDepth 8000 in
set_option maxHeartbeats 8000000 in
theorem sReplaceAt_any {v v' : Value} {l s : List Nd} {fp fp' : List Nat} {w : World} (a : Int) (h : OwTm w v l fp) (h' : OwTm w v' s fp') :
    Calls Try.prog 33 #[v, .int .i64 a, v'] w (Ret2Tm (replM l a s) w) := by
  obtain ⟨A, c, rfl, hN, rfl⟩ := h
  obtain ⟨B, d, rfl, hN', rfl⟩ := h'
  obtain ⟨m, hm⟩ : ∃ m, m = l.length := ⟨_, rfl⟩
  obtain ⟨n, hn⟩ : ∃ n, n = s.length := ⟨_, rfl⟩
  obtain ⟨W, hW⟩ : ∃ W, W = ((w.alloc (.cells #[.slice A m c] tTerm)).alloc (.cells #[.slice B n d] tTerm)).alloc (.cells #[.slice none 0 0] tTerm) := ⟨_, rfl⟩
  obtain ⟨b0, k0, k1, k2, hz⟩ := three_boxes w (.cells #[.slice A m c] tTerm) (.cells #[.slice B n d] tTerm) (.cells #[.slice none 0 0] tTerm)
  rw [← hW] at b0 k0 k1 k2 hz
  have hr := hN.rd.below b0
  have hr' := hN'.rd.below b0
  have hcc := hN.2.1
  rw [← hm] at hcc
  have hC := tmScan_any (v := .agg #[.slice A m c]) (l := l) (w := W) ⟨A, c, by rw [hm], hr⟩
  have hD := fun W' (hb : Below W.heap.size W W') => tmType_any (v := .agg #[.slice B n d]) (l := s) (w := W') ⟨B, d, by rw [hn], hr'.below hb⟩
  obtain ⟨M, hM⟩ : ∃ M, M = replM l a s := ⟨_, rfl⟩
  obtain ⟨ti, hti⟩ : ∃ x, x = (typeM s).1 := ⟨_, rfl⟩
  obtain ⟨tz, hto⟩ : ∃ x, x = (typeM s).2.1 := ⟨_, rfl⟩
  obtain ⟨tb, htb⟩ : ∃ x, x = (typeM s).2.2 := ⟨_, rfl⟩
  rw [← hti, ← hto, ← htb] at hD
  rw [← hM, ← hm, ← hn]
  clear hN hN'
  have b0_h := Lib.hid b0
  have k0_h := Lib.hid k0
  have k1_h := Lib.hid k1
  have k2_h := Lib.hid k2
  have hz_h := Lib.hid hz
  have hr_h := Lib.hid hr
  have hr'_h := Lib.hid hr'
  have hC_h := Lib.hid hC
  have hD_h := Lib.hid hD
  have hM_h := Lib.hid hM
  have hm_h := Lib.hid hm
  have hn_h := Lib.hid hn
  have hti_h := Lib.hid hti
  have hto_h := Lib.hid hto
  have htb_h := Lib.hid htb
  clear b0 k0 k1 k2 hz hr hr' hC hD hM hm hn hti hto htb
  go_enter Try.func33, Try.ntmps33
  go_upto_region 1 with (fail)
  rw [← hW]
  clear hW
  obtain ⟨k0_c, k0_f⟩ := bx1 k0_h.out
  go_wp2_with (fail)
  refine (hC_h.out).mono ?_
  rintro e w1 ⟨A0, A1, A2, d0, d1, d2, n0, n1, n2, b, rfl, hb, ht, hb1⟩
  clear k0_c k0_f
  obtain ⟨W2, hW2⟩ : ∃ W2, W2 = w1.alloc (.cells #[.slice A0 n0 d0, .slice A1 n1 d1, .slice A2 n2 d2] tInfo) := ⟨_, rfl⟩
  have hb2 : Below w1.heap.size w1 W2 := by rw [hW2]; exact below_alloc _ _
  have k3 : W2.heap[w1.heap.size]? = some (.cells #[.slice A0 n0 d0, .slice A1 n1 d1, .slice A2 n2 d2] tInfo) := by rw [hW2]; exact heap_alloc_new _ _
  have hb12 := below_trans hb1 hb2 hb1.size
  replace k0_h := Lib.hid (box_below k0_h.out hb12)
  replace k1_h := Lib.hid (box_below k1_h.out hb12)
  replace k2_h := Lib.hid (box_below k2_h.out hb12)
  have hB2 := below_trans b0_h.out hb12 b0_h.out.size
  have hD2 := hD_h.out W2 hb12
  have hzb := hb1.size
  obtain ⟨k1_c, k1_f⟩ := bx1 k1_h.out
  have hb_h := Lib.hid hb
  have hb2_h := Lib.hid hb2
  have hb12_h := Lib.hid hb12
  have hB2_h := Lib.hid hB2
  have k3_h := Lib.hid k3
  have hD2_h := Lib.hid hD2
  have hb1_h := Lib.hid hb1
  have ht_h := Lib.hid ht
  clear hb hb2 hb12 hB2 k3 hD2 hb1 ht
  go_upto_region 2 with (fail)
  rw [← hW2]
  clear hW2
  go_wp2_with (fail)
  refine (hD2_h.out).mono ?_
  rintro e w3 ⟨rfl, hb3⟩
  clear k1_c k1_f
  replace k0_h := Lib.hid (box_below k0_h.out hb3)
  replace k1_h := Lib.hid (box_below k1_h.out hb3)
  replace k2_h := Lib.hid (box_below k2_h.out hb3)
  replace k3_h := Lib.hid (box_below k3_h.out hb3)
  have hB3 := below_trans hB2_h.out hb3 hB2_h.out.size
  have hz3 := hb3.size
  have hb13 := below_trans hb12_h.out hb3 hb12_h.out.size
  have hb23 := below_trans hb2_h.out hb3 hb2_h.out.size
  have hz2 := hb2_h.out.size
  have hr3 := hr_h.out.below hb13
  have hr3' := hr'_h.out.below hb13
  obtain ⟨s1, s2⟩ := set1 k2_h.out (.slice none 0 0)
  have hz0 := hz_h.out
  have hBs := below_keeps hB3 s2 hB3.size (fun k hk => by omega)
  have hb3_h := Lib.hid hb3
  have hB3_h := Lib.hid hB3
  have s1_h := Lib.hid s1
  have s2_h := Lib.hid s2
  have hBs_h := Lib.hid hBs
  have hb13_h := Lib.hid hb13
  have hb23_h := Lib.hid hb23
  have hr3_h := Lib.hid hr3
  have hr3'_h := Lib.hid hr3'
  clear hb3 hB3 s1 s2 hBs hb13 hb23 hr3 hr3'
  clear hz0
  obtain ⟨k2_c, k2_f⟩ := bx1 k2_h.out
  cases b
  case false =>
    have hN : treeM l = none := by cases h : treeM l with | none => rfl | some t => have h2 := hb_h.out; rw [h] at h2; cases h2
    have hM0 : M = ([], false) := by rw [hM_h.out]; exact replM_t hN
    have hM0_h := Lib.hid hM0
    have hN_h := Lib.hid hN
    clear hM0 hN
    go_wp2_with (fail)
    refine bodyPost_ret (results_cell_tmp rfl _ _ (w.heap.size + 2) _ _ (0, 0) _ rfl s1_h.out Try.underlying30 rfl (by kernel_rfl)) rfl ?_
    exact Ret2Tm.no hM0_h.out hBs_h.out
  case true =>
  obtain ⟨t, hN⟩ : ∃ t, treeM l = some t := by cases h : treeM l with | none => have h2 := hb_h.out; rw [h] at h2; cases h2 | some t => exact ⟨t, rfl⟩
  cases tb
  case false =>
    have hNs : treeM s = none := by cases h : treeM s with | none => rfl | some u => have h2 := htb_h.out; rw [typeM_some h] at h2; cases h2
    have hM0 : M = ([], false) := by rw [hM_h.out]; exact replM_s hNs
    have hM0_h := Lib.hid hM0
    have hN_h := Lib.hid hN
    have hNs_h := Lib.hid hNs
    clear hM0 hN hNs
    go_wp2_with (fail)
    refine bodyPost_ret (results_cell_tmp rfl _ _ (w.heap.size + 2) _ _ (0, 0) _ rfl s1_h.out Try.underlying30 rfl (by kernel_rfl)) rfl ?_
    exact Ret2Tm.no hM0_h.out hBs_h.out
  case true =>
  obtain ⟨u, hNs⟩ : ∃ u, treeM s = some u := by cases h : treeM s with | none => have h2 := htb_h.out; rw [typeM_none h] at h2; cases h2 | some u => exact ⟨u, rfl⟩
  have hty : ti = (ty u).1 ∧ tz = (ty u).2 := by rw [hti_h.out, hto_h.out, typeM_some hNs]; exact ⟨rfl, rfl⟩
  have hml : m ≤ 400 := by
    have e : m = sz t := by rw [hm_h.out, (treeM_some hN).1]; rfl
    have := (treeM_some hN).2.2
    omega
  have hnl : n ≤ 400 := by
    have e : n = sz u := by rw [hn_h.out, (treeM_some hNs).1]; rfl
    have := (treeM_some hNs).2.2
    omega
  obtain ⟨k0_c, k0_f⟩ := bx1 k0_h.out
  by_cases hin : 0 ≤ a ∧ a ≤ (m : Int) - 1
  case neg =>
    have hI : inB a 0 ((m : Int) - 1) = false := decide_eq_false hin
    have hM0 : M = ([], false) := by rw [hM_h.out]; exact replM_out (by rw [← hm_h.out]; omega)
    have hM0_h := Lib.hid hM0
    have hN_h := Lib.hid hN
    have hNs_h := Lib.hid hNs
    have hty_h := Lib.hid hty
    clear hM0 hN hNs hty
    go_wp2_with (fail)
    refine (l1In_any _ _ _ _).mono ?_
    rintro e w' ⟨rfl, rfl⟩
    rw [hI]
    go_wp2_with (fail)
    refine bodyPost_ret (results_cell_tmp rfl _ _ (w.heap.size + 2) _ _ (0, 0) _ rfl s1_h.out Try.underlying30 rfl (by kernel_rfl)) rfl ?_
    exact Ret2Tm.no hM0_h.out hBs_h.out
  case pos =>
  obtain ⟨k, rfl⟩ : ∃ k : Nat, a = (k : Int) := ⟨a.toNat, by omega⟩
  have hI : inB (k : Int) 0 ((m : Int) - 1) = true := decide_eq_true hin
  have hkm : k < m := by omega
  have hkl : k < l.length := by rw [← hm_h.out]; exact hkm
  obtain ⟨p, -, hsk, -, -, -, hfr, hii, hoo, -⟩ := sub_at hN hkl
  obtain ⟨t1, t2, t3, t4, t5, t6, t7⟩ := ht_h.out t hN
  obtain ⟨ad0, e0, x0⟩ := t4 k _ (ints_get hfr)
  obtain ⟨ad1, e1, x1⟩ := t5 k _ (ints_get hii)
  obtain ⟨ad2, e2, x2⟩ := t6 k _ (ints_get hoo)
  subst e0 e1 e2
  have hmt : sz t = m := by rw [hm_h.out, (treeM_some hN).1]; rfl
  rw [hmt] at t1 t2 t3
  have t1' := t1.symm
  have t2' := t2.symm
  have t3' := t3.symm
  clear t1 t2 t3
  subst t1'
  subst t2'
  subst t3'
  obtain ⟨pi, hpi⟩ : ∃ x, x = (ty p).1 := ⟨_, rfl⟩
  obtain ⟨po, hpo⟩ : ∃ x, x = (ty p).2 := ⟨_, rfl⟩
  rw [← hpi] at x1 hii
  rw [← hpo] at x2 hoo
  have x0' := (hb23_h.out.cell (World.block_lt_of_cell? w1 _ x0)).trans x0
  have x1' := (hb23_h.out.cell (World.block_lt_of_cell? w1 _ x1)).trans x1
  have x2' := (hb23_h.out.cell (World.block_lt_of_cell? w1 _ x2)).trans x2
  obtain ⟨⟨z0, z1, z2⟩, z3, z4, z5⟩ := box3 k3_h.out
  have hk0 : (0 : Int) ≤ (k : Int) := by omega
  have hkc : (k : Int) < (m : Int) := by omega
  obtain ⟨sb, hsb⟩ : ∃ x, x = subS l k := ⟨_, rfl⟩
  rw [← hsb] at hsk x0 x0' hfr
  have hat : ∀ x, x ∈ fpA (some ad0) → W.heap.size ≤ x := fun x hx => t7 x (.inl hx)
  by_cases he1 : pi = ti
  case neg =>
    have hb1 : (pi != ti) = true := by simp [he1]
    have hM0 : M = ([], false) := by rw [hM_h.out]; exact replM_ty hN hNs hii hoo (fun hh => he1 (by rw [hh.1, hty.1]))
    have hM0_h := Lib.hid hM0
    have hN_h := Lib.hid hN
    have hNs_h := Lib.hid hNs
    have hty_h := Lib.hid hty
    have hfr_h := Lib.hid hfr
    have hii_h := Lib.hid hii
    have hoo_h := Lib.hid hoo
    have hsk_h := Lib.hid hsk
    have x0_h := Lib.hid x0
    have x1_h := Lib.hid x1
    have x2_h := Lib.hid x2
    have x0'_h := Lib.hid x0'
    have t4_h := Lib.hid t4
    have t5_h := Lib.hid t5
    have t6_h := Lib.hid t6
    have t7_h := Lib.hid t7
    have hmt_h := Lib.hid hmt
    have hpi_h := Lib.hid hpi
    have hpo_h := Lib.hid hpo
    have hsb_h := Lib.hid hsb
    have hat_h := Lib.hid hat
    have he1_h := Lib.hid he1
    clear hM0 hN hNs hty hfr hii hoo hsk x0 x1 x2 x0' t4 t5 t6 t7 hmt hpi hpo hsb hat he1
    go_wp2_with (fail)
    refine (l1In_any _ _ _ _).mono ?_
    rintro e w' ⟨rfl, rfl⟩
    rw [hI]
    go_wp2_with (fail)
    refine bodyPost_ret (results_cell_tmp rfl _ _ (w.heap.size + 2) _ _ (0, 0) _ rfl s1_h.out Try.underlying30 rfl (by kernel_rfl)) rfl ?_
    exact Ret2Tm.no hM0_h.out hBs_h.out
  case pos =>
  have hb1 : (pi != ti) = false := by simp [he1]
  by_cases he2 : po = tz
  case neg =>
    have hb2' : (po != tz) = true := by simp [he2]
    have hM0 : M = ([], false) := by rw [hM_h.out]; exact replM_ty hN hNs hii hoo (fun hh => he2 (by rw [hh.2, hty.2]))
    have hM0_h := Lib.hid hM0
    have hN_h := Lib.hid hN
    have hNs_h := Lib.hid hNs
    have hty_h := Lib.hid hty
    have hfr_h := Lib.hid hfr
    have hii_h := Lib.hid hii
    have hoo_h := Lib.hid hoo
    have hsk_h := Lib.hid hsk
    have x0_h := Lib.hid x0
    have x1_h := Lib.hid x1
    have x2_h := Lib.hid x2
    have x0'_h := Lib.hid x0'
    have t4_h := Lib.hid t4
    have t5_h := Lib.hid t5
    have t6_h := Lib.hid t6
    have t7_h := Lib.hid t7
    have hmt_h := Lib.hid hmt
    have hpi_h := Lib.hid hpi
    have hpo_h := Lib.hid hpo
    have hsb_h := Lib.hid hsb
    have hat_h := Lib.hid hat
    have he1_h := Lib.hid he1
    have he2_h := Lib.hid he2
    clear hM0 hN hNs hty hfr hii hoo hsk x0 x1 x2 x0' t4 t5 t6 t7 hmt hpi hpo hsb hat he1 he2
    go_wp2_with (fail)
    refine (l1In_any _ _ _ _).mono ?_
    rintro e w' ⟨rfl, rfl⟩
    rw [hI]
    go_wp2_with (fail)
    refine bodyPost_ret (results_cell_tmp rfl _ _ (w.heap.size + 2) _ _ (0, 0) _ rfl s1_h.out Try.underlying30 rfl (by kernel_rfl)) rfl ?_
    exact Ret2Tm.no hM0_h.out hBs_h.out
  case pos =>
  have hb2' : (po != tz) = false := by simp [he2]
  have hM1 : M = okM (l.take sb ++ s ++ l.drop (k + 1)) := by
    rw [hM_h.out, hsb]
    exact replM_yes hN hNs hkl (by rw [hii, he1, hty.1]) (by rw [hoo, he2, hty.2])
  obtain ⟨La, hLa⟩ : ∃ x, x = l.take sb := ⟨_, rfl⟩
  obtain ⟨Lc, hLc⟩ : ∃ x, x = l.drop (k + 1) := ⟨_, rfl⟩
  rw [← hLa, ← hLc] at hM1
  have hla : La.length = sb := by rw [hLa, List.length_take]; omega
  have hlc : Lc.length = m - (k + 1) := by rw [hLc, List.length_drop, hm_h.out]
  obtain ⟨ad, -, -, -, rfl, -, -⟩ := hr3_h.out.at_ (j := 0) (by omega)
  have hra : RdN w3 (some ad) La := by rw [hLa]; exact hr3_h.out.front sb
  have hrc : RdN w3 (some (ad.add ((k + 1) * 3))) Lc := by
    have := hr3_h.out.cut (k + 1) m
    rw [hm_h.out, List.take_of_length_le (Nat.le_refl _), ← hLc] at this
    exact this
  clear hii hoo
  have hN_h := Lib.hid hN
  have hNs_h := Lib.hid hNs
  have hty_h := Lib.hid hty
  have hfr_h := Lib.hid hfr
  have hsk_h := Lib.hid hsk
  have x0_h := Lib.hid x0
  have x1_h := Lib.hid x1
  have x2_h := Lib.hid x2
  have t4_h := Lib.hid t4
  have t5_h := Lib.hid t5
  have t6_h := Lib.hid t6
  have t7_h := Lib.hid t7
  have hmt_h := Lib.hid hmt
  have hpi_h := Lib.hid hpi
  have hpo_h := Lib.hid hpo
  have hsb_h := Lib.hid hsb
  have hat_h := Lib.hid hat
  have he1_h := Lib.hid he1
  have he2_h := Lib.hid he2
  have hM1_h := Lib.hid hM1
  have hLa_h := Lib.hid hLa
  have hLc_h := Lib.hid hLc
  have hla_h := Lib.hid hla
  have hlc_h := Lib.hid hlc
  have hra_h := Lib.hid hra
  have hrc_h := Lib.hid hrc
  clear hN hNs hty hfr hsk x0 x1 x2 t4 t5 t6 t7 hmt hpi hpo hsb hat he1 he2 hM1 hLa hLc hla hlc hra hrc
  go_wp2_with (fail)
  refine (l1In_any _ _ _ _).mono ?_
  rintro e w' ⟨rfl, rfl⟩
  rw [hI]
  go_wp2_with (fail)
  refine beginH (fun w' => w'.heap[w.heap.size]? = some (.cells #[.slice (some ad) m c] tTerm) ∧ w'.heap[w1.heap.size]? = some (.cells #[.slice (some ad0) m d0, .slice (some ad1) m d1, .slice (some ad2) m d2] tInfo) ∧ w'.cell? (ad0.add k) = some (.int .i64 (sb : Int))) (by kernel_rfl) ?_
  have hbd : Below w'.heap.size w' w'.drew := below_drew (Below.refl _ _)
  generalize w'.drew = W4 at hbd ⊢
  replace k0_h := Lib.hid (box_below k0_h.out hbd)
  replace k1_h := Lib.hid (box_below k1_h.out hbd)
  replace k2_h := Lib.hid (box_below k2_h.out hbd)
  replace k3_h := Lib.hid (box_below k3_h.out hbd)
  have hB4 := below_trans hB3_h.out hbd hB3_h.out.size
  have x5 := (hbd.cell (World.block_lt_of_cell? w' _ x0')).trans x0'
  have hra4 := hra_h.out.below hbd
  have hrc4 := hrc_h.out.below hbd
  have hrs4 := hr3'_h.out.below hbd
  have hsc : sb ≤ c := by have := hsk_h.out; omega
  have hs0 : (0 : Int) ≤ (sb : Int) := by omega
  have hsc2 : (sb : Int) ≤ (c : Int) := by omega
  have hz4 := hbd.size
  have hal := below_alloc W4 (.cells #[] tNd)
  have hsl := Sl.laid W4 tNd 3 0 #[] (by unfold maxLen; omega) rfl
  have k0a := box_below k0_h.out hal
  have k3a := box_below k3_h.out hal
  have x5a := (hal.cell (World.block_lt_of_cell? W4 _ x5)).trans x5
  have hra5 := hra4.below hal
  have hsb4 : sb ≤ 400 := by have := hsk_h.out; omega
  have hnla : (ncs La).length = sb * 3 := by rw [ncs_length, hla_h.out]
  have hnls : (ncs s).length = n * 3 := by rw [ncs_length, hn_h.out]
  have hnlc : (ncs Lc).length = (m - (k + 1)) * 3 := by rw [ncs_length, hlc_h.out]
  clear k0_c k0_f k2_c k2_f
  clear z0 z1 z2 z3 z4 z5 x0' x1' x2'
  have hbd_h := Lib.hid hbd
  have hB4_h := Lib.hid hB4
  have x5_h := Lib.hid x5
  have hra4_h := Lib.hid hra4
  have hrc4_h := Lib.hid hrc4
  have hrs4_h := Lib.hid hrs4
  have hal_h := Lib.hid hal
  have hsl_h := Lib.hid hsl
  have k0a_h := Lib.hid k0a
  have k3a_h := Lib.hid k3a
  have x5a_h := Lib.hid x5a
  have hra5_h := Lib.hid hra5
  have hnla_h := Lib.hid hnla
  have hnls_h := Lib.hid hnls
  have hnlc_h := Lib.hid hnlc
  clear hbd hB4 x5 hra4 hrc4 hrs4 hal hsl k0a k3a x5a hra5 hnla hnls hnlc
  refine takeH 1 (v := ?_) rfl (by kernel_rfl) (by kernel_rfl) (by kernel_rfl) (fun _ _ _ h => h) ⟨k0_h.out, k3_h.out, x5_h.out⟩ (by rfl) (fun W' hW' => ?_) ?_; rotate_left; · (obtain ⟨y0, y1⟩ := bx1 hW'.1; obtain ⟨⟨y2, y3, y4⟩, y5, y6, y7⟩ := box3 hW'.2.1; have y8 := hW'.2.2; clear hW'; go_simp; first | done | with_reducible rfl)
  simp only [Act.put, List.setIfInBounds_toArray, List.set_cons_zero, List.set_cons_succ]
  refine takeH 2 (v := ?_) rfl (by kernel_rfl) (by kernel_rfl) (by kernel_rfl) (fun _ _ _ h => h) ⟨k0_h.out, k3_h.out, x5_h.out⟩ (by rfl) (fun W' hW' => ?_) ?_; rotate_left; · (obtain ⟨y0, y1⟩ := bx1 hW'.1; obtain ⟨⟨y2, y3, y4⟩, y5, y6, y7⟩ := box3 hW'.2.1; have y8 := hW'.2.2; clear hW'; go_simp; first | done | with_reducible rfl)
  simp only [Act.put, List.setIfInBounds_toArray, List.set_cons_zero, List.set_cons_succ]
  refine takeH 3 (v := ?_) rfl (by kernel_rfl) (by kernel_rfl) (by kernel_rfl) (fun _ _ _ h => h) ⟨k0_h.out, k3_h.out, x5_h.out⟩ (by rfl) (fun W' hW' => ?_) ?_; rotate_left; · (obtain ⟨y0, y1⟩ := bx1 hW'.1; obtain ⟨⟨y2, y3, y4⟩, y5, y6, y7⟩ := box3 hW'.2.1; have y8 := hW'.2.2; clear hW'; go_simp; first | done | with_reducible rfl)
  simp only [Act.put, List.setIfInBounds_toArray, List.set_cons_zero, List.set_cons_succ]
  refine takeH 4 (v := ?_) rfl (by kernel_rfl) (by kernel_rfl) (by kernel_rfl) (fun _ _ _ h => h) ⟨k0_h.out, k3_h.out, x5_h.out⟩ (by rfl) (fun W' hW' => ?_) ?_; rotate_left; · (obtain ⟨y0, y1⟩ := bx1 hW'.1; obtain ⟨⟨y2, y3, y4⟩, y5, y6, y7⟩ := box3 hW'.2.1; have y8 := hW'.2.2; clear hW'; go_simp; first | done | with_reducible rfl)
  simp only [Act.put, List.setIfInBounds_toArray, List.set_cons_zero, List.set_cons_succ]
  refine takeH 5 (v := ?_) rfl (by kernel_rfl) (by kernel_rfl) (by kernel_rfl) (fun _ _ _ h => h) ⟨k0_h.out, k3_h.out, x5_h.out⟩ (by rfl) (fun W' hW' => ?_) ?_; rotate_left; · (obtain ⟨y0, y1⟩ := bx1 hW'.1; obtain ⟨⟨y2, y3, y4⟩, y5, y6, y7⟩ := box3 hW'.2.1; have y8 := hW'.2.2; clear hW'; go_simp; first | done | with_reducible rfl)
  simp only [Act.put, List.setIfInBounds_toArray, List.set_cons_zero, List.set_cons_succ]
  refine takeH 6 (v := ?_) rfl (by kernel_rfl) (by kernel_rfl) (by kernel_rfl) (fun _ _ _ h => h) ⟨k0_h.out, k3_h.out, x5_h.out⟩ (by rfl) (fun W' hW' => ?_) ?_; rotate_left; · (obtain ⟨y0, y1⟩ := bx1 hW'.1; obtain ⟨⟨y2, y3, y4⟩, y5, y6, y7⟩ := box3 hW'.2.1; have y8 := hW'.2.2; clear hW'; go_simp; first | done | with_reducible rfl)
  simp only [Act.put, List.setIfInBounds_toArray, List.set_cons_zero, List.set_cons_succ]
  refine takeH 7 (v := ?_) rfl (by kernel_rfl) (by kernel_rfl) (by kernel_rfl) (fun _ _ _ h => h) ⟨k0_h.out, k3_h.out, x5_h.out⟩ (by rfl) (fun W' hW' => ?_) ?_; rotate_left; · (obtain ⟨y0, y1⟩ := bx1 hW'.1; obtain ⟨⟨y2, y3, y4⟩, y5, y6, y7⟩ := box3 hW'.2.1; have y8 := hW'.2.2; clear hW'; go_simp; first | done | with_reducible rfl)
  simp only [Act.put, List.setIfInBounds_toArray, List.set_cons_zero, List.set_cons_succ]
  refine takeH 8 (v := ?_) rfl (by kernel_rfl) (by kernel_rfl) (by kernel_rfl) (fun _ _ _ h => h) ⟨k0_h.out, k3_h.out, x5_h.out⟩ (by rfl) (fun W' hW' => ?_) ?_; rotate_left; · (obtain ⟨y0, y1⟩ := bx1 hW'.1; obtain ⟨⟨y2, y3, y4⟩, y5, y6, y7⟩ := box3 hW'.2.1; have y8 := hW'.2.2; clear hW'; go_simp; first | done | with_reducible rfl)
  simp only [Act.put, List.setIfInBounds_toArray, List.set_cons_zero, List.set_cons_succ]
  refine oneH 0 rfl (by kernel_rfl) (by rfl) (fun K hK => ?_)
  go_simp
  refine hK _ _ ⟨k0a_h.out, k3a_h.out, x5a_h.out⟩ ?_
  clear hK K
  have hkW0 := box_lt k0_h.out
  have hkW2 := box_lt k2_h.out
  have hkW3 := box_lt k3_h.out
  have hkWx : ad0.block < W4.heap.size := by have := World.block_lt_of_cell? W4 _ x5_h.out; rwa [block_of_add] at this
  refine appH 9 rfl (by kernel_rfl) (by rfl) _ _ _ rfl tNd Try.underlying28 info_nd rfl (by omega) rfl hsl_h.out rfl hnla_h.out hra5_h.out (ncs_one La) (by unfold maxLen; omega) (by omega) ?_
  intro A5 c5 w5 hs5 hA5 hk5
  have hin5 : ∀ x, x ∈ fpA (some (⟨W4.heap.size, 0, none⟩ : Addr)) → x = W4.heap.size := fun x hx => by simpa [fpA] using hx
  have k0b := box_keeps k0a_h.out hk5 (fun h => by have := hin5 _ h; omega)
  have k3b := box_keeps k3a_h.out hk5 (fun h => by have := hin5 _ h; omega)
  have x5b := keeps_at hk5 x5a_h.out (fun h => by rw [block_of_add] at h; have := hin5 _ h; omega)
  have hbW5 : Below W4.heap.size W4 w5 := below_keeps hal_h.out hk5 (by rw [World.size_alloc]; omega) (fun x hx => by have := hin5 x hx; omega)
  have hs6 : Sl w5 tNd 3 A5 sb c5 (ncs La) := by
    rw [Nat.zero_add] at hs5; exact hs5
  have hG5 : ∀ x, x ∈ fpA A5 → W4.heap.size ≤ x := fun x hx => by
    rcases hA5 x hx with h | h
    · have := hin5 x h; omega
    · rw [World.size_alloc] at h; omega
  have hz5 := hbW5.size
  have hB5 := below_trans hB4_h.out hbW5 hB4_h.out.size
  have hrs5 := hrs4_h.out.below hbW5
  have hrc5 := hrc4_h.out.below hbW5
  replace k1_h := Lib.hid (box_below k1_h.out hbW5)
  replace k2_h := Lib.hid (box_below k2_h.out hbW5)
  refine ⟨⟨k0b, k3b, x5b⟩, ?_⟩
  have hs5_h := Lib.hid hs5
  have hA5_h := Lib.hid hA5
  have hk5_h := Lib.hid hk5
  have hin5_h := Lib.hid hin5
  have k0b_h := Lib.hid k0b
  have k3b_h := Lib.hid k3b
  have x5b_h := Lib.hid x5b
  have hbW5_h := Lib.hid hbW5
  have hs6_h := Lib.hid hs6
  have hG5_h := Lib.hid hG5
  have hz5_h := Lib.hid hz5
  have hB5_h := Lib.hid hB5
  have hrs5_h := Lib.hid hrs5
  have hrc5_h := Lib.hid hrc5
  clear hs5 hA5 hk5 hin5 k0b k3b x5b hbW5 hs6 hG5 hz5 hB5 hrs5 hrc5
  simp only [Act.put, List.setIfInBounds_toArray, List.set_cons_zero, List.set_cons_succ]
  refine takeH 10 (v := ?_) rfl (by kernel_rfl) (by kernel_rfl) (by kernel_rfl) (fun _ _ _ h => h) ⟨k0b_h.out, k3b_h.out, x5b_h.out⟩ (by rfl) (fun W' hW' => ?_) ?_; rotate_left; · (skip; clear hW'; go_simp; first | done | with_reducible rfl)
  simp only [Act.put, List.setIfInBounds_toArray, List.set_cons_zero, List.set_cons_succ]
  refine doneH (by kernel_rfl) ?_
  obtain ⟨k1_c, k1_f⟩ := bx1 k1_h.out
  obtain ⟨k0b_c, k0b_f⟩ := bx1 k0b_h.out
  have e0 : 0 + sb = sb := Nat.zero_add sb
  rw [e0]
  clear e0
  go_upto_region 7 with (at_builtin; refine wpList_append_Sl _ rfl _ _ _ rfl tNd Try.underlying28 info_nd rfl (by omega) rfl hs6_h.out rfl hnls_h.out hrs5_h.out (ncs_one s) (by unfold maxLen; omega) (by omega) ?_; intro A6 c6 w6 hs7 hA6 hk6)
  clear k1_c k1_f k0b_c k0b_f
  have hG5' := hG5_h.out
  have k0c := box_keeps k0b_h.out hk6 (fun h => by have := hG5' _ h; omega)
  have k2c := box_keeps k2_h.out hk6 (fun h => by have := hG5' _ h; omega)
  replace k2_h := Lib.hid k2c
  have hbW6 : Below W4.heap.size W4 w6 := below_keeps hbW5_h.out hk6 hbW5_h.out.size (fun x hx => hG5' x hx)
  have hB6 := below_trans hB4_h.out hbW6 hB4_h.out.size
  have hrc6 := hrc4_h.out.below hbW6
  have hG6 : ∀ x, x ∈ fpA A6 → W4.heap.size ≤ x := fun x hx => by
    rcases hA6 x hx with h | h
    · exact hG5' x h
    · have := hz5_h.out; omega
  have hs8 := hs7
  have hz6 := hbW6.size
  clear hs7 hA6 hk6 hG5' k2c
  have k0c_h := Lib.hid k0c
  have hbW6_h := Lib.hid hbW6
  have hB6_h := Lib.hid hB6
  have hrc6_h := Lib.hid hrc6
  have hG6_h := Lib.hid hG6
  have hs8_h := Lib.hid hs8
  have hz6_h := Lib.hid hz6
  clear k0c hbW6 hB6 hrc6 hG6 hs8 hz6
  obtain ⟨k0c_c, k0c_f⟩ := bx1 k0c_h.out
  by_cases hck : c = k + 1
  · obtain rfl : m = k + 1 := by omega
    subst hck
    have hLc0 : ncs Lc = [] := by
      have h1 := hlc_h.out
      rw [Nat.sub_self] at h1
      rw [List.eq_nil_of_length_eq_zero h1]; rfl
    have hnil : RdC w6 (some ad) (ncs Lc) := by rw [hLc0]; exact RdC.nil _ _
    have hnz : (ncs Lc).length = 0 * 3 := by rw [hLc0]; rfl
    have hLc0_h := Lib.hid hLc0
    have hnil_h := Lib.hid hnil
    have hnz_h := Lib.hid hnz
    clear hLc0 hnil hnz
    go_wp2_with (at_builtin; refine wpList_append_Sl _ rfl _ _ _ rfl tNd Try.underlying28 info_nd rfl (by omega) rfl hs8_h.out rfl hnz_h.out hnil_h.out (ncs_one Lc) (by unfold maxLen; omega) (by omega) ?_; intro A7 c7 w7 hs7 hA7 hk7)
    have hs7' : Sl w7 tNd 3 A7 (sb + n + 0) c7 (ncs (La ++ s ++ Lc)) := by rw [ncs_append, ncs_append]; exact hs7
    have hlen7 : sb + n + 0 = (La ++ s ++ Lc).length := by rw [List.length_append, List.length_append, hla_h.out, hlc_h.out, hn_h.out, Nat.sub_self]
    have hG7 : ∀ x, x ∈ fpA A7 → W4.heap.size ≤ x := fun x hx => by
      rcases hA7 x hx with h | h
      · exact hG6_h.out x h
      · have := hB6_h.out.size; have := hz6_h.out; omega
    have hB7 := below_keeps hB6_h.out hk7 hB6_h.out.size (fun x hx => by have := hG6_h.out x hx; have := hB4_h.out.size; omega)
    have k2g := box_keeps k2_h.out hk7 (fun h => by have := hG6_h.out _ h; omega)
    have hIf := tmIf_any (v := .agg #[.slice A7 (sb + n + 0) c7]) (l := La ++ s ++ Lc) (fp := fpA A7) (w := w7) ⟨A7, c7, by rw [hlen7], by unfold NS; rw [← hlen7]; exact hs7', rfl⟩
    rw [← hM1_h.out] at hIf
    have hz7 := hk7.size
    have hs7_h := Lib.hid hs7
    have hs7'_h := Lib.hid hs7'
    have hlen7_h := Lib.hid hlen7
    have hG7_h := Lib.hid hG7
    have hB7_h := Lib.hid hB7
    have k2g_h := Lib.hid k2g
    have hIf_h := Lib.hid hIf
    have hA7_h := Lib.hid hA7
    have hk7_h := Lib.hid hk7
    clear hs7 hs7' hlen7 hG7 hB7 k2g hIf hA7 hk7
    go_wp2_with (fail)
    refine (hIf_h.out).mono ?_
    rintro e w8 ⟨v8, fp8, rfl, ⟨A8, c8, rfl, hN8, rfl⟩, hF8, hb8⟩
    replace k2g_h := Lib.hid (box_below k2g_h.out hb8)
    have hB8 := below_trans hB7_h.out hb8 hB7_h.out.size
    have hG8 : ∀ x, x ∈ fpA A8 → W4.heap.size ≤ x := fun x hx => hG7_h.out x (hF8 x hx)
    have hB4z := hB4_h.out.size
    obtain ⟨r1, r2⟩ := set1 k2g_h.out (.slice A8 M.1.length c8)
    have hBn := below_keeps hB8 r2 hB8.size (fun x hx => by omega)
    have hNn := NS.keeps hN8 r2 (fun b hb e => by have := hG8 b hb; omega)
    have hFn : FreshL w.heap.size (fpA A8) := fun b hb => by have := hG8 b hb; omega
    obtain ⟨k2g_c, k2g_f⟩ := bx1 k2g_h.out
    have hN8_h := Lib.hid hN8
    have hF8_h := Lib.hid hF8
    have hb8_h := Lib.hid hb8
    have hB8_h := Lib.hid hB8
    have hG8_h := Lib.hid hG8
    have r1_h := Lib.hid r1
    have r2_h := Lib.hid r2
    have hBn_h := Lib.hid hBn
    have hNn_h := Lib.hid hNn
    have hFn_h := Lib.hid hFn
    clear hN8 hF8 hb8 hB8 hG8 r1 r2 hBn hNn hFn
    go_wp2_with (fail)
    refine bodyPost_ret (results_cell_tmp rfl _ _ (w.heap.size + 2) _ _ (0, 0) _ rfl r1_h.out Try.underlying30 rfl (by kernel_rfl)) rfl ?_
    exact ⟨_, fpA A8, rfl, ⟨A8, c8, rfl, hNn_h.out, rfl⟩, hFn_h.out, hBn_h.out⟩
  · have hck2 : k + 1 < c := by omega
    have hrl : m - (k + 1) ≤ 400 := by omega
    go_wp2_with (at_builtin; refine wpList_append_Sl _ rfl _ _ _ rfl tNd Try.underlying28 info_nd rfl (by omega) rfl hs8_h.out rfl hnlc_h.out hrc6_h.out (ncs_one Lc) (by unfold maxLen; omega) (by omega) ?_; intro A7 c7 w7 hs7 hA7 hk7)
    have hs7' : Sl w7 tNd 3 A7 (sb + n + (m - (k + 1))) c7 (ncs (La ++ s ++ Lc)) := by rw [ncs_append, ncs_append]; exact hs7
    have hlen7 : sb + n + (m - (k + 1)) = (La ++ s ++ Lc).length := by rw [List.length_append, List.length_append, hla_h.out, hlc_h.out, hn_h.out]
    have hG7 : ∀ x, x ∈ fpA A7 → W4.heap.size ≤ x := fun x hx => by
      rcases hA7 x hx with h | h
      · exact hG6_h.out x h
      · have := hB6_h.out.size; have := hz6_h.out; omega
    have hB7 := below_keeps hB6_h.out hk7 hB6_h.out.size (fun x hx => by have := hG6_h.out x hx; have := hB4_h.out.size; omega)
    have k2g := box_keeps k2_h.out hk7 (fun h => by have := hG6_h.out _ h; omega)
    have hIf := tmIf_any (v := .agg #[.slice A7 (sb + n + (m - (k + 1))) c7]) (l := La ++ s ++ Lc) (fp := fpA A7) (w := w7) ⟨A7, c7, by rw [hlen7], by unfold NS; rw [← hlen7]; exact hs7', rfl⟩
    rw [← hM1_h.out] at hIf
    have hz7 := hk7.size
    have hs7_h := Lib.hid hs7
    have hs7'_h := Lib.hid hs7'
    have hlen7_h := Lib.hid hlen7
    have hG7_h := Lib.hid hG7
    have hB7_h := Lib.hid hB7
    have k2g_h := Lib.hid k2g
    have hIf_h := Lib.hid hIf
    have hA7_h := Lib.hid hA7
    have hk7_h := Lib.hid hk7
    clear hs7 hs7' hlen7 hG7 hB7 k2g hIf hA7 hk7
    go_wp2_with (fail)
    refine (hIf_h.out).mono ?_
    rintro e w8 ⟨v8, fp8, rfl, ⟨A8, c8, rfl, hN8, rfl⟩, hF8, hb8⟩
    replace k2g_h := Lib.hid (box_below k2g_h.out hb8)
    have hB8 := below_trans hB7_h.out hb8 hB7_h.out.size
    have hG8 : ∀ x, x ∈ fpA A8 → W4.heap.size ≤ x := fun x hx => hG7_h.out x (hF8 x hx)
    have hB4z := hB4_h.out.size
    obtain ⟨r1, r2⟩ := set1 k2g_h.out (.slice A8 M.1.length c8)
    have hBn := below_keeps hB8 r2 hB8.size (fun x hx => by omega)
    have hNn := NS.keeps hN8 r2 (fun b hb e => by have := hG8 b hb; omega)
    have hFn : FreshL w.heap.size (fpA A8) := fun b hb => by have := hG8 b hb; omega
    obtain ⟨k2g_c, k2g_f⟩ := bx1 k2g_h.out
    have hN8_h := Lib.hid hN8
    have hF8_h := Lib.hid hF8
    have hb8_h := Lib.hid hb8
    have hB8_h := Lib.hid hB8
    have hG8_h := Lib.hid hG8
    have r1_h := Lib.hid r1
    have r2_h := Lib.hid r2
    have hBn_h := Lib.hid hBn
    have hNn_h := Lib.hid hNn
    have hFn_h := Lib.hid hFn
    clear hN8 hF8 hb8 hB8 hG8 r1 r2 hBn hNn hFn
    go_wp2_with (fail)
    refine bodyPost_ret (results_cell_tmp rfl _ _ (w.heap.size + 2) _ _ (0, 0) _ rfl r1_h.out Try.underlying30 rfl (by kernel_rfl)) rfl ?_
    exact ⟨_, fpA A8, rfl, ⟨A8, c8, rfl, hNn_h.out, rfl⟩, hFn_h.out, hBn_h.out⟩
theorem sReplaceAt_law {v v' : Value} {l s : List Nd} {fp fp' : List Nat} {w : World} (a : Int) (h : OwTm w v l fp) (h' : OwTm w v' s fp') (_ok : OkN l) (_ok' : OkN s) :
    Calls Try.prog 33 #[v, .int .i64 a, v'] w fun e w' => ∃ v' fp, e = .returned (.tuple #[v', .bool (replM l a s).2]) ∧ OwTm w' v' (replM l a s).1 fp ∧ FreshL w.heap.size fp ∧ Below w.heap.size w w' := sReplaceAt_any a h h'
end Go.Proofs.Ytlmnmdahphahfaa
