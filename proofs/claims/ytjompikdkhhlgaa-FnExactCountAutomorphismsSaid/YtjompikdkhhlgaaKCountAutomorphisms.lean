/-
  The program's CountAutomorphisms returns what the reference's returns, for all arguments (laws.FnExactCountAutomorphisms answers true). No condition.
-/
import Derived.Test.YtjompikdkhhlgaaKCountAutomorphisms4
namespace Go.Proofs.Ytjompikdkhhlgaa
open Go.RowKit
set_option maxRecDepth 100000 in
set_option maxHeartbeats 4000000 in
theorem iCountAutomorphisms_law {v : Value} {g : Gr} {w : World} (h : RdGr w v g) (ok : OkG g) :
  Calls Try.prog 23 #[v] w fun e w' => e = .returned (.tuple #[.int .i64 (caR g).1, .bool (caR g).2]) ∧ Below w.heap.size w w' := by
 obtain ⟨M, hM⟩ : ∃ M, caR g = M := ⟨_, rfl⟩
 rw [hM]
 obtain ⟨A, n0, c, B, m0, d, C, k0', e0, rfl⟩ := h.shape
 obtain ⟨z, hz⟩ : ∃ z, z = g.1 := ⟨_, rfl⟩
 rw [← hz] at h ⊢
 obtain ⟨W, hW, bW, k0⟩ := (⟨_, rfl, t_below_alloc _ _, heap_alloc_new _ _⟩ : ∃ W, W = w.alloc (.cells #[.int .i64 z, .slice A n0 c, .slice B m0 d, .slice C k0' e0] tGr) ∧ Below w.heap.size w W ∧ W.heap[w.heap.size]? = some (.cells #[.int .i64 z, .slice A n0 c, .slice B m0 d, .slice C k0' e0] tGr))
 have hG := isMonogamous_any W (h.below bW) ok
 obtain ⟨T, hT⟩ : ∃ T, monoB g = T := ⟨_, rfl⟩
 rw [hT] at hG
 obtain ⟨⟨c0, c1, c2, c3⟩, f0, f1, f2, f3⟩ := t_box4 k0
 cases T
 case false =>
  rw [caR_no hT] at hM
  subst hM
  clear hT h hz; have hG_h := lH hG; have bW_h := lH bW; have k0_h := lH k0; clear hG bW k0
  go_enter Try.func23, Try.ntmps23
  go_upto_region 1 with (fail)
  rw [← hW]
  clear hW
  go_wp2_with (fail)
  refine (hG_h.out).mono ?_
  rintro e w1 ⟨rfl, hb1⟩
  have hB := below_trans bW_h.out hb1 bW_h.out.size
  clear hb1; have hB_h := lH hB; clear hB
  go_wp2_with (fail)
  go_ret2
  exact ⟨rfl, hB_h.out⟩
 case true =>
  obtain ⟨n, hMo⟩ := mono_of hT
  obtain ⟨m, hm⟩ : ∃ m, g.2.1.length = m := ⟨_, rfl⟩
  have hm60 := hMo.m60
  have hv := mono_gr hT
  have hO := fun (W' : World) (hb : Below W.heap.size W W') => openWalk_any W' n ((h.below bW).below hb) hMo
  have hF := fun (W' : World) (ob ow oe : Nat) (hb : Below W.heap.size W W') (hw : WkR W' ob ow oe (openM g)) => closedParts_any W' n m ob ow oe ((h.below bW).below hb) hMo hv hm hw
  have hbad := fun k => caR_bad (g := g) hT (k := k)
  have hyes := caR_yes (g := g) hT
  have hsok := (scan_ok g g.2.1.length (Nat.le_refl _))
  have hcl : ∀ k, (prtAt g k).1.length ≤ 1048576 := fun k => by
   by_cases hk : k < (partsM g).length
   · have hmm : prtAt g k ∈ partsM g := by unfold prtAt; rw [List.getD_eq_getElem?_getD, List.getElem?_eq_getElem hk]; exact List.getElem_mem hk
     have := (prt_ok hMo (hsok.2 _ hmm).1).1
     omega
   · unfold prtAt
     rw [List.getD_eq_getElem?_getD, List.getElem?_eq_none (by omega)]
     simp
  rw [hM] at hbad hyes
  clear hT hM h hz hMo hv; have hG_h := lH hG; have bW_h := lH bW; have k0_h := lH k0; have hF_h := lH hF; have hO_h := lH hO; have hbad_h := lH hbad; have hyes_h := lH hyes; have hm60_h := lH hm60; have hsok_h := lH hsok; have hcl_h := lH hcl; clear hG bW k0 hF hO hbad hyes hm60 hsok hcl
  go_enter Try.func23, Try.ntmps23
  go_upto_region 1 with (fail)
  rw [← hW]
  clear hW
  go_wp2_with (fail)
  refine (hG_h.out).mono ?_
  rintro e w1 ⟨rfl, hb1⟩
  have k1 := t_box_below k0_h.out hb1
  clear c0 c1 c2 c3 f0 f1 f2 f3
  obtain ⟨⟨c0, c1, c2, c3⟩, f0, f1, f2, f3⟩ := t_box4 k1
  have hB := below_trans bW_h.out hb1 bW_h.out.size
  have hb1_h := lH hb1; have k1_h := lH k1; have hB_h := lH hB; clear hb1 k1 hB
  go_upto_region 4 with (fail)
  refine beginH (fun w' => w'.heap[w.heap.size]? = some (.cells #[.int .i64 z, .slice A n0 c, .slice B m0 d, .slice C k0' e0] tGr)) (by kernel_rfl) ?_
  have hbd : Below w1.heap.size w1 w1.drew := below_drewN (Below.refl _ _) 1
  generalize w1.drew = wd at hbd ⊢
  have kd := t_box_below k1_h.out hbd
  refine tkH 0 ?_ rfl kd (fun W' hW' => ?_) ?_; rotate_left; · (obtain ⟨⟨y0, y1, y2, y3⟩, z0, z1, z2, z3⟩ := t_box4 hW'; clear hW'; go_simp; first | done | with_reducible rfl)
  simp only [Act.put, nS]
  refine tkH 1 ?_ rfl kd (fun W' hW' => ?_) ?_; rotate_left; · (obtain ⟨⟨y0, y1, y2, y3⟩, z0, z1, z2, z3⟩ := t_box4 hW'; clear hW'; go_simp; first | done | with_reducible rfl)
  simp only [Act.put, nS]
  have hb1d := below_trans hb1_h.out hbd hb1_h.out.size
  refine' callH 2 (f := _) (args := _) rfl (by kernel_rfl) (by rfl) ?_ ?_; rotate_left 2; · (go_simp; first | done | with_reducible rfl | (constructor <;> with_reducible rfl))
  refine (hO_h.out wd hb1d).mono ?_
  rintro e w2 ⟨ob, ow, oe, rfl, hwk, _, hb2⟩
  have k2 := t_box_below kd hb2
  have hb12 := below_trans hb1d hb2 hb1d.size
  have hFc := hF_h.out w2 ob ow oe hb12 hwk
  refine ⟨_, rfl, k2, ?_⟩
  simp only [Act.put, nS]
  refine' callH 3 (f := _) (args := _) rfl (by kernel_rfl) (by rfl) ?_ ?_; rotate_left 2; · (go_simp; first | done | with_reducible rfl | (constructor <;> with_reducible rfl))
  refine (hFc).mono ?_
  rintro e w3 ⟨Ax, cx, xs, rfl, hsl, hok, hpp, hb3'⟩
  have hb3 := below_trans hbd (below_trans hb2 hb3' hb2.size) hbd.size
  have k3 := t_box_below k2 hb3'
  clear hbd kd hb1d hwk hb2 k2 hb12 hFc hb3' hO_h hF_h
  refine ⟨_, rfl, k3, ?_⟩
  simp only [Act.put, nS]
  refine tkH 4 ?_ rfl k3 (fun W' hW' => ?_) ?_; rotate_left; · (skip; clear hW'; go_simp; first | done | with_reducible rfl)
  simp only [Act.put, nS]
  refine doneH (by kernel_rfl) ?_
  obtain ⟨xl, hxl⟩ : ∃ q, xs.length = q := ⟨_, rfl⟩
  have hxp : (partsM g).length = xl := by rw [← hpp, List.length_map, hxl]
  have hxm : xl ≤ 60 := by
   rw [← hxp]
   have := hsok_h.out.1
   have := hm60_h.out
   unfold partsM
   omega
  rw [hxl] at hsl ⊢
  clear k3
  have hB3 := below_trans hB_h.out hb3 hB_h.out.size
  have hat : ∀ k x, xs[k]? = some x → prtAt g k = x.P := fun k x hx => by
   unfold prtAt
   rw [← hpp, List.getD_eq_getElem?_getD, List.getElem?_map, hx]
   rfl
  have hct : ∀ k, prtAt g (k + 1) = prtAt g (k + 1) := fun _ => rfl
  clear c0 c1 c2 c3 f0 f1 f2 f3 hb3 hpp hct; have hsl_h := lH hsl; have hB3_h := lH hB3; have hxl_h := lH hxl; have hxp_h := lH hxp; have hat_h := lH hat; have hok_h := lH hok; clear hsl hB3 hxl hxp hat hok
  go_wp2_with (fail)
  go_loopw [18, 4, 5] (fun i a b wr => ∃ k : Nat, k ≤ xl ∧ i = .int .i64 k ∧ a = .int .i64 (ca2 g k).1 ∧ b = .int .i64 (ca2 g k).2 ∧ (∀ j, j ≤ k → (ca2 g j).1 ≤ 1000000000) ∧ Below w3.heap.size w3 wr) (fun i _ _ _ => xl - (intOf i).toNat)
  case atStart => exact ⟨0, Nat.zero_le _, rfl, rfl, rfl, fun j hj => (by
   obtain rfl : j = 0 := by omega
   show (1 : Int) ≤ 1000000000
   decide), Below.refl _ _⟩
  case round =>
   obtain ⟨k, hk, rfl, rfl, rfl, hle, hbo⟩ := hrel
   obtain ⟨wo, rfl⟩ : ∃ x, x = wr := ⟨_, rfl⟩
   have hrb := ca2_run g k
   have hcb := ca2_pos hm60_h.out k (by rw [hxp_h.out]; exact hk)
   have hc9 := hle k (Nat.le_refl _)
   by_cases hlt : k < xl
   · obtain ⟨x, hx⟩ : ∃ x, xs[k]? = some x := ⟨_, List.getElem?_eq_getElem (by rw [hxl_h.out]; exact hlt)⟩
     have hpx := hat_h.out k x hx
     have hwy := prtAt_ways hm60_h.out (k := k) (by rw [hxp_h.out]; exact hlt)
     have hxo := (hok_h.out x (List.mem_of_getElem? hx))
     obtain ⟨ad, hAx, d0, d1, d2, d3⟩ := cp_at (hsl_h.out.below hbo) hx
     have hpr : ∀ k1, k = k1 + 1 → ∃ y : Cp, xs[k1]? = some y := fun k1 e => ⟨_, List.getElem?_eq_getElem (by rw [hxl_h.out]; omega)⟩
     have hc1 : (ca2 g (k + 1)).1 = (ca2 g k).1 * ((ca2 g (k + 1)).2 * (prtAt g k).2.2) := rfl
     have hc2 : (ca2 g (k + 1)).2 = if 0 < k ∧ (prtAt g (k - 1)).1 = (prtAt g k).1 then (ca2 g k).2 + 1 else 1 := rfl
     have hrb1 := ca2_run g (k + 1)
     obtain ⟨cn, hcn⟩ : ∃ q, (ca2 g k).1 = q := ⟨_, rfl⟩
     obtain ⟨rn, hrn⟩ : ∃ q, (ca2 g k).2 = q := ⟨_, rfl⟩
     obtain ⟨r, hr⟩ : ∃ q, (ca2 g (k + 1)).2 = q := ⟨_, rfl⟩
     obtain ⟨xb, xmw, xme, XD, xdl, xdc, P⟩ := x
     simp only at d0 d1 d2 d3 hpx hxo
     obtain ⟨u, hu⟩ : ∃ q, P.2.2 = q := ⟨_, rfl⟩
     rw [hu] at d3
     obtain ⟨lw, hlw⟩ : ∃ q, leastW P.2.1.1 = q := ⟨_, rfl⟩
     rw [hlw] at d2
     rw [hpx, hu] at hwy
     rw [hpx, hcn, hr, hu] at hc1
     rw [hpx, hrn, hr] at hc2
     rw [hcn] at hcb hc9 ⊢
     rw [hrn] at hrb ⊢
     rw [hr] at hrb1
     obtain ⟨⟨b1, b2⟩, b3, b4⟩ := ca_bnd ⟨hcb, hc9⟩ (r := r) ⟨by omega, by omega⟩ hwy
     obtain ⟨q, hq⟩ : ∃ q, r * u = q := ⟨_, rfl⟩
     rw [hq] at b1 b2 b3 b4 hc1
     rw [Int.mul_comm] at hq
     obtain ⟨cq, hcq⟩ : ∃ y, cn * q = y := ⟨_, rfl⟩
     rw [hcq] at b3 b4 hc1
     obtain ⟨W6, hW6, bW6, k6⟩ := (⟨_, rfl, t_below_alloc _ _, heap_alloc_new _ _⟩ : ∃ W, W = wo.alloc (.cells #[.pointer (some ⟨xb, 0, none⟩), .slice XD xdl xdc, .int .i64 lw, .int .i64 u] tCp) ∧ Below wo.heap.size wo W ∧ W.heap[wo.heap.size]? = some (.cells #[.pointer (some ⟨xb, 0, none⟩), .slice XD xdl xdc, .int .i64 lw, .int .i64 u] tCp))
     have hb6 := below_trans hbo bW6 hbo.size
     have hkI : (k : Int) < (xl : Int) := by omega
     subst hAx
     clear hu hlw hx hcn hrn bW6 hbo; have hle_h := lH hle; have hpx_h := lH hpx; have hxo_h := lH hxo; have hpr_h := lH hpr; have hc1_h := lH hc1; have hc2_h := lH hc2; have hr_h := lH hr; have k6_h := lH k6; have hb6_h := lH hb6; clear hle hpx hxo hpr hc1 hc2 hr k6 hb6
     go_upto_region 8 with (fail)
     rw [← hW6]
     clear hW6 d0 d1 d2 d3
     rcases Nat.eq_zero_or_pos k with h0 | h0
     case' inl =>
      have hk0 : ¬ (0 : Int) < (k : Int) := by omega
      refine beginH (fun w' => Below W6.heap.size W6 w') (by kernel_rfl) ?_
      have hbd : Below W6.heap.size W6 W6.drew := below_drewN (Below.refl _ _) 1
      generalize W6.drew = w7 at hbd ⊢
      refine tkH 0 ?_ rfl hbd (fun W' hW' => ?_) ?_; rotate_left; · (skip; clear hW'; go_simp; first | done | with_reducible rfl)
      simp only [Act.put, nS]
      refine tkH 1 ?_ rfl hbd (fun W' hW' => ?_) ?_; rotate_left; · (skip; clear hW'; go_simp; first | done | with_reducible rfl)
      simp only [Act.put, nS]
      refine tkH 2 ?_ rfl hbd (fun W' hW' => ?_) ?_; rotate_left; · (skip; clear hW'; go_simp; first | done | with_reducible rfl)
      simp only [Act.put, nS]
      refine offH 3 rfl (by kernel_rfl) (by kernel_rfl) (by kernel_rfl) (fun _ _ _ h => h) hbd (by rfl) ?_
      simp only [Act.put, nS]
      refine offH 4 rfl (by kernel_rfl) (by kernel_rfl) (by kernel_rfl) (fun _ _ _ h => h) hbd (by rfl) ?_
      simp only [Act.put, nS]
      refine offH 5 rfl (by kernel_rfl) (by kernel_rfl) (by kernel_rfl) (fun _ _ _ h => h) hbd (by rfl) ?_
      simp only [Act.put, nS]
      refine offH 6 rfl (by kernel_rfl) (by kernel_rfl) (by kernel_rfl) (fun _ _ _ h => h) hbd (by rfl) ?_
      simp only [Act.put, nS]
      refine offH 7 rfl (by kernel_rfl) (by kernel_rfl) (by kernel_rfl) (fun _ _ _ h => h) hbd (by rfl) ?_
      simp only [Act.put, nS]
      refine offH 8 rfl (by kernel_rfl) (by kernel_rfl) (by kernel_rfl) (fun _ _ _ h => h) hbd (by rfl) ?_
      simp only [Act.put, nS]
      refine offH 9 rfl (by kernel_rfl) (by kernel_rfl) (by kernel_rfl) (fun _ _ _ h => h) hbd (by rfl) ?_
      simp only [Act.put, nS]
      refine offH 10 rfl (by kernel_rfl) (by kernel_rfl) (by kernel_rfl) (fun _ _ _ h => h) hbd (by rfl) ?_
      simp only [Act.put, nS]
      refine offH 11 rfl (by kernel_rfl) (by kernel_rfl) (by kernel_rfl) (fun _ _ _ h => h) hbd (by rfl) ?_
      simp only [Act.put, nS]
      refine tkH 12 ?_ rfl hbd (fun W' hW' => ?_) ?_; rotate_left; · (skip; clear hW'; go_simp; first | done | with_reducible rfl)
      simp only [Act.put, nS]
      refine doneH (by kernel_rfl) ?_
      have hr1 : r = 1 := by
       have h1 := hc2_h.out
       rw [if_neg (by omega)] at h1
       exact h1
      subst hr1
      obtain rfl : u = q := by rw [← hq, Int.mul_one]
      clear hk0 hc2_h
      have hbf := below_trans hb6_h.out hbd hb6_h.out.size
      have k7 := t_box_below k6_h.out hbd
      clear hbd h0; have hbf_h := lH hbf; have k7_h := lH k7; clear hbf k7
     case' inr =>
      have hk0 : (0 : Int) < (k : Int) := by omega
      obtain ⟨k1, hk1⟩ : ∃ k1, k = k1 + 1 := ⟨k - 1, by omega⟩
      obtain ⟨y, hy⟩ := hpr_h.out k1 hk1
      have hpy := hat_h.out k1 y hy
      have hyo := (hok_h.out y (List.mem_of_getElem? hy))
      obtain ⟨ad', hAy, v0, v1, v2, v3⟩ := cp_at (hsl_h.out.below hb6_h.out) hy
      obtain rfl := Option.some.inj hAy
      obtain ⟨yb, ymw, yme, YD, ydl, ydc, R⟩ := y
      simp only at v1 hpy hyo
      have hkw : IntKind.i64.wrap ((k : Int) - 1) = (k1 : Int) := by
       rw [show (k : Int) - 1 = (k1 : Int) by omega]
       simp [IntKind.wrap, IntKind.bits, IntKind.signed]
       omega
      have hk1I : (k1 : Int) < (xl : Int) := by omega
      have hl1 := hxo_h.out.len
      have hl2 := hyo.len
      have hl3 := hcl_h.out k
      rw [hpx_h.out] at hl3
      simp only at hl1 hl2
      have hsm : ∀ W', Below w3.heap.size w3 W' → Calls Try.prog 49 #[.slice XD xdl xdc, .slice YD ydl ydc] W' fun e w' => e = .returned (.bool (decide (P.1 = R.1))) ∧ Below W'.heap.size W' w' := fun W' hb => by
       have h1 := slicesEqual_any XD YD xdc ydc P.1 R.1 W' ((hxo_h.out.below hb).cod.rd) ((hyo.below hb).cod.rd) (by omega)
       rw [hl1, hl2] at h1
       exact h1.mono fun e w' ⟨a, b⟩ => ⟨a, b.below⟩
      have hc2 := hc2_h.out
      have hc2' : r = if P.1 = R.1 then rn + 1 else 1 := by
       rw [show k - 1 = k1 by omega, hpy] at hc2
       rw [hc2]
       by_cases e : P.1 = R.1
       · rw [if_pos e, if_pos ⟨h0, e.symm⟩]
       · rw [if_neg e, if_neg (fun hh => e hh.2.symm)]
      clear hc2 hy hpy hyo v0 v2 v3 hk1 hl1 hl2 hl3; have hsm_h := lH hsm; have hc2'_h := lH hc2'; clear hsm hc2'
      refine beginH (fun w' => Below W6.heap.size W6 w') (by kernel_rfl) ?_
      have hbd : Below W6.heap.size W6 W6.drew := below_drewN (Below.refl _ _) 1
      generalize W6.drew = w7' at hbd ⊢
      refine tkH 0 ?_ rfl hbd (fun W' hW' => ?_) ?_; rotate_left; · (obtain ⟨⟨y0, y1, y2, y3⟩, z0, z1, z2, z3⟩ := t_box4 (t_box_below k6_h.out hW'); have v1' := (hW'.cell (World.block_lt_of_cell? _ _ v1)).trans v1; clear hW'; go_simp; first | done | with_reducible rfl)
      simp only [Act.put, nS]
      refine tkH 1 ?_ rfl hbd (fun W' hW' => ?_) ?_; rotate_left; · (obtain ⟨⟨y0, y1, y2, y3⟩, z0, z1, z2, z3⟩ := t_box4 (t_box_below k6_h.out hW'); have v1' := (hW'.cell (World.block_lt_of_cell? _ _ v1)).trans v1; clear hW'; go_simp; first | done | with_reducible rfl)
      simp only [Act.put, nS]
      refine tkH 2 ?_ rfl hbd (fun W' hW' => ?_) ?_; rotate_left; · (obtain ⟨⟨y0, y1, y2, y3⟩, z0, z1, z2, z3⟩ := t_box4 (t_box_below k6_h.out hW'); have v1' := (hW'.cell (World.block_lt_of_cell? _ _ v1)).trans v1; clear hW'; go_simp; first | done | with_reducible rfl)
      simp only [Act.put, nS]
      refine tkH 3 ?_ rfl hbd (fun W' hW' => ?_) ?_; rotate_left; · (obtain ⟨⟨y0, y1, y2, y3⟩, z0, z1, z2, z3⟩ := t_box4 (t_box_below k6_h.out hW'); have v1' := (hW'.cell (World.block_lt_of_cell? _ _ v1)).trans v1; clear hW'; go_simp; first | done | with_reducible rfl)
      simp only [Act.put, nS]
      refine tkH 4 ?_ rfl hbd (fun W' hW' => ?_) ?_; rotate_left; · (obtain ⟨⟨y0, y1, y2, y3⟩, z0, z1, z2, z3⟩ := t_box4 (t_box_below k6_h.out hW'); have v1' := (hW'.cell (World.block_lt_of_cell? _ _ v1)).trans v1; clear hW'; go_simp; first | done | with_reducible rfl)
      simp only [Act.put, nS]
      refine tkH 5 ?_ rfl hbd (fun W' hW' => ?_) ?_; rotate_left; · (obtain ⟨⟨y0, y1, y2, y3⟩, z0, z1, z2, z3⟩ := t_box4 (t_box_below k6_h.out hW'); have v1' := (hW'.cell (World.block_lt_of_cell? _ _ v1)).trans v1; clear hW'; go_simp; first | done | with_reducible rfl)
      simp only [Act.put, nS]
      refine tkH 6 ?_ rfl hbd (fun W' hW' => ?_) ?_; rotate_left; · (obtain ⟨⟨y0, y1, y2, y3⟩, z0, z1, z2, z3⟩ := t_box4 (t_box_below k6_h.out hW'); have v1' := (hW'.cell (World.block_lt_of_cell? _ _ v1)).trans v1; clear hW'; go_simp; first | done | with_reducible rfl)
      simp only [Act.put, nS]
      refine tkH 7 ?_ rfl hbd (fun W' hW' => ?_) ?_; rotate_left; · (obtain ⟨⟨y0, y1, y2, y3⟩, z0, z1, z2, z3⟩ := t_box4 (t_box_below k6_h.out hW'); have v1' := (hW'.cell (World.block_lt_of_cell? _ _ v1)).trans v1; clear hW'; go_simp; first | done | with_reducible rfl)
      simp only [Act.put, nS]
      refine tkH 8 ?_ rfl hbd (fun W' hW' => ?_) ?_; rotate_left; · (obtain ⟨⟨y0, y1, y2, y3⟩, z0, z1, z2, z3⟩ := t_box4 (t_box_below k6_h.out hW'); have v1' := (hW'.cell (World.block_lt_of_cell? _ _ v1)).trans v1; clear hW'; go_simp; first | done | with_reducible rfl)
      simp only [Act.put, nS]
      refine tkH 9 ?_ rfl hbd (fun W' hW' => ?_) ?_; rotate_left; · (obtain ⟨⟨y0, y1, y2, y3⟩, z0, z1, z2, z3⟩ := t_box4 (t_box_below k6_h.out hW'); have v1' := (hW'.cell (World.block_lt_of_cell? _ _ v1)).trans v1; clear hW'; go_simp; first | done | with_reducible rfl)
      simp only [Act.put, nS]
      refine tkH 10 ?_ rfl hbd (fun W' hW' => ?_) ?_; rotate_left; · (obtain ⟨⟨y0, y1, y2, y3⟩, z0, z1, z2, z3⟩ := t_box4 (t_box_below k6_h.out hW'); have v1' := (hW'.cell (World.block_lt_of_cell? _ _ v1)).trans v1; clear hW'; go_simp; first | done | with_reducible rfl)
      simp only [Act.put, nS]
      refine' callH 11 (f := _) (args := _) rfl (by kernel_rfl) (by rfl) ?_ ?_; rotate_left 2; · (go_simp; first | done | with_reducible rfl | (constructor <;> with_reducible rfl))
      refine (hsm_h.out w7' (below_trans hb6_h.out hbd hb6_h.out.size)).mono ?_
      rintro e w7 ⟨rfl, hb7⟩
      have hb67 := below_trans hbd hb7 hbd.size
      refine ⟨_, rfl, hb67, ?_⟩
      simp only [Act.put, nS]
      by_cases hsame : P.1 = R.1
      case' pos =>
       rw [decide_eq_true hsame]
       have hrr : rn + 1 = r := by
        have h1 := hc2'_h.out
        rw [if_pos hsame] at h1
        exact h1.symm
       refine tkH 12 ?_ rfl hb67 (fun W' hW' => ?_) ?_; rotate_left; · (skip; clear hW'; go_simp; first | done | with_reducible rfl)
       simp only [Act.put, nS]
       refine doneH (by kernel_rfl) ?_
      case' neg =>
       rw [decide_eq_false hsame]
       have hr1 : r = 1 := by
        have h1 := hc2'_h.out
        rw [if_neg hsame] at h1
        exact h1
       subst hr1
       obtain rfl : u = q := by rw [← hq, Int.mul_one]
       refine tkH 12 ?_ rfl hb67 (fun W' hW' => ?_) ?_; rotate_left; · (skip; clear hW'; go_simp; first | done | with_reducible rfl)
       simp only [Act.put, nS]
       refine doneH (by kernel_rfl) ?_
      all_goals
       have hbf := below_trans hb6_h.out hb67 hb6_h.out.size
       have k7 := t_box_below k6_h.out hb67
       clear hk0 hc2_h hc2'_h hb67 hb7 hbd hsame h0 v1 hkw hk1I hsm_h; have hbf_h := lH hbf; have k7_h := lH k7; clear hbf k7
     all_goals
      obtain ⟨⟨c0, c1, c2, c3⟩, f0, f1, f2, f3⟩ := t_box4 k7_h.out
      by_cases hbig : 1000000000 < cq
      · have hM0 := hbad_h.out (k + 1) (by rw [hxp_h.out]; omega) (by rw [hc1_h.out]; exact hbig)
        have hBe := below_trans hB3_h.out hbf_h.out hB3_h.out.size
        have hM0_h := lH hM0; have hBe_h := lH hBe; clear hM0 hBe
        go_wp2_with (fail)
        go_ret2
        exact ⟨by rw [hM0_h.out]; rfl, hBe_h.out⟩
      · go_wp2_with (fail)
        go_roundw
        case rel =>
         refine ⟨k + 1, by omega, by go_num, by rw [hc1_h.out], by first | (rw [hr_h.out, ← hrr]; done) | rw [hr_h.out], fun j hj => ?_, hbf_h.out⟩
         rcases Nat.lt_or_ge j (k + 1) with h1 | h1
         · exact hle_h.out j (by omega)
         · obtain rfl : j = k + 1 := by omega
           rw [hc1_h.out]
           omega
        case measure => simp [intOf]; omega
   · obtain rfl : xl = k := by omega
     have hM1 := hyes_h.out (by rw [hxp_h.out]; exact hle)
     rw [hxp_h.out] at hM1
     have hBe := below_trans hB3_h.out hbo hB3_h.out.size
     have hM1_h := lH hM1; have hBe_h := lH hBe; clear hM1 hBe
     go_wp2_with (fail)
     go_ret2
     exact ⟨by rw [hM1_h.out]; rfl, hBe_h.out⟩
@[simp] theorem eh_length (l : List EHd) : (eh l).length = 2 * l.length := by
  induction l with
  | nil => rfl
  | cons a r ih => simp only [eh, List.length_cons, ih]; omega
section
variable {w w' : World} {fp : List Nat} {ls : List Hd}
theorem OwLs.wr (h : OwLs w fp ls) {i : Nat} {B : Option Addr} {c : Nat} {l l' : List Int} (hi : ls[i]? = some (B, c, l)) (hk : Keeps (· ∈ fpA B) w w') (hI : IS w' B c l') : OwLs w' fp (ls.set i (B, c, l')) := by
 have hap : ∀ (k : Nat) (x : Hd), ls[k]? = some x → i ≠ k → ∀ b, b ∈ fpA x.1 → ¬ b ∈ fpA B := fun k x hx hne b hb hb' => by
  have hp := List.pairwise_iff_getElem.1 h.apart
  obtain ⟨hi', ei⟩ := List.getElem?_eq_some_iff.1 hi
  obtain ⟨hk', ek⟩ := List.getElem?_eq_some_iff.1 hx
  rcases Nat.lt_or_gt_of_ne hne with hlt | hlt
  · exact hp i k hi' hk' hlt b (by rw [ei]; exact hb') (by rw [ek]; exact hb)
  · exact hp k i hk' hi' hlt b (by rw [ek]; exact hb) (by rw [ei]; exact hb')
 have hget : ∀ (k : Nat) (x : Hd), (ls.set i (B, c, l'))[k]? = some x → ∃ y : Hd, ls[k]? = some y ∧ y.1 = x.1 := by
  intro k x hx
  rw [List.getElem?_set] at hx
  split at hx
  · rename_i hk; subst hk
    simp at hx
    exact ⟨_, hi, by rw [← hx.2]⟩
  · exact ⟨x, hx, rfl⟩
 refine ⟨fun x hx => ?_, ?_, fun x hx => ?_⟩
 · obtain ⟨k, hkk⟩ := List.mem_iff_getElem?.1 hx
   rw [List.getElem?_set] at hkk
   split at hkk
   · simp at hkk
     rw [← hkk.2]
     exact hI
   · rename_i hik
     exact (h.rows x (List.mem_of_getElem? hkk)).keeps hk fun b hb hb' => hap k x hkk hik b hb hb'
 · refine List.pairwise_iff_getElem.2 fun a b ha hb hab => ?_
   obtain ⟨x, hx, ex⟩ := hget a _ (List.getElem?_eq_getElem ha)
   obtain ⟨y, hy, ey⟩ := hget b _ (List.getElem?_eq_getElem hb)
   rw [← ex, ← ey]
   obtain ⟨ha', e1⟩ := List.getElem?_eq_some_iff.1 hx
   obtain ⟨hb', e2⟩ := List.getElem?_eq_some_iff.1 hy
   rw [← e1, ← e2]
   exact List.pairwise_iff_getElem.1 h.apart a b ha' hb' hab
 · obtain ⟨k, hkk⟩ := List.mem_iff_getElem?.1 hx
   obtain ⟨y, hy, e⟩ := hget k x hkk
   rw [← e]; exact h.outer y (List.mem_of_getElem? hy)
end
@[simp] theorem marksE_length : ∀ (k : Nat) (L : List Eg), (marksE k L).length = L.length
  | _, [] => rfl
  | k, e :: r => by simp [marksE, marksE_length]
set_option maxRecDepth 100000 in
set_option maxHeartbeats 2000000 in
theorem eqGraph_law {v v' : Value} {g g' : Gr} {w : World} (h : RdGr w v g) (h' : RdGr w v' g') (ok : OkG g) :
  Calls Try.prog 12 #[v, v'] w fun e w' => e = .returned (.bool (decide (g = g'))) ∧ Below w.heap.size w w' := by
 obtain ⟨A, c, hs, ⟨B, b, s⟩, ⟨C, d, t⟩, rfl, e1, e2, e3, hE, hRa, hRb⟩ := h
 obtain ⟨A', c', hs', ⟨B', b', s'⟩, ⟨C', d', t'⟩, rfl, e1', e2', e3', hE', hRa', hRb'⟩ := h'
 obtain ⟨z, es, s0, t0⟩ := g
 obtain ⟨z', es', s0', t0'⟩ := g'
 have a1 : es = hs.map egOf := e1
 have a2 : s = s0 := e2
 have a3 : t = t0 := e3
 have b1 : es' = hs'.map egOf := e1'
 have b2 : s' = s0' := e2'
 have b3 : t' = t0' := e3'
 subst a1 a2 a3 b1 b2 b3
 obtain ⟨⟨ok1, ok2, ok3⟩, ok4, -⟩ := ok
 have ok1' : hs.length ≤ 1048576 := by have : (hs.map egOf).length ≤ 1048576 := ok1; simpa using this
 have ok2' : s.length ≤ 1048576 := ok2
 have ok3' : t.length ≤ 1048576 := ok3
 have hQ0 := fun (W : World) (hb : Below w.heap.size w W) => eqEdgeS_any A A' c c' hs hs' W (hE.below hb) (hE'.below hb) ok1' (fun x hx => ok4 _ (List.mem_map_of_mem hx))
 have hQ1 := fun (W : World) (hb : Below w.heap.size w W) => eqIntS_any B B' b b' s s' W (RdI.below hRa hb) (RdI.below hRa' hb) (by omega)
 have hQ2 := fun (W : World) (hb : Below w.heap.size w W) => eqIntS_any C C' d d' t t' W (RdI.below hRb hb) (RdI.below hRb' hb) (by omega)
 show Calls Try.prog _ #[.agg #[.int .i64 z, .slice A hs.length c, .slice B s.length b, .slice C t.length d], .agg #[.int .i64 z', .slice A' hs'.length c', .slice B' s'.length b', .slice C' t'.length d']] w fun e w' => e = .returned (.bool (decide (((z, hs.map egOf, s, t) : Gr) = (z', hs'.map egOf, s', t')))) ∧ Below w.heap.size w w'
 obtain ⟨D, hD⟩ : ∃ D, D = decide (((z, hs.map egOf, s, t) : Gr) = (z', hs'.map egOf, s', t')) := ⟨_, rfl⟩
 obtain ⟨D0, hD0⟩ : ∃ D, D = decide (hs.map egOf = hs'.map egOf) := ⟨_, rfl⟩
 obtain ⟨D1, hD1⟩ : ∃ D, D = decide (s = s') := ⟨_, rfl⟩
 obtain ⟨D2, hD2⟩ : ∃ D, D = decide (t = t') := ⟨_, rfl⟩
 rw [← hD]
 simp only [← hD0] at hQ0
 simp only [← hD1] at hQ1
 simp only [← hD2] at hQ2
 have hDD : D = (decide (z = z') && (D0 && (D1 && D2))) := by
  rw [hD, hD0, hD1, hD2, Bool.eq_iff_iff]; simp
 obtain ⟨n, hn⟩ : ∃ n, n = hs.length := ⟨_, rfl⟩
 obtain ⟨n', hn'⟩ : ∃ n, n = hs'.length := ⟨_, rfl⟩
 obtain ⟨p, hp⟩ : ∃ p, p = s.length := ⟨_, rfl⟩
 obtain ⟨q, hq⟩ : ∃ q, q = t.length := ⟨_, rfl⟩
 obtain ⟨p', hp'⟩ : ∃ p, p = s'.length := ⟨_, rfl⟩
 obtain ⟨q', hq'⟩ : ∃ q, q = t'.length := ⟨_, rfl⟩
 simp only [← hn, ← hn'] at hQ0
 simp only [← hp, ← hp'] at hQ1
 simp only [← hq, ← hq'] at hQ2
 rw [← hn, ← hn', ← hp, ← hq, ← hp', ← hq']
 obtain ⟨W, hW, bW, k0, k1⟩ := allocs2 w (.cells #[.int .i64 z, .slice A n c, .slice B p b, .slice C q d] tGr) (.cells #[.int .i64 z', .slice A' n' c', .slice B' p' b', .slice C' q' d'] tGr)
 obtain ⟨⟨c0, c1, c2, c3⟩, f0, f1, f2, f3⟩ := t_box4 k0
 obtain ⟨⟨d0, d1, d2, d3⟩, g0, g1, g2, g3⟩ := t_box4 k1
 clear hE hE' hRa hRa' hRb hRb' hD hD0 hD1 hD2 hn hn' hp hq hp' hq' e1 e2 e3 e1' e2' e3' ok1 ok2 ok3 ok4
 by_cases e0 : z = z'
 · have t0 : (z != z') = false := by simp [e0]
   rw [decide_eq_true e0] at hDD
   cases D0
   · obtain rfl : D = false := by rw [hDD]; rfl
     clear e0 hDD; have hQ0_h := lH hQ0; have hQ1_h := lH hQ1; have hQ2_h := lH hQ2; have k0_h := lH k0; have k1_h := lH k1; have bW_h := lH bW; clear hQ0 hQ1 hQ2 k0 k1 bW
     go_enter Try.func12, Try.ntmps12
     go_upto_region 1 with (fail)
     rw [← hW]
     clear hW
     go_wp2_with (fail)
     refine (hQ0_h.out W bW_h.out).mono ?_
     rintro e w1 ⟨rfl, hb1⟩
     go_wp2_with (fail)
     go_ret
     exact ⟨rfl, below_trans bW_h.out hb1 bW_h.out.size⟩
   · cases D1
     · obtain rfl : D = false := by rw [hDD]; rfl
       clear e0 hDD; have hQ0_h := lH hQ0; have hQ1_h := lH hQ1; have hQ2_h := lH hQ2; have k0_h := lH k0; have k1_h := lH k1; have bW_h := lH bW; clear hQ0 hQ1 hQ2 k0 k1 bW
       go_enter Try.func12, Try.ntmps12
       go_upto_region 1 with (fail)
       rw [← hW]
       clear hW
       go_wp2_with (fail)
       refine (hQ0_h.out W bW_h.out).mono ?_
       rintro e w1 ⟨rfl, hb1⟩
       clear c0 c1 c2 c3 f0 f1 f2 f3 d0 d1 d2 d3 g0 g1 g2 g3
       obtain ⟨⟨c0, c1, c2, c3⟩, f0, f1, f2, f3⟩ := t_box4 (t_box_below k0_h.out hb1)
       obtain ⟨⟨d0, d1, d2, d3⟩, g0, g1, g2, g3⟩ := t_box4 (t_box_below k1_h.out hb1)
       have hB1 := below_trans bW_h.out hb1 bW_h.out.size
       clear hb1; have hB1_h := lH hB1; clear hB1
       go_wp2_with (fail)
       refine (hQ1_h.out w1 hB1_h.out).mono ?_
       rintro e w2 ⟨rfl, hq2⟩
       have hB2 := below_trans hB1_h.out hq2.below hB1_h.out.size
       clear hq2; have hB2_h := lH hB2; clear hB2
       go_wp2_with (fail)
       go_ret
       exact ⟨rfl, hB2_h.out⟩
     · obtain rfl : D = D2 := by rw [hDD]; rfl
       clear e0 hDD; have hQ0_h := lH hQ0; have hQ1_h := lH hQ1; have hQ2_h := lH hQ2; have k0_h := lH k0; have k1_h := lH k1; have bW_h := lH bW; clear hQ0 hQ1 hQ2 k0 k1 bW
       go_enter Try.func12, Try.ntmps12
       go_upto_region 1 with (fail)
       rw [← hW]
       clear hW
       go_wp2_with (fail)
       refine (hQ0_h.out W bW_h.out).mono ?_
       rintro e w1 ⟨rfl, hb1⟩
       clear c0 c1 c2 c3 f0 f1 f2 f3 d0 d1 d2 d3 g0 g1 g2 g3
       have k0a := t_box_below k0_h.out hb1
       have k1a := t_box_below k1_h.out hb1
       obtain ⟨⟨c0, c1, c2, c3⟩, f0, f1, f2, f3⟩ := t_box4 k0a
       obtain ⟨⟨d0, d1, d2, d3⟩, g0, g1, g2, g3⟩ := t_box4 k1a
       have hB1 := below_trans bW_h.out hb1 bW_h.out.size
       clear hb1; have hB1_h := lH hB1; have k0a_h := lH k0a; have k1a_h := lH k1a; clear hB1 k0a k1a
       go_wp2_with (fail)
       refine (hQ1_h.out w1 hB1_h.out).mono ?_
       rintro e w2 ⟨rfl, hq2⟩
       clear c0 c1 c2 c3 f0 f1 f2 f3 d0 d1 d2 d3 g0 g1 g2 g3
       obtain ⟨⟨c0, c1, c2, c3⟩, f0, f1, f2, f3⟩ := t_box4 (box_qt k0a_h.out hq2)
       obtain ⟨⟨d0, d1, d2, d3⟩, g0, g1, g2, g3⟩ := t_box4 (box_qt k1a_h.out hq2)
       have hB2 := below_trans hB1_h.out hq2.below hB1_h.out.size
       clear hq2; have hB2_h := lH hB2; clear hB2
       go_wp2_with (fail)
       refine (hQ2_h.out w2 hB2_h.out).mono ?_
       rintro e w3 ⟨rfl, hq3⟩
       have hB3 := below_trans hB2_h.out hq3.below hB2_h.out.size
       clear hq3; have hB3_h := lH hB3; clear hB3
       cases D
       · go_wp2_with (fail)
         go_ret
         exact ⟨rfl, hB3_h.out⟩
       · go_wp2_with (fail)
         go_ret
         exact ⟨rfl, hB3_h.out⟩
 · have t0 : (z != z') = true := by simp [e0]
   obtain rfl : D = false := by rw [hDD, decide_eq_false e0]; rfl
   clear e0 hDD; have hQ0_h := lH hQ0; have hQ1_h := lH hQ1; have hQ2_h := lH hQ2; have k0_h := lH k0; have k1_h := lH k1; have bW_h := lH bW; clear hQ0 hQ1 hQ2 k0 k1 bW
   go_enter Try.func12, Try.ntmps12
   go_upto_region 1 with (fail)
   rw [← hW]
   clear hW
   go_wp2_with (fail)
   go_ret
   exact ⟨rfl, bW_h.out⟩
end Go.Proofs.Ytjompikdkhhlgaa
namespace Go.Proofs.Ytjompikdkhhlgaa
open Go.ChangeShapes Go.WideShapes Go.ChangeAt Go.RowKit
set_option maxHeartbeats 40000000 in
set_option maxRecDepth 100000 in
theorem lawCountAutomorphisms_any (vg : Value) (g : Gr) (w : World) (hg : RdGr w vg g) (hgg : BigGraph g) :
  Calls Try.prog 5 #[vg] w fun e w' => e = .returned (.bool true) ∧ Below w.heap.size w w' := by
 obtain ⟨Ag, ng, cg, Bg, mg, dg, Cg, kg, eg, rfl⟩ := hg.shape
 obtain ⟨Sg, hSg⟩ : ∃ S, S = szG (g) 1048576 := ⟨_, rfl⟩
 have HSg := lH hSg; clear hSg
 have hB0 : Below w.heap.size w w := Below.refl _ _
 have hb1 := t_below_alloc (w) (.cells #[.int .i64 (g).1, .slice Ag ng cg, .slice Bg mg dg, .slice Cg kg eg] 25)
 have hB1 := below_trans hB0 hb1 hB0.size
 have bx1 := heap_alloc_new (w) (.cells #[.int .i64 (g).1, .slice Ag ng cg, .slice Bg mg dg, .slice Cg kg eg] 25)
 have lt_pg : LtL ((w).alloc (.cells #[.int .i64 (g).1, .slice Ag ng cg, .slice Bg mg dg, .slice Cg kg eg] 25)).heap.size [(w).heap.size] := fun b hb => by obtain rfl := List.mem_singleton.1 hb; exact t_box_lt bx1
 have fr_pg : FreshL (w).heap.size [(w).heap.size] := fun b hb => by obtain rfl := List.mem_singleton.1 hb; exact Nat.le_refl _
 have BX_pg_1 := lH bx1; clear bx1
 by_cases negg : Sg < 0
 case pos =>
  go_enter Try.func5, Try.ntmps5
  obtain ⟨⟨c1_0, c1_1, c1_2, c1_3⟩, f1_0, f1_1, f1_2, f1_3⟩ := t_box4 BX_pg_1.out
  go_wp2_with (fail)
  refine (szGraph_law 1048576 (hg.below hB1) hgg (by omega) (by omega)).mono ?_
  rintro e w2 ⟨he2, hb2⟩
  have hB2 := below_trans hB1 hb2 hB1.size
  clear c1_0 c1_1 c1_2 c1_3 f1_0 f1_1 f1_2 f1_3
  rw [← HSg.out] at he2
  subst he2
  go_wp2_with (fail)
  go_ret
  exact ⟨rfl, hB2⟩
 have sokg := szG_ok (by rw [← HSg.out]; omega : 0 ≤ szG (g) 1048576) (by omega)
 have okg := sokg.1
 have sleg : Sg ≤ 1048576 := by rw [HSg.out]; exact sokg.2
 clear sokg
 go_enter Try.func5, Try.ntmps5
 obtain ⟨⟨c2_0, c2_1, c2_2, c2_3⟩, f2_0, f2_1, f2_2, f2_3⟩ := t_box4 BX_pg_1.out
 go_wp2_with (fail)
 refine (szGraph_law 1048576 (hg.below hB1) hgg (by omega) (by omega)).mono ?_
 rintro e w2 ⟨he2, hb2⟩
 have hB2 := below_trans hB1 hb2 hB1.size
 clear c2_0 c2_1 c2_2 c2_3 f2_0 f2_1 f2_2 f2_3
 rw [← HSg.out] at he2
 subst he2
 have F3_pg_2 := lH (t_box_below BX_pg_1.out hb2)
 clear BX_pg_1
 obtain ⟨⟨c4_0, c4_1, c4_2, c4_3⟩, f4_0, f4_1, f4_2, f4_3⟩ := t_box4 F3_pg_2.out
 go_wp2_with (fail)
 refine (toGraph_law (hg.below hB2) okg).mono ?_
 rintro e w3 ⟨v3, fp3, rfl, o3, fr3, hb3⟩
 have hB3 := below_trans hB2 hb3 hB2.size
 clear c4_0 c4_1 c4_2 c4_3 f4_0 f4_1 f4_2 f4_3
 obtain ⟨A3, n3, c3, B3, m3, d3, C3, k3, e3, rfl⟩ := o3.shape
 have lt_ag := o3.lt
 go_wp2_with (fail)
 refine (sCountAutomorphisms_law  o3.rd okg).mono ?_
 rintro e w4 ⟨rfl, hb4⟩
 have hB4 := below_trans hB3 hb4 hB3.size
 have F5_pg_3 := lH (t_box_below F3_pg_2.out hb3)
 clear F3_pg_2
 have F6_pg_4 := lH (t_box_below F5_pg_3.out hb4)
 clear F5_pg_3
 obtain ⟨⟨c7_0, c7_1, c7_2, c7_3⟩, f7_0, f7_1, f7_2, f7_3⟩ := t_box4 F6_pg_4.out
 go_wp2_with (fail)
 refine (toGraph_law (hg.below hB4) okg).mono ?_
 rintro e w5 ⟨v5, fp5, rfl, o5, fr5, hb5⟩
 have hB5 := below_trans hB4 hb5 hB4.size
 clear c7_0 c7_1 c7_2 c7_3 f7_0 f7_1 f7_2 f7_3
 obtain ⟨A5, n5, c5, B5, m5, d5, C5, k5, e5, rfl⟩ := o5.shape
 have lt_xg := o5.lt
 have hb6 := t_below_alloc (w5) (.cells #[.int .i64 (g).1, .slice A5 n5 c5, .slice B5 m5 d5, .slice C5 k5 e5] 32)
 have hB6 := below_trans hB5 hb6 hB5.size
 have bx6 := heap_alloc_new (w5) (.cells #[.int .i64 (g).1, .slice A5 n5 c5, .slice B5 m5 d5, .slice C5 k5 e5] 32)
 have lt_bxg : LtL ((w5).alloc (.cells #[.int .i64 (g).1, .slice A5 n5 c5, .slice B5 m5 d5, .slice C5 k5 e5] 32)).heap.size [(w5).heap.size] := fun b hb => by obtain rfl := List.mem_singleton.1 hb; exact t_box_lt bx6
 have fr_bxg : FreshL (w5).heap.size [(w5).heap.size] := fun b hb => by obtain rfl := List.mem_singleton.1 hb; exact Nat.le_refl _
 have BX_bxg_6 := lH bx6; clear bx6
 have F8_xg_6 := o5.below hb6
 clear o5
 obtain ⟨⟨c9_0, c9_1, c9_2, c9_3⟩, f9_0, f9_1, f9_2, f9_3⟩ := t_box4 BX_bxg_6.out
 go_wp2_with (fail)
 refine (iCountAutomorphisms_law  F8_xg_6.rd okg).mono ?_
 rintro e w7 ⟨rfl, hb7⟩
 have hB7 := below_trans hB6 hb7 hB6.size
 clear c9_0 c9_1 c9_2 c9_3 f9_0 f9_1 f9_2 f9_3
 have F10_bxg_7 := lH (t_box_below BX_bxg_6.out hb7)
 clear BX_bxg_6
 have F11_pg_5 := lH (t_box_below F6_pg_4.out hb5)
 clear F6_pg_4
 have F12_pg_6 := lH (t_box_below F11_pg_5.out hb6)
 clear F11_pg_5
 have F13_pg_7 := lH (t_box_below F12_pg_6.out hb7)
 clear F12_pg_6
 have F14_xg_7 := F8_xg_6.below hb7
 clear F8_xg_6
 go_wp2_with (fail)
 refine beginH (fun w' => w'.heap[(w5).heap.size]? = some (.cells #[.int .i64 (g).1, .slice A5 n5 c5, .slice B5 m5 d5, .slice C5 k5 e5] 32) ∧ w'.heap[(w).heap.size]? = some (.cells #[.int .i64 (g).1, .slice Ag ng cg, .slice Bg mg dg, .slice Cg kg eg] 25)) (by kernel_rfl) ?_
 have hb8 : Below (w7).heap.size (w7) (w7).drew := below_drewN (Below.refl _ _) 1
 have hB8 := below_trans hB7 hb8 hB7.size
 have F16_bxg_8 := lH (t_box_below F10_bxg_7.out hb8)
 clear F10_bxg_7
 have F17_pg_8 := lH (t_box_below F13_pg_7.out hb8)
 clear F13_pg_7
 have F18_xg_8 := F14_xg_7.below hb8
 clear F14_xg_7
 refine tkH 0 ?_ rfl ⟨F16_bxg_8.out, F17_pg_8.out⟩ (fun W' hW' => ?_) ?_; rotate_left; · (obtain ⟨q1, q2⟩ := hW'; obtain ⟨⟨ca0, ca1, ca2, ca3⟩, gca0, gca1, gca2, gca3⟩ := t_box4 q1; obtain ⟨⟨cb0, cb1, cb2, cb3⟩, gcb0, gcb1, gcb2, gcb3⟩ := t_box4 q2; clear q1 q2; go_simp; first | done | with_reducible rfl)
 simp only [Act.put, nS]
 refine tkH 1 ?_ rfl ⟨F16_bxg_8.out, F17_pg_8.out⟩ (fun W' hW' => ?_) ?_; rotate_left; · (obtain ⟨q1, q2⟩ := hW'; obtain ⟨⟨ca0, ca1, ca2, ca3⟩, gca0, gca1, gca2, gca3⟩ := t_box4 q1; obtain ⟨⟨cb0, cb1, cb2, cb3⟩, gcb0, gcb1, gcb2, gcb3⟩ := t_box4 q2; clear q1 q2; go_simp; first | done | with_reducible rfl)
 simp only [Act.put, nS]
 refine' callH 2 (f := _) (args := _) rfl (by kernel_rfl) (by rfl) ?_ ?_; rotate_left 2; · (go_simp; first | done | with_reducible rfl | (constructor <;> with_reducible rfl))
 refine (toGraph_law (hg.below hB8) okg).mono ?_
 rintro e w9 ⟨v9, fp9, rfl, o9, fr9, hb9⟩
 have hB9 := below_trans hB8 hb9 hB8.size
 have F19_bxg_9 := lH (t_box_below F16_bxg_8.out hb9)
 clear F16_bxg_8
 have F20_pg_9 := lH (t_box_below F17_pg_8.out hb9)
 clear F17_pg_8
 have F21_xg_9 := F18_xg_8.below hb9
 clear F18_xg_8
 refine ⟨_, rfl, ⟨F19_bxg_9.out, F20_pg_9.out⟩, ?_⟩
 simp only [Act.put, nS]
 refine' callH 3 (f := _) (args := _) rfl (by kernel_rfl) (by rfl) ?_ ?_; rotate_left 2; · (go_simp; first | done | with_reducible rfl | (constructor <;> with_reducible rfl))
 refine (eqGraph_law F21_xg_9.rd o9.rd okg).mono ?_
 rintro e w10 ⟨rfl, hb10⟩
 have hB10 := below_trans hB9 hb10 hB9.size
 have F22_bxg_10 := lH (t_box_below F19_bxg_9.out hb10)
 clear F19_bxg_9
 have F23_pg_10 := lH (t_box_below F20_pg_9.out hb10)
 clear F20_pg_9
 have F24_xg_10 := F21_xg_9.below hb10
 clear F21_xg_9
 refine ⟨_, rfl, ⟨F22_bxg_10.out, F23_pg_10.out⟩, ?_⟩
 rw [decide_eq_true (rfl : g = g)]
 simp only [Act.put, nS]
 refine takeH 4 (v := .bool false) rfl (by kernel_rfl) (by kernel_rfl) (by kernel_rfl) (fun _ _ _ h => h) ⟨F22_bxg_10.out, F23_pg_10.out⟩ (by rfl) (fun W' hW' => ?_) ?_; · (go_simp; first | done | with_reducible rfl)
 simp only [Act.put, nS]
 refine doneH (by kernel_rfl) ?_
 go_wp2_with (fail)
 go_ret
 exact ⟨rfl, hB10⟩
theorem readCountAutomorphisms : ∀ t ∈ Try.f5.params.toList, Try.prog.readableRec t = true ∧ t < Try.prog.types.size := by
 rw [Try.params5]
 intro t ht
 have ht' : t ∈ ([25] : List TypeId) := ht
 rcases List.mem_cons.1 ht' with rfl | ht'
 · exact ⟨by kernel_rfl, of_decide_eq_true (by kernel_rfl)⟩
 cases ht'
set_option maxRecDepth 100000 in
theorem liftedCountAutomorphisms (os : Os) (started : os.Started) (H : Type) (enc : TypeId × Value → H) :
  ReturnsInHanded {} Try.checked os 5 .any (Rows.fnExactCountAutomorphismsSpec.pre6 enc Try.prog Try.f5 Rows.fnExactCountAutomorphismsRow.domain false) (Rows.fnExactCountAutomorphismsSpec.post enc Try.prog Try.f5 false true false false) := by
 refine returnsInHanded_of_change (C := Try.checked) own started (by kernel_rfl) Try.func5
  (ChangeSpec.witness6 (enc := enc) (C := Try.checked) false ⟨#[], #[.agg #[.int .i64 0, .slice none 0 0, .slice none 0 0, .slice none 0 0]], []⟩ 8 (by kernel_rfl) (by kernel_rfl) (by kernel_rfl) (by kernel_rfl)) ?_
 intro W base args ds gs before hval0 hW hcnd _
 have hval : ∀ (j : Nat) t v, Try.f5.params[j]? = some t → args[j]? = some v → Value.okWide Try.prog W .any base t v := hval0
 have hW' := hW
 obtain ⟨p, q, hA0, hV, rfl, hfz, hnd⟩ := hW
 have hA : DataW.TrodAll enc Try.prog W 0 (fun _ => true) true Try.f5.params.toList args.toList ds p := hA0
 rw [Try.params5] at hA hval
 obtain ⟨v0, vs0, d0, ds0, p0, q0, hargs, rfl, rfl, t0, r0⟩ := trodAll_cons hA
 obtain ⟨rfl, rfl, rfl⟩ := trodAll_nil r0
 obtain rfl : args = #[v0] := by cases args; simp_all
 obtain ⟨rfl, rfl⟩ := trodVars_none hV
 obtain ⟨m0, hl0, hg0⟩ := in_Graph (hval 0 _ v0 rfl rfl) t0
 clear hA0 hval0
 refine (lawCountAutomorphisms_any v0 m0 W hl0 hg0 ).mono fun e W' ⟨he, hb⟩ => ?_
 subst he
 exact ⟨_, rfl, post_true laidOut hW' hb readCountAutomorphisms (fun n hn => by cases hn) rfl rfl Try.underlying4⟩
theorem provedCountAutomorphisms : Rows.FnExactCountAutomorphismsSaid :=
 OpenClaim.holds_of_wide 5 Try.f5 rfl rfl rfl rfl rfl rfl rfl ⟨rfl, rfl, rfl, rfl, rfl⟩ rfl rfl rfl rfl rfl (by kernel_rfl) Try.func5 (by kernel_rfl)
  (of_decide_eq_true (by kernel_rfl)) (by unfold Func.isWrapper; first | (rw [if_pos (by decide +kernel)]; kernel_rfl) | (rw [if_neg (by decide +kernel)]; exact ⟨rfl, rfl⟩))
  (fun os started H enc _ => liftedCountAutomorphisms os started H enc)
#print axioms provedCountAutomorphisms
end Go.Proofs.Ytjompikdkhhlgaa
