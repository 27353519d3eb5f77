/-
  The program's IsValuation returns what the reference's returns, for all arguments (laws.FnExactIsValuation answers true): the tied card.
-/
import Derived.Test.YtahnhblodfdfhaaDoorKIsValuation4
import Derived.Test.YtahnhblodfdfhaaDoorCards
import Derived.Test.YtahnhblodfdfhaaDoorTie
import Derived.ProofKit
import Derived.OpenShut
import Derived.Deep.DeepHandedRow
import Derived.Lib.LaidTab
namespace Go.Proofs.YtahnhblodfdfhaaDoor
open Go.RowKit
def smD (n : Nat) (a b : List Int) : Int := sm n fun i => a.getD i 0 * b.getD i 0
def dotM (p : Int) (n : Nat) (a b : List Int) : Int := smD n a b % p
theorem smD_bound {p : Int} {a b : List Int} (h0 : 0 < p) (h97 : p ≤ 97) (ha : Res p a) (hb : Res p b) : ∀ n : Nat, 0 ≤ smD n a b ∧ smD n a b ≤ 9409 * n
 | 0 => by simp [smD, sm]
 | n + 1 => by
   obtain ⟨h1, h2⟩ := smD_bound h0 h97 ha hb n
   have h3 := ha.getD h0 n
   have h4 := hb.getD h0 n
   have h5 := mul_bound (a := a.getD n 0) (b := b.getD n 0) h3.1 (by omega) h4.1 (by omega)
   have h6 : a.getD n 0 * b.getD n 0 ≤ 97 * 97 := Int.mul_le_mul (by omega) (by omega) h4.1 (by omega)
   unfold smD at h1 h2 ⊢
   rw [sm]
   omega
theorem dotM_step {p : Int} (n : Nat) (a b : List Int) : (dotM p n a b + a.getD n 0 * b.getD n 0) % p = dotM p (n + 1) a b := by
 unfold dotM smD
 rw [sm, Int.emod_add_emod]
theorem dotM_zero {p : Int} {n : Nat} {a b : List Int} : dotM p n a b = 0 ↔ p ∣ sm n fun i => a.getD i 0 * b.getD i 0 := (Int.dvd_iff_emod_eq_zero ..).symm
set_option maxRecDepth 100000 in
set_option maxHeartbeats 1000000 in
theorem spDot_any (p : Int) (n : Nat) (A B : Option Addr) (ca cb : Nat) (a b : List Int) (w : World) (hA : RdI w A a) (hB : RdI w B b) (hal : a.length = n) (hbl : b.length = n) (ha : Res p a) (hb : Res p b) (h0 : 0 < p) (h97 : p ≤ 97) (hn : n ≤ 1000) :
  Calls Tryd.prog 58 #[.int .i64 p, .slice A n ca, .slice B n cb] w fun e w' => e = .returned (.int .i64 (dotM p n a b)) ∧ Below w.heap.size w w' := by
 have hz0 : dotM p 0 a b = 0 := by simp [dotM, smD, sm]
 have hA_h := lH hA; have hB_h := lH hB; have hal_h := lH hal; have hbl_h := lH hbl; have ha_h := lH ha; have hb_h := lH hb; have hz0_h := lH hz0; clear hA hB hal hbl ha hb hz0
 go_enter Tryd.func58, Tryd.ntmps58
 go_wp2_with (fail)
 go_loopw [11, 7] (fun i o wr => ∃ (k : Nat) (z : Int), k ≤ n ∧ i = .int .i64 k ∧ o = .int .i64 z ∧ z = dotM p k a b ∧ Below w.heap.size w wr) (fun i _ _ => n - (intOf i).toNat)
 case atStart => exact ⟨0, 0, Nat.zero_le _, rfl, rfl, hz0_h.out.symm, Below.refl _ _⟩
 case round =>
  obtain ⟨k, z, hk, rfl, rfl, hz, hbr⟩ := hrel
  by_cases hlt : k < n
  · obtain ⟨ad, x, rfl, hx, hcx⟩ := (hA_h.out.below hbr).at_ (j := k) (by rw [hal_h.out]; exact hlt)
    obtain ⟨bd, y, rfl, hy, hcy⟩ := (hB_h.out.below hbr).at_ (j := k) (by rw [hbl_h.out]; exact hlt)
    have hxb := ha_h.out x (List.mem_of_getElem? hx)
    have hyb := hb_h.out y (List.mem_of_getElem? hy)
    have hzb : 0 ≤ z ∧ z < p := by rw [hz]; exact ⟨Int.emod_nonneg _ (by omega), Int.emod_lt_of_pos _ h0⟩
    have hmb := mul_bound (a := x) (b := y) hxb.1 (by omega) hyb.1 (by omega)
    have hst : (z + x * y) % p = dotM p (k + 1) a b := by
     have e1 : a.getD k 0 = x := by rw [List.getD_eq_getElem?_getD, hx]; rfl
     have e2 : b.getD k 0 = y := by rw [List.getD_eq_getElem?_getD, hy]; rfl
     rw [← dotM_step, e1, e2, hz]
    have hw1 : IntKind.i64.wrap (x * y) = x * y := IntWalk.i64_in _ (by omega)
    have hw2 : IntKind.i64.wrap (z + x * y) = z + x * y := IntWalk.i64_in _ (by omega)
    have hte : (z + x * y).tmod p = (z + x * y) % p := Int.tmod_eq_emod_of_nonneg (by omega)
    have hq1 := Int.emod_nonneg (z + x * y) (show p ≠ 0 by omega)
    have hq2 := Int.emod_lt_of_pos (z + x * y) h0
    have hw3 : IntKind.i64.wrap ((z + x * y) % p) = (z + x * y) % p := IntWalk.i64_in _ (by omega)
    have hpz : (p == 0) = false := by rw [beq_eq_false_iff_ne]; omega
    have hpz' : ¬ p = 0 := by omega
    have hkI : (k : Int) < (n : Int) := by omega
    clear hz hx hy hxb hyb hzb hmb hq1 hq2; have hst_h := lH hst; have hbr_h := lH hbr; clear hst hbr
    go_wp2_with (fail)
    refine wp_region_still_tail 13 (by kernel_rfl) (by kernel_rfl) ?_
    simp only [List.take_succ_cons, List.take_zero, List.drop_succ_cons, List.drop_zero]
    change wpStill _ _ wr.drew (fun a' => wpList _ _ _ _ a' wr.drew) _ _
    have d1 : wr.drew.cell? (ad.add k) = some (.int .i64 x) := hcx
    have d2 : wr.drew.cell? (bd.add k) = some (.int .i64 y) := hcy
    clear hcx hcy
    repeat still_step
    refine wpStill_nil ?_
    go_wp2_with (fail)
    go_roundw
    case rel => exact ⟨k + 1, _, by omega, by go_num, rfl, hst_h.out, below_trans hbr_h.out (below_drewN (Below.refl _ _) 1) hbr_h.out.size⟩
    case measure => simp [intOf]; omega
  · obtain rfl : k = n := by omega
    subst hz
    have hbr_h := lH hbr; clear hbr
    go_wp2_with (fail)
    go_ret
    exact ⟨rfl, hbr_h.out⟩
set_option maxRecDepth 100000 in
set_option maxHeartbeats 1000000 in
theorem dot_any (p : Int) (n : Nat) (A B : Option Addr) (ca cb : Nat) (a b : List Int) (w : World) (hA : RdI w A a) (hB : RdI w B b) (hal : a.length = n) (hbl : b.length = n) (ha : Res p a) (hb : Res p b) (h0 : 0 < p) (h97 : p ≤ 97) (hn : n ≤ 1000) :
  Calls Tryd.prog 66 #[.int .i64 p, .slice A n ca, .slice B n cb] w fun e w' => e = .returned (.int .i64 (dotM p n a b)) ∧ w' = w := by
 have hz0 : smD 0 a b = 0 := by simp [smD, sm]
 have hA_h := lH hA; have hB_h := lH hB; have hal_h := lH hal; have hbl_h := lH hbl; have ha_h := lH ha; have hb_h := lH hb; have hz0_h := lH hz0; clear hA hB hal hbl ha hb hz0
 go_enter Tryd.func66, Tryd.ntmps66
 go_wp2_with (fail)
 go_loopw [12, 7] (fun i o wr => ∃ (k : Nat) (z : Int), k ≤ n ∧ i = .int .i64 k ∧ o = .int .i64 z ∧ z = smD k a b ∧ wr = w) (fun i _ _ => n - (intOf i).toNat)
 case atStart => exact ⟨0, 0, Nat.zero_le _, rfl, rfl, hz0_h.out.symm, rfl⟩
 case round =>
  obtain ⟨k, z, hk, rfl, rfl, hz, rfl⟩ := hrel
  have hzb := smD_bound h0 h97 ha_h.out hb_h.out k
  rw [← hz] at hzb
  by_cases hlt : k < n
  · obtain ⟨ad, x, rfl, hx, hcx⟩ := hA_h.out.at_ (j := k) (by rw [hal_h.out]; exact hlt)
    obtain ⟨bd, y, rfl, hy, hcy⟩ := hB_h.out.at_ (j := k) (by rw [hbl_h.out]; exact hlt)
    have hxb := ha_h.out x (List.mem_of_getElem? hx)
    have hyb := hb_h.out y (List.mem_of_getElem? hy)
    have hmb := mul_bound (a := x) (b := y) hxb.1 (by omega) hyb.1 (by omega)
    have hst : z + x * y = smD (k + 1) a b := by
     have e1 : a.getD k 0 = x := by rw [List.getD_eq_getElem?_getD, hx]; rfl
     have e2 : b.getD k 0 = y := by rw [List.getD_eq_getElem?_getD, hy]; rfl
     rw [hz]; unfold smD; rw [sm, e1, e2]
    have hw1 : IntKind.i64.wrap (x * y) = x * y := IntWalk.i64_in _ (by omega)
    have hw2 : IntKind.i64.wrap (z + x * y) = z + x * y := IntWalk.i64_in _ (by omega)
    have hkI : (k : Int) < (n : Int) := by omega
    clear hz hx hy hxb hyb hzb hmb; have hst_h := lH hst; clear hst
    go_wp2_with (fail)
    go_roundw
    case rel => exact ⟨k + 1, _, by omega, by go_num, rfl, hst_h.out, trivial⟩
    case measure => simp [intOf]; omega
  · obtain rfl : k = n := by omega
    have hM := mod_any p z wr h0 h97 (by omega) (by omega)
    have hzz : z % p = dotM p k a b := by rw [hz]; rfl
    rw [hzz] at hM
    clear hz hzz hzb; have hM_h := lH hM; clear hM
    go_wp2_with (fail)
    refine (hM_h.out).mono ?_
    rintro e w2 ⟨rfl, hw2⟩
    subst hw2
    go_wp2_with (fail)
    go_ret
    exact ⟨rfl, rfl⟩
def valB (p : Int) (g : Gr) (x : List Int) : Bool := (dnEqs p g).all fun r => dotM p g.1.toNat r x == 0
theorem valB_no {p : Int} {g : Gr} {x r : List Int} (hr : r ∈ dnEqs p g) (h : dotM p g.1.toNat r x ≠ 0) : valB p g x = false := by
 unfold valB
 rw [List.all_eq_false]
 exact ⟨r, hr, by simpa using h⟩
theorem valB_yes {p : Int} {g : Gr} {x : List Int} (h : ∀ r, r ∈ dnEqs p g → dotM p g.1.toNat r x = 0) : valB p g x = true := by
 unfold valB
 rw [List.all_eq_true]
 exact fun r hr => by simpa using h r hr
set_option maxRecDepth 100000 in
set_option maxHeartbeats 4000000 in
theorem dnIs_any (p : Int) {v : Value} {g : Gr} (w : World) (h : RdGr w v g) (hd : DnOk p g) {X : Option Addr} {cx n : Nat} {x : List Int} (hX : RdI w X x) (hn : g.1 = (n : Int)) (hxl : x.length = n) (hxr : Res p x) :
  Calls Tryd.prog 83 #[.int .i64 p, v, .slice X n cx] w fun e w' => e = .returned (.bool (valB p g x)) ∧ Below w.heap.size w w' := by
 obtain ⟨A, c, hs, ⟨B, b, s⟩, ⟨C, d, t⟩, rfl, e1, e2, e3, hE, hRa, hRb⟩ := id h
 obtain ⟨z, es, s0, t0⟩ := g
 have a1 : es = hs.map egOf := e1
 have a2 : s = s0 := e2
 have a3 : t = t0 := e3
 have a4 : z = (n : Int) := hn
 subst a2 a3 a4
 clear e1 e2 e3 hn
 have hpb := fieldB_bounds hd.fld
 have hn100 : n ≤ 100 := by have := hd.hi; have h2 : ((n : Int), es, s, t).1 = (n : Int) := rfl; omega
 have hm60 : es.length ≤ 60 := hd.len
 have hed := hd.edge
 obtain ⟨m, hm⟩ : ∃ m, m = hs.length := ⟨_, rfl⟩
 have hmes : es.length = m := by rw [a1, List.length_map, hm]
 rw [hmes] at hm60
 show Calls Tryd.prog _ #[.int .i64 p, .agg #[.int .i64 n, .slice A hs.length c, .slice B s.length b, .slice C t.length d], .slice X n cx] w _
 rw [← hm]
 obtain ⟨W, hW, bW, k0⟩ := (⟨_, rfl, below_alloc _ _, heap_alloc_new _ _⟩ : ∃ W, W = w.alloc (.cells #[.int .i64 n, .slice A m c, .slice B s.length b, .slice C t.length d] tGr) ∧ Below w.heap.size w W ∧ W.heap[w.heap.size]? = some (.cells #[.int .i64 n, .slice A m c, .slice B s.length b, .slice C t.length d] tGr))
 obtain ⟨⟨c0, c1, c2, c3⟩, f0, f1, f2, f3⟩ := box4 k0
 obtain ⟨D, hD⟩ : ∃ D, D = valB p ((n : Int), es, s, t) x := ⟨_, rfl⟩
 rw [← hD]
 have hno : ∀ r, r ∈ es.flatMap (dnRowsM p n) → dotM p n r x ≠ 0 → D = false := fun r hr hn => by rw [hD]; exact valB_no (g := ((n : Int), es, s, t)) hr hn
 have hyes : (∀ r, r ∈ es.flatMap (dnRowsM p n) → dotM p n r x = 0) → D = true := fun hh => by rw [hD]; exact valB_yes (g := ((n : Int), es, s, t)) hh
 clear h hd hD; have hed_h := lH hed; have hmes_h := lH hmes; have a1_h := lH a1; have hE_h := lH hE; have k0_h := lH k0; have bW_h := lH bW; have hno_h := lH hno; have hyes_h := lH hyes; have hX_h := lH hX; have hxl_h := lH hxl; have hxr_h := lH hxr; have hm_h := lH hm; clear hed hmes a1 hE k0 bW hno hyes hX hxl hxr hm
 go_enter Tryd.func83, Tryd.ntmps83
 go_upto_region 1 with (fail)
 rw [← hW]
 clear hW
 go_wp2_with (fail)
 clear c0 c1 c2 c3 f0 f1 f2 f3
 go_loopw [14] (fun iv wr => ∃ k : Nat, k ≤ m ∧ iv = .int .i64 k ∧ Below W.heap.size W wr ∧ ∀ r, r ∈ (es.take k).flatMap (dnRowsM p n) → dotM p n r x = 0) (fun iv _ => m - (intOf iv).toNat)
 case atStart => exact ⟨0, Nat.zero_le _, rfl, Below.refl _ _, fun r hr => by simp at hr⟩
 case round =>
  obtain ⟨k, hk, rfl, hbr, hall⟩ := hrel
  obtain ⟨wo, rfl⟩ : ∃ x, x = wr := ⟨_, rfl⟩
  have hbo := below_trans bW_h.out hbr bW_h.out.size
  by_cases hlt : k < m
  · obtain ⟨ad, κ, v, B', b', l', C', c', mm, rfl, hx, ⟨d0, d1, d2, d3⟩, hI, hO⟩ := (hE_h.out.below hbo).at_ (j := k) (by rw [← hm_h.out]; exact hlt)
    have hxe : es[k]? = some (κ, v, l', mm) := by rw [a1_h.out, List.getElem?_map, hx]; rfl
    obtain ⟨hk3, hty, hat, hv0, hvp, h8, h14⟩ := hed_h.out _ (List.mem_of_getElem? hxe)
    have hkI : (k : Int) < (m : Int) := by omega
    obtain ⟨wN, hwN⟩ : ∃ wN, wN = wo.alloc (.cells #[.int .i64 κ, .int .i64 v, .slice B' l'.length b', .slice C' mm.length c'] tEd) := ⟨_, rfl⟩
    have hbN : Below wo.heap.size wo wN := by rw [hwN]; exact below_alloc _ _
    have kN : wN.heap[wo.heap.size]? = some (.cells #[.int .i64 κ, .int .i64 v, .slice B' l'.length b', .slice C' mm.length c'] tEd) := by rw [hwN]; exact heap_alloc_new _ _
    have hbWN := below_trans hbr hbN hbr.size
    have kg := box_below k0_h.out hbWN
    have hRw := dnRows_any p n κ v B' C' b' c' l' mm wN (hI.below hbN) (hO.below hbN) hk3 hty hat hv0 hvp hpb.1 hpb.2 (by omega)
    obtain ⟨R, hR⟩ : ∃ R, R = dnRowsM p n (κ, v, l', mm) := ⟨_, rfl⟩
    have hRm : ∀ r, r ∈ R → r.length = n ∧ Res p r := fun r hr => dnRowsM_mat (by omega) n _ r (by rw [← hR]; exact hr)
    have hR2 : R.length ≤ 2 := by rw [hR]; exact dnRowsM_len p n _
    rw [← hR] at hRw
    obtain ⟨q, hq⟩ : ∃ q, q = R.length := ⟨_, rfl⟩
    unfold RetRc at hRw
    rw [← hq] at hRw hR2
    have hmem : ∀ r, r ∈ R → r ∈ es.flatMap (dnRowsM p n) := fun r hr => List.mem_flatMap.2 ⟨_, List.mem_of_getElem? hxe, by rw [← hR]; exact hr⟩
    have hnx : (∀ r, r ∈ R → dotM p n r x = 0) → ∀ r, r ∈ (es.take (k + 1)).flatMap (dnRowsM p n) → dotM p n r x = 0 := fun hh r hr => by
     rw [List.take_add_one, hxe] at hr
     simp only [Option.toList_some, List.flatMap_append, List.flatMap_cons, List.flatMap_nil, List.append_nil, ← hR] at hr
     exact (List.mem_append.1 hr).elim (hall r) (hh r)
    obtain ⟨⟨y0, y1, y2, y3⟩, y4, y5, y6, y7⟩ := box4 kN
    obtain ⟨⟨c0, c1, c2, c3⟩, f0, f1, f2, f3⟩ := box4 kg
    clear hall hx hk3 hty hat hv0 hvp h8 h14 hI hO hR kN kg; have hnx_h := lH hnx; have hmem_h := lH hmem; have hRw_h := lH hRw; have hRm_h := lH hRm; have hbN_h := lH hbN; have hbWN_h := lH hbWN; have hxe_h := lH hxe; have hbo_h := lH hbo; have hbr_h := lH hbr; have hq_h := lH hq; clear hnx hmem hRw hRm hbN hbWN hxe hbo hbr hq
    go_upto_region 4 with (fail)
    rw [← hwN]
    clear hwN d0 d1 d2 d3
    go_wp2_with (fail)
    refine (hRw_h.out).mono ?_
    rintro e W4 ⟨u, rfl, ⟨A4, c4, hs4, rfl, hl4, hm4, hR4, _⟩, hb4⟩
    clear y0 y1 y2 y3 y4 y5 y6 y7 c0 c1 c2 c3 f0 f1 f2 f3
    have hbo4 := below_trans (below_trans hbo_h.out hbN_h.out hbo_h.out.size) hb4 (below_trans hbo_h.out hbN_h.out hbo_h.out.size).size
    have hbW4 := below_trans hbWN_h.out hb4 hbWN_h.out.size
    have hX4 := hX_h.out.below hbo4
    have hR4_h := lH hR4; have hm4_h := lH hm4; have hl4_h := lH hl4; have hbo4_h := lH hbo4; have hbW4_h := lH hbW4; have hX4_h := lH hX4; clear hR4 hm4 hl4 hbo4 hbW4 hX4; clear hb4
    go_wp2_with (fail)
    go_loopw [24] (fun jv wr => ∃ j : Nat, j ≤ q ∧ jv = .int .i64 j ∧ Below W4.heap.size W4 wr ∧ ∀ (i : Nat) (r : List Int), R[i]? = some r → i < j → dotM p n r x = 0) (fun jv _ => q - (intOf jv).toNat)
    case atStart => exact ⟨0, Nat.zero_le _, rfl, Below.refl _ _, fun i r _ h => absurd h (Nat.not_lt_zero i)⟩
    case round =>
     obtain ⟨j, hj, rfl, hbj, hsf⟩ := hrel
     obtain ⟨wj, rfl⟩ : ∃ x, x = wr := ⟨_, rfl⟩
     by_cases hjl : j < q
     · obtain ⟨ad4, C4, d4, r, rfl, hr4, hc4, hrd⟩ := (hR4_h.out.below hbj).at_ (k := j) (by rw [hl4_h.out]; exact hjl)
       have hrR : R[j]? = some r := by rw [← hm4_h.out, List.getElem?_map, hr4]; rfl
       obtain ⟨hrl, hrr⟩ := hRm_h.out r (List.mem_of_getElem? hrR)
       have hIr : RdI wj C4 r := (hR4_h.out.below hbj).2 _ (List.mem_of_getElem? hr4)
       have hC := fun W' (hb : Below wj.heap.size wj W') => spDot_any p n C4 X d4 cx r x W' (hIr.below hb) ((hX4_h.out.below hbj).below hb) hrl hxl_h.out hrr hxr_h.out (by omega) hpb.2 (by omega)
       rw [hrl] at hc4
       have hjI : (j : Int) < (q : Int) := by omega
       obtain ⟨y, hy⟩ : ∃ y, y = dotM p n r x := ⟨_, rfl⟩
       simp only [← hy] at hC
       by_cases hy0 : y = 0
       · have hb0 : (y != 0) = false := by rw [hy0]; rfl
         have hsf2 : ∀ (i : Nat) (r : List Int), R[i]? = some r → i < j + 1 → dotM p n r x = 0 := fun i r' h1 h2 => by
          rcases Nat.lt_or_ge i j with h3 | h3
          · exact hsf i r' h1 h3
          · obtain rfl : i = j := by omega
            rw [hrR] at h1
            obtain rfl := Option.some.inj h1
            rw [← hy, hy0]
         subst hy0
         clear hsf hr4 hrR hrl hrr hIr hy hb0 hrd; have hsf2_h := lH hsf2; have hC_h := lH hC; have hbj_h := lH hbj; clear hsf2 hC hbj
         go_wp2_with (fail)
         refine (hC_h.out _ (Below.refl _ _)).mono ?_
         rintro e w5 ⟨rfl, hb5⟩
         have hbj5 := below_trans hbj_h.out hb5 hbj_h.out.size
         have hbj5_h := lH hbj5; clear hbj5; clear hb5
         go_wp2_with (fail)
         go_roundw
         case rel => exact ⟨j + 1, by omega, by go_num, hbj5_h.out, hsf2_h.out⟩
         case measure => simp [intOf]; omega
       · have hb0 : (y != 0) = true := by simpa using hy0
         have hfin := hno_h.out r (hmem_h.out r (List.mem_of_getElem? hrR)) (by rw [← hy]; exact hy0)
         subst hfin
         have hbe := below_trans hbo4_h.out hbj hbo4_h.out.size
         clear hsf hr4 hrR hrl hrr hIr hy hy0 hrd; have hC_h := lH hC; have hbe_h := lH hbe; clear hC hbe
         go_wp2_with (fail)
         refine (hC_h.out _ (Below.refl _ _)).mono ?_
         rintro e w5 ⟨rfl, hb5⟩
         have hbe5 := below_trans hbe_h.out hb5 hbe_h.out.size
         have hbe5_h := lH hbe5; clear hbe5; clear hb5
         go_wp2_with (fail)
         go_ret
         exact ⟨rfl, hbe5_h.out⟩
     · obtain rfl : j = q := by omega
       have hall2 := hnx_h.out fun r hr => by
        obtain ⟨i, hi⟩ := List.mem_iff_getElem?.1 hr
        exact hsf i r hi (by rw [hq_h.out]; exact (List.getElem?_eq_some_iff.1 hi).1)
       have hbW9 := below_trans hbW4_h.out hbj hbW4_h.out.size
       clear hsf hbj; have hall2_h := lH hall2; have hbW9_h := lH hbW9; clear hall2 hbW9
       go_wp2_with (fail)
       go_roundw
       case rel => exact ⟨k + 1, by omega, by go_num, hbW9_h.out, hall2_h.out⟩
       case measure => simp [intOf]; omega
  · obtain rfl : m = k := by omega
    have hfin := hyes_h.out (by rwa [List.take_of_length_le (by rw [hmes_h.out]; exact Nat.le_refl _)] at hall)
    subst hfin
    clear hall; have hbo_h := lH hbo; clear hbo
    go_wp2_with (fail)
    go_ret
    exact ⟨rfl, hbo_h.out⟩
end Go.Proofs.YtahnhblodfdfhaaDoor
namespace Go.Proofs.YtahnhblodfdfhaaDoor
open Go.RowKit Go.Shelf
attribute [local go_sem] Oper.semAt_some
def vaM (p : Int) (g : Gr) (x : List Int) : Bool × Bool := if dnAskB p g && (decide ((x.length : Int) = g.1) && inB 0 (p - 1) x) then (valB p g x, true) else (false, false)
set_option maxHeartbeats 1000000 in
theorem equations_any (p z : Int) (a b c : Value) (w : World) :
  Calls Tryd.prog 84 #[.agg #[.int .i64 z, a, b, c], .int .i64 p] w fun e w' => e = .returned (.func (.func 141) #[] #[.pointer (some ⟨w.heap.size, 0, none⟩), .pointer (some ⟨w.heap.size + 1, 0, none⟩)]) ∧ w' = (w.alloc (.cells #[.int .i64 z, a, b, c] tGr)).alloc (.cells #[.int .i64 p] 3) := by
 go_enter Tryd.func84, Tryd.ntmps84
 go_wp2_with (fail)
 go_ret
 exact ⟨rfl, rfl⟩
set_option maxRecDepth 100000 in
set_option maxHeartbeats 4000000 in
theorem sIsValuation_law (p : Int) {v vx : Value} {g : Gr} {x : List Int} {w : World} (h : RdGr w v g) (hx : RdIV w vx x) (ok : OkG g) (okx : x.length ≤ 1048576) :
  Calls Tryd.prog 36 #[.int .i64 p, v, vx] w fun e w' => e = .returned (.tuple #[.bool (vaM p g x).1, .bool (vaM p g x).2]) ∧ Below w.heap.size w w' := by
 obtain ⟨X, cx, rfl, hX⟩ := hx
 obtain ⟨A, n1, c1, B, n2, c2, C, n3, c3, rfl⟩ := h.shape
 obtain ⟨z, hz⟩ : ∃ z, z = g.1 := ⟨_, rfl⟩
 rw [← hz] at h ⊢
 obtain ⟨W, hW, bW, k0⟩ := (⟨_, rfl, below_alloc _ _, heap_alloc_new _ _⟩ : ∃ W, W = w.alloc (.cells #[.int .i64 z, .slice A n1 c1, .slice B n2 c2, .slice C n3 c3] tGr) ∧ Below w.heap.size w W ∧ W.heap[w.heap.size]? = some (.cells #[.int .i64 z, .slice A n1 c1, .slice B n2 c2, .slice C n3 c3] tGr))
 have hA := dnAsked_any p W (h.below bW) ok
 obtain ⟨m, hm⟩ : ∃ m, m = x.length := ⟨_, rfl⟩
 have hm2 : m ≤ 1048576 := by omega
 obtain ⟨D, hD⟩ : ∃ D, D = vaM p g x := ⟨_, rfl⟩
 rw [← hD, ← hm]
 unfold vaM at hD
 rw [← hm, ← hz] at hD
 by_cases hg : dnAskB p g = true
 case neg =>
  have hg' : dnAskB p g = false := by simpa using hg
  rw [hg', Bool.false_and, if_neg (by simp)] at hD
  rw [hg'] at hA
  subst hD
  clear hg hg' ok okx h hX hz hm; have hA_h := lH hA; have k0_h := lH k0; have bW_h := lH bW; clear hA k0 bW
  go_enter Tryd.func36, Tryd.ntmps36
  go_upto_region 1 with (fail)
  rw [← hW]
  clear hW
  obtain ⟨⟨d0, d1, d2, d3⟩, f0, f1, f2, f3⟩ := box4 k0_h.out
  go_wp2_with (fail)
  refine (hA_h.out).mono ?_
  rintro e w1 ⟨rfl, hb1⟩
  go_wp2_with (fail)
  go_ret2
  exact ⟨rfl, below_trans bW_h.out hb1 bW_h.out.size⟩
 have hdo := DnOk.of hg
 have hpb := fieldB_bounds hdo.fld
 rw [hg, Bool.true_and] at hD
 rw [hg] at hA
 by_cases hl : (m : Int) = z
 case neg =>
  rw [decide_eq_false hl, Bool.false_and, if_neg (by simp)] at hD
  have hne : ((m : Int) != z) = true := by simpa using hl
  subst hD
  clear hg ok okx h hX hz hm hdo hl; have hA_h := lH hA; have k0_h := lH k0; have bW_h := lH bW; clear hA k0 bW
  go_enter Tryd.func36, Tryd.ntmps36
  go_upto_region 1 with (fail)
  rw [← hW]
  clear hW
  obtain ⟨⟨d0, d1, d2, d3⟩, f0, f1, f2, f3⟩ := box4 k0_h.out
  go_wp2_with (fail)
  refine (hA_h.out).mono ?_
  rintro e w1 ⟨rfl, hb1⟩
  clear d0 d1 d2 d3 f0 f1 f2 f3
  replace k0_h := lH (box_below k0_h.out hb1)
  have hB1 := below_trans bW_h.out hb1 bW_h.out.size
  have hB1_h := lH hB1; clear hB1; clear hb1
  obtain ⟨⟨d0, d1, d2, d3⟩, f0, f1, f2, f3⟩ := box4 k0_h.out
  go_wp2_with (fail)
  go_ret2
  exact ⟨rfl, hB1_h.out⟩
 have hne : ((m : Int) != z) = false := by simpa using hl
 rw [decide_eq_true hl, Bool.true_and] at hD
 have hFd := fun W' (hb : Below w.heap.size w W') => fdIn_any p X cx x W' (hX.below hb) (by omega) (by omega) (by omega)
 simp only [← hm] at hFd
 cases hi : inB 0 (p - 1) x
 case false =>
  rw [hi, if_neg (by simp)] at hD
  simp only [hi] at hFd
  subst hD
  clear hg ok okx h hX hz hm hdo hl hi; have hA_h := lH hA; have k0_h := lH k0; have bW_h := lH bW; have hFd_h := lH hFd; clear hA k0 bW hFd
  go_enter Tryd.func36, Tryd.ntmps36
  go_upto_region 1 with (fail)
  rw [← hW]
  clear hW
  obtain ⟨⟨d0, d1, d2, d3⟩, f0, f1, f2, f3⟩ := box4 k0_h.out
  go_wp2_with (fail)
  refine (hA_h.out).mono ?_
  rintro e w1 ⟨rfl, hb1⟩
  clear d0 d1 d2 d3 f0 f1 f2 f3
  replace k0_h := lH (box_below k0_h.out hb1)
  have hB1 := below_trans bW_h.out hb1 bW_h.out.size
  have hB1_h := lH hB1; clear hB1; clear hb1
  obtain ⟨⟨d0, d1, d2, d3⟩, f0, f1, f2, f3⟩ := box4 k0_h.out
  go_wp2_with (fail)
  refine (hFd_h.out _ hB1_h.out).mono ?_
  rintro e w2 ⟨rfl, hw2⟩
  subst hw2
  go_wp2_with (fail)
  go_ret2
  exact ⟨rfl, hB1_h.out⟩
 case true =>
  rw [hi, if_pos rfl] at hD
  simp only [hi] at hFd
  have hres : Res p x := fun a ha => by have := inB_iff.1 hi a ha; omega
  have hI := fun W' (hb : Below w.heap.size w W') => dnIs_any p W' (h.below hb) hdo (hX.below hb) (n := m) (by rw [← hz]; exact hl.symm) hm.symm hres (cx := cx)
  obtain ⟨y, hy⟩ : ∃ y, y = valB p g x := ⟨_, rfl⟩
  rw [← hy] at hD
  simp only [← hy] at hI
  subst hD
  clear hg ok okx h hX hz hm hdo hl hi hres hy; have hA_h := lH hA; have k0_h := lH k0; have bW_h := lH bW; have hFd_h := lH hFd; have hI_h := lH hI; clear hA k0 bW hFd hI
  go_enter Tryd.func36, Tryd.ntmps36
  go_upto_region 1 with (fail)
  rw [← hW]
  clear hW
  obtain ⟨⟨d0, d1, d2, d3⟩, f0, f1, f2, f3⟩ := box4 k0_h.out
  go_wp2_with (fail)
  refine (hA_h.out).mono ?_
  rintro e w1 ⟨rfl, hb1⟩
  clear d0 d1 d2 d3 f0 f1 f2 f3
  replace k0_h := lH (box_below k0_h.out hb1)
  have hB1 := below_trans bW_h.out hb1 bW_h.out.size
  have hB1_h := lH hB1; clear hB1; clear hb1
  obtain ⟨⟨d0, d1, d2, d3⟩, f0, f1, f2, f3⟩ := box4 k0_h.out
  go_wp2_with (fail)
  refine (hFd_h.out _ hB1_h.out).mono ?_
  rintro e w2 ⟨rfl, hw2⟩
  subst hw2
  go_wp2_with (fail)
  refine (hI_h.out _ hB1_h.out).mono ?_
  rintro e w3 ⟨rfl, hb3⟩
  have hB3 := below_trans hB1_h.out hb3 hB1_h.out.size
  clear hb3 d0 d1 d2 d3 f0 f1 f2 f3; have hB3_h := lH hB3; clear hB3
  go_wp2_with (fail)
  go_ret2
  exact ⟨rfl, hB3_h.out⟩
theorem EqE.kept {p : Int} {g : Gr} {n b0 k n0 : Nat} {A B : World} {T : Nat → Prop} {v : Value} (h : EqE p g n b0 k A T v) (hk : CellsKept n0 A B) : EqE p g n b0 k B T v := by
 obtain ⟨X, c, r, h1, h2, h3, h4⟩ := h
 exact ⟨X, c, r, h1, h2, hk.sl h3, h4⟩
theorem imEqs_val {p : Int} {g : Gr} (hd : dnAskB p g = true) {x : List Int} : valB p g x = ((imEqs p g).all fun r => dotM p g.1.toNat r x == 0) := by
 have hf := (DnOk.of hd).fld
 have h := imEqs_nul hf (g := g) (fun e he => (dnOk_edge hd he).2) (fun j => x.getD j 0)
 rw [nulL_map, nulL_map] at h
 unfold valB
 rw [Bool.eq_iff_iff, List.all_eq_true, List.all_eq_true]
 simp only [beq_iff_eq, dotM_zero]
 exact h.symm
theorem set1v {w : World} {B : Nat} {t : TypeId} {x : Value} (h : w.heap[B]? = some (.cells #[x] t)) (b : Value) : (w.setCell ⟨B, 0, none⟩ b).heap[B]? = some (.cells #[b] t) ∧ Keeps (· = B) w (w.setCell ⟨B, 0, none⟩ b) := by
 refine ⟨by simp [World.setCell, Array.getElem?_modify, h], ?_⟩
 exact (Keeps.refl (fun x => x = B) w).setCell (p := ⟨B, 0, none⟩) rfl _
theorem alloc5 (w : World) (a b c d e : Obj) : ∃ W, W = ((((w.alloc a).alloc b).alloc c).alloc d).alloc e ∧ Below w.heap.size w W ∧ W.heap[w.heap.size]? = some a ∧ W.heap[w.heap.size + 1]? = some b ∧ W.heap[w.heap.size + 1 + 1]? = some c ∧ W.heap[w.heap.size + 1 + 1 + 1]? = some d ∧ W.heap[w.heap.size + 1 + 1 + 1 + 1]? = some e := by
 obtain ⟨V, hV, bV, k0, k1, k2⟩ := alloc3 w a b c
 obtain ⟨W, hW, bW, k3, k4⟩ := alloc2 V d e
 have hz : V.heap.size = w.heap.size + 1 + 1 + 1 := by rw [hV]; simp
 rw [hz] at k3 k4
 exact ⟨W, by rw [hW, hV], below_trans bV bW bV.size, box_below k0 bW, box_below k1 bW, box_below k2 bW, k3, k4⟩
set_option maxRecDepth 100000 in
set_option maxHeartbeats 8000000 in
theorem iIsValuation_law (p : Int) {v vx : Value} {g : Gr} {x : List Int} {w : World} (h : RdGr w v g) (hx : RdIV w vx x) (ok : OkG g) (okx : x.length ≤ 1048576) (hT : Tab w) :
  Calls Tryd.prog 37 #[.int .i64 p, v, vx] w fun e w' => e = .returned (.tuple #[.bool (vaM p g x).1, .bool (vaM p g x).2]) ∧ Below w.heap.size w w' := by
 obtain ⟨X, cx, rfl, hX⟩ := hx
 obtain ⟨A, c, hs, ⟨B, b, s⟩, ⟨C, d, t⟩, rfl, e1, e2, e3, hE, hRa, hRb⟩ := id h
 obtain ⟨z, hz⟩ : ∃ z, z = g.1 := ⟨_, rfl⟩
 obtain ⟨na, hna⟩ : ∃ na, na = hs.length := ⟨_, rfl⟩
 obtain ⟨nb, hnb⟩ : ∃ nb, nb = s.length := ⟨_, rfl⟩
 obtain ⟨nc, hnc⟩ : ∃ nc, nc = t.length := ⟨_, rfl⟩
 simp only [← hz, ← hna, ← hnb, ← hnc] at h ⊢
 obtain ⟨m, hm⟩ : ∃ m, m = x.length := ⟨_, rfl⟩
 have hm2 : m ≤ 1048576 := by omega
 rw [← hm]
 obtain ⟨W, hW, bW, kp, kg, kv, k6, k7⟩ := alloc5 w (.cells #[.int .i64 p] 3) (.cells #[.int .i64 z, .slice A na c, .slice B nb b, .slice C nc d] tGr) (.cells #[.slice X m cx] 33) (.cells #[.bool false] 4) (.cells #[.bool false] 4)
 have hA := gStatic_any p W (h.below bW) ok (hT.below bW hT.lt)
 obtain ⟨D, hD⟩ : ∃ D, D = vaM p g x := ⟨_, rfl⟩
 rw [← hD]
 unfold vaM at hD
 rw [← hm, ← hz] at hD
 refine (callsIn_wide (n := 4)).1 ?_
 refine callsIn_of_wp_marks Tryd.func37 rfl trivial ?_ rfl
 simp only [Tryd.ntmps37, List.size_toArray, List.length_cons, List.length_nil, Nat.reduceAdd, Nat.reduceSub, Array.replicate_succ, Array.replicate_zero, List.push_toArray, List.append_toArray, List.nil_append, List.cons_append]
 refine wpIn_wide.2 ?_
 have hz7 : w.heap.size + 1 + 1 + 1 + 1 < W.heap.size := box_lt k7
 by_cases hg : dnAskB p g = true
 case neg =>
  have hg' : dnAskB p g = false := by simpa using hg
  rw [hg', Bool.false_and, if_neg (by simp)] at hD
  rw [hg'] at hA
  subst hD
  clear hg hg' ok okx h hX hz hm hna hnb hnc hE hRa hRb e1 e2 e3 hT; have hA_h := lH hA; have kp_h := lH kp; have kg_h := lH kg; have kv_h := lH kv; have k6_h := lH k6; have k7_h := lH k7; have bW_h := lH bW; have hz7_h := lH hz7; clear hA kp kg kv k6 k7 bW hz7
  go_upto_region 1 with (fail)
  rw [← hW]
  clear hW
  obtain ⟨⟨d0, d1, d2, d3⟩, f0, f1, f2, f3⟩ := box4 kg_h.out
  obtain ⟨p0, p1⟩ := bx1_d kp_h.out
  go_wp2_with (fail)
  refine (hA_h.out).mono ?_
  rintro e w1 ⟨rfl, hb1⟩
  clear d0 d1 d2 d3 f0 f1 f2 f3 p0 p1
  replace k6_h := lH (box_below k6_h.out hb1)
  replace k7_h := lH (box_below k7_h.out hb1)
  have hB1 := below_trans bW_h.out hb1 bW_h.out.size
  have hz71 := Nat.lt_of_lt_of_le hz7_h.out hb1.size
  obtain ⟨x6, y6⟩ := bx1_d k6_h.out
  obtain ⟨x7, y7⟩ := bx1_d k7_h.out
  obtain ⟨s6, s6k⟩ := set1v k6_h.out (.bool false)
  obtain ⟨s7, s7k⟩ := set1v (box_keeps k7_h.out s6k (by omega)) (.bool false)
  have s6' := box_keeps s6 s7k (by omega)
  have hB9 := below_keeps (below_keeps hB1 s6k hB1.size (fun k hk => by omega)) s7k (below_keeps hB1 s6k hB1.size (fun k hk => by omega)).size (fun k hk => by omega)
  obtain ⟨z6, _⟩ := bx1_d s6'
  obtain ⟨z7, _⟩ := bx1_d s7
  have z6_h := lH z6; have z7_h := lH z7; clear hb1 hB1 hz71 s6 s6k s7 s7k s6' z6 z7; have hB9_h := lH hB9; clear hB9
  go_wp2_with (fail)
  refine postM_ret (v := .tuple #[.bool false, .bool false]) ?_ rfl ⟨rfl, hB9_h.out⟩
  have q6 := z6_h.out
  have q7 := z7_h.out
  simp [results, Tryd.results37, go_sem, q6, q7]
 have hdo := DnOk.of hg
 have hpb := fieldB_bounds hdo.fld
 rw [hg, Bool.true_and] at hD
 rw [hg] at hA
 have hV := fun W' (hb : Below w.heap.size w W') => isVector_any p X cx x z W' (hX.below hb) (by omega)
 simp only [← hm] at hV
 by_cases hv : (decide ((m : Int) = z) && inB 0 (p - 1) x) = true
 case neg =>
  have hv' : (decide ((m : Int) = z) && inB 0 (p - 1) x) = false := by simpa using hv
  rw [hv', if_neg (by simp)] at hD
  simp only [hv'] at hV
  subst hD
  clear hg ok okx h hX hz hm hna hnb hnc hE hRa hRb e1 e2 e3 hT hv hv' hdo; have hA_h := lH hA; have kp_h := lH kp; have kg_h := lH kg; have kv_h := lH kv; have k6_h := lH k6; have k7_h := lH k7; have bW_h := lH bW; have hz7_h := lH hz7; have hV_h := lH hV; clear hA kp kg kv k6 k7 bW hz7 hV
  go_upto_region 1 with (fail)
  rw [← hW]
  clear hW
  obtain ⟨⟨d0, d1, d2, d3⟩, f0, f1, f2, f3⟩ := box4 kg_h.out
  obtain ⟨p0, p1⟩ := bx1_d kp_h.out
  go_wp2_with (fail)
  refine (hA_h.out).mono ?_
  rintro e w1 ⟨rfl, hb1⟩
  clear d0 d1 d2 d3 f0 f1 f2 f3 p0 p1
  replace kp_h := lH (box_below kp_h.out hb1)
  replace kg_h := lH (box_below kg_h.out hb1)
  replace kv_h := lH (box_below kv_h.out hb1)
  replace k6_h := lH (box_below k6_h.out hb1)
  replace k7_h := lH (box_below k7_h.out hb1)
  have hB1 := below_trans bW_h.out hb1 bW_h.out.size
  have hB1_h := lH hB1; clear hB1; clear hb1
  obtain ⟨⟨d0, d1, d2, d3⟩, f0, f1, f2, f3⟩ := box4 kg_h.out
  obtain ⟨p0, p1⟩ := bx1_d kp_h.out
  obtain ⟨v0, v1⟩ := bx1_d kv_h.out
  go_wp2_with (fail)
  refine (hV_h.out _ hB1_h.out).mono ?_
  rintro e w2 ⟨rfl, hw2⟩
  subst hw2
  clear d0 d1 d2 d3 f0 f1 f2 f3 p0 p1 v0 v1
  obtain ⟨x6, y6⟩ := bx1_d k6_h.out
  obtain ⟨x7, y7⟩ := bx1_d k7_h.out
  obtain ⟨s6, s6k⟩ := set1v k6_h.out (.bool false)
  obtain ⟨s7, s7k⟩ := set1v (box_keeps k7_h.out s6k (by omega)) (.bool false)
  have s6' := box_keeps s6 s7k (by omega)
  have hB9 := below_keeps (below_keeps hB1_h.out s6k hB1_h.out.size (fun k hk => by omega)) s7k (below_keeps hB1_h.out s6k hB1_h.out.size (fun k hk => by omega)).size (fun k hk => by omega)
  obtain ⟨z6, _⟩ := bx1_d s6'
  obtain ⟨z7, _⟩ := bx1_d s7
  have z6_h := lH z6; have z7_h := lH z7; clear s6 s6k s7 s7k s6' z6 z7; have hB9_h := lH hB9; clear hB9
  go_wp2_with (fail)
  refine postM_ret (v := .tuple #[.bool false, .bool false]) ?_ rfl ⟨rfl, hB9_h.out⟩
  have q6 := z6_h.out
  have q7 := z7_h.out
  simp [results, Tryd.results37, go_sem, q6, q7]
 simp only [hv] at hV
 rw [hv, if_pos rfl] at hD
 simp only [Bool.and_eq_true, decide_eq_true_eq] at hv
 obtain ⟨hmz, hin⟩ := hv
 have hres : Res p x := fun a ha => by have := inB_iff.1 hin a ha; omega
 have hzn : g.1.toNat = m := by rw [← hz]; omega
 have hm100 : m ≤ 100 := by have := hdo.hi; rw [← hz] at this; omega
 have hE0 := hE.below bW
 have hbx : (Obj.cells #[.int .i64 z, .slice A na c, .slice B nb b, .slice C nc d] tGr) = .cells #[.int .i64 g.1, .slice A hs.length c, .slice B nb b, .slice C nc d] tGr := by rw [hz, hna]
 have hSq := fun (V : World) (Bg Bp : Nat) (hG : GEq W Bg Bp (.cells #[.int .i64 z, .slice A na c, .slice B nb b, .slice C nc d] tGr) p V) => equations1_seq hg ok (z := g.1) rfl e1 hE0 (c := c) (ns := nb) (b := b) (nt := nc) (d := d) (B := B) (C := C) (w := V) (Bg := Bg) (Bp := Bp) (by rw [← hbx]; exact hG)
 rw [hzn] at hSq
 have hval := imEqs_val hg (x := x)
 rw [hzn] at hval
 obtain ⟨Y, hY⟩ : ∃ Y, Y = valB p g x := ⟨_, rfl⟩
 rw [← hY] at hD hval
 have hXW := hX.below bW
 obtain ⟨N, hN⟩ : ∃ N, N = (imEqs p g).length := ⟨_, rfl⟩
 have hmat := imEqs_mat (by omega : 0 < p) g
 rw [hzn] at hmat
 obtain ⟨Q, hQ⟩ : ∃ Q, Q = imEqs p g := ⟨_, rfl⟩
 rw [← hQ] at hval hmat hN
 subst hD
 have hEE : ∀ (k n0 : Nat) (T : Nat → Prop) (U : World) (v : Value), EqE p g m n0 k U T v → ∃ A c r, v = .slice A m c ∧ Q[k]? = some r ∧ IS U A c r := fun k n0 T U v h => by
  obtain ⟨A, c, r, h1, h2, h3, _⟩ := h
  exact ⟨A, c, r, h1, by rw [hQ]; exact h2, h3⟩
 rw [← hQ, ← hN] at hSq
 clear hg ok okx h hX hna hnb hnc hE hRa hRb hT hin hE0 hbx hY hQ hz e1 e2 e3 hdo; have hA_h := lH hA; have kp_h := lH kp; have kg_h := lH kg; have kv_h := lH kv; have k6_h := lH k6; have k7_h := lH k7; have bW_h := lH bW; have hz7_h := lH hz7; have hV_h := lH hV; have hSq_h := lH hSq; have hval_h := lH hval; have hXW_h := lH hXW; have hN_h := lH hN; have hmat_h := lH hmat; have hres_h := lH hres; have hm_h := lH hm; have hzn_h := lH hzn; have hmz_h := lH hmz; have hEE_h := lH hEE; clear hA kp kg kv k6 k7 bW hz7 hV hSq hval hXW hN hmat hres hm hzn hmz hEE
 go_upto_region 1 with (fail)
 rw [← hW]
 clear hW
 obtain ⟨⟨d0, d1, d2, d3⟩, f0, f1, f2, f3⟩ := box4 kg_h.out
 obtain ⟨p0, p1⟩ := bx1_d kp_h.out
 go_wp2_with (fail)
 refine (hA_h.out).mono ?_
 rintro e w1 ⟨rfl, hb1⟩
 clear d0 d1 d2 d3 f0 f1 f2 f3 p0 p1
 replace kp_h := lH (box_below kp_h.out hb1)
 replace kg_h := lH (box_below kg_h.out hb1)
 replace kv_h := lH (box_below kv_h.out hb1)
 replace k6_h := lH (box_below k6_h.out hb1)
 replace k7_h := lH (box_below k7_h.out hb1)
 have hB1 := below_trans bW_h.out hb1 bW_h.out.size
 have hz71 := Nat.lt_of_lt_of_le hz7_h.out hb1.size
 have hB1_h := lH hB1; have hb1_h := lH hb1; clear hB1 hb1
 obtain ⟨⟨d0, d1, d2, d3⟩, f0, f1, f2, f3⟩ := box4 kg_h.out
 obtain ⟨p0, p1⟩ := bx1_d kp_h.out
 obtain ⟨v0, v1⟩ := bx1_d kv_h.out
 go_wp2_with (fail)
 refine (hV_h.out _ hB1_h.out).mono ?_
 rintro e w2 ⟨rfl, hw2⟩
 subst hw2
 go_wp2_with (fail)
 refine (equations_any p z (.slice A na c) (.slice B nb b) (.slice C nc d) _).mono ?_
 rintro e we ⟨rfl, hwe⟩
 clear d0 d1 d2 d3 f0 f1 f2 f3 p0 p1 v0 v1
 obtain ⟨We, hWe, bWe, kge, kpe⟩ := alloc2 w1 (.cells #[.int .i64 z, .slice A na c, .slice B nb b, .slice C nc d] tGr) (.cells #[.int .i64 p] 3)
 obtain rfl : we = We := by rw [hwe, hWe]
 clear hwe hWe
 have hbWe := below_trans hb1_h.out bWe hb1_h.out.size
 have hSeq := hSq_h.out we _ _ ⟨hbWe, kge, kpe⟩
 have hBe := below_trans hB1_h.out bWe hB1_h.out.size
 have hXe := hXW_h.out.below hbWe
 have hze := bWe.size
 replace kp_h := lH (box_below kp_h.out bWe)
 replace kv_h := lH (box_below kv_h.out bWe)
 replace k6_h := lH (box_below k6_h.out bWe)
 replace k7_h := lH (box_below k7_h.out bWe)
 have hSeq_h := lH hSeq; have hBe_h := lH hBe; have hXe_h := lH hXe; have kge_h := lH kge; have kpe_h := lH kpe; clear hSeq hBe hXe kge kpe; clear bWe hbWe
 go_wp2_with (fail)
 have hle := hBe_h.out.size
 refine (wpIn_wide (n := 4)).1 ?_
 refine wpIn_rangeFuncT rfl (by omega) (gf := 141) (lb := #[.pointer (some ⟨w1.heap.size, 0, none⟩), .pointer (some ⟨w1.heap.size + 1, 0, none⟩)]) rfl trivial (enters_of Tryd.func141 (by kernel_rfl) rfl)
  hSeq_h.out rfl (fun k T U => Below we.heap.size we U ∧ (∀ b, ¬ T b) ∧ ∀ (j : Nat) (r : List Int), Q[j]? = some r → j < k → dotM p m r x = 0)
  (fun c U => c = .ret ∧ Below w.heap.size w U ∧ U.heap[w.heap.size + 1 + 1 + 1]? = some (.cells #[.bool false] 4) ∧ U.heap[w.heap.size + 1 + 1 + 1 + 1]? = some (.cells #[.bool true] 4) ∧ Y = false)
  (fun k T U V h hk => ⟨hk.below h.1 (Nat.le_refl _), h.2⟩)
  (fun c U V h hk => ⟨h.1, (hk.mono0 hle).below h.2.1 (Nat.le_refl _), hk.same _ _ h.2.2.1 rfl, hk.same _ _ h.2.2.2.1 rfl, h.2.2.2.2⟩)
  (fun k T U V v h hk => h.kept hk) (fun _ => False) (fun _ h => h.elim) ⟨Below.refl _ _, fun _ h => h, fun j r _ h => absurd h (Nat.not_lt_zero j)⟩ ?round ?done ?stop
 case round =>
  intro l k T x' U0 hk hI0 hE0 K hK
  gi_wp2
  intro U hI hE
  clear hI0 hE0
  obtain ⟨hIb, hTn, hprev⟩ := hI
  obtain ⟨A', c', r, rfl, hr, hIr⟩ := hEE_h.out _ _ _ _ _ hE
  obtain ⟨hrl, hrr⟩ := hmat_h.out.row r (List.mem_of_getElem? hr)
  have hC := dot_any p m A' X c' cx r x U hIr.rd (hXe_h.out.below hIb) hrl hm_h.out.symm hrr hres_h.out (by omega) hpb.2 (by omega)
  obtain ⟨p0, p1⟩ := bx1_d (box_below kp_h.out hIb)
  obtain ⟨v0, v1⟩ := bx1_d (box_below kv_h.out hIb)
  obtain ⟨y, hy⟩ : ∃ y, y = dotM p m r x := ⟨_, rfl⟩
  rw [← hy] at hC
  by_cases hy0 : y = 0
  · subst hy0
    have hprev2 : ∀ (j : Nat) (r : List Int), Q[j]? = some r → j < k + 1 → dotM p m r x = 0 := fun j r' h1 h2 => by
     rcases Nat.lt_or_ge j k with h3 | h3
     · exact hprev j r' h1 h3
     · obtain rfl : j = k := by omega
       rw [hr] at h1
       obtain rfl := Option.some.inj h1
       exact hy.symm
    clear hprev hr hIr hrl hrr hy hE; have hC_h := lH hC; have hprev2_h := lH hprev2; have hIb_h := lH hIb; have hTn_h := lH hTn; clear hC hprev2 hIb hTn
    gi_wp2_with (refine ⟨trivial, ?_⟩; gi_at_call 66; refine (CallsIn.inRound l (callsIn_wide.2 hC_h.out)).mono ?_; rintro e w' ⟨rfl, hw'⟩; subst hw')
    exact ⟨KeepsOthers.refl _, T, ⟨hIb_h.out, hTn_h.out, hprev2_h.out⟩, Keeps.refl _ _, fun b hb => (hTn_h.out b hb).elim⟩
  · have hb0 : (y != 0) = true := by simpa using hy0
    have hYf : Y = false := by
     rw [hval_h.out, List.all_eq_false]
     exact ⟨r, List.mem_of_getElem? hr, by rw [← hy]; simpa using hy0⟩
    have hBU := below_trans hBe_h.out hIb hle
    have k6U := box_below k6_h.out hIb
    have k7U := box_below k7_h.out hIb
    obtain ⟨x6, y6⟩ := bx1_d k6U
    obtain ⟨x7, y7⟩ := bx1_d k7U
    obtain ⟨s6, s6k⟩ := set1v k6U (.bool false)
    obtain ⟨s7, s7k⟩ := set1v (box_keeps k7U s6k (by omega)) (.bool true)
    have s6' := box_keeps s6 s7k (by omega)
    have hB9 := below_keeps (below_keeps hBU s6k hBU.size (fun k hk => by omega)) s7k (below_keeps hBU s6k hBU.size (fun k hk => by omega)).size (fun k hk => by omega)
    have hKO := (KeepsOthers.setCell U ⟨w.heap.size + 1 + 1 + 1, 0, none⟩ (.bool false)).trans (KeepsOthers.setCell (U.setCell ⟨w.heap.size + 1 + 1 + 1, 0, none⟩ (.bool false)) ⟨w.heap.size + 1 + 1 + 1 + 1, 0, none⟩ (.bool true))
    clear hprev hr hIr hrl hrr hy hy0 hE k6U k7U s6 s6k s7k hBU; have hC_h := lH hC; have hIb_h := lH hIb; have hTn_h := lH hTn; have hYf_h := lH hYf; have s6'_h := lH s6'; have s7_h := lH s7; have hB9_h := lH hB9; have hKO_h := lH hKO; clear hC hIb hTn hYf s6' s7 hB9 hKO
    gi_wp2_with (refine ⟨trivial, ?_⟩; gi_at_call 66; refine (CallsIn.inRound l (callsIn_wide.2 hC_h.out)).mono ?_; rintro e w' ⟨rfl, hw'⟩; subst hw')
    exact ⟨hKO_h.out, rfl, hB9_h.out, s6'_h.out, s7_h.out, hYf_h.out⟩
 case done =>
  intro D T U hI hD hDn
  obtain ⟨hIb, _, hall⟩ := hI
  have hYt : Y = true := by
   rw [hval_h.out, List.all_eq_true]
   intro r hr
   obtain ⟨j, hj⟩ := List.mem_iff_getElem?.1 hr
   simpa using hall j r hj (by rw [hN_h.out]; exact (List.getElem?_eq_some_iff.1 hj).1)
  subst hYt
  have hBU := below_trans hBe_h.out hIb hle
  have k6U := box_below k6_h.out hIb
  have k7U := box_below k7_h.out hIb
  have l7 := box_lt k7_h.out
  obtain ⟨x6, y6⟩ := bx1_d k6U
  obtain ⟨x7, y7⟩ := bx1_d k7U
  obtain ⟨s6, s6k⟩ := set1v k6U (.bool true)
  obtain ⟨s7, s7k⟩ := set1v (box_keeps k7U s6k (by omega)) (.bool true)
  have s6' := box_keeps s6 s7k (by omega)
  have hD9 := box_keeps (box_keeps hD s6k (by omega)) s7k (by omega)
  have hB9 := below_keeps (below_keeps hBU s6k hBU.size (fun k hk => by omega)) s7k (below_keeps hBU s6k hBU.size (fun k hk => by omega)).size (fun k hk => by omega)
  have hBf := hB9.trans (belowK_b (n₀ := w.heap.size) (w := we) hle _ D _ (.deferred none) hDn hD9 rfl rfl)
  have z6 := (World.putObj_heap_other (r := D) (o := .deferred none) (k := w.heap.size + 1 + 1 + 1) (by omega)).trans s6'
  have z7 := (World.putObj_heap_other (r := D) (o := .deferred none) (k := w.heap.size + 1 + 1 + 1 + 1) (by omega)).trans s7
  obtain ⟨q6, _⟩ := bx1_d z6
  obtain ⟨q7, _⟩ := bx1_d z7
  have q6_h := lH q6; have q7_h := lH q7; clear hall hBU k6U k7U s6 s6k s7 s7k s6' hB9 z6 z7 q6 q7 hD; have hBf_h := lH hBf; have hD9_h := lH hD9; have hIb_h := lH hIb; clear hBf hD9 hIb
  go_wp2_with (fail)
  refine postM_mark (v := .tuple #[.bool true, .bool true]) rfl hD9_h.out ?_ ⟨rfl, hBf_h.out⟩
  have q6 := q6_h.out
  have q7 := q7_h.out
  simp [results, Tryd.results37, go_sem, q6, q7]
 case stop =>
  intro D c U hIx hD hDn
  obtain ⟨rfl, hb, s6, s7, hYf⟩ := hIx
  subst hYf
  have l7 := box_lt k7_h.out
  have hBf := hb.trans (belowK_b (n₀ := w.heap.size) (w := we) hle _ D _ (.deferred none) hDn hD rfl rfl)
  have z6 := (World.putObj_heap_other (r := D) (o := .deferred none) (k := w.heap.size + 1 + 1 + 1) (by omega)).trans s6
  have z7 := (World.putObj_heap_other (r := D) (o := .deferred none) (k := w.heap.size + 1 + 1 + 1 + 1) (by omega)).trans s7
  obtain ⟨q6, _⟩ := bx1_d z6
  obtain ⟨q7, _⟩ := bx1_d z7
  have q6_h := lH q6; have q7_h := lH q7; clear hb s6 s7 z6 z7 q6 q7; have hBf_h := lH hBf; have hD_h := lH hD; clear hBf hD
  gi_wp2
  refine postM_mark (v := .tuple #[.bool false, .bool true]) rfl hD_h.out ?_ ⟨rfl, hBf_h.out⟩
  have q6 := q6_h.out
  have q7 := q7_h.out
  simp [results, Tryd.results37, go_sem, q6, q7]
end Go.Proofs.YtahnhblodfdfhaaDoor
namespace Go.Proofs.YtahnhblodfdfhaaDoor
open Go.ChangeShapes Go.WideShapes Go.ChangeAt Go.RowKit
theorem gTab : Tryd.prog.globalNamed "loop.example/g01073/impl.smallPrimes" = some 0 := by kernel_rfl
theorem gTabType : (Tryd.prog.globals[0]?).map (·.type) = some 167 := by kernel_rfl
theorem cellsTab : Tryd.prog.cellsOf 167 = 4 := by kernel_rfl
theorem tab_of_laid {W : World} (h : laidMetH Tryd.prog [("loop.example/g01073/impl.smallPrimes", Rows.laid_loop_example_g01073_impl_smallPrimes)] W) : Tab W := by
 have ht : Lib.TabIs Tryd.prog W "loop.example/g01073/impl.smallPrimes" .i64 [2, 3, 5, 7] :=
  Lib.tabIs_of_head (rest := []) gTab gTabType Tryd.underlying167 Tryd.underlying3 cellsInt cellsTab h
 exact ⟨ht.cell gTab 0 (by decide), ht.cell gTab 1 (by decide), ht.cell gTab 2 (by decide), ht.cell gTab 3 (by decide)⟩
theorem vars_ok : ∀ n ∈ ["loop.example/g01073/impl.smallPrimes"], ∀ g t, Tryd.prog.globalNamed n = some g → (Tryd.prog.globals[g]?).map (·.type) = some t → Tryd.prog.readableRec t = true ∧ t < Tryd.prog.types.size := by
 intro n hn g t h1 h2
 obtain rfl := List.mem_singleton.1 hn
 obtain rfl := Option.some.inj (gTab.symm.trans h1)
 obtain rfl := Option.some.inj (gTabType.symm.trans h2)
 exact ⟨by kernel_rfl, of_decide_eq_true (by kernel_rfl)⟩
noncomputable def laidWorld (os : Os) : World :=
 { World.holding Tryd.prog os ⟨#[], #[], []⟩ with heap := (World.holding Tryd.prog os ⟨#[], #[], []⟩).heap.modify 0 fun
   | .cells _ t frozen => .cells #[.int .i64 2, .int .i64 3, .int .i64 5, .int .i64 7] t frozen
   | o => o }
theorem laid_met (os : Os) (args : Array Value) : laidMet Tryd.prog [("loop.example/g01073/impl.smallPrimes", Rows.laid_loop_example_g01073_impl_smallPrimes)] ((laidWorld os).forCall (fun _ _ => 0) ⟨#[], args, []⟩).memory :=
 laidMet_of_run' 8 (by kernel_rfl) (by kernel_rfl)
end Go.Proofs.YtahnhblodfdfhaaDoor
namespace Go.Proofs.YtahnhblodfdfhaaDoor
open Go.RowKit
@[simp] theorem eh_length (l : List EHd) : (eh l).length = 2 * l.length := by
  induction l with
  | nil => rfl
  | cons a r ih => simp only [eh, List.length_cons, ih]; omega
section
variable {w w' : World} {fp : List Nat} {ls : List Hd}
theorem OwLs.wr (h : OwLs w fp ls) {i : Nat} {B : Option Addr} {c : Nat} {l l' : List Int} (hi : ls[i]? = some (B, c, l)) (hk : Keeps (· ∈ fpA B) w w') (hI : IS w' B c l') : OwLs w' fp (ls.set i (B, c, l')) := by
 have hap : ∀ (k : Nat) (x : Hd), ls[k]? = some x → i ≠ k → ∀ b, b ∈ fpA x.1 → ¬ b ∈ fpA B := fun k x hx hne b hb hb' => by
  have hp := List.pairwise_iff_getElem.1 h.apart
  obtain ⟨hi', ei⟩ := List.getElem?_eq_some_iff.1 hi
  obtain ⟨hk', ek⟩ := List.getElem?_eq_some_iff.1 hx
  rcases Nat.lt_or_gt_of_ne hne with hlt | hlt
  · exact hp i k hi' hk' hlt b (by rw [ei]; exact hb') (by rw [ek]; exact hb)
  · exact hp k i hk' hi' hlt b (by rw [ek]; exact hb) (by rw [ei]; exact hb')
 have hget : ∀ (k : Nat) (x : Hd), (ls.set i (B, c, l'))[k]? = some x → ∃ y : Hd, ls[k]? = some y ∧ y.1 = x.1 := by
  intro k x hx
  rw [List.getElem?_set] at hx
  split at hx
  · rename_i hk; subst hk
    simp at hx
    exact ⟨_, hi, by rw [← hx.2]⟩
  · exact ⟨x, hx, rfl⟩
 refine ⟨fun x hx => ?_, ?_, fun x hx => ?_⟩
 · obtain ⟨k, hkk⟩ := List.mem_iff_getElem?.1 hx
   rw [List.getElem?_set] at hkk
   split at hkk
   · simp at hkk
     rw [← hkk.2]
     exact hI
   · rename_i hik
     exact (h.rows x (List.mem_of_getElem? hkk)).keeps hk fun b hb hb' => hap k x hkk hik b hb hb'
 · refine List.pairwise_iff_getElem.2 fun a b ha hb hab => ?_
   obtain ⟨x, hx, ex⟩ := hget a _ (List.getElem?_eq_getElem ha)
   obtain ⟨y, hy, ey⟩ := hget b _ (List.getElem?_eq_getElem hb)
   rw [← ex, ← ey]
   obtain ⟨ha', e1⟩ := List.getElem?_eq_some_iff.1 hx
   obtain ⟨hb', e2⟩ := List.getElem?_eq_some_iff.1 hy
   rw [← e1, ← e2]
   exact List.pairwise_iff_getElem.1 h.apart a b ha' hb' hab
 · obtain ⟨k, hkk⟩ := List.mem_iff_getElem?.1 hx
   obtain ⟨y, hy, e⟩ := hget k x hkk
   rw [← e]; exact h.outer y (List.mem_of_getElem? hy)
end
@[simp] theorem marksE_length : ∀ (k : Nat) (L : List Eg), (marksE k L).length = L.length
  | _, [] => rfl
  | k, e :: r => by simp [marksE, marksE_length]
set_option maxRecDepth 100000 in
set_option maxHeartbeats 2000000 in
theorem eqGraph_law {v v' : Value} {g g' : Gr} {w : World} (h : RdGr w v g) (h' : RdGr w v' g') (ok : OkG g) :
  Calls Tryd.prog 34 #[v, v'] w fun e w' => e = .returned (.bool (decide (g = g'))) ∧ Below w.heap.size w w' := by
 obtain ⟨A, c, hs, ⟨B, b, s⟩, ⟨C, d, t⟩, rfl, e1, e2, e3, hE, hRa, hRb⟩ := h
 obtain ⟨A', c', hs', ⟨B', b', s'⟩, ⟨C', d', t'⟩, rfl, e1', e2', e3', hE', hRa', hRb'⟩ := h'
 obtain ⟨z, es, s0, t0⟩ := g
 obtain ⟨z', es', s0', t0'⟩ := g'
 have a1 : es = hs.map egOf := e1
 have a2 : s = s0 := e2
 have a3 : t = t0 := e3
 have b1 : es' = hs'.map egOf := e1'
 have b2 : s' = s0' := e2'
 have b3 : t' = t0' := e3'
 subst a1 a2 a3 b1 b2 b3
 obtain ⟨⟨ok1, ok2, ok3⟩, ok4, -⟩ := ok
 have ok1' : hs.length ≤ 1048576 := by have : (hs.map egOf).length ≤ 1048576 := ok1; simpa using this
 have ok2' : s.length ≤ 1048576 := ok2
 have ok3' : t.length ≤ 1048576 := ok3
 have hQ0 := fun (W : World) (hb : Below w.heap.size w W) => eqEdgeS_any A A' c c' hs hs' W (hE.below hb) (hE'.below hb) ok1' (fun x hx => ok4 _ (List.mem_map_of_mem hx))
 have hQ1 := fun (W : World) (hb : Below w.heap.size w W) => eqIntS_any B B' b b' s s' W (RdI.below hRa hb) (RdI.below hRa' hb) (by omega)
 have hQ2 := fun (W : World) (hb : Below w.heap.size w W) => eqIntS_any C C' d d' t t' W (RdI.below hRb hb) (RdI.below hRb' hb) (by omega)
 show Calls Tryd.prog _ #[.agg #[.int .i64 z, .slice A hs.length c, .slice B s.length b, .slice C t.length d], .agg #[.int .i64 z', .slice A' hs'.length c', .slice B' s'.length b', .slice C' t'.length d']] w fun e w' => e = .returned (.bool (decide (((z, hs.map egOf, s, t) : Gr) = (z', hs'.map egOf, s', t')))) ∧ Below w.heap.size w w'
 obtain ⟨D, hD⟩ : ∃ D, D = decide (((z, hs.map egOf, s, t) : Gr) = (z', hs'.map egOf, s', t')) := ⟨_, rfl⟩
 obtain ⟨D0, hD0⟩ : ∃ D, D = decide (hs.map egOf = hs'.map egOf) := ⟨_, rfl⟩
 obtain ⟨D1, hD1⟩ : ∃ D, D = decide (s = s') := ⟨_, rfl⟩
 obtain ⟨D2, hD2⟩ : ∃ D, D = decide (t = t') := ⟨_, rfl⟩
 rw [← hD]
 simp only [← hD0] at hQ0
 simp only [← hD1] at hQ1
 simp only [← hD2] at hQ2
 have hDD : D = (decide (z = z') && (D0 && (D1 && D2))) := by
  rw [hD, hD0, hD1, hD2, Bool.eq_iff_iff]; simp
 obtain ⟨n, hn⟩ : ∃ n, n = hs.length := ⟨_, rfl⟩
 obtain ⟨n', hn'⟩ : ∃ n, n = hs'.length := ⟨_, rfl⟩
 obtain ⟨p, hp⟩ : ∃ p, p = s.length := ⟨_, rfl⟩
 obtain ⟨q, hq⟩ : ∃ q, q = t.length := ⟨_, rfl⟩
 obtain ⟨p', hp'⟩ : ∃ p, p = s'.length := ⟨_, rfl⟩
 obtain ⟨q', hq'⟩ : ∃ q, q = t'.length := ⟨_, rfl⟩
 simp only [← hn, ← hn'] at hQ0
 simp only [← hp, ← hp'] at hQ1
 simp only [← hq, ← hq'] at hQ2
 rw [← hn, ← hn', ← hp, ← hq, ← hp', ← hq']
 obtain ⟨W, hW, bW, k0, k1⟩ := allocs2 w (.cells #[.int .i64 z, .slice A n c, .slice B p b, .slice C q d] tGr) (.cells #[.int .i64 z', .slice A' n' c', .slice B' p' b', .slice C' q' d'] tGr)
 obtain ⟨⟨c0, c1, c2, c3⟩, f0, f1, f2, f3⟩ := t_box4 k0
 obtain ⟨⟨d0, d1, d2, d3⟩, g0, g1, g2, g3⟩ := t_box4 k1
 clear hE hE' hRa hRa' hRb hRb' hD hD0 hD1 hD2 hn hn' hp hq hp' hq' e1 e2 e3 e1' e2' e3' ok1 ok2 ok3 ok4
 by_cases e0 : z = z'
 · have t0 : (z != z') = false := by simp [e0]
   rw [decide_eq_true e0] at hDD
   cases D0
   · obtain rfl : D = false := by rw [hDD]; rfl
     clear e0 hDD; have hQ0_h := lH hQ0; have hQ1_h := lH hQ1; have hQ2_h := lH hQ2; have k0_h := lH k0; have k1_h := lH k1; have bW_h := lH bW; clear hQ0 hQ1 hQ2 k0 k1 bW
     go_enter Tryd.func34, Tryd.ntmps34
     go_upto_region 1 with (fail)
     rw [← hW]
     clear hW
     go_wp2_with (fail)
     refine (hQ0_h.out W bW_h.out).mono ?_
     rintro e w1 ⟨rfl, hb1⟩
     go_wp2_with (fail)
     go_ret
     exact ⟨rfl, below_trans bW_h.out hb1 bW_h.out.size⟩
   · cases D1
     · obtain rfl : D = false := by rw [hDD]; rfl
       clear e0 hDD; have hQ0_h := lH hQ0; have hQ1_h := lH hQ1; have hQ2_h := lH hQ2; have k0_h := lH k0; have k1_h := lH k1; have bW_h := lH bW; clear hQ0 hQ1 hQ2 k0 k1 bW
       go_enter Tryd.func34, Tryd.ntmps34
       go_upto_region 1 with (fail)
       rw [← hW]
       clear hW
       go_wp2_with (fail)
       refine (hQ0_h.out W bW_h.out).mono ?_
       rintro e w1 ⟨rfl, hb1⟩
       clear c0 c1 c2 c3 f0 f1 f2 f3 d0 d1 d2 d3 g0 g1 g2 g3
       obtain ⟨⟨c0, c1, c2, c3⟩, f0, f1, f2, f3⟩ := t_box4 (t_box_below k0_h.out hb1)
       obtain ⟨⟨d0, d1, d2, d3⟩, g0, g1, g2, g3⟩ := t_box4 (t_box_below k1_h.out hb1)
       have hB1 := below_trans bW_h.out hb1 bW_h.out.size
       clear hb1; have hB1_h := lH hB1; clear hB1
       go_wp2_with (fail)
       refine (hQ1_h.out w1 hB1_h.out).mono ?_
       rintro e w2 ⟨rfl, hq2⟩
       have hB2 := below_trans hB1_h.out hq2.below hB1_h.out.size
       clear hq2; have hB2_h := lH hB2; clear hB2
       go_wp2_with (fail)
       go_ret
       exact ⟨rfl, hB2_h.out⟩
     · obtain rfl : D = D2 := by rw [hDD]; rfl
       clear e0 hDD; have hQ0_h := lH hQ0; have hQ1_h := lH hQ1; have hQ2_h := lH hQ2; have k0_h := lH k0; have k1_h := lH k1; have bW_h := lH bW; clear hQ0 hQ1 hQ2 k0 k1 bW
       go_enter Tryd.func34, Tryd.ntmps34
       go_upto_region 1 with (fail)
       rw [← hW]
       clear hW
       go_wp2_with (fail)
       refine (hQ0_h.out W bW_h.out).mono ?_
       rintro e w1 ⟨rfl, hb1⟩
       clear c0 c1 c2 c3 f0 f1 f2 f3 d0 d1 d2 d3 g0 g1 g2 g3
       have k0a := t_box_below k0_h.out hb1
       have k1a := t_box_below k1_h.out hb1
       obtain ⟨⟨c0, c1, c2, c3⟩, f0, f1, f2, f3⟩ := t_box4 k0a
       obtain ⟨⟨d0, d1, d2, d3⟩, g0, g1, g2, g3⟩ := t_box4 k1a
       have hB1 := below_trans bW_h.out hb1 bW_h.out.size
       clear hb1; have hB1_h := lH hB1; have k0a_h := lH k0a; have k1a_h := lH k1a; clear hB1 k0a k1a
       go_wp2_with (fail)
       refine (hQ1_h.out w1 hB1_h.out).mono ?_
       rintro e w2 ⟨rfl, hq2⟩
       clear c0 c1 c2 c3 f0 f1 f2 f3 d0 d1 d2 d3 g0 g1 g2 g3
       obtain ⟨⟨c0, c1, c2, c3⟩, f0, f1, f2, f3⟩ := t_box4 (box_qt k0a_h.out hq2)
       obtain ⟨⟨d0, d1, d2, d3⟩, g0, g1, g2, g3⟩ := t_box4 (box_qt k1a_h.out hq2)
       have hB2 := below_trans hB1_h.out hq2.below hB1_h.out.size
       clear hq2; have hB2_h := lH hB2; clear hB2
       go_wp2_with (fail)
       refine (hQ2_h.out w2 hB2_h.out).mono ?_
       rintro e w3 ⟨rfl, hq3⟩
       have hB3 := below_trans hB2_h.out hq3.below hB2_h.out.size
       clear hq3; have hB3_h := lH hB3; clear hB3
       cases D
       · go_wp2_with (fail)
         go_ret
         exact ⟨rfl, hB3_h.out⟩
       · go_wp2_with (fail)
         go_ret
         exact ⟨rfl, hB3_h.out⟩
 · have t0 : (z != z') = true := by simp [e0]
   obtain rfl : D = false := by rw [hDD, decide_eq_false e0]; rfl
   clear e0 hDD; have hQ0_h := lH hQ0; have hQ1_h := lH hQ1; have hQ2_h := lH hQ2; have k0_h := lH k0; have k1_h := lH k1; have bW_h := lH bW; clear hQ0 hQ1 hQ2 k0 k1 bW
   go_enter Tryd.func34, Tryd.ntmps34
   go_upto_region 1 with (fail)
   rw [← hW]
   clear hW
   go_wp2_with (fail)
   go_ret
   exact ⟨rfl, bW_h.out⟩
end Go.Proofs.YtahnhblodfdfhaaDoor
namespace Go.Proofs.YtahnhblodfdfhaaDoor
open Go.ChangeShapes Go.WideShapes Go.ChangeAt Go.RowKit
set_option maxHeartbeats 40000000 in
set_option maxRecDepth 100000 in
theorem lawIsValuation_any (p : Int) (vg : Value) (g : Gr) (Ax : Option Addr) (cx : Nat) (x : List Int) (w : World) (hg : RdGr w vg g) (hgg : BigGraph g) (qx : RdI w Ax x) (_lop : -9223372036854775808 ≤ p) (_hip : p ≤ 9223372036854775807) (hT : Tab w) :
  Calls Tryd.prog 7 #[.int .i64 p, vg, .slice Ax x.length cx] w fun e w' => e = .returned (.bool true) ∧ Below w.heap.size w w' := by
 obtain ⟨Ag, ng, cg, Bg, mg, dg, Cg, kg, eg, rfl⟩ := hg.shape
 obtain ⟨Sg, hSg⟩ : ∃ S, S = szG (g) 1048576 := ⟨_, rfl⟩
 have HSg := lH hSg; clear hSg
 by_cases lenx : x.length ≤ 1048576
 case neg =>
  have gtx : 1048576 < (x.length : Int) := by omega
  go_enter Tryd.func7, Tryd.ntmps7
  go_wp2_with (fail)
  go_ret
  exact ⟨rfl, (Below.refl _ _).alloc (Nat.le_refl _) _⟩
 have gtx : ¬ (1048576 < (x.length : Int)) := by omega
 have hx : RdIV w (.slice Ax x.length cx) x := ⟨Ax, cx, rfl, qx⟩
 clear qx
 have hB0 : Below w.heap.size w w := Below.refl _ _
 have hb1 := below_alloc (w) (.cells #[.int .i64 (g).1, .slice Ag ng cg, .slice Bg mg dg, .slice Cg kg eg] 52)
 have hB1 := below_trans hB0 hb1 hB0.size
 have bx1 := heap_alloc_new (w) (.cells #[.int .i64 (g).1, .slice Ag ng cg, .slice Bg mg dg, .slice Cg kg eg] 52)
 have lt_pg : LtL ((w).alloc (.cells #[.int .i64 (g).1, .slice Ag ng cg, .slice Bg mg dg, .slice Cg kg eg] 52)).heap.size [(w).heap.size] := fun b hb => by obtain rfl := List.mem_singleton.1 hb; exact box_lt bx1
 have fr_pg : FreshL (w).heap.size [(w).heap.size] := fun b hb => by obtain rfl := List.mem_singleton.1 hb; exact Nat.le_refl _
 have BX_pg_1 := lH bx1; clear bx1
 by_cases negg : Sg < 0
 case pos =>
  go_enter Tryd.func7, Tryd.ntmps7
  obtain ⟨⟨c1_0, c1_1, c1_2, c1_3⟩, f1_0, f1_1, f1_2, f1_3⟩ := box4 BX_pg_1.out
  go_wp2_with (fail)
  refine (szGraph_law 1048576 (hg.below hB1) hgg (by omega) (by omega)).mono ?_
  rintro e w2 ⟨he2, hb2⟩
  have hB2 := below_trans hB1 hb2 hB1.size
  clear c1_0 c1_1 c1_2 c1_3 f1_0 f1_1 f1_2 f1_3
  rw [← HSg.out] at he2
  subst he2
  go_wp2_with (fail)
  go_ret
  exact ⟨rfl, hB2⟩
 have sokg := szG_ok (by rw [← HSg.out]; omega : 0 ≤ szG (g) 1048576) (by omega)
 have okg := sokg.1
 have sleg : Sg ≤ 1048576 := by rw [HSg.out]; exact sokg.2
 clear sokg
 go_enter Tryd.func7, Tryd.ntmps7
 obtain ⟨⟨c2_0, c2_1, c2_2, c2_3⟩, f2_0, f2_1, f2_2, f2_3⟩ := box4 BX_pg_1.out
 go_wp2_with (fail)
 refine (szGraph_law 1048576 (hg.below hB1) hgg (by omega) (by omega)).mono ?_
 rintro e w2 ⟨he2, hb2⟩
 have hB2 := below_trans hB1 hb2 hB1.size
 clear c2_0 c2_1 c2_2 c2_3 f2_0 f2_1 f2_2 f2_3
 rw [← HSg.out] at he2
 subst he2
 have F3_pg_2 := lH (box_below BX_pg_1.out hb2)
 clear BX_pg_1
 obtain ⟨⟨c4_0, c4_1, c4_2, c4_3⟩, f4_0, f4_1, f4_2, f4_3⟩ := box4 F3_pg_2.out
 go_wp2_with (fail)
 refine (toGraph_law (hg.below hB2) okg).mono ?_
 rintro e w3 ⟨v3, fp3, rfl, o3, fr3, hb3⟩
 have hB3 := below_trans hB2 hb3 hB2.size
 clear c4_0 c4_1 c4_2 c4_3 f4_0 f4_1 f4_2 f4_3
 obtain ⟨A3, n3, c3, B3, m3, d3, C3, k3, e3, rfl⟩ := o3.shape
 have lt_ag := o3.lt
 go_wp2_with (fail)
 refine (toI_law (hx.below hB3) (by omega)).mono ?_
 rintro e w4 ⟨v4, fp4, rfl, o4, fr4, hb4⟩
 have hB4 := below_trans hB3 hb4 hB3.size
 have lt_ax := o4.lt
 have F5_ag_4 := o3.below hb4
 clear o3
 go_wp2_with (fail)
 refine (sIsValuation_law p F5_ag_4.rd o4.rd okg (by omega)).mono ?_
 rintro e w5 ⟨rfl, hb5⟩
 have hB5 := below_trans hB4 hb5 hB4.size
 have F6_pg_3 := lH (box_below F3_pg_2.out hb3)
 clear F3_pg_2
 have F7_pg_4 := lH (box_below F6_pg_3.out hb4)
 clear F6_pg_3
 have F8_pg_5 := lH (box_below F7_pg_4.out hb5)
 clear F7_pg_4
 obtain ⟨⟨c9_0, c9_1, c9_2, c9_3⟩, f9_0, f9_1, f9_2, f9_3⟩ := box4 F8_pg_5.out
 go_wp2_with (fail)
 refine (toGraph_law (hg.below hB5) okg).mono ?_
 rintro e w6 ⟨v6, fp6, rfl, o6, fr6, hb6⟩
 have hB6 := below_trans hB5 hb6 hB5.size
 clear c9_0 c9_1 c9_2 c9_3 f9_0 f9_1 f9_2 f9_3
 obtain ⟨A6, n6, c6, B6, m6, d6, C6, k6, e6, rfl⟩ := o6.shape
 have lt_xg := o6.lt
 have hb7 := below_alloc (w6) (.cells #[.int .i64 (g).1, .slice A6 n6 c6, .slice B6 m6 d6, .slice C6 k6 e6] 57)
 have hB7 := below_trans hB6 hb7 hB6.size
 have bx7 := heap_alloc_new (w6) (.cells #[.int .i64 (g).1, .slice A6 n6 c6, .slice B6 m6 d6, .slice C6 k6 e6] 57)
 have lt_bxg : LtL ((w6).alloc (.cells #[.int .i64 (g).1, .slice A6 n6 c6, .slice B6 m6 d6, .slice C6 k6 e6] 57)).heap.size [(w6).heap.size] := fun b hb => by obtain rfl := List.mem_singleton.1 hb; exact box_lt bx7
 have fr_bxg : FreshL (w6).heap.size [(w6).heap.size] := fun b hb => by obtain rfl := List.mem_singleton.1 hb; exact Nat.le_refl _
 have BX_bxg_7 := lH bx7; clear bx7
 go_wp2_with (fail)
 refine (toI_law (hx.below hB7) (by omega)).mono ?_
 rintro e w8 ⟨v8, fp8, rfl, o8, fr8, hb8⟩
 have hB8 := below_trans hB7 hb8 hB7.size
 have lt_xx := o8.lt
 have F10_xg_7 := o6.below hb7
 clear o6
 have F11_xg_8 := F10_xg_7.below hb8
 clear F10_xg_7
 have F12_bxg_8 := lH (box_below BX_bxg_7.out hb8)
 clear BX_bxg_7
 obtain ⟨⟨c13_0, c13_1, c13_2, c13_3⟩, f13_0, f13_1, f13_2, f13_3⟩ := box4 F12_bxg_8.out
 go_wp2_with (fail)
 refine (iIsValuation_law p F11_xg_8.rd o8.rd okg (by omega) (hT.below hB8 hT.lt)).mono ?_
 rintro e w9 ⟨rfl, hb9⟩
 have hB9 := below_trans hB8 hb9 hB8.size
 clear c13_0 c13_1 c13_2 c13_3 f13_0 f13_1 f13_2 f13_3
 have F14_bxg_9 := lH (box_below F12_bxg_8.out hb9)
 clear F12_bxg_8
 have F15_pg_6 := lH (box_below F8_pg_5.out hb6)
 clear F8_pg_5
 have F16_pg_7 := lH (box_below F15_pg_6.out hb7)
 clear F15_pg_6
 have F17_pg_8 := lH (box_below F16_pg_7.out hb8)
 clear F16_pg_7
 have F18_pg_9 := lH (box_below F17_pg_8.out hb9)
 clear F17_pg_8
 have F19_xg_9 := F11_xg_8.below hb9
 clear F11_xg_8
 go_wp2_with (fail)
 refine beginH (fun w' => w'.heap[(w6).heap.size]? = some (.cells #[.int .i64 (g).1, .slice A6 n6 c6, .slice B6 m6 d6, .slice C6 k6 e6] 57) ∧ w'.heap[(w).heap.size]? = some (.cells #[.int .i64 (g).1, .slice Ag ng cg, .slice Bg mg dg, .slice Cg kg eg] 52)) (by kernel_rfl) ?_
 have hb10 : Below (w9).heap.size (w9) (w9).drew := below_drewN (Below.refl _ _) 1
 have hB10 := below_trans hB9 hb10 hB9.size
 have F21_bxg_10 := lH (box_below F14_bxg_9.out hb10)
 clear F14_bxg_9
 have F22_pg_10 := lH (box_below F18_pg_9.out hb10)
 clear F18_pg_9
 have F23_xg_10 := F19_xg_9.below hb10
 clear F19_xg_9
 refine tkH 0 ?_ rfl ⟨F21_bxg_10.out, F22_pg_10.out⟩ (fun W' hW' => ?_) ?_; rotate_left; · (obtain ⟨q1, q2⟩ := hW'; obtain ⟨⟨ca0, ca1, ca2, ca3⟩, gca0, gca1, gca2, gca3⟩ := box4 q1; obtain ⟨⟨cb0, cb1, cb2, cb3⟩, gcb0, gcb1, gcb2, gcb3⟩ := box4 q2; clear q1 q2; go_simp; first | done | with_reducible rfl)
 simp only [Act.put, nS]
 refine tkH 1 ?_ rfl ⟨F21_bxg_10.out, F22_pg_10.out⟩ (fun W' hW' => ?_) ?_; rotate_left; · (obtain ⟨q1, q2⟩ := hW'; obtain ⟨⟨ca0, ca1, ca2, ca3⟩, gca0, gca1, gca2, gca3⟩ := box4 q1; obtain ⟨⟨cb0, cb1, cb2, cb3⟩, gcb0, gcb1, gcb2, gcb3⟩ := box4 q2; clear q1 q2; go_simp; first | done | with_reducible rfl)
 simp only [Act.put, nS]
 refine' callH 2 (f := _) (args := _) rfl (by kernel_rfl) (by rfl) ?_ ?_; rotate_left 2; · (go_simp; first | done | with_reducible rfl | (constructor <;> with_reducible rfl))
 refine (toGraph_law (hg.below hB10) okg).mono ?_
 rintro e w11 ⟨v11, fp11, rfl, o11, fr11, hb11⟩
 have hB11 := below_trans hB10 hb11 hB10.size
 have F24_bxg_11 := lH (box_below F21_bxg_10.out hb11)
 clear F21_bxg_10
 have F25_pg_11 := lH (box_below F22_pg_10.out hb11)
 clear F22_pg_10
 have F26_xg_11 := F23_xg_10.below hb11
 clear F23_xg_10
 refine ⟨_, rfl, ⟨F24_bxg_11.out, F25_pg_11.out⟩, ?_⟩
 simp only [Act.put, nS]
 refine' callH 3 (f := _) (args := _) rfl (by kernel_rfl) (by rfl) ?_ ?_; rotate_left 2; · (go_simp; first | done | with_reducible rfl | (constructor <;> with_reducible rfl))
 refine (eqGraph_law F26_xg_11.rd o11.rd okg).mono ?_
 rintro e w12 ⟨rfl, hb12⟩
 have hB12 := below_trans hB11 hb12 hB11.size
 have F27_bxg_12 := lH (box_below F24_bxg_11.out hb12)
 clear F24_bxg_11
 have F28_pg_12 := lH (box_below F25_pg_11.out hb12)
 clear F25_pg_11
 have F29_xg_12 := F26_xg_11.below hb12
 clear F26_xg_11
 refine ⟨_, rfl, ⟨F27_bxg_12.out, F28_pg_12.out⟩, ?_⟩
 rw [decide_eq_true (rfl : g = g)]
 simp only [Act.put, nS]
 refine takeH 4 (v := .bool false) rfl (by kernel_rfl) (by kernel_rfl) (by kernel_rfl) (fun _ _ _ h => h) ⟨F27_bxg_12.out, F28_pg_12.out⟩ (by rfl) (fun W' hW' => ?_) ?_; · (go_simp; first | done | with_reducible rfl)
 simp only [Act.put, nS]
 refine doneH (by kernel_rfl) ?_
 go_wp2_with (fail)
 refine (toI_law (hx.below hB12) (by omega)).mono ?_
 rintro e w13 ⟨v13, fp13, rfl, o13, fr13, hb13⟩
 have hB13 := below_trans hB12 hb13 hB12.size
 have lt_tx := o13.lt
 have F30_xx_9 := o8.below hb9
 clear o8
 have F31_xx_10 := F30_xx_9.below hb10
 clear F30_xx_9
 have F32_xx_11 := F31_xx_10.below hb11
 clear F31_xx_10
 have F33_xx_12 := F32_xx_11.below hb12
 clear F32_xx_11
 have F34_xx_13 := F33_xx_12.below hb13
 clear F33_xx_12
 go_wp2_with (fail)
 refine (eqI_law F34_xx_13.rd o13.rd (by omega)).mono ?_
 rintro e w14 ⟨rfl, hb14⟩
 have hB14 := below_trans hB13 hb14 hB13.size
 rw [decide_eq_true (rfl : x = x)]
 go_wp2_with (fail)
 go_ret
 exact ⟨rfl, hB14⟩
set_option maxRecDepth 100000 in
theorem contractIsValuation (H : Type) (enc : TypeId × Value → H) (W : World) (args : Array Value) (ds gs : List (DataW H)) (before : List MemPlace)
  (hval : ∀ (j : Nat) t v, Tryd.f7.params[j]? = some t → args[j]? = some v → Value.okWide Tryd.prog W .any 0 t v)
  (hW : DataW.Whole enc Tryd.prog Tryd.f7.params.toList Rows.fnExactIsValuationSpec.vars false W args.toList ds gs before) (hL : laidMetH Tryd.prog Rows.fnExactIsValuationRow.laid W) :
  Calls Tryd.prog 7 args W fun e W' => ∃ v, e = .returned v ∧ Rows.fnExactIsValuationSpec.post enc Tryd.prog Tryd.f7 false true false false W args v W' := by
 have hW' := hW
 obtain ⟨p, q, hA0, hV, rfl, hfz, hnd⟩ := hW
 have hA : DataW.TrodAll enc Tryd.prog W 0 (fun _ => true) true Tryd.f7.params.toList args.toList ds p := hA0
 have hr : ∀ t ∈ Tryd.f7.params.toList, Tryd.prog.readableRec t = true ∧ t < Tryd.prog.types.size := by
  rw [Tryd.params7]
  intro t ht
  have ht' : t ∈ ([3, 52, 33] : List TypeId) := ht
  rcases List.mem_cons.1 ht' with rfl | ht'
  · exact ⟨by kernel_rfl, of_decide_eq_true (by kernel_rfl)⟩
  rcases List.mem_cons.1 ht' with rfl | ht'
  · exact ⟨by kernel_rfl, of_decide_eq_true (by kernel_rfl)⟩
  rcases List.mem_cons.1 ht' with rfl | ht'
  · exact ⟨by kernel_rfl, of_decide_eq_true (by kernel_rfl)⟩
  cases ht'
 rw [Tryd.params7] at hA hval
 obtain ⟨v0, vs0, d0, ds0, p0, q0, hargs, rfl, rfl, t0, r0⟩ := trodAll_cons hA
 obtain ⟨v1, vs1, d1, ds1, p1, q1, rfl, rfl, rfl, t1, r1⟩ := trodAll_cons r0
 obtain ⟨v2, vs2, d2, ds2, p2, q2, rfl, rfl, rfl, t2, r2⟩ := trodAll_cons r1
 obtain ⟨rfl, rfl, rfl⟩ := trodAll_nil r2
 obtain rfl : args = #[v0, v1, v2] := by cases args; simp_all
 obtain ⟨g, _, _, _, dg, pg, rfl, _⟩ := trodVars_one hV
 obtain ⟨x0, rfl, lo0, hi0⟩ := in_int (hval 0 _ v0 rfl rfl) t0
 obtain ⟨m1, hl1, hg1⟩ := in_Graph (hval 1 _ v1 rfl rfl) t1
 obtain ⟨A2, c2, l2, rfl, hl2⟩ := in_ints (hval 2 _ v2 rfl rfl) t2
 refine (lawIsValuation_any x0 v1 m1 A2 c2 l2 W hl1 hg1 hl2 lo0 hi0 (tab_of_laid hL)).mono fun e W' ⟨he, hb⟩ => ?_
 subst he
 exact ⟨_, rfl, post_true laidOut hW' hb hr vars_ok rfl rfl Tryd.underlying4⟩
set_option maxRecDepth 100000 in
theorem liftedIsValuation (os : Os) (started : os.Started) (H : Type) (enc : TypeId × Value → H) (F : Stop.Interp) :
  ReturnsInHanded {} Tryd.checked os 7 .any ((OpenSpec.ofChange Rows.fnExactIsValuationSpec).preRow enc Tryd.prog Tryd.f7 Rows.fnExactIsValuationRow.domain false Rows.fnExactIsValuationRow.laid) (((OpenSpec.ofChange Rows.fnExactIsValuationSpec).at F).post enc Tryd.prog Tryd.f7 false true false false) := by
 obtain ⟨ds, gs, places, hx⟩ : ∃ ds gs places, DataW.whole enc Tryd.prog ((laidWorld os).forCall (fun _ _ => 0) ⟨#[], #[.int .i64 0, .agg #[.int .i64 0, .slice none 0 0, .slice none 0 0, .slice none 0 0], .slice none 0 0], []⟩).memory Tryd.f7.params.toList Rows.fnExactIsValuationSpec.vars false (#[.int .i64 0, .agg #[.int .i64 0, .slice none 0 0, .slice none 0 0, .slice none 0 0], .slice none 0 0] : Array Value).toList 8 = some (ds, gs, places) :=
  ⟨[.lit (.int .i64 0), .agg [.lit (.int .i64 0), .nil, .nil, .nil], .nil], [Rows.laid_loop_example_g01073_impl_smallPrimes], MemPlace.row ⟨0, 0, none⟩ 4, by kernel_rfl⟩
 refine returnsInHanded_of_row (C := Tryd.checked) (s := OpenSpec.ofChange Rows.fnExactIsValuationSpec) own started (by kernel_rfl) Tryd.func7
  (witness_row_at (enc := enc) (C := Tryd.checked) false (laidWorld os) #[.int .i64 0, .agg #[.int .i64 0, .slice none 0 0, .slice none 0 0, .slice none 0 0], .slice none 0 0] rfl (by kernel_rfl) (by kernel_rfl) (by kernel_rfl)
   (OpenSpec.preRow_of_cond 8 hx (by kernel_rfl) (fun k hk => by cases hk) (by kernel_rfl) (laid_met os _))) ?_
 intro W base args ds gs before hval hW _ _ _ hL _ _
 exact contractIsValuation H enc W args ds gs before hval hW hL
theorem saidIsValuation : Rows.FnExactIsValuationSaid :=
 OpenClaim.holds_of_cond 7 Tryd.f7 rfl rfl rfl rfl rfl rfl rfl ⟨rfl, rfl, rfl, rfl, rfl⟩ rfl rfl rfl rfl rfl (by kernel_rfl) Tryd.func7 (by kernel_rfl)
  (of_decide_eq_true (by kernel_rfl)) (by unfold Func.isWrapper; first | (rw [if_pos (by decide +kernel)]; kernel_rfl) | (rw [if_neg (by decide +kernel)]; exact ⟨rfl, rfl⟩))
  (fun os started H enc _ F => by rw [OpenClaim.pre_eq_preRow]; exact liftedIsValuation os started H enc F)
theorem plainIsValuation (f : FuncId) (fn : Func) (hf : Tryd.pinned.checked.prog.funcNamed "loop.example/g01073/laws.FnExactIsValuation" = some f) (hfn : Tryd.pinned.checked.prog.funcs[f]? = some fn) :
  false = Tryd.pinned.checked.prog.looks [] ∧ ∀ (j : Nat) t, fn.params[j]? = some t → Tryd.pinned.checked.prog.wantsStandIn t = false := by
 obtain rfl : f = 7 := Option.some.inj ((show Tryd.prog.funcNamed "loop.example/g01073/laws.FnExactIsValuation" = some 7 by kernel_rfl).symm.trans hf) |>.symm
 obtain rfl : fn = Tryd.f7 := (Option.some.inj (Tryd.func7.symm.trans hfn)).symm
 refine ⟨by kernel_rfl, fun j t ht => ?_⟩
 rw [Tryd.params7] at ht
 have ht' : t ∈ ([3, 52, 33] : List TypeId) := by have := Array.mem_of_getElem? ht; simpa using this
 rcases List.mem_cons.1 ht' with rfl | ht'
 · exact (show Tryd.prog.wantsStandIn 3 = false by kernel_rfl)
 rcases List.mem_cons.1 ht' with rfl | ht'
 · exact (show Tryd.prog.wantsStandIn 52 = false by kernel_rfl)
 rcases List.mem_cons.1 ht' with rfl | ht'
 · exact (show Tryd.prog.wantsStandIn 33 = false by kernel_rfl)
 cases ht'
theorem cardIsValuation : Rows.FnExactIsValuationCardSaid :=
 Claim7.holds_tied_plain_at .later [] _ _ _ _ saidIsValuation (fun _ h => by cases h) (by kernel_rfl) (fun _ h => by cases h) fnExactIsValuation_row_tie rfl ⟨rfl, rfl⟩ (by kernel_rfl) rfl plainIsValuation (by kernel_rfl)
#print axioms cardIsValuation
end Go.Proofs.YtahnhblodfdfhaaDoor
