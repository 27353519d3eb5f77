/-
  THE WALK: isReduced.
-/
import Derived.Test.YtahnhblodfdfhaaDoorRlP
import Derived.Test.YtahnhblodfdfhaaDoorReduced
import Derived.Test.YtahnhblodfdfhaaDoorSysA
import Derived.Stop.BytesEq
namespace Go.Proofs.YtahnhblodfdfhaaDoor
open Go.RowKit

theorem all_range_int : ∀ (xs ys : List Int), xs.length = ys.length → ((List.range xs.length).all fun i => xs.getD i 0 == ys.getD i 0) = (xs == ys)
  | [], [], _ => rfl
  | x :: xs, y :: ys, h => by
    have ih := all_range_int xs ys (by simpa using h)
    rw [List.length_cons, List.range_succ_eq_map, List.all_cons, List.all_map]
    simp only [List.getD_cons_zero, Function.comp_def, List.getD_cons_succ, ih]
    simp [List.cons_beq_cons]
  | [], _ :: _, h => by simp at h
  | _ :: _, [], h => by simp at h
section
variable {P : Program} (w : World)
theorem run_equalIn_ints (d : Nat) (t e : TypeId) (n : Nat) (ht : P.underlying t = some (.array n e)) (he : P.underlying e = some (.int .i64)) (hsz : ∀ w, (sizeOf e).run P w = .ok 1 w)
    (xs ys : List Int) (hx : xs.length = n) (hy : ys.length = n) :
    (Op.equalIn (d + 2) t (.agg (ints xs).toArray) (.agg (ints ys).toArray)).run P w = .ok (xs == ys) w := by
  rw [← all_range_int xs ys (hx.trans hy.symm), hx, List.range_eq_range', Op.equalIn]
  simp only [Sem.run_bind, run_underlying ht, Result.andThen_ok, hsz, Std.Legacy.Range.forIn_eq_forIn_range', Std.Legacy.Range.size, Nat.sub_zero, Nat.add_sub_cancel, Nat.div_one]
  have hl : ∀ i ∈ List.range' 0 n 1, i < n := fun i hi => by simpa using (List.mem_range'_1.1 hi).2
  generalize List.range' 0 n 1 = l at hl ⊢
  induction l with
  | nil => simp
  | cons i l ih =>
    have hi : i < n := hl i (by simp)
    have px : (part e (ints xs).toArray (i * 1)).run P w = .ok (.int .i64 (xs.getD i 0)) w := by
      simp [part, isAgg, run_underlying he, ints, List.getD, List.getElem?_eq_getElem (show i < xs.length by omega)]
    have py : (part e (ints ys).toArray (i * 1)).run P w = .ok (.int .i64 (ys.getD i 0)) w := by
      simp [part, isAgg, run_underlying he, ints, List.getD, List.getElem?_eq_getElem (show i < ys.length by omega)]
    have pe : (Op.equalIn (d + 1) e (.int .i64 (xs.getD i 0)) (.int .i64 (ys.getD i 0))).run P w = .ok (xs.getD i 0 == ys.getD i 0) w := by
      rw [run_equalIn_int w d e .i64 .i64 _ _ he]
    simp only [List.forIn_cons, Sem.run_bind, px, py, pe, Result.andThen_ok, List.all_cons]
    cases hb : (xs.getD i 0 == ys.getD i 0)
    · simp
    · simp only [Bool.not_true, Bool.false_eq_true, if_false, Sem.run_pure, Result.andThen_ok, Bool.true_and]
      exact ih fun j hj => hl j (by simp [hj])
end
theorem padV_ints {l : List Int} : padV l = (ints (l ++ List.replicate (48 - l.length) 0)).toArray := by
  unfold padV ints; simp
theorem pad_ne {u v : List Int} (h : u.length = v.length) (hl : u.length ≤ 48) (W : World) : (binOp .neq 173 (.agg (padV u)) (.agg (padV v))).run Tryd.prog W = .ok (.bool (decide (¬ u = v))) W := by
  have hk := run_equalIn_ints (P := Tryd.prog) W 9998 173 3 48 under48 Tryd.underlying3 (fun w => by kernel_rfl) (u ++ List.replicate (48 - u.length) 0) (v ++ List.replicate (48 - v.length) 0) (by simp; omega) (by simp; omega)
  have e0 : Op.maxDepth = 9998 + 2 := rfl
  have hb : (u ++ List.replicate (48 - u.length) 0 == v ++ List.replicate (48 - v.length) 0) = decide (u = v) := by
    rw [h]
    by_cases e : u = v
    · simp [e]
    · simp [e]
  rw [hb] at hk
  simp only [binOp, Op.equal, Sem.run_bind]
  rw [e0, padV_ints, padV_ints, hk]
  by_cases e : u = v <;> simp [e]

set_option maxRecDepth 100000 in
set_option maxHeartbeats 2000000 in
theorem isReduced_any (p : Int) (n : Nat) (A : Option Addr) (c : Nat) (hs : List Hd) (w : World) (h : RdR w A hs) (hp : fieldB p = true) (hn : n ≤ 48) (hl : hs.length ≤ 1048576) (hr : ∀ x, x ∈ hs → x.2.2.length ≤ 1048576) :
    Calls Tryd.prog 123 #[.int .i64 p, .slice A hs.length c, .int .i64 n] w fun e w' => e = .returned (.bool (redB p n (hs.map fun h : Hd => h.2.2))) ∧ Below w.heap.size w w' := by
  have hV := areVectors_any p n A c hs w h (by omega) (fun x hx => by have := hr x hx; omega)
  obtain ⟨L, hL⟩ : ∃ L, L = hs.map fun h : Hd => h.2.2 := ⟨_, rfl⟩
  obtain ⟨m, hm⟩ : ∃ m, m = hs.length := ⟨_, rfl⟩
  obtain ⟨V, hVe⟩ : ∃ V, V = rowsB p n L := ⟨_, rfl⟩
  obtain ⟨B, hB⟩ : ∃ B, B = redB p n L := ⟨_, rfl⟩
  have hLm : L.length = m := by rw [hL, hm, List.length_map]
  rw [← hL, ← hVe, ← hm] at hV
  rw [← hL, ← hB, ← hm]
  unfold redB at hB
  rw [hLm, ← hVe, Int.toNat_natCast] at hB
  have hpb := fieldB_bounds hp
  by_cases hmn : m ≤ n
  case neg =>
    have hmnI : (n : Int) < (m : Int) := by omega
    have hB0 : B = false := by rw [hB, decide_eq_false (by omega)]; rfl
    clear hVe hB hmn
    have hL_h := Lib.hid hL
    have hm_h := Lib.hid hm
    have hV_h := Lib.hid hV
    have hB0_h := Lib.hid hB0
    have hLm_h := Lib.hid hLm
    clear hL hm hV hB0 hLm
    go_enter Tryd.func123, Tryd.ntmps123
    go_wp2_with (fail)
    go_ret
    exact ⟨ret_bool hB0_h.out.symm, Below.refl _ _⟩
  case pos =>
  have hmnI : ¬ (n : Int) < (m : Int) := by omega
  cases V
  case false =>
    have hB0 : B = false := by rw [hB, Bool.false_and, Bool.and_false]
    clear hVe hB
    have hL_h := Lib.hid hL
    have hm_h := Lib.hid hm
    have hV_h := Lib.hid hV
    have hB0_h := Lib.hid hB0
    have hLm_h := Lib.hid hLm
    clear hL hm hV hB0 hLm
    go_enter Tryd.func123, Tryd.ntmps123
    go_wp2_with (fail)
    refine (hV_h.out).mono ?_
    rintro e w1 ⟨rfl, rfl⟩
    go_wp2_with (fail)
    go_ret
    exact ⟨ret_bool hB0_h.out.symm, Below.refl _ _⟩
  case true =>
  have hM : Mat p hs.length n (hs.map fun h : Hd => h.2.2) := by
    have := rowsB_mat (p := p) (n := (n : Int)) (L := L) (k := n) hVe.symm rfl
    rw [hLm, hm, hL] at this; exact this
  have hRd := fun W (hb : Below w.heap.size w W) => reduced_any p n A c hs W (h.below hb) hp hM hl (by omega)
  obtain ⟨R, hR⟩ : ∃ R, R = redM p n L := ⟨_, rfl⟩
  rw [← hL, ← hm, ← hR] at hRd
  rw [← hR, decide_eq_true (by omega : (m : Int) ≤ (n : Int)), Bool.true_and, Bool.true_and] at hB
  have hspec := redM_spec hp (n := n) (L := L) (by rw [hLm, hm, hL]; exact hM)
  rw [← hR, hLm] at hspec
  have hRl := hspec.2.2
  have hRm : ∀ x, x ∈ R → x.length = n := fun x hx => (hspec.1.1.row x hx).1
  have hLrow : ∀ x, x ∈ L → x.length = n := fun x hx => by rw [hL] at hx; exact (hM.row x hx).1
  clear hspec hVe
  have hL_h := Lib.hid hL
  have hm_h := Lib.hid hm
  have hV_h := Lib.hid hV
  have hB_h := Lib.hid hB
  have hLm_h := Lib.hid hLm
  have hM_h := Lib.hid hM
  have hRd_h := Lib.hid hRd
  have hR_h := Lib.hid hR
  have hRl_h := Lib.hid hRl
  have hRm_h := Lib.hid hRm
  have hLrow_h := Lib.hid hLrow
  have hp_h := Lib.hid hp
  have hr_h := Lib.hid hr
  have hpb_h := Lib.hid hpb
  clear hL hm hV hB hLm hM hRd hR hRl hRm hLrow hp hr hpb
  go_enter Tryd.func123, Tryd.ntmps123
  go_wp2_with (fail)
  refine (hV_h.out).mono ?_
  rintro e w1 ⟨rfl, rfl⟩
  go_wp2_with (fail)
  refine ((hRd_h.out _ (Below.refl _ _))).mono ?_
  rintro e w2 hret
  obtain ⟨A2, c2, rfl, hO2⟩ := hret.om
  have hb2 := hO2.below_
  obtain ⟨gs, hg, hrd2⟩ := hO2.rdr
  obtain ⟨q, hq⟩ : ∃ q, q = R.length := ⟨_, rfl⟩
  rw [← hq]
  have hqg : gs.length = q := by rw [hq, hg, List.length_map]
  have hqm : q ≤ m := by rw [hq]; exact hRl_h.out
  clear hret hO2
  have hrdA := h.below hb2
  have hb2_h := Lib.hid hb2
  have hg_h := Lib.hid hg
  have hrd2_h := Lib.hid hrd2
  have hq_h := Lib.hid hq
  have hqg_h := Lib.hid hqg
  have hrdA_h := Lib.hid hrdA
  clear hb2 hg hrd2 hq hqg hrdA
  go_wp2_with (fail)
  go_loopw [25, 7, 8] (fun i _s7 _s8 wr => ∃ k : Nat, k ≤ q ∧ i = .int .i64 k ∧ R.take k = L.take k ∧ Below w2.heap.size w2 wr) (fun i _ _ _ => q - (intOf i).toNat)
  case atStart => exact ⟨0, Nat.zero_le _, rfl, by simp, Below.refl _ _⟩
  case round =>
    obtain ⟨k, hk, rfl, htk, hbr⟩ := hrel
    have hrdR := hrd2_h.out.below hbr
    have hrdL := hrdA_h.out.below hbr
    by_cases hlt : k < q
    · have hkI : (k : Int) < (q : Int) := by omega
      have hkm : (k : Int) < (m : Int) := by omega
      obtain ⟨ad, B1, c1, u, rfl, hx, hc1, hr1⟩ := hrdR.at_ (k := k) (by rw [hqg_h.out]; exact hlt)
      obtain ⟨bd, B2, c2', v, rfl, hy, hc2, hr2⟩ := hrdL.at_ (k := k) (by rw [← hm_h.out]; omega)
      have hxR : R[k]? = some u := by rw [hg_h.out, List.getElem?_map, hx]; rfl
      have hyL : L[k]? = some v := by rw [hL_h.out, List.getElem?_map, hy]; rfl
      have hul : u.length = n := hRm_h.out _ (List.mem_of_getElem? hxR)
      have hvl : v.length = n := hLrow_h.out _ (List.mem_of_getElem? hyL)
      have hne := fun W => pad_ne (u := u) (v := v) (by rw [hul, hvl]) (by omega) W
      obtain ⟨Pu, hPu⟩ : ∃ X, X = padV u := ⟨_, rfl⟩
      obtain ⟨Pv, hPv⟩ : ∃ X, X = padV v := ⟨_, rfl⟩
      have hP1 := fun W (hb : Below wr.heap.size wr W) => pad_any B1 c1 u W (hr1.below hb) (by omega)
      have hP2 := fun W (hb : Below wr.heap.size wr W) => pad_any B2 c2' v W (hr2.below hb) (by omega)
      rw [← hPu] at hP1
      rw [← hPv] at hP2
      rw [← hPu, ← hPv] at hne
      clear hrdR hrdL hx hy hr1 hr2
      have hgt : Tryd.prog.eqGuardType Tryd.prog.depth 173 = false := by kernel_rfl
      have hbd : Below wr.heap.size wr wr.drew := below_drewN (Below.refl _ _) 1
      have hc3 : wr.drew.cell? (bd.add k) = some (.slice B2 v.length c2') := hc2
      have hstep : u = v → R.take (k + 1) = L.take (k + 1) := fun e => by rw [List.take_add_one, List.take_add_one, htk, hxR, hyL, e]
      have hno : ¬ u = v → ¬ R = L := fun e h => by rw [h, hyL] at hxR; exact e (Option.some.inj hxR).symm
      have hbw := below_trans hb2_h.out hbr hb2_h.out.size
      clear htk
      have hbr_h := Lib.hid hbr
      have hxR_h := Lib.hid hxR
      have hyL_h := Lib.hid hyL
      have hul_h := Lib.hid hul
      have hvl_h := Lib.hid hvl
      have hPu_h := Lib.hid hPu
      have hPv_h := Lib.hid hPv
      have hP1_h := Lib.hid hP1
      have hP2_h := Lib.hid hP2
      have hbd_h := Lib.hid hbd
      have hc3_h := Lib.hid hc3
      have hstep_h := Lib.hid hstep
      have hno_h := Lib.hid hno
      have hbw_h := Lib.hid hbw
      clear hbr hxR hyL hul hvl hPu hPv hP1 hP2 hbd hc3 hstep hno hbw
      by_cases huv : u = v
      · rw [decide_eq_false (fun h => h huv)] at hne
        have huv_h := Lib.hid huv
        clear huv
        go_wp2_with (fail)
        clear hc1 hc2
        refine beginH (fun w' => w'.cell? (bd.add k) = some (.slice B2 v.length c2')) (by kernel_rfl) ?_
        generalize wr.drew = W1 at hbd_h hc3_h ⊢
        refine takeH 0 (v := ?_) rfl (by kernel_rfl) (by kernel_rfl) (by kernel_rfl) (fun _ _ _ h => h) hc3_h.out (by rfl) (fun W' hW' => ?_) ?_; rotate_left; · (have z := hW'; clear hW'; go_simp; first | done | with_reducible rfl)
        simp only [Act.put, List.setIfInBounds_toArray, List.set_cons_zero, List.set_cons_succ]
        refine takeH 2 (v := ?_) rfl (by kernel_rfl) (by kernel_rfl) (by kernel_rfl) (fun _ _ _ h => h) hc3_h.out (by rfl) (fun W' hW' => ?_) ?_; rotate_left; · (have z := hW'; clear hW'; go_simp; first | done | with_reducible rfl)
        simp only [Act.put, List.setIfInBounds_toArray, List.set_cons_zero, List.set_cons_succ]
        refine takeH 3 (v := ?_) rfl (by kernel_rfl) (by kernel_rfl) (by kernel_rfl) (fun _ _ _ h => h) hc3_h.out (by rfl) (fun W' hW' => ?_) ?_; rotate_left; · (have z := hW'; clear hW'; go_simp; first | done | with_reducible rfl)
        simp only [Act.put, List.setIfInBounds_toArray, List.set_cons_zero, List.set_cons_succ]
        refine takeH 4 (v := ?_) rfl (by kernel_rfl) (by kernel_rfl) (by kernel_rfl) (fun _ _ _ h => h) hc3_h.out (by rfl) (fun W' hW' => ?_) ?_; rotate_left; · (have z := hW'; clear hW'; go_simp; first | done | with_reducible rfl)
        simp only [Act.put, List.setIfInBounds_toArray, List.set_cons_zero, List.set_cons_succ]
        refine takeH 5 (v := ?_) rfl (by kernel_rfl) (by kernel_rfl) (by kernel_rfl) (fun _ _ _ h => h) hc3_h.out (by rfl) (fun W' hW' => ?_) ?_; rotate_left; · (have z := hW'; clear hW'; go_simp; first | done | with_reducible rfl)
        simp only [Act.put, List.setIfInBounds_toArray, List.set_cons_zero, List.set_cons_succ]
        refine' callH 1 (f := _) (args := _) rfl (by kernel_rfl) (by rfl) ?_ ?_; rotate_left 2; · (go_simp; first | done | with_reducible rfl | (constructor <;> with_reducible rfl))
        refine (hP1_h.out _ hbd_h.out).mono ?_
        rintro e w4 ⟨rfl, hb4⟩
        have hc4 := (hb4.cell (World.block_lt_of_cell? _ _ hc3_h.out)).trans hc3_h.out
        have hbd4 := below_trans hbd_h.out hb4 hbd_h.out.size
        refine ⟨_, rfl, hc4, ?_⟩
        have hb4_h := Lib.hid hb4
        have hc4_h := Lib.hid hc4
        have hbd4_h := Lib.hid hbd4
        clear hb4 hc4 hbd4
        simp only [Act.put, List.setIfInBounds_toArray, List.set_cons_zero, List.set_cons_succ]
        refine' callH 6 (f := _) (args := _) rfl (by kernel_rfl) (by rfl) ?_ ?_; rotate_left 2; · (go_simp; first | done | with_reducible rfl | (constructor <;> with_reducible rfl))
        refine (hP2_h.out _ hbd4_h.out).mono ?_
        rintro e w5 ⟨rfl, hb5⟩
        have hc5 := (hb5.cell (World.block_lt_of_cell? _ _ hc4_h.out)).trans hc4_h.out
        have hbd5 := below_trans hbd4_h.out hb5 hbd4_h.out.size
        refine ⟨_, rfl, hc5, ?_⟩
        have hb5_h := Lib.hid hb5
        have hc5_h := Lib.hid hc5
        have hbd5_h := Lib.hid hbd5
        clear hb5 hc5 hbd5
        simp only [Act.put, List.setIfInBounds_toArray, List.set_cons_zero, List.set_cons_succ]
        refine takeH 7 (v := ?_) rfl (by kernel_rfl) (by kernel_rfl) (by kernel_rfl) (fun _ _ _ h => h) hc5_h.out (by rfl) (fun W' hW' => ?_) ?_; rotate_left; · (skip; clear hW'; go_simp; first | done | with_reducible rfl)
        simp only [Act.put, List.setIfInBounds_toArray, List.set_cons_zero, List.set_cons_succ]
        refine doneH (by kernel_rfl) ?_
        go_wp2_with (fail)
        go_roundw
        case rel => exact ⟨k + 1, by omega, by go_num, hstep_h.out huv_h.out, below_trans hbr_h.out hbd5_h.out hbr_h.out.size⟩
        case measure => simp [intOf]; omega
      · rw [decide_eq_true (show ¬ u = v from huv)] at hne
        have hB0 : B = false := by rw [hB_h.out]; exact decide_eq_false (hno_h.out huv)
        have hB0_h := Lib.hid hB0
        clear hB0
        clear huv
        go_wp2_with (fail)
        clear hc1 hc2
        refine beginH (fun w' => w'.cell? (bd.add k) = some (.slice B2 v.length c2')) (by kernel_rfl) ?_
        generalize wr.drew = W1 at hbd_h hc3_h ⊢
        refine takeH 0 (v := ?_) rfl (by kernel_rfl) (by kernel_rfl) (by kernel_rfl) (fun _ _ _ h => h) hc3_h.out (by rfl) (fun W' hW' => ?_) ?_; rotate_left; · (have z := hW'; clear hW'; go_simp; first | done | with_reducible rfl)
        simp only [Act.put, List.setIfInBounds_toArray, List.set_cons_zero, List.set_cons_succ]
        refine takeH 2 (v := ?_) rfl (by kernel_rfl) (by kernel_rfl) (by kernel_rfl) (fun _ _ _ h => h) hc3_h.out (by rfl) (fun W' hW' => ?_) ?_; rotate_left; · (have z := hW'; clear hW'; go_simp; first | done | with_reducible rfl)
        simp only [Act.put, List.setIfInBounds_toArray, List.set_cons_zero, List.set_cons_succ]
        refine takeH 3 (v := ?_) rfl (by kernel_rfl) (by kernel_rfl) (by kernel_rfl) (fun _ _ _ h => h) hc3_h.out (by rfl) (fun W' hW' => ?_) ?_; rotate_left; · (have z := hW'; clear hW'; go_simp; first | done | with_reducible rfl)
        simp only [Act.put, List.setIfInBounds_toArray, List.set_cons_zero, List.set_cons_succ]
        refine takeH 4 (v := ?_) rfl (by kernel_rfl) (by kernel_rfl) (by kernel_rfl) (fun _ _ _ h => h) hc3_h.out (by rfl) (fun W' hW' => ?_) ?_; rotate_left; · (have z := hW'; clear hW'; go_simp; first | done | with_reducible rfl)
        simp only [Act.put, List.setIfInBounds_toArray, List.set_cons_zero, List.set_cons_succ]
        refine takeH 5 (v := ?_) rfl (by kernel_rfl) (by kernel_rfl) (by kernel_rfl) (fun _ _ _ h => h) hc3_h.out (by rfl) (fun W' hW' => ?_) ?_; rotate_left; · (have z := hW'; clear hW'; go_simp; first | done | with_reducible rfl)
        simp only [Act.put, List.setIfInBounds_toArray, List.set_cons_zero, List.set_cons_succ]
        refine' callH 1 (f := _) (args := _) rfl (by kernel_rfl) (by rfl) ?_ ?_; rotate_left 2; · (go_simp; first | done | with_reducible rfl | (constructor <;> with_reducible rfl))
        refine (hP1_h.out _ hbd_h.out).mono ?_
        rintro e w4 ⟨rfl, hb4⟩
        have hc4 := (hb4.cell (World.block_lt_of_cell? _ _ hc3_h.out)).trans hc3_h.out
        have hbd4 := below_trans hbd_h.out hb4 hbd_h.out.size
        refine ⟨_, rfl, hc4, ?_⟩
        have hb4_h := Lib.hid hb4
        have hc4_h := Lib.hid hc4
        have hbd4_h := Lib.hid hbd4
        clear hb4 hc4 hbd4
        simp only [Act.put, List.setIfInBounds_toArray, List.set_cons_zero, List.set_cons_succ]
        refine' callH 6 (f := _) (args := _) rfl (by kernel_rfl) (by rfl) ?_ ?_; rotate_left 2; · (go_simp; first | done | with_reducible rfl | (constructor <;> with_reducible rfl))
        refine (hP2_h.out _ hbd4_h.out).mono ?_
        rintro e w5 ⟨rfl, hb5⟩
        have hc5 := (hb5.cell (World.block_lt_of_cell? _ _ hc4_h.out)).trans hc4_h.out
        have hbd5 := below_trans hbd4_h.out hb5 hbd4_h.out.size
        refine ⟨_, rfl, hc5, ?_⟩
        have hb5_h := Lib.hid hb5
        have hc5_h := Lib.hid hc5
        have hbd5_h := Lib.hid hbd5
        clear hb5 hc5 hbd5
        simp only [Act.put, List.setIfInBounds_toArray, List.set_cons_zero, List.set_cons_succ]
        refine takeH 7 (v := ?_) rfl (by kernel_rfl) (by kernel_rfl) (by kernel_rfl) (fun _ _ _ h => h) hc5_h.out (by rfl) (fun W' hW' => ?_) ?_; rotate_left; · (skip; clear hW'; go_simp; first | done | with_reducible rfl)
        simp only [Act.put, List.setIfInBounds_toArray, List.set_cons_zero, List.set_cons_succ]
        refine doneH (by kernel_rfl) ?_
        go_wp2_with (fail)
        go_ret
        exact ⟨ret_bool hB0_h.out.symm, below_trans hbw_h.out hbd5_h.out hbw_h.out.size⟩
    · obtain rfl : k = q := by omega
      have hbw := below_trans hb2_h.out hbr hb2_h.out.size
      have hRd2 := hRd_h.out wr hbw
      clear hrdR hrdL
      have htk_h := Lib.hid htk
      have hbr_h := Lib.hid hbr
      have hbw_h := Lib.hid hbw
      have hRd2_h := Lib.hid hRd2
      clear htk hbr hbw hRd2
      go_wp2_with (fail)
      refine (hRd2_h.out).mono ?_
      rintro e w6 hret
      obtain ⟨A6, c6, rfl, hO6⟩ := hret.om
      have hb6 := hO6.below_
      rw [← hq_h.out]
      have hfin : ((k : Int) == (m : Int)) = B := by
        rw [hB_h.out]
        have ht := htk_h.out
        rw [List.take_of_length_le (by rw [hq_h.out]; exact Nat.le_refl _)] at ht
        by_cases e : k = m
        · rw [List.take_of_length_le (by rw [hLm_h.out, e]; exact Nat.le_refl _)] at ht
          rw [decide_eq_true ht, e]; simp
        · rw [decide_eq_false (fun h => e (by rw [hq_h.out, h, hLm_h.out]))]
          simp; omega
      have hbe := below_trans hbw_h.out hb6 hbw_h.out.size
      clear hret hO6
      have hb6_h := Lib.hid hb6
      have hbe_h := Lib.hid hbe
      have hfin_h := Lib.hid hfin
      clear hb6 hbe hfin
      go_wp2_with (fail)
      go_ret
      exact ⟨ret_bool hfin_h.out, hbe_h.out⟩
end Go.Proofs.YtahnhblodfdfhaaDoor
