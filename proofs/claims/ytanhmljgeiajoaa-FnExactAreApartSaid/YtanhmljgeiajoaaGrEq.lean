/-
  THE LAW's HELPERS OVER GRAPHS: eq.
-/
import Derived.Test.YtanhmljgeiajoaaGrTo
import Derived.Test.YtanhmljgeiajoaaRegT
namespace Go.Proofs.Ytanhmljgeiajoaa
open Go.RowKit

theorem Qt.below {w w' : World} (h : Qt w w') : Below w.heap.size w w' := by obtain ⟨n, rfl⟩ := h; exact below_drewN (Below.refl _ _) n
theorem box_qt {w w' : World} {B : Nat} {o : Obj} (h : w.heap[B]? = some o) (hq : Qt w w') : w'.heap[B]? = some o := box_below h hq.below
theorem allocs2 (w : World) (o o' : Obj) : ∃ W, W = (w.alloc o).alloc o' ∧ Below w.heap.size w W ∧ W.heap[w.heap.size]? = some o ∧ W.heap[w.heap.size + 1]? = some o' := by
  obtain ⟨h1, h2, h3, -⟩ := two_boxes w o o'
  exact ⟨_, rfl, h1, h2, h3⟩
set_option maxRecDepth 100000 in
set_option maxHeartbeats 2000000 in
theorem eqEdge_any (k v : Int) (B C : Option Addr) (b c : Nat) (l m : List Int) (k' v' : Int) (B' C' : Option Addr) (b' c' : Nat) (l' m' : List Int) (w : World) (h1 : RdI w B l) (h2 : RdI w C m) (h1' : RdI w B' l') (h2' : RdI w C' m') (hl : l.length ≤ 1048576) (hm : m.length ≤ 1048576) :
    Calls Try.prog 98 #[.agg #[.int .i64 k, .int .i64 v, .slice B l.length b, .slice C m.length c], .agg #[.int .i64 k', .int .i64 v', .slice B' l'.length b', .slice C' m'.length c']] w fun e w' => e = .returned (.bool (decide (((k, v, l, m) : Eg) = (k', v', l', m')))) ∧ Below w.heap.size w w' := by
  have hQ1 := fun (W : World) (hb : Below w.heap.size w W) => eqIntS_any B B' b b' l l' W (h1.below hb) (h1'.below hb) (by omega)
  have hQ2 := fun (W : World) (hb : Below w.heap.size w W) => eqIntS_any C C' c c' m m' W (h2.below hb) (h2'.below hb) (by omega)
  obtain ⟨D, hD⟩ : ∃ D, D = decide (((k, v, l, m) : Eg) = (k', v', l', m')) := ⟨_, rfl⟩
  obtain ⟨D1, hD1⟩ : ∃ D, D = decide (l = l') := ⟨_, rfl⟩
  obtain ⟨D2, hD2⟩ : ∃ D, D = decide (m = m') := ⟨_, rfl⟩
  rw [← hD]
  simp only [← hD1] at hQ1
  simp only [← hD2] at hQ2
  have hDD : D = (decide (k = k') && (decide (v = v') && (D1 && D2))) := by
    rw [hD, hD1, hD2, Bool.eq_iff_iff]; simp
  obtain ⟨p, hp⟩ : ∃ p, p = l.length := ⟨_, rfl⟩
  obtain ⟨q, hq⟩ : ∃ q, q = m.length := ⟨_, rfl⟩
  obtain ⟨p', hp'⟩ : ∃ p, p = l'.length := ⟨_, rfl⟩
  obtain ⟨q', hq'⟩ : ∃ q, q = m'.length := ⟨_, rfl⟩
  simp only [← hp, ← hp'] at hQ1
  simp only [← hq, ← hq'] at hQ2
  rw [← hp, ← hq, ← hp', ← hq']
  obtain ⟨W, hW, bW, k0, k1⟩ := allocs2 w (.cells #[.int .i64 k, .int .i64 v, .slice B p b, .slice C q c] tEd) (.cells #[.int .i64 k', .int .i64 v', .slice B' p' b', .slice C' q' c'] tEd)
  obtain ⟨⟨c0, c1, c2, c3⟩, f0, f1, f2, f3⟩ := box4 k0
  obtain ⟨⟨d0, d1, d2, d3⟩, g0, g1, g2, g3⟩ := box4 k1
  clear h1 h2 h1' h2' hD hD1 hD2 hp hq hp' hq'
  by_cases e0 : k = k'
  · have t0 : (k != k') = false := by simp [e0]
    rw [decide_eq_true e0] at hDD
    by_cases e1 : v = v'
    · have t1 : (v != v') = false := by simp [e1]
      rw [decide_eq_true e1] at hDD
      cases D1
      · obtain rfl : D = false := by rw [hDD]; rfl
        clear e0 e1 hDD
        have hQ1_h := Lib.hid hQ1
        have hQ2_h := Lib.hid hQ2
        have k0_h := Lib.hid k0
        have k1_h := Lib.hid k1
        have bW_h := Lib.hid bW
        clear hQ1 hQ2 k0 k1 bW
        go_enter Try.func98, Try.ntmps98
        go_upto_region 1 with (fail)
        rw [← hW]
        clear hW
        go_wp2_with (fail)
        refine (hQ1_h.out W bW_h.out).mono ?_
        rintro e w1 ⟨rfl, hq1⟩
        go_wp2_with (fail)
        go_ret
        exact ⟨rfl, below_trans bW_h.out hq1.below bW_h.out.size⟩
      · obtain rfl : D = D2 := by rw [hDD]; rfl
        clear e0 e1 hDD
        have hQ1_h := Lib.hid hQ1
        have hQ2_h := Lib.hid hQ2
        have k0_h := Lib.hid k0
        have k1_h := Lib.hid k1
        have bW_h := Lib.hid bW
        clear hQ1 hQ2 k0 k1 bW
        go_enter Try.func98, Try.ntmps98
        go_upto_region 1 with (fail)
        rw [← hW]
        clear hW
        go_wp2_with (fail)
        refine (hQ1_h.out W bW_h.out).mono ?_
        rintro e w1 ⟨rfl, hq1⟩
        clear c0 c1 c2 c3 f0 f1 f2 f3 d0 d1 d2 d3 g0 g1 g2 g3
        obtain ⟨⟨c0, c1, c2, c3⟩, f0, f1, f2, f3⟩ := box4 (box_qt k0_h.out hq1)
        obtain ⟨⟨d0, d1, d2, d3⟩, g0, g1, g2, g3⟩ := box4 (box_qt k1_h.out hq1)
        have hB1 := below_trans bW_h.out hq1.below bW_h.out.size
        clear hq1
        have hB1_h := Lib.hid hB1
        clear hB1
        go_wp2_with (fail)
        refine (hQ2_h.out w1 hB1_h.out).mono ?_
        rintro e w2 ⟨rfl, hq2⟩
        have hB2 := below_trans hB1_h.out hq2.below hB1_h.out.size
        clear hq2
        have hB2_h := Lib.hid hB2
        clear hB2
        cases D
        · go_wp2_with (fail)
          go_ret
          exact ⟨rfl, hB2_h.out⟩
        · go_wp2_with (fail)
          go_ret
          exact ⟨rfl, hB2_h.out⟩
    · have t1 : (v != v') = true := by simp [e1]
      obtain rfl : D = false := by rw [hDD, decide_eq_false e1]; rfl
      clear e0 e1 hDD
      have hQ1_h := Lib.hid hQ1
      have hQ2_h := Lib.hid hQ2
      have k0_h := Lib.hid k0
      have k1_h := Lib.hid k1
      have bW_h := Lib.hid bW
      clear hQ1 hQ2 k0 k1 bW
      go_enter Try.func98, Try.ntmps98
      go_upto_region 1 with (fail)
      rw [← hW]
      clear hW
      go_wp2_with (fail)
      go_ret
      exact ⟨rfl, bW_h.out⟩
  · have t0 : (k != k') = true := by simp [e0]
    obtain rfl : D = false := by rw [hDD, decide_eq_false e0]; rfl
    clear e0 hDD
    have hQ1_h := Lib.hid hQ1
    have hQ2_h := Lib.hid hQ2
    have k0_h := Lib.hid k0
    have k1_h := Lib.hid k1
    have bW_h := Lib.hid bW
    clear hQ1 hQ2 k0 k1 bW
    go_enter Try.func98, Try.ntmps98
    go_upto_region 1 with (fail)
    rw [← hW]
    clear hW
    go_wp2_with (fail)
    go_ret
    exact ⟨rfl, bW_h.out⟩
set_option maxRecDepth 100000 in
set_option maxHeartbeats 2000000 in
theorem eqEdgeS_any (A B : Option Addr) (c d : Nat) (l l' : List EHd) (w : World) (ha : RdE w A l) (hb : RdE w B l') (hl : l.length ≤ 1048576) (hr : ∀ x, x ∈ l → x.2.2.1.2.2.length ≤ 1048576 ∧ x.2.2.2.2.2.length ≤ 1048576) :
    Calls Try.prog 50 #[.slice A l.length c, .slice B l'.length d] w fun e w' => e = .returned (.bool (decide (l.map egOf = l'.map egOf))) ∧ Below w.heap.size w w' := by
  obtain ⟨m, hm⟩ : ∃ m, m = l.length := ⟨_, rfl⟩
  obtain ⟨n, hn⟩ : ∃ n, n = l'.length := ⟨_, rfl⟩
  rw [← hm] at hl ⊢
  rw [← hn]
  by_cases hmn : m = n
  · subst hmn
    have h0 : ((m : Int) != (m : Int)) = false := by simp
    have hm_h := Lib.hid hm
    have hn_h := Lib.hid hn
    have hr_h := Lib.hid hr
    clear hm hn hr
    go_enter Try.func50, Try.ntmps50
    go_wp2_with (fail)
    go_loopw [5] (fun i wr => ∃ k : Nat, k ≤ m ∧ i = .int .i64 k ∧ (l.take k).map egOf = (l'.take k).map egOf ∧ Below w.heap.size w wr) (fun i _ => m - (intOf i).toNat)
    case atStart => exact ⟨0, Nat.zero_le _, rfl, rfl, Below.refl _ _⟩
    case round =>
      obtain ⟨k, hk, rfl, htk, hbl⟩ := hrel
      by_cases hlt : k < m
      · have hkI : (k : Int) < (m : Int) := by omega
        have hk0 : (0 : Int) ≤ (k : Int) := by omega
        obtain ⟨ad, κ, v, B1, b1, s, C1, c1, t, rfl, hn1, -, hr1, hr2⟩ := (ha.below hbl).at_ (j := k) (by rw [← hm_h.out]; exact hlt)
        obtain ⟨bd, κ', v', B2, b2, s', C2, c2, t', rfl, hn2, -, hr3, hr4⟩ := (hb.below hbl).at_ (j := k) (by rw [← hn_h.out]; exact hlt)
        have hAB : ∀ W', Below wr.heap.size wr W' → (W'.cell? (ad.add (k * 4)) = some (.int .i64 κ) ∧ W'.cell? ⟨(ad.add (k * 4)).block, (ad.add (k * 4)).off + 1, none⟩ = some (.int .i64 v) ∧ W'.cell? ⟨(ad.add (k * 4)).block, (ad.add (k * 4)).off + 2, none⟩ = some (.slice B1 s.length b1) ∧ W'.cell? ⟨(ad.add (k * 4)).block, (ad.add (k * 4)).off + 3, none⟩ = some (.slice C1 t.length c1)) ∧ (W'.cell? (bd.add (k * 4)) = some (.int .i64 κ') ∧ W'.cell? ⟨(bd.add (k * 4)).block, (bd.add (k * 4)).off + 1, none⟩ = some (.int .i64 v') ∧ W'.cell? ⟨(bd.add (k * 4)).block, (bd.add (k * 4)).off + 2, none⟩ = some (.slice B2 s'.length b2) ∧ W'.cell? ⟨(bd.add (k * 4)).block, (bd.add (k * 4)).off + 3, none⟩ = some (.slice C2 t'.length c2)) := by
          intro W' hW'
          obtain ⟨x1, _, _, _, _, _, _, _, _, e1, e2, q, -, -⟩ := ((ha.below hbl).below hW').at_ (j := k) (by rw [← hm_h.out]; exact hlt)
          obtain ⟨y1, _, _, _, _, _, _, _, _, f1, f2, r, -, -⟩ := ((hb.below hbl).below hW').at_ (j := k) (by rw [← hn_h.out]; exact hlt)
          rw [hn1] at e2
          rw [hn2] at f2
          cases e1; cases e2; cases f1; cases f2
          exact ⟨q, r⟩
        have hrr := hr_h.out _ (List.mem_of_getElem? hn1)
        have hC := fun (W : World) (hW : Below wr.heap.size wr W) => eqEdge_any κ v B1 C1 b1 c1 s t κ' v' B2 C2 b2 c2 s' t' W (hr1.below hW) (hr2.below hW) (hr3.below hW) (hr4.below hW) hrr.1 hrr.2
        obtain ⟨D, hD⟩ : ∃ D, D = decide (((κ, v, s, t) : Eg) = (κ', v', s', t')) := ⟨_, rfl⟩
        simp only [← hD] at hC
        obtain ⟨p, hp⟩ : ∃ p, p = s.length := ⟨_, rfl⟩
        obtain ⟨q, hq⟩ : ∃ q, q = t.length := ⟨_, rfl⟩
        obtain ⟨p', hp'⟩ : ∃ p, p = s'.length := ⟨_, rfl⟩
        obtain ⟨q', hq'⟩ : ∃ q, q = t'.length := ⟨_, rfl⟩
        simp only [← hp, ← hp', ← hq, ← hq'] at hC hAB
        have htk_h := Lib.hid htk
        have hn1_h := Lib.hid hn1
        have hn2_h := Lib.hid hn2
        have hAB_h := Lib.hid hAB
        have hC_h := Lib.hid hC
        have hD_h := Lib.hid hD
        have hp_h := Lib.hid hp
        have hq_h := Lib.hid hq
        have hp'_h := Lib.hid hp'
        have hq'_h := Lib.hid hq'
        clear htk hn1 hn2 hAB hC hD hp hq hp' hq'
        clear ha hb hr1 hr2 hr3 hr4 hrr
        go_wp2_with (fail)
        refine beginB (by kernel_rfl) (fun W1 hW1 => ?_)
        have hbw : Below wr.heap.size wr W1 := by rw [hW1]; exact below_drew (Below.refl _ _)
        clear hW1
        refine takeH 0 (v := ?_) rfl (by kernel_rfl) (by kernel_rfl) (by kernel_rfl) (fun _ _ _ h => h) (Below.refl _ _) (by rfl) (fun W' hW' => ?_) ?_; rotate_left; · (obtain ⟨⟨a0, a1, a2, a3⟩, b0, b1, b2, b3⟩ := hAB_h.out W' (hbw.trans (hW'.mono hbw.size)); clear hW'; go_simp; first | done | with_reducible rfl)
        simp only [Act.put, List.setIfInBounds_toArray, List.set_cons_zero, List.set_cons_succ]
        refine takeH 1 (v := ?_) rfl (by kernel_rfl) (by kernel_rfl) (by kernel_rfl) (fun _ _ _ h => h) (Below.refl _ _) (by rfl) (fun W' hW' => ?_) ?_; rotate_left; · (obtain ⟨⟨a0, a1, a2, a3⟩, b0, b1, b2, b3⟩ := hAB_h.out W' (hbw.trans (hW'.mono hbw.size)); clear hW'; go_simp; first | done | with_reducible rfl)
        simp only [Act.put, List.setIfInBounds_toArray, List.set_cons_zero, List.set_cons_succ]
        refine takeH 2 (v := ?_) rfl (by kernel_rfl) (by kernel_rfl) (by kernel_rfl) (fun _ _ _ h => h) (Below.refl _ _) (by rfl) (fun W' hW' => ?_) ?_; rotate_left; · (obtain ⟨⟨a0, a1, a2, a3⟩, b0, b1, b2, b3⟩ := hAB_h.out W' (hbw.trans (hW'.mono hbw.size)); clear hW'; go_simp; first | done | with_reducible rfl)
        simp only [Act.put, List.setIfInBounds_toArray, List.set_cons_zero, List.set_cons_succ]
        refine takeH 3 (v := ?_) rfl (by kernel_rfl) (by kernel_rfl) (by kernel_rfl) (fun _ _ _ h => h) (Below.refl _ _) (by rfl) (fun W' hW' => ?_) ?_; rotate_left; · (obtain ⟨⟨a0, a1, a2, a3⟩, b0, b1, b2, b3⟩ := hAB_h.out W' (hbw.trans (hW'.mono hbw.size)); clear hW'; go_simp; first | done | with_reducible rfl)
        simp only [Act.put, List.setIfInBounds_toArray, List.set_cons_zero, List.set_cons_succ]
        refine takeH 4 (v := ?_) rfl (by kernel_rfl) (by kernel_rfl) (by kernel_rfl) (fun _ _ _ h => h) (Below.refl _ _) (by rfl) (fun W' hW' => ?_) ?_; rotate_left; · (obtain ⟨⟨a0, a1, a2, a3⟩, b0, b1, b2, b3⟩ := hAB_h.out W' (hbw.trans (hW'.mono hbw.size)); clear hW'; go_simp; first | done | with_reducible rfl)
        simp only [Act.put, List.setIfInBounds_toArray, List.set_cons_zero, List.set_cons_succ]
        refine takeH 5 (v := ?_) rfl (by kernel_rfl) (by kernel_rfl) (by kernel_rfl) (fun _ _ _ h => h) (Below.refl _ _) (by rfl) (fun W' hW' => ?_) ?_; rotate_left; · (obtain ⟨⟨a0, a1, a2, a3⟩, b0, b1, b2, b3⟩ := hAB_h.out W' (hbw.trans (hW'.mono hbw.size)); clear hW'; go_simp; first | done | with_reducible rfl)
        simp only [Act.put, List.setIfInBounds_toArray, List.set_cons_zero, List.set_cons_succ]
        refine takeH 6 (v := ?_) rfl (by kernel_rfl) (by kernel_rfl) (by kernel_rfl) (fun _ _ _ h => h) (Below.refl _ _) (by rfl) (fun W' hW' => ?_) ?_; rotate_left; · (obtain ⟨⟨a0, a1, a2, a3⟩, b0, b1, b2, b3⟩ := hAB_h.out W' (hbw.trans (hW'.mono hbw.size)); clear hW'; go_simp; first | done | with_reducible rfl)
        simp only [Act.put, List.setIfInBounds_toArray, List.set_cons_zero, List.set_cons_succ]
        refine takeH 7 (v := ?_) rfl (by kernel_rfl) (by kernel_rfl) (by kernel_rfl) (fun _ _ _ h => h) (Below.refl _ _) (by rfl) (fun W' hW' => ?_) ?_; rotate_left; · (obtain ⟨⟨a0, a1, a2, a3⟩, b0, b1, b2, b3⟩ := hAB_h.out W' (hbw.trans (hW'.mono hbw.size)); clear hW'; go_simp; first | done | with_reducible rfl)
        simp only [Act.put, List.setIfInBounds_toArray, List.set_cons_zero, List.set_cons_succ]
        refine' callH 8 (f := _) (args := _) rfl (by kernel_rfl) (by rfl) ?_ ?_; rotate_left 2; · (go_simp; first | done | with_reducible rfl | (constructor <;> with_reducible rfl))
        refine (hC_h.out W1 hbw).mono ?_
        rintro e w2 ⟨rfl, hb2⟩
        refine ⟨_, rfl, hb2, ?_⟩
        have hb3 := below_trans (below_trans hbl hbw hbl.size) hb2 (Nat.le_trans hbl.size hbw.size)
        have hb3_h := Lib.hid hb3
        clear hb3
        simp only [Act.put, List.setIfInBounds_toArray, List.set_cons_zero, List.set_cons_succ]
        refine takeH 9 (v := ?_) rfl (by kernel_rfl) (by kernel_rfl) (by kernel_rfl) (fun _ _ _ h => h) hb2 (by rfl) (fun W' hW' => ?_) ?_; rotate_left; · (skip; clear hW'; go_simp; first | done | with_reducible rfl)
        simp only [Act.put, List.setIfInBounds_toArray, List.set_cons_zero, List.set_cons_succ]
        refine doneH (by kernel_rfl) ?_
        cases D
        · go_wp2_with (fail)
          go_ret
          refine ⟨ret_bool ?_, hb3_h.out⟩
          symm
          apply decide_eq_false
          intro h
          have h1 := congrArg (·[k]?) h
          simp only [List.getElem?_map, hn1_h.out, hn2_h.out, Option.map_some, Option.some.injEq] at h1
          exact of_decide_eq_false hD_h.out.symm h1
        · go_wp2_with (fail)
          go_roundw
          case rel => exact ⟨k + 1, by omega, by go_num, by rw [List.take_add_one, List.take_add_one, List.map_append, List.map_append, htk_h.out, hn1_h.out, hn2_h.out]; simp only [Option.toList_some, List.map_cons, List.map_nil]; rw [show egOf (κ, v, (B1, b1, s), (C1, c1, t)) = egOf (κ', v', (B2, b2, s'), (C2, c2, t')) from of_decide_eq_true hD_h.out.symm], hb3_h.out⟩
          case measure => simp [intOf]; omega
      · obtain rfl : k = m := by omega
        have htk_h := Lib.hid htk
        clear htk
        clear ha hb
        go_wp2_with (fail)
        go_ret
        refine ⟨ret_bool ?_, hbl⟩
        symm
        apply decide_eq_true
        have := htk_h.out
        rwa [List.take_of_length_le (by rw [← hm_h.out]; exact Nat.le_refl _), List.take_of_length_le (by rw [← hn_h.out]; exact Nat.le_refl _)] at this
  · have h0 : ((m : Int) != (n : Int)) = true := by simp; omega
    have hm_h := Lib.hid hm
    have hn_h := Lib.hid hn
    have hmn_h := Lib.hid hmn
    clear hm hn hmn
    go_enter Try.func50, Try.ntmps50
    go_wp2_with (fail)
    go_ret
    refine ⟨ret_bool ?_, Below.refl _ _⟩
    symm
    apply decide_eq_false
    intro h
    have := congrArg List.length h
    rw [List.length_map, List.length_map, ← hm_h.out, ← hn_h.out] at this
    exact hmn_h.out this
end Go.Proofs.Ytanhmljgeiajoaa
