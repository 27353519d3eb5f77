/-
  THE WALKS: TensorRelations.
-/
import Derived.Test.YtpfidjegdpkhdaaDoorRlA
namespace Go.Proofs.YtpfidjegdpkhdaaDoor
open Go.RowKit

/-- The juxtaposition, or none. -/
def teM (p : Int) (s t : Sys) : Sys × Bool := if relB p s && (relB p t && decide (s.1 + t.1 + s.2.1 + t.2.1 ≤ 24)) then (tenV p s t, true) else ((0, 0, []), false)
theorem teM_ok {p : Int} {s t : Sys} : OkR (teM p s t).1.2.2 := by
  unfold teM
  split
  · rename_i h
    simp only [Bool.and_eq_true, decide_eq_true_eq] at h
    have hs := RelOk.of h.1
    have ht := RelOk.of h.2.1
    have hr := redM_spec hs.fld (ten_mat hs ht)
    have hl := tenRows_len s t
    have := hs.len; have := hs.sum; have := hs.hi; have := hs.lo; have := ht.len; have := ht.sum; have := ht.hi; have := ht.lo
    exact okR_mat hr.1.1 (by have := hr.2.2; omega) (by omega)
  · exact okR_nil
set_option maxRecDepth 100000 in
set_option maxHeartbeats 4000000 in
theorem sTensorRelations_law (p : Int) {v v' : Value} {s t : Sys} {fp fp' : List Nat} {w : World} (h : OwSys w v s fp) (h' : OwSys w v' t fp') (ok : OkR s.2.2) (ok' : OkR t.2.2) :
    Calls Tryd.prog 50 #[.int .i64 p, v, v'] w fun e w' => ∃ v' fp', e = .returned (.tuple #[v', .bool (teM p s t).2]) ∧ OwSys w' v' (teM p s t).1 fp' ∧ FreshL w.heap.size fp' ∧ Below w.heap.size w w' := by
  obtain ⟨C, hC0⟩ : ∃ C, C = teM p s t := ⟨_, rfl⟩
  rw [← hC0]
  unfold teM at hC0
  obtain ⟨A, n, c, rfl⟩ := h.shape
  obtain ⟨A', n', c', rfl⟩ := h'.shape
  obtain ⟨W, hW, bW, k0, k1, k2⟩ := alloc3 w (.cells #[.int .i64 s.1, .int .i64 s.2.1, .slice A n c] tRel) (.cells #[.int .i64 t.1, .int .i64 t.2.1, .slice A' n' c'] tRel) (.cells #[.int .i64 0, .int .i64 0, .slice none 0 0] tRel)
  have hG := fun W' (hb : Below W.heap.size W W') => rlGood_any p W' ((h.below bW).below hb).rd ok.1 ok.2.1
  have hG' := fun W' (hb : Below W.heap.size W W') => rlGood_any p W' ((h'.below bW).below hb).rd ok'.1 ok'.2.1
  have hF := fun W' (hb : Below W.heap.size W W') (hs : RelOk p s) (ht : RelOk p t) (hsum : s.1 + t.1 + s.2.1 + t.2.1 ≤ 24) => rlTensor_any p W' ((h.below bW).below hb) ((h'.below bW).below hb) hs ht hsum
  by_cases hr : relB p s = true
  · rw [hr, Bool.true_and] at hC0
    have hs := RelOk.of hr
    simp only [hr] at hG
    by_cases hq : relB p t = true
    · rw [hq, Bool.true_and] at hC0
      have ht := RelOk.of hq
      simp only [hq] at hG'
      have hn1 := hs.lo
      have hn2 := hs.hi
      have hn3 := hs.sum
      have hn4 := ht.lo
      have hn5 := ht.hi
      have hn6 := ht.sum
      by_cases hle : s.1 + t.1 + s.2.1 + t.2.1 ≤ 24
      · rw [decide_eq_true hle, if_pos rfl] at hC0
        obtain ⟨V, hV⟩ : ∃ V, V = tenV p s t := ⟨_, rfl⟩
        rw [← hV] at hC0
        simp only [← hV] at hF
        subst hC0
        clear h h' ok ok' hr hq
        have hG_h := Lib.hid hG
        have hG'_h := Lib.hid hG'
        have hF_h := Lib.hid hF
        have k0_h := Lib.hid k0
        have k1_h := Lib.hid k1
        have k2_h := Lib.hid k2
        have bW_h := Lib.hid bW
        have hs_h := Lib.hid hs
        have ht_h := Lib.hid ht
        have hle_h := Lib.hid hle
        have hV_h := Lib.hid hV
        clear hG hG' hF k0 k1 k2 bW hs ht hle hV
        go_enter Tryd.func50, Tryd.ntmps50
        go_upto_region 1 with (fail)
        rw [← hW]
        clear hW
        obtain ⟨⟨c0, c1, c2⟩, f0, f1, f2⟩ := box3 k0_h.out
        obtain ⟨⟨e0, e1, e2⟩, j0, j1, j2⟩ := box3 k1_h.out
        go_wp2_with (fail)
        refine (hG_h.out W (Below.refl _ _)).mono ?_
        rintro e w1 ⟨rfl, hb1⟩
        clear c0 c1 c2 f0 f1 f2 e0 e1 e2 j0 j1 j2
        replace k0_h := Lib.hid (box_below k0_h.out hb1)
        replace k1_h := Lib.hid (box_below k1_h.out hb1)
        replace k2_h := Lib.hid (box_below k2_h.out hb1)
        have hB1 := below_trans bW_h.out hb1 bW_h.out.size
        have hB1_h := Lib.hid hB1
        have hb1_h := Lib.hid hb1
        clear hB1 hb1
        obtain ⟨⟨c0, c1, c2⟩, f0, f1, f2⟩ := box3 k0_h.out
        obtain ⟨⟨e0, e1, e2⟩, j0, j1, j2⟩ := box3 k1_h.out
        go_wp2_with (fail)
        refine (hG'_h.out w1 hb1_h.out).mono ?_
        rintro e w2 ⟨rfl, hb2⟩
        clear c0 c1 c2 f0 f1 f2 e0 e1 e2 j0 j1 j2
        replace k0_h := Lib.hid (box_below k0_h.out hb2)
        replace k1_h := Lib.hid (box_below k1_h.out hb2)
        replace k2_h := Lib.hid (box_below k2_h.out hb2)
        have hB2 := below_trans hB1_h.out hb2 hB1_h.out.size
        have hb12 := below_trans hb1_h.out hb2 hb1_h.out.size
        have hB2_h := Lib.hid hB2
        have hb2_h := Lib.hid hb2
        have hb12_h := Lib.hid hb12
        clear hB2 hb2 hb12
        have hb24 : ¬ 24 < s.1 + t.1 + s.2.1 + t.2.1 := by have := hle_h.out; omega
        obtain ⟨⟨c0, c1, c2⟩, f0, f1, f2⟩ := box3 k0_h.out
        obtain ⟨⟨e0, e1, e2⟩, j0, j1, j2⟩ := box3 k1_h.out
        have hF1 := hF_h.out w2 hb12_h.out hs_h.out ht_h.out hle_h.out
        have hBf := hB2_h.out
        have hF1_h := Lib.hid hF1
        have hBf_h := Lib.hid hBf
        clear hF1 hBf
        go_wp2_with (fail)
        refine (hF1_h.out).mono ?_
        rintro e wf ⟨v9, fp9, rfl, hO9, hf9, hb9⟩
        clear c0 c1 c2 f0 f1 f2 e0 e1 e2 j0 j1 j2
        obtain ⟨A9, n9, c9, rfl⟩ := hO9.shape
        have hw2 := box_lt k2_h.out
        replace k2_h := Lib.hid (box_below k2_h.out hb9)
        obtain ⟨⟨d0, d1, d2⟩, g0, g1, g2⟩ := box3 k2_h.out
        obtain ⟨s1, s2⟩ := set3 (a := .int .i64 V.1) (b := .int .i64 V.2.1) (c := .slice A9 n9 c9) k2_h.out
        have hB8 := below_trans hBf_h.out hb9 hBf_h.out.size
        have hB9 := below_keeps hB8 s2 hB8.size (fun k hk => by omega)
        have hO8 := hO9.keeps s2 (fun k hk e => by have := hf9 k hk; omega)
        have hf8 := hf9.mono hBf_h.out.size
        clear hB8 hO9 hf9 hb9
        have s1_h := Lib.hid s1
        have s2_h := Lib.hid s2
        have hB9_h := Lib.hid hB9
        have hO8_h := Lib.hid hO8
        have hf8_h := Lib.hid hf8
        clear s1 s2 hB9 hO8 hf8
        go_wp2_with (fail)
        refine bodyPost_ret (results_cell_tmp rfl _ _ (w.heap.size + 1 + 1) _ _ (0, 0) _ rfl s1_h.out Tryd.underlying51 rfl (by kernel_rfl)) rfl ?_
        exact ⟨_, fp9, rfl, hO8_h.out, hf8_h.out, hB9_h.out⟩
      · rw [decide_eq_false hle, if_neg (by simp)] at hC0
        have hC1 : C = ((0, 0, []), false) := hC0
        subst hC1
        clear h h' ok ok' hr hq hC0
        have hG_h := Lib.hid hG
        have hG'_h := Lib.hid hG'
        have hF_h := Lib.hid hF
        have k0_h := Lib.hid k0
        have k1_h := Lib.hid k1
        have k2_h := Lib.hid k2
        have bW_h := Lib.hid bW
        have hs_h := Lib.hid hs
        have ht_h := Lib.hid ht
        have hle_h := Lib.hid hle
        clear hG hG' hF k0 k1 k2 bW hs ht hle
        go_enter Tryd.func50, Tryd.ntmps50
        go_upto_region 1 with (fail)
        rw [← hW]
        clear hW
        obtain ⟨⟨c0, c1, c2⟩, f0, f1, f2⟩ := box3 k0_h.out
        obtain ⟨⟨e0, e1, e2⟩, j0, j1, j2⟩ := box3 k1_h.out
        go_wp2_with (fail)
        refine (hG_h.out W (Below.refl _ _)).mono ?_
        rintro e w1 ⟨rfl, hb1⟩
        clear c0 c1 c2 f0 f1 f2 e0 e1 e2 j0 j1 j2
        replace k0_h := Lib.hid (box_below k0_h.out hb1)
        replace k1_h := Lib.hid (box_below k1_h.out hb1)
        replace k2_h := Lib.hid (box_below k2_h.out hb1)
        have hB1 := below_trans bW_h.out hb1 bW_h.out.size
        have hB1_h := Lib.hid hB1
        have hb1_h := Lib.hid hb1
        clear hB1 hb1
        obtain ⟨⟨c0, c1, c2⟩, f0, f1, f2⟩ := box3 k0_h.out
        obtain ⟨⟨e0, e1, e2⟩, j0, j1, j2⟩ := box3 k1_h.out
        go_wp2_with (fail)
        refine (hG'_h.out w1 hb1_h.out).mono ?_
        rintro e w2 ⟨rfl, hb2⟩
        clear c0 c1 c2 f0 f1 f2 e0 e1 e2 j0 j1 j2
        replace k0_h := Lib.hid (box_below k0_h.out hb2)
        replace k1_h := Lib.hid (box_below k1_h.out hb2)
        replace k2_h := Lib.hid (box_below k2_h.out hb2)
        have hB2 := below_trans hB1_h.out hb2 hB1_h.out.size
        have hb12 := below_trans hb1_h.out hb2 hb1_h.out.size
        have hB2_h := Lib.hid hB2
        have hb2_h := Lib.hid hb2
        have hb12_h := Lib.hid hb12
        clear hB2 hb2 hb12
        obtain ⟨⟨c0, c1, c2⟩, f0, f1, f2⟩ := box3 k0_h.out
        obtain ⟨⟨e0, e1, e2⟩, j0, j1, j2⟩ := box3 k1_h.out
        have hb24 : 24 < s.1 + t.1 + s.2.1 + t.2.1 := by have := hle_h.out; omega
        have hzr := box_lt k2_h.out
        obtain ⟨⟨d0, d1, d2⟩, g0, g1, g2⟩ := box3 k2_h.out
        obtain ⟨s1, s2⟩ := set3 (a := .int .i64 0) (b := .int .i64 0) (c := .slice none 0 0) k2_h.out
        have hB9 := below_keeps hB2_h.out s2 (hB2_h.out).size (fun k hk => by omega)
        have s1_h := Lib.hid s1
        have s2_h := Lib.hid s2
        have hB9_h := Lib.hid hB9
        clear s1 s2 hB9
        go_wp2_with (fail)
        refine bodyPost_ret (results_cell_tmp rfl _ _ (w.heap.size + 1 + 1) _ _ (0, 0) _ rfl s1_h.out Tryd.underlying51 rfl (by kernel_rfl)) rfl ?_
        exact ⟨_, [], rfl, OwSys.zero _ 0 0, FreshL.nil _, hB9_h.out⟩
    · have hq' : relB p t = false := by simpa using hq
      rw [hq', Bool.false_and, if_neg (by simp)] at hC0
      simp only [hq'] at hG'
      have hC1 : C = ((0, 0, []), false) := hC0
      subst hC1
      clear h h' ok ok' hr hq hq' hC0
      have hG_h := Lib.hid hG
      have hG'_h := Lib.hid hG'
      have hF_h := Lib.hid hF
      have k0_h := Lib.hid k0
      have k1_h := Lib.hid k1
      have k2_h := Lib.hid k2
      have bW_h := Lib.hid bW
      have hs_h := Lib.hid hs
      clear hG hG' hF k0 k1 k2 bW hs
      go_enter Tryd.func50, Tryd.ntmps50
      go_upto_region 1 with (fail)
      rw [← hW]
      clear hW
      obtain ⟨⟨c0, c1, c2⟩, f0, f1, f2⟩ := box3 k0_h.out
      obtain ⟨⟨e0, e1, e2⟩, j0, j1, j2⟩ := box3 k1_h.out
      go_wp2_with (fail)
      refine (hG_h.out W (Below.refl _ _)).mono ?_
      rintro e w1 ⟨rfl, hb1⟩
      clear c0 c1 c2 f0 f1 f2 e0 e1 e2 j0 j1 j2
      replace k0_h := Lib.hid (box_below k0_h.out hb1)
      replace k1_h := Lib.hid (box_below k1_h.out hb1)
      replace k2_h := Lib.hid (box_below k2_h.out hb1)
      have hB1 := below_trans bW_h.out hb1 bW_h.out.size
      have hB1_h := Lib.hid hB1
      have hb1_h := Lib.hid hb1
      clear hB1 hb1
      obtain ⟨⟨c0, c1, c2⟩, f0, f1, f2⟩ := box3 k0_h.out
      obtain ⟨⟨e0, e1, e2⟩, j0, j1, j2⟩ := box3 k1_h.out
      go_wp2_with (fail)
      refine (hG'_h.out w1 hb1_h.out).mono ?_
      rintro e w2 ⟨rfl, hb2⟩
      clear c0 c1 c2 f0 f1 f2 e0 e1 e2 j0 j1 j2
      replace k0_h := Lib.hid (box_below k0_h.out hb2)
      replace k1_h := Lib.hid (box_below k1_h.out hb2)
      replace k2_h := Lib.hid (box_below k2_h.out hb2)
      have hB2 := below_trans hB1_h.out hb2 hB1_h.out.size
      have hb12 := below_trans hb1_h.out hb2 hb1_h.out.size
      have hB2_h := Lib.hid hB2
      have hb2_h := Lib.hid hb2
      have hb12_h := Lib.hid hb12
      clear hB2 hb2 hb12
      have hzr := box_lt k2_h.out
      obtain ⟨⟨d0, d1, d2⟩, g0, g1, g2⟩ := box3 k2_h.out
      obtain ⟨s1, s2⟩ := set3 (a := .int .i64 0) (b := .int .i64 0) (c := .slice none 0 0) k2_h.out
      have hB9 := below_keeps hB2_h.out s2 (hB2_h.out).size (fun k hk => by omega)
      have s1_h := Lib.hid s1
      have s2_h := Lib.hid s2
      have hB9_h := Lib.hid hB9
      clear s1 s2 hB9
      go_wp2_with (fail)
      refine bodyPost_ret (results_cell_tmp rfl _ _ (w.heap.size + 1 + 1) _ _ (0, 0) _ rfl s1_h.out Tryd.underlying51 rfl (by kernel_rfl)) rfl ?_
      exact ⟨_, [], rfl, OwSys.zero _ 0 0, FreshL.nil _, hB9_h.out⟩
  · have hr' : relB p s = false := by simpa using hr
    rw [hr', Bool.false_and, if_neg (by simp)] at hC0
    simp only [hr'] at hG
    have hC1 : C = ((0, 0, []), false) := hC0
    subst hC1
    clear h h' ok ok' hr hr' hC0
    have hG_h := Lib.hid hG
    have hG'_h := Lib.hid hG'
    have hF_h := Lib.hid hF
    have k0_h := Lib.hid k0
    have k1_h := Lib.hid k1
    have k2_h := Lib.hid k2
    have bW_h := Lib.hid bW
    clear hG hG' hF k0 k1 k2 bW
    go_enter Tryd.func50, Tryd.ntmps50
    go_upto_region 1 with (fail)
    rw [← hW]
    clear hW
    obtain ⟨⟨c0, c1, c2⟩, f0, f1, f2⟩ := box3 k0_h.out
    obtain ⟨⟨e0, e1, e2⟩, j0, j1, j2⟩ := box3 k1_h.out
    go_wp2_with (fail)
    refine (hG_h.out W (Below.refl _ _)).mono ?_
    rintro e w1 ⟨rfl, hb1⟩
    clear c0 c1 c2 f0 f1 f2 e0 e1 e2 j0 j1 j2
    replace k0_h := Lib.hid (box_below k0_h.out hb1)
    replace k1_h := Lib.hid (box_below k1_h.out hb1)
    replace k2_h := Lib.hid (box_below k2_h.out hb1)
    have hB1 := below_trans bW_h.out hb1 bW_h.out.size
    have hB1_h := Lib.hid hB1
    have hb1_h := Lib.hid hb1
    clear hB1 hb1
    have hzr := box_lt k2_h.out
    obtain ⟨⟨d0, d1, d2⟩, g0, g1, g2⟩ := box3 k2_h.out
    obtain ⟨s1, s2⟩ := set3 (a := .int .i64 0) (b := .int .i64 0) (c := .slice none 0 0) k2_h.out
    have hB9 := below_keeps hB1_h.out s2 (hB1_h.out).size (fun k hk => by omega)
    have s1_h := Lib.hid s1
    have s2_h := Lib.hid s2
    have hB9_h := Lib.hid hB9
    clear s1 s2 hB9
    go_wp2_with (fail)
    refine bodyPost_ret (results_cell_tmp rfl _ _ (w.heap.size + 1 + 1) _ _ (0, 0) _ rfl s1_h.out Tryd.underlying51 rfl (by kernel_rfl)) rfl ?_
    exact ⟨_, [], rfl, OwSys.zero _ 0 0, FreshL.nil _, hB9_h.out⟩
set_option maxRecDepth 100000 in
set_option maxHeartbeats 4000000 in
theorem iTensorRelations_law (p : Int) {v v' : Value} {s t : Sys} {fp fp' : List Nat} {w : World} (h : OwSys w v s fp) (h' : OwSys w v' t fp') (ok : OkR s.2.2) (ok' : OkR t.2.2) (hT : Tab w) :
    Calls Tryd.prog 51 #[.int .i64 p, v, v'] w fun e w' => ∃ v' fp', e = .returned (.tuple #[v', .bool (teM p s t).2]) ∧ OwSys w' v' (teM p s t).1 fp' ∧ FreshL w.heap.size fp' ∧ Below w.heap.size w w' := by
  obtain ⟨C, hC0⟩ : ∃ C, C = teM p s t := ⟨_, rfl⟩
  rw [← hC0]
  unfold teM at hC0
  obtain ⟨A, n, c, rfl⟩ := h.shape
  obtain ⟨A', n', c', rfl⟩ := h'.shape
  obtain ⟨W, hW, bW, k0, k1, k2⟩ := alloc3 w (.cells #[.int .i64 s.1, .int .i64 s.2.1, .slice A n c] tRel) (.cells #[.int .i64 t.1, .int .i64 t.2.1, .slice A' n' c'] tRel) (.cells #[.int .i64 0, .int .i64 0, .slice none 0 0] tRel)
  have hG := fun W' (hb : Below W.heap.size W W') => isRelation_any p W' ((h.below bW).below hb).rd ((hT.below bW hT.lt).below hb (hT.below bW hT.lt).lt) ok.1 ok.2.1
  have hG' := fun W' (hb : Below W.heap.size W W') => isRelation_any p W' ((h'.below bW).below hb).rd ((hT.below bW hT.lt).below hb (hT.below bW hT.lt).lt) ok'.1 ok'.2.1
  have hS := fun W' (hs : RelOk p s) => relSize_any s.1 s.2.1 (.slice A n c) rfl W' (by have := hs.lo; have := hs.hi; have := hs.sum; omega) (by have := hs.lo; have := hs.hi; have := hs.sum; omega)
  have hS' := fun W' (hs : RelOk p t) => relSize_any t.1 t.2.1 (.slice A' n' c') rfl W' (by have := hs.lo; have := hs.hi; have := hs.sum; omega) (by have := hs.lo; have := hs.hi; have := hs.sum; omega)
  have hF := fun W' (hb : Below W.heap.size W W') (hs : RelOk p s) (ht : RelOk p t) (hsum : s.1 + t.1 + s.2.1 + t.2.1 ≤ 24) => tensor_any p W' ((h.below bW).below hb) ((h'.below bW).below hb) hs ht hsum
  by_cases hr : relB p s = true
  · rw [hr, Bool.true_and] at hC0
    have hs := RelOk.of hr
    simp only [hr] at hG
    by_cases hq : relB p t = true
    · rw [hq, Bool.true_and] at hC0
      have ht := RelOk.of hq
      simp only [hq] at hG'
      have hn1 := hs.lo
      have hn2 := hs.hi
      have hn3 := hs.sum
      have hn4 := ht.lo
      have hn5 := ht.hi
      have hn6 := ht.sum
      by_cases hle : s.1 + t.1 + s.2.1 + t.2.1 ≤ 24
      · rw [decide_eq_true hle, if_pos rfl] at hC0
        obtain ⟨V, hV⟩ : ∃ V, V = tenV p s t := ⟨_, rfl⟩
        rw [← hV] at hC0
        simp only [← hV] at hF
        subst hC0
        clear h h' ok ok' hr hq hT
        have hG_h := Lib.hid hG
        have hG'_h := Lib.hid hG'
        have hF_h := Lib.hid hF
        have k0_h := Lib.hid k0
        have k1_h := Lib.hid k1
        have k2_h := Lib.hid k2
        have bW_h := Lib.hid bW
        have hS_h := Lib.hid hS
        have hS'_h := Lib.hid hS'
        have hs_h := Lib.hid hs
        have ht_h := Lib.hid ht
        have hle_h := Lib.hid hle
        have hV_h := Lib.hid hV
        clear hG hG' hF k0 k1 k2 bW hS hS' hs ht hle hV
        go_enter Tryd.func51, Tryd.ntmps51
        go_upto_region 1 with (fail)
        rw [← hW]
        clear hW
        obtain ⟨⟨c0, c1, c2⟩, f0, f1, f2⟩ := box3 k0_h.out
        obtain ⟨⟨e0, e1, e2⟩, j0, j1, j2⟩ := box3 k1_h.out
        go_wp2_with (fail)
        clear c0 c1 c2 f0 f1 f2 e0 e1 e2 j0 j1 j2
        have hbd : Below W.heap.size W W.drew := below_drewN (Below.refl _ _) 1
        refine beginH (fun w' => w'.heap[w.heap.size]? = some (.cells #[.int .i64 s.1, .int .i64 s.2.1, .slice A n c] tRel) ∧ w'.heap[w.heap.size + 1]? = some (.cells #[.int .i64 t.1, .int .i64 t.2.1, .slice A' n' c'] tRel)) (by kernel_rfl) ?_
        generalize W.drew = W1 at hbd ⊢
        replace k0_h := Lib.hid (box_below k0_h.out hbd)
        replace k1_h := Lib.hid (box_below k1_h.out hbd)
        replace k2_h := Lib.hid (box_below k2_h.out hbd)
        have hF0 := And.intro k0_h.out k1_h.out
        have hF0_h := Lib.hid hF0
        have hbd_h := Lib.hid hbd
        clear hF0 hbd
        refine takeH 0 (v := ?_) rfl (by kernel_rfl) (by kernel_rfl) (by kernel_rfl) (fun _ _ _ h => h) hF0_h.out (by rfl) (fun W' hW' => ?_) ?_; rotate_left; · (obtain ⟨⟨y0, y1, y2⟩, y3, y4, y5⟩ := box3 hW'.1; obtain ⟨⟨x0, x1, x2⟩, x3, x4, x5⟩ := box3 hW'.2; clear hW'; go_simp; first | done | with_reducible rfl)
        simp only [Act.put, List.setIfInBounds_toArray, List.set_cons_zero, List.set_cons_succ]
        refine takeH 1 (v := ?_) rfl (by kernel_rfl) (by kernel_rfl) (by kernel_rfl) (fun _ _ _ h => h) hF0_h.out (by rfl) (fun W' hW' => ?_) ?_; rotate_left; · (obtain ⟨⟨y0, y1, y2⟩, y3, y4, y5⟩ := box3 hW'.1; obtain ⟨⟨x0, x1, x2⟩, x3, x4, x5⟩ := box3 hW'.2; clear hW'; go_simp; first | done | with_reducible rfl)
        simp only [Act.put, List.setIfInBounds_toArray, List.set_cons_zero, List.set_cons_succ]
        refine' callH 2 (f := _) (args := _) rfl (by kernel_rfl) (by rfl) ?_ ?_; rotate_left 2; · (go_simp; first | done | with_reducible rfl | (constructor <;> with_reducible rfl))
        refine (hG_h.out W1 hbd_h.out).mono ?_
        rintro e w1 ⟨rfl, hb1⟩
        replace k0_h := Lib.hid (box_below k0_h.out hb1)
        replace k1_h := Lib.hid (box_below k1_h.out hb1)
        replace k2_h := Lib.hid (box_below k2_h.out hb1)
        have hF1 := And.intro k0_h.out k1_h.out
        refine ⟨_, rfl, hF1, ?_⟩
        simp only [Act.put, List.setIfInBounds_toArray, List.set_cons_zero, List.set_cons_succ]
        have hc1 := below_trans hbd_h.out hb1 hbd_h.out.size
        have hF1_h := Lib.hid hF1
        have hb1_h := Lib.hid hb1
        have hc1_h := Lib.hid hc1
        clear hF1 hb1 hc1
        refine takeH 3 (v := ?_) rfl (by kernel_rfl) (by kernel_rfl) (by kernel_rfl) (fun _ _ _ h => h) hF1_h.out (by rfl) (fun W' hW' => ?_) ?_; rotate_left; · (skip; clear hW'; go_simp; first | done | with_reducible rfl)
        simp only [Act.put, List.setIfInBounds_toArray, List.set_cons_zero, List.set_cons_succ]
        refine takeH 4 (v := ?_) rfl (by kernel_rfl) (by kernel_rfl) (by kernel_rfl) (fun _ _ _ h => h) hF1_h.out (by rfl) (fun W' hW' => ?_) ?_; rotate_left; · (skip; clear hW'; go_simp; first | done | with_reducible rfl)
        simp only [Act.put, List.setIfInBounds_toArray, List.set_cons_zero, List.set_cons_succ]
        refine takeH 5 (v := ?_) rfl (by kernel_rfl) (by kernel_rfl) (by kernel_rfl) (fun _ _ _ h => h) hF1_h.out (by rfl) (fun W' hW' => ?_) ?_; rotate_left; · (obtain ⟨⟨y0, y1, y2⟩, y3, y4, y5⟩ := box3 hW'.1; obtain ⟨⟨x0, x1, x2⟩, x3, x4, x5⟩ := box3 hW'.2; clear hW'; go_simp; first | done | with_reducible rfl)
        simp only [Act.put, List.setIfInBounds_toArray, List.set_cons_zero, List.set_cons_succ]
        refine takeH 6 (v := ?_) rfl (by kernel_rfl) (by kernel_rfl) (by kernel_rfl) (fun _ _ _ h => h) hF1_h.out (by rfl) (fun W' hW' => ?_) ?_; rotate_left; · (obtain ⟨⟨y0, y1, y2⟩, y3, y4, y5⟩ := box3 hW'.1; obtain ⟨⟨x0, x1, x2⟩, x3, x4, x5⟩ := box3 hW'.2; clear hW'; go_simp; first | done | with_reducible rfl)
        simp only [Act.put, List.setIfInBounds_toArray, List.set_cons_zero, List.set_cons_succ]
        refine' callH 7 (f := _) (args := _) rfl (by kernel_rfl) (by rfl) ?_ ?_; rotate_left 2; · (go_simp; first | done | with_reducible rfl | (constructor <;> with_reducible rfl))
        refine (hG'_h.out w1 hc1_h.out).mono ?_
        rintro e w2 ⟨rfl, hb2⟩
        replace k0_h := Lib.hid (box_below k0_h.out hb2)
        replace k1_h := Lib.hid (box_below k1_h.out hb2)
        replace k2_h := Lib.hid (box_below k2_h.out hb2)
        have hF2 := And.intro k0_h.out k1_h.out
        refine ⟨_, rfl, hF2, ?_⟩
        simp only [Act.put, List.setIfInBounds_toArray, List.set_cons_zero, List.set_cons_succ]
        have hc2 := below_trans hc1_h.out hb2 hc1_h.out.size
        have hF2_h := Lib.hid hF2
        have hb2_h := Lib.hid hb2
        have hc2_h := Lib.hid hc2
        clear hF2 hb2 hc2
        refine takeH 8 (v := ?_) rfl (by kernel_rfl) (by kernel_rfl) (by kernel_rfl) (fun _ _ _ h => h) hF2_h.out (by rfl) (fun W' hW' => ?_) ?_; rotate_left; · (skip; clear hW'; go_simp; first | done | with_reducible rfl)
        simp only [Act.put, List.setIfInBounds_toArray, List.set_cons_zero, List.set_cons_succ]
        refine takeH 9 (v := ?_) rfl (by kernel_rfl) (by kernel_rfl) (by kernel_rfl) (fun _ _ _ h => h) hF2_h.out (by rfl) (fun W' hW' => ?_) ?_; rotate_left; · (skip; clear hW'; go_simp; first | done | with_reducible rfl)
        simp only [Act.put, List.setIfInBounds_toArray, List.set_cons_zero, List.set_cons_succ]
        refine takeH 10 (v := ?_) rfl (by kernel_rfl) (by kernel_rfl) (by kernel_rfl) (fun _ _ _ h => h) hF2_h.out (by rfl) (fun W' hW' => ?_) ?_; rotate_left; · (skip; clear hW'; go_simp; first | done | with_reducible rfl)
        simp only [Act.put, List.setIfInBounds_toArray, List.set_cons_zero, List.set_cons_succ]
        refine takeH 11 (v := ?_) rfl (by kernel_rfl) (by kernel_rfl) (by kernel_rfl) (fun _ _ _ h => h) hF2_h.out (by rfl) (fun W' hW' => ?_) ?_; rotate_left; · (obtain ⟨⟨y0, y1, y2⟩, y3, y4, y5⟩ := box3 hW'.1; obtain ⟨⟨x0, x1, x2⟩, x3, x4, x5⟩ := box3 hW'.2; clear hW'; go_simp; first | done | with_reducible rfl)
        simp only [Act.put, List.setIfInBounds_toArray, List.set_cons_zero, List.set_cons_succ]
        refine takeH 13 (v := ?_) rfl (by kernel_rfl) (by kernel_rfl) (by kernel_rfl) (fun _ _ _ h => h) hF2_h.out (by rfl) (fun W' hW' => ?_) ?_; rotate_left; · (obtain ⟨⟨y0, y1, y2⟩, y3, y4, y5⟩ := box3 hW'.1; obtain ⟨⟨x0, x1, x2⟩, x3, x4, x5⟩ := box3 hW'.2; clear hW'; go_simp; first | done | with_reducible rfl)
        simp only [Act.put, List.setIfInBounds_toArray, List.set_cons_zero, List.set_cons_succ]
        refine' callH 12 (f := _) (args := _) rfl (by kernel_rfl) (by rfl) ?_ ?_; rotate_left 2; · (go_simp; first | done | with_reducible rfl | (constructor <;> with_reducible rfl))
        refine (hS_h.out w2 hs_h.out).mono ?_
        rintro e w3 ⟨rfl, hb3⟩
        replace k0_h := Lib.hid (box_below k0_h.out hb3)
        replace k1_h := Lib.hid (box_below k1_h.out hb3)
        replace k2_h := Lib.hid (box_below k2_h.out hb3)
        have hF3 := And.intro k0_h.out k1_h.out
        refine ⟨_, rfl, hF3, ?_⟩
        simp only [Act.put, List.setIfInBounds_toArray, List.set_cons_zero, List.set_cons_succ]
        have hc3 := below_trans hc2_h.out hb3 hc2_h.out.size
        have hF3_h := Lib.hid hF3
        have hb3_h := Lib.hid hb3
        have hc3_h := Lib.hid hc3
        clear hF3 hb3 hc3
        refine' callH 14 (f := _) (args := _) rfl (by kernel_rfl) (by rfl) ?_ ?_; rotate_left 2; · (go_simp; first | done | with_reducible rfl | (constructor <;> with_reducible rfl))
        refine (hS'_h.out w3 ht_h.out).mono ?_
        rintro e w4 ⟨rfl, hb4⟩
        replace k0_h := Lib.hid (box_below k0_h.out hb4)
        replace k1_h := Lib.hid (box_below k1_h.out hb4)
        replace k2_h := Lib.hid (box_below k2_h.out hb4)
        have hF4 := And.intro k0_h.out k1_h.out
        refine ⟨_, rfl, hF4, ?_⟩
        simp only [Act.put, List.setIfInBounds_toArray, List.set_cons_zero, List.set_cons_succ]
        have hc4 := below_trans hc3_h.out hb4 hc3_h.out.size
        have hB4 := below_trans bW_h.out hc4 bW_h.out.size
        have hwr : IntKind.i64.wrap ((s.1 + s.2.1) + (t.1 + t.2.1)) = (s.1 + s.2.1) + (t.1 + t.2.1) := IntWalk.i64_in _ (by have := hs_h.out.sum; have := ht_h.out.sum; have := hs_h.out.lo; have := ht_h.out.lo; have := hs_h.out.hi; have := ht_h.out.hi; omega)
        have hF4_h := Lib.hid hF4
        have hb4_h := Lib.hid hb4
        have hc4_h := Lib.hid hc4
        have hB4_h := Lib.hid hB4
        clear hF4 hb4 hc4 hB4
        have hb24 : decide (24 < (s.1 + s.2.1) + (t.1 + t.2.1)) = false := decide_eq_false (by have := hle_h.out; omega)
        refine takeH 15 (v := ?_) rfl (by kernel_rfl) (by kernel_rfl) (by kernel_rfl) (fun _ _ _ h => h) hF4_h.out (by rfl) (fun W' hW' => ?_) ?_; rotate_left; · (skip; clear hW'; go_simp; first | done | with_reducible rfl)
        simp only [Act.put, List.setIfInBounds_toArray, List.set_cons_zero, List.set_cons_succ]
        refine takeH 16 (v := ?_) rfl (by kernel_rfl) (by kernel_rfl) (by kernel_rfl) (fun _ _ _ h => h) hF4_h.out (by rfl) (fun W' hW' => ?_) ?_; rotate_left; · (skip; clear hW'; go_simp; first | done | with_reducible rfl)
        simp only [Act.put, List.setIfInBounds_toArray, List.set_cons_zero, List.set_cons_succ]
        refine takeH 17 (v := ?_) rfl (by kernel_rfl) (by kernel_rfl) (by kernel_rfl) (fun _ _ _ h => h) hF4_h.out (by rfl) (fun W' hW' => ?_) ?_; rotate_left; · (skip; clear hW'; go_simp; first | done | with_reducible rfl)
        simp only [Act.put, List.setIfInBounds_toArray, List.set_cons_zero, List.set_cons_succ]
        refine doneH (by kernel_rfl) ?_
        clear hb24 hwr
        obtain ⟨⟨c0, c1, c2⟩, f0, f1, f2⟩ := box3 k0_h.out
        obtain ⟨⟨e0, e1, e2⟩, j0, j1, j2⟩ := box3 k1_h.out
        have hFn := hF_h.out w4 hc4_h.out hs_h.out ht_h.out hle_h.out
        have hBf := hB4_h.out
        have hFn_h := Lib.hid hFn
        have hBf_h := Lib.hid hBf
        clear hFn hBf
        go_wp2_with (fail)
        refine (hFn_h.out).mono ?_
        rintro e wf ⟨v9, fp9, rfl, hO9, hf9, hb9⟩
        clear c0 c1 c2 f0 f1 f2 e0 e1 e2 j0 j1 j2
        obtain ⟨A9, n9, c9, rfl⟩ := hO9.shape
        have hw2 := box_lt k2_h.out
        replace k2_h := Lib.hid (box_below k2_h.out hb9)
        obtain ⟨⟨d0, d1, d2⟩, g0, g1, g2⟩ := box3 k2_h.out
        obtain ⟨s1, s2⟩ := set3 (a := .int .i64 V.1) (b := .int .i64 V.2.1) (c := .slice A9 n9 c9) k2_h.out
        have hB8 := below_trans hBf_h.out hb9 hBf_h.out.size
        have hB9 := below_keeps hB8 s2 hB8.size (fun k hk => by omega)
        have hO8 := hO9.keeps s2 (fun k hk e => by have := hf9 k hk; omega)
        have hf8 := hf9.mono hBf_h.out.size
        clear hB8 hO9 hf9 hb9
        have s1_h := Lib.hid s1
        have s2_h := Lib.hid s2
        have hB9_h := Lib.hid hB9
        have hO8_h := Lib.hid hO8
        have hf8_h := Lib.hid hf8
        clear s1 s2 hB9 hO8 hf8
        go_wp2_with (fail)
        refine bodyPost_ret (results_cell_tmp rfl _ _ (w.heap.size + 1 + 1) _ _ (0, 0) _ rfl s1_h.out Tryd.underlying51 rfl (by kernel_rfl)) rfl ?_
        exact ⟨_, fp9, rfl, hO8_h.out, hf8_h.out, hB9_h.out⟩
      · rw [decide_eq_false hle, if_neg (by simp)] at hC0
        have hC1 : C = ((0, 0, []), false) := hC0
        subst hC1
        clear h h' ok ok' hr hq hC0 hT
        have hG_h := Lib.hid hG
        have hG'_h := Lib.hid hG'
        have hF_h := Lib.hid hF
        have k0_h := Lib.hid k0
        have k1_h := Lib.hid k1
        have k2_h := Lib.hid k2
        have bW_h := Lib.hid bW
        have hS_h := Lib.hid hS
        have hS'_h := Lib.hid hS'
        have hs_h := Lib.hid hs
        have ht_h := Lib.hid ht
        have hle_h := Lib.hid hle
        clear hG hG' hF k0 k1 k2 bW hS hS' hs ht hle
        go_enter Tryd.func51, Tryd.ntmps51
        go_upto_region 1 with (fail)
        rw [← hW]
        clear hW
        obtain ⟨⟨c0, c1, c2⟩, f0, f1, f2⟩ := box3 k0_h.out
        obtain ⟨⟨e0, e1, e2⟩, j0, j1, j2⟩ := box3 k1_h.out
        go_wp2_with (fail)
        clear c0 c1 c2 f0 f1 f2 e0 e1 e2 j0 j1 j2
        have hbd : Below W.heap.size W W.drew := below_drewN (Below.refl _ _) 1
        refine beginH (fun w' => w'.heap[w.heap.size]? = some (.cells #[.int .i64 s.1, .int .i64 s.2.1, .slice A n c] tRel) ∧ w'.heap[w.heap.size + 1]? = some (.cells #[.int .i64 t.1, .int .i64 t.2.1, .slice A' n' c'] tRel)) (by kernel_rfl) ?_
        generalize W.drew = W1 at hbd ⊢
        replace k0_h := Lib.hid (box_below k0_h.out hbd)
        replace k1_h := Lib.hid (box_below k1_h.out hbd)
        replace k2_h := Lib.hid (box_below k2_h.out hbd)
        have hF0 := And.intro k0_h.out k1_h.out
        have hF0_h := Lib.hid hF0
        have hbd_h := Lib.hid hbd
        clear hF0 hbd
        refine takeH 0 (v := ?_) rfl (by kernel_rfl) (by kernel_rfl) (by kernel_rfl) (fun _ _ _ h => h) hF0_h.out (by rfl) (fun W' hW' => ?_) ?_; rotate_left; · (obtain ⟨⟨y0, y1, y2⟩, y3, y4, y5⟩ := box3 hW'.1; obtain ⟨⟨x0, x1, x2⟩, x3, x4, x5⟩ := box3 hW'.2; clear hW'; go_simp; first | done | with_reducible rfl)
        simp only [Act.put, List.setIfInBounds_toArray, List.set_cons_zero, List.set_cons_succ]
        refine takeH 1 (v := ?_) rfl (by kernel_rfl) (by kernel_rfl) (by kernel_rfl) (fun _ _ _ h => h) hF0_h.out (by rfl) (fun W' hW' => ?_) ?_; rotate_left; · (obtain ⟨⟨y0, y1, y2⟩, y3, y4, y5⟩ := box3 hW'.1; obtain ⟨⟨x0, x1, x2⟩, x3, x4, x5⟩ := box3 hW'.2; clear hW'; go_simp; first | done | with_reducible rfl)
        simp only [Act.put, List.setIfInBounds_toArray, List.set_cons_zero, List.set_cons_succ]
        refine' callH 2 (f := _) (args := _) rfl (by kernel_rfl) (by rfl) ?_ ?_; rotate_left 2; · (go_simp; first | done | with_reducible rfl | (constructor <;> with_reducible rfl))
        refine (hG_h.out W1 hbd_h.out).mono ?_
        rintro e w1 ⟨rfl, hb1⟩
        replace k0_h := Lib.hid (box_below k0_h.out hb1)
        replace k1_h := Lib.hid (box_below k1_h.out hb1)
        replace k2_h := Lib.hid (box_below k2_h.out hb1)
        have hF1 := And.intro k0_h.out k1_h.out
        refine ⟨_, rfl, hF1, ?_⟩
        simp only [Act.put, List.setIfInBounds_toArray, List.set_cons_zero, List.set_cons_succ]
        have hc1 := below_trans hbd_h.out hb1 hbd_h.out.size
        have hF1_h := Lib.hid hF1
        have hb1_h := Lib.hid hb1
        have hc1_h := Lib.hid hc1
        clear hF1 hb1 hc1
        refine takeH 3 (v := ?_) rfl (by kernel_rfl) (by kernel_rfl) (by kernel_rfl) (fun _ _ _ h => h) hF1_h.out (by rfl) (fun W' hW' => ?_) ?_; rotate_left; · (skip; clear hW'; go_simp; first | done | with_reducible rfl)
        simp only [Act.put, List.setIfInBounds_toArray, List.set_cons_zero, List.set_cons_succ]
        refine takeH 4 (v := ?_) rfl (by kernel_rfl) (by kernel_rfl) (by kernel_rfl) (fun _ _ _ h => h) hF1_h.out (by rfl) (fun W' hW' => ?_) ?_; rotate_left; · (skip; clear hW'; go_simp; first | done | with_reducible rfl)
        simp only [Act.put, List.setIfInBounds_toArray, List.set_cons_zero, List.set_cons_succ]
        refine takeH 5 (v := ?_) rfl (by kernel_rfl) (by kernel_rfl) (by kernel_rfl) (fun _ _ _ h => h) hF1_h.out (by rfl) (fun W' hW' => ?_) ?_; rotate_left; · (obtain ⟨⟨y0, y1, y2⟩, y3, y4, y5⟩ := box3 hW'.1; obtain ⟨⟨x0, x1, x2⟩, x3, x4, x5⟩ := box3 hW'.2; clear hW'; go_simp; first | done | with_reducible rfl)
        simp only [Act.put, List.setIfInBounds_toArray, List.set_cons_zero, List.set_cons_succ]
        refine takeH 6 (v := ?_) rfl (by kernel_rfl) (by kernel_rfl) (by kernel_rfl) (fun _ _ _ h => h) hF1_h.out (by rfl) (fun W' hW' => ?_) ?_; rotate_left; · (obtain ⟨⟨y0, y1, y2⟩, y3, y4, y5⟩ := box3 hW'.1; obtain ⟨⟨x0, x1, x2⟩, x3, x4, x5⟩ := box3 hW'.2; clear hW'; go_simp; first | done | with_reducible rfl)
        simp only [Act.put, List.setIfInBounds_toArray, List.set_cons_zero, List.set_cons_succ]
        refine' callH 7 (f := _) (args := _) rfl (by kernel_rfl) (by rfl) ?_ ?_; rotate_left 2; · (go_simp; first | done | with_reducible rfl | (constructor <;> with_reducible rfl))
        refine (hG'_h.out w1 hc1_h.out).mono ?_
        rintro e w2 ⟨rfl, hb2⟩
        replace k0_h := Lib.hid (box_below k0_h.out hb2)
        replace k1_h := Lib.hid (box_below k1_h.out hb2)
        replace k2_h := Lib.hid (box_below k2_h.out hb2)
        have hF2 := And.intro k0_h.out k1_h.out
        refine ⟨_, rfl, hF2, ?_⟩
        simp only [Act.put, List.setIfInBounds_toArray, List.set_cons_zero, List.set_cons_succ]
        have hc2 := below_trans hc1_h.out hb2 hc1_h.out.size
        have hF2_h := Lib.hid hF2
        have hb2_h := Lib.hid hb2
        have hc2_h := Lib.hid hc2
        clear hF2 hb2 hc2
        refine takeH 8 (v := ?_) rfl (by kernel_rfl) (by kernel_rfl) (by kernel_rfl) (fun _ _ _ h => h) hF2_h.out (by rfl) (fun W' hW' => ?_) ?_; rotate_left; · (skip; clear hW'; go_simp; first | done | with_reducible rfl)
        simp only [Act.put, List.setIfInBounds_toArray, List.set_cons_zero, List.set_cons_succ]
        refine takeH 9 (v := ?_) rfl (by kernel_rfl) (by kernel_rfl) (by kernel_rfl) (fun _ _ _ h => h) hF2_h.out (by rfl) (fun W' hW' => ?_) ?_; rotate_left; · (skip; clear hW'; go_simp; first | done | with_reducible rfl)
        simp only [Act.put, List.setIfInBounds_toArray, List.set_cons_zero, List.set_cons_succ]
        refine takeH 10 (v := ?_) rfl (by kernel_rfl) (by kernel_rfl) (by kernel_rfl) (fun _ _ _ h => h) hF2_h.out (by rfl) (fun W' hW' => ?_) ?_; rotate_left; · (skip; clear hW'; go_simp; first | done | with_reducible rfl)
        simp only [Act.put, List.setIfInBounds_toArray, List.set_cons_zero, List.set_cons_succ]
        refine takeH 11 (v := ?_) rfl (by kernel_rfl) (by kernel_rfl) (by kernel_rfl) (fun _ _ _ h => h) hF2_h.out (by rfl) (fun W' hW' => ?_) ?_; rotate_left; · (obtain ⟨⟨y0, y1, y2⟩, y3, y4, y5⟩ := box3 hW'.1; obtain ⟨⟨x0, x1, x2⟩, x3, x4, x5⟩ := box3 hW'.2; clear hW'; go_simp; first | done | with_reducible rfl)
        simp only [Act.put, List.setIfInBounds_toArray, List.set_cons_zero, List.set_cons_succ]
        refine takeH 13 (v := ?_) rfl (by kernel_rfl) (by kernel_rfl) (by kernel_rfl) (fun _ _ _ h => h) hF2_h.out (by rfl) (fun W' hW' => ?_) ?_; rotate_left; · (obtain ⟨⟨y0, y1, y2⟩, y3, y4, y5⟩ := box3 hW'.1; obtain ⟨⟨x0, x1, x2⟩, x3, x4, x5⟩ := box3 hW'.2; clear hW'; go_simp; first | done | with_reducible rfl)
        simp only [Act.put, List.setIfInBounds_toArray, List.set_cons_zero, List.set_cons_succ]
        refine' callH 12 (f := _) (args := _) rfl (by kernel_rfl) (by rfl) ?_ ?_; rotate_left 2; · (go_simp; first | done | with_reducible rfl | (constructor <;> with_reducible rfl))
        refine (hS_h.out w2 hs_h.out).mono ?_
        rintro e w3 ⟨rfl, hb3⟩
        replace k0_h := Lib.hid (box_below k0_h.out hb3)
        replace k1_h := Lib.hid (box_below k1_h.out hb3)
        replace k2_h := Lib.hid (box_below k2_h.out hb3)
        have hF3 := And.intro k0_h.out k1_h.out
        refine ⟨_, rfl, hF3, ?_⟩
        simp only [Act.put, List.setIfInBounds_toArray, List.set_cons_zero, List.set_cons_succ]
        have hc3 := below_trans hc2_h.out hb3 hc2_h.out.size
        have hF3_h := Lib.hid hF3
        have hb3_h := Lib.hid hb3
        have hc3_h := Lib.hid hc3
        clear hF3 hb3 hc3
        refine' callH 14 (f := _) (args := _) rfl (by kernel_rfl) (by rfl) ?_ ?_; rotate_left 2; · (go_simp; first | done | with_reducible rfl | (constructor <;> with_reducible rfl))
        refine (hS'_h.out w3 ht_h.out).mono ?_
        rintro e w4 ⟨rfl, hb4⟩
        replace k0_h := Lib.hid (box_below k0_h.out hb4)
        replace k1_h := Lib.hid (box_below k1_h.out hb4)
        replace k2_h := Lib.hid (box_below k2_h.out hb4)
        have hF4 := And.intro k0_h.out k1_h.out
        refine ⟨_, rfl, hF4, ?_⟩
        simp only [Act.put, List.setIfInBounds_toArray, List.set_cons_zero, List.set_cons_succ]
        have hc4 := below_trans hc3_h.out hb4 hc3_h.out.size
        have hB4 := below_trans bW_h.out hc4 bW_h.out.size
        have hwr : IntKind.i64.wrap ((s.1 + s.2.1) + (t.1 + t.2.1)) = (s.1 + s.2.1) + (t.1 + t.2.1) := IntWalk.i64_in _ (by have := hs_h.out.sum; have := ht_h.out.sum; have := hs_h.out.lo; have := ht_h.out.lo; have := hs_h.out.hi; have := ht_h.out.hi; omega)
        have hF4_h := Lib.hid hF4
        have hb4_h := Lib.hid hb4
        have hc4_h := Lib.hid hc4
        have hB4_h := Lib.hid hB4
        clear hF4 hb4 hc4 hB4
        have hb24 : decide (24 < (s.1 + s.2.1) + (t.1 + t.2.1)) = true := decide_eq_true (by have := hle_h.out; omega)
        refine takeH 15 (v := ?_) rfl (by kernel_rfl) (by kernel_rfl) (by kernel_rfl) (fun _ _ _ h => h) hF4_h.out (by rfl) (fun W' hW' => ?_) ?_; rotate_left; · (skip; clear hW'; go_simp; first | done | with_reducible rfl)
        simp only [Act.put, List.setIfInBounds_toArray, List.set_cons_zero, List.set_cons_succ]
        refine takeH 16 (v := ?_) rfl (by kernel_rfl) (by kernel_rfl) (by kernel_rfl) (fun _ _ _ h => h) hF4_h.out (by rfl) (fun W' hW' => ?_) ?_; rotate_left; · (skip; clear hW'; go_simp; first | done | with_reducible rfl)
        simp only [Act.put, List.setIfInBounds_toArray, List.set_cons_zero, List.set_cons_succ]
        refine takeH 17 (v := ?_) rfl (by kernel_rfl) (by kernel_rfl) (by kernel_rfl) (fun _ _ _ h => h) hF4_h.out (by rfl) (fun W' hW' => ?_) ?_; rotate_left; · (skip; clear hW'; go_simp; first | done | with_reducible rfl)
        simp only [Act.put, List.setIfInBounds_toArray, List.set_cons_zero, List.set_cons_succ]
        refine doneH (by kernel_rfl) ?_
        clear hb24 hwr
        have hzr := box_lt k2_h.out
        obtain ⟨⟨d0, d1, d2⟩, g0, g1, g2⟩ := box3 k2_h.out
        obtain ⟨s1, s2⟩ := set3 (a := .int .i64 0) (b := .int .i64 0) (c := .slice none 0 0) k2_h.out
        have hB9 := below_keeps hB4_h.out s2 (hB4_h.out).size (fun k hk => by omega)
        have s1_h := Lib.hid s1
        have s2_h := Lib.hid s2
        have hB9_h := Lib.hid hB9
        clear s1 s2 hB9
        go_wp2_with (fail)
        refine bodyPost_ret (results_cell_tmp rfl _ _ (w.heap.size + 1 + 1) _ _ (0, 0) _ rfl s1_h.out Tryd.underlying51 rfl (by kernel_rfl)) rfl ?_
        exact ⟨_, [], rfl, OwSys.zero _ 0 0, FreshL.nil _, hB9_h.out⟩
    · have hq' : relB p t = false := by simpa using hq
      rw [hq', Bool.false_and, if_neg (by simp)] at hC0
      simp only [hq'] at hG'
      have hC1 : C = ((0, 0, []), false) := hC0
      subst hC1
      clear h h' ok ok' hr hq hq' hC0 hT
      have hG_h := Lib.hid hG
      have hG'_h := Lib.hid hG'
      have hF_h := Lib.hid hF
      have k0_h := Lib.hid k0
      have k1_h := Lib.hid k1
      have k2_h := Lib.hid k2
      have bW_h := Lib.hid bW
      have hS_h := Lib.hid hS
      have hS'_h := Lib.hid hS'
      have hs_h := Lib.hid hs
      clear hG hG' hF k0 k1 k2 bW hS hS' hs
      go_enter Tryd.func51, Tryd.ntmps51
      go_upto_region 1 with (fail)
      rw [← hW]
      clear hW
      obtain ⟨⟨c0, c1, c2⟩, f0, f1, f2⟩ := box3 k0_h.out
      obtain ⟨⟨e0, e1, e2⟩, j0, j1, j2⟩ := box3 k1_h.out
      go_wp2_with (fail)
      clear c0 c1 c2 f0 f1 f2 e0 e1 e2 j0 j1 j2
      have hbd : Below W.heap.size W W.drew := below_drewN (Below.refl _ _) 1
      refine beginH (fun w' => w'.heap[w.heap.size]? = some (.cells #[.int .i64 s.1, .int .i64 s.2.1, .slice A n c] tRel) ∧ w'.heap[w.heap.size + 1]? = some (.cells #[.int .i64 t.1, .int .i64 t.2.1, .slice A' n' c'] tRel)) (by kernel_rfl) ?_
      generalize W.drew = W1 at hbd ⊢
      replace k0_h := Lib.hid (box_below k0_h.out hbd)
      replace k1_h := Lib.hid (box_below k1_h.out hbd)
      replace k2_h := Lib.hid (box_below k2_h.out hbd)
      have hF0 := And.intro k0_h.out k1_h.out
      have hF0_h := Lib.hid hF0
      have hbd_h := Lib.hid hbd
      clear hF0 hbd
      refine takeH 0 (v := ?_) rfl (by kernel_rfl) (by kernel_rfl) (by kernel_rfl) (fun _ _ _ h => h) hF0_h.out (by rfl) (fun W' hW' => ?_) ?_; rotate_left; · (obtain ⟨⟨y0, y1, y2⟩, y3, y4, y5⟩ := box3 hW'.1; obtain ⟨⟨x0, x1, x2⟩, x3, x4, x5⟩ := box3 hW'.2; clear hW'; go_simp; first | done | with_reducible rfl)
      simp only [Act.put, List.setIfInBounds_toArray, List.set_cons_zero, List.set_cons_succ]
      refine takeH 1 (v := ?_) rfl (by kernel_rfl) (by kernel_rfl) (by kernel_rfl) (fun _ _ _ h => h) hF0_h.out (by rfl) (fun W' hW' => ?_) ?_; rotate_left; · (obtain ⟨⟨y0, y1, y2⟩, y3, y4, y5⟩ := box3 hW'.1; obtain ⟨⟨x0, x1, x2⟩, x3, x4, x5⟩ := box3 hW'.2; clear hW'; go_simp; first | done | with_reducible rfl)
      simp only [Act.put, List.setIfInBounds_toArray, List.set_cons_zero, List.set_cons_succ]
      refine' callH 2 (f := _) (args := _) rfl (by kernel_rfl) (by rfl) ?_ ?_; rotate_left 2; · (go_simp; first | done | with_reducible rfl | (constructor <;> with_reducible rfl))
      refine (hG_h.out W1 hbd_h.out).mono ?_
      rintro e w1 ⟨rfl, hb1⟩
      replace k0_h := Lib.hid (box_below k0_h.out hb1)
      replace k1_h := Lib.hid (box_below k1_h.out hb1)
      replace k2_h := Lib.hid (box_below k2_h.out hb1)
      have hF1 := And.intro k0_h.out k1_h.out
      refine ⟨_, rfl, hF1, ?_⟩
      simp only [Act.put, List.setIfInBounds_toArray, List.set_cons_zero, List.set_cons_succ]
      have hc1 := below_trans hbd_h.out hb1 hbd_h.out.size
      have hF1_h := Lib.hid hF1
      have hb1_h := Lib.hid hb1
      have hc1_h := Lib.hid hc1
      clear hF1 hb1 hc1
      refine takeH 3 (v := ?_) rfl (by kernel_rfl) (by kernel_rfl) (by kernel_rfl) (fun _ _ _ h => h) hF1_h.out (by rfl) (fun W' hW' => ?_) ?_; rotate_left; · (skip; clear hW'; go_simp; first | done | with_reducible rfl)
      simp only [Act.put, List.setIfInBounds_toArray, List.set_cons_zero, List.set_cons_succ]
      refine takeH 4 (v := ?_) rfl (by kernel_rfl) (by kernel_rfl) (by kernel_rfl) (fun _ _ _ h => h) hF1_h.out (by rfl) (fun W' hW' => ?_) ?_; rotate_left; · (skip; clear hW'; go_simp; first | done | with_reducible rfl)
      simp only [Act.put, List.setIfInBounds_toArray, List.set_cons_zero, List.set_cons_succ]
      refine takeH 5 (v := ?_) rfl (by kernel_rfl) (by kernel_rfl) (by kernel_rfl) (fun _ _ _ h => h) hF1_h.out (by rfl) (fun W' hW' => ?_) ?_; rotate_left; · (obtain ⟨⟨y0, y1, y2⟩, y3, y4, y5⟩ := box3 hW'.1; obtain ⟨⟨x0, x1, x2⟩, x3, x4, x5⟩ := box3 hW'.2; clear hW'; go_simp; first | done | with_reducible rfl)
      simp only [Act.put, List.setIfInBounds_toArray, List.set_cons_zero, List.set_cons_succ]
      refine takeH 6 (v := ?_) rfl (by kernel_rfl) (by kernel_rfl) (by kernel_rfl) (fun _ _ _ h => h) hF1_h.out (by rfl) (fun W' hW' => ?_) ?_; rotate_left; · (obtain ⟨⟨y0, y1, y2⟩, y3, y4, y5⟩ := box3 hW'.1; obtain ⟨⟨x0, x1, x2⟩, x3, x4, x5⟩ := box3 hW'.2; clear hW'; go_simp; first | done | with_reducible rfl)
      simp only [Act.put, List.setIfInBounds_toArray, List.set_cons_zero, List.set_cons_succ]
      refine' callH 7 (f := _) (args := _) rfl (by kernel_rfl) (by rfl) ?_ ?_; rotate_left 2; · (go_simp; first | done | with_reducible rfl | (constructor <;> with_reducible rfl))
      refine (hG'_h.out w1 hc1_h.out).mono ?_
      rintro e w2 ⟨rfl, hb2⟩
      replace k0_h := Lib.hid (box_below k0_h.out hb2)
      replace k1_h := Lib.hid (box_below k1_h.out hb2)
      replace k2_h := Lib.hid (box_below k2_h.out hb2)
      have hF2 := And.intro k0_h.out k1_h.out
      refine ⟨_, rfl, hF2, ?_⟩
      simp only [Act.put, List.setIfInBounds_toArray, List.set_cons_zero, List.set_cons_succ]
      have hc2 := below_trans hc1_h.out hb2 hc1_h.out.size
      have hF2_h := Lib.hid hF2
      have hb2_h := Lib.hid hb2
      have hc2_h := Lib.hid hc2
      clear hF2 hb2 hc2
      refine takeH 8 (v := ?_) rfl (by kernel_rfl) (by kernel_rfl) (by kernel_rfl) (fun _ _ _ h => h) hF2_h.out (by rfl) (fun W' hW' => ?_) ?_; rotate_left; · (skip; clear hW'; go_simp; first | done | with_reducible rfl)
      simp only [Act.put, List.setIfInBounds_toArray, List.set_cons_zero, List.set_cons_succ]
      refine takeH 9 (v := ?_) rfl (by kernel_rfl) (by kernel_rfl) (by kernel_rfl) (fun _ _ _ h => h) hF2_h.out (by rfl) (fun W' hW' => ?_) ?_; rotate_left; · (skip; clear hW'; go_simp; first | done | with_reducible rfl)
      simp only [Act.put, List.setIfInBounds_toArray, List.set_cons_zero, List.set_cons_succ]
      refine takeH 10 (v := ?_) rfl (by kernel_rfl) (by kernel_rfl) (by kernel_rfl) (fun _ _ _ h => h) hF2_h.out (by rfl) (fun W' hW' => ?_) ?_; rotate_left; · (skip; clear hW'; go_simp; first | done | with_reducible rfl)
      simp only [Act.put, List.setIfInBounds_toArray, List.set_cons_zero, List.set_cons_succ]
      refine offH 11 rfl (by kernel_rfl) (by kernel_rfl) (by kernel_rfl) (fun _ _ _ h => h) hF2_h.out (by rfl) ?_
      simp only [Act.put, List.setIfInBounds_toArray, List.set_cons_zero, List.set_cons_succ]
      refine offH 12 rfl (by kernel_rfl) (by kernel_rfl) (by kernel_rfl) (fun _ _ _ h => h) hF2_h.out (by rfl) ?_
      simp only [Act.put, List.setIfInBounds_toArray, List.set_cons_zero, List.set_cons_succ]
      refine offH 13 rfl (by kernel_rfl) (by kernel_rfl) (by kernel_rfl) (fun _ _ _ h => h) hF2_h.out (by rfl) ?_
      simp only [Act.put, List.setIfInBounds_toArray, List.set_cons_zero, List.set_cons_succ]
      refine offH 14 rfl (by kernel_rfl) (by kernel_rfl) (by kernel_rfl) (fun _ _ _ h => h) hF2_h.out (by rfl) ?_
      simp only [Act.put, List.setIfInBounds_toArray, List.set_cons_zero, List.set_cons_succ]
      refine offH 15 rfl (by kernel_rfl) (by kernel_rfl) (by kernel_rfl) (fun _ _ _ h => h) hF2_h.out (by rfl) ?_
      simp only [Act.put, List.setIfInBounds_toArray, List.set_cons_zero, List.set_cons_succ]
      refine offH 16 rfl (by kernel_rfl) (by kernel_rfl) (by kernel_rfl) (fun _ _ _ h => h) hF2_h.out (by rfl) ?_
      simp only [Act.put, List.setIfInBounds_toArray, List.set_cons_zero, List.set_cons_succ]
      refine takeH 17 (v := ?_) rfl (by kernel_rfl) (by kernel_rfl) (by kernel_rfl) (fun _ _ _ h => h) hF2_h.out (by rfl) (fun W' hW' => ?_) ?_; rotate_left; · (skip; clear hW'; go_simp; first | done | with_reducible rfl)
      simp only [Act.put, List.setIfInBounds_toArray, List.set_cons_zero, List.set_cons_succ]
      refine doneH (by kernel_rfl) ?_
      have hB2 := below_trans bW_h.out hc2_h.out bW_h.out.size
      have hB2_h := Lib.hid hB2
      clear hB2
      have hzr := box_lt k2_h.out
      obtain ⟨⟨d0, d1, d2⟩, g0, g1, g2⟩ := box3 k2_h.out
      obtain ⟨s1, s2⟩ := set3 (a := .int .i64 0) (b := .int .i64 0) (c := .slice none 0 0) k2_h.out
      have hB9 := below_keeps hB2_h.out s2 (hB2_h.out).size (fun k hk => by omega)
      have s1_h := Lib.hid s1
      have s2_h := Lib.hid s2
      have hB9_h := Lib.hid hB9
      clear s1 s2 hB9
      go_wp2_with (fail)
      refine bodyPost_ret (results_cell_tmp rfl _ _ (w.heap.size + 1 + 1) _ _ (0, 0) _ rfl s1_h.out Tryd.underlying51 rfl (by kernel_rfl)) rfl ?_
      exact ⟨_, [], rfl, OwSys.zero _ 0 0, FreshL.nil _, hB9_h.out⟩
  · have hr' : relB p s = false := by simpa using hr
    rw [hr', Bool.false_and, if_neg (by simp)] at hC0
    simp only [hr'] at hG
    have hC1 : C = ((0, 0, []), false) := hC0
    subst hC1
    clear h h' ok ok' hr hr' hC0 hT
    have hG_h := Lib.hid hG
    have hG'_h := Lib.hid hG'
    have hF_h := Lib.hid hF
    have k0_h := Lib.hid k0
    have k1_h := Lib.hid k1
    have k2_h := Lib.hid k2
    have bW_h := Lib.hid bW
    have hS_h := Lib.hid hS
    have hS'_h := Lib.hid hS'
    clear hG hG' hF k0 k1 k2 bW hS hS'
    go_enter Tryd.func51, Tryd.ntmps51
    go_upto_region 1 with (fail)
    rw [← hW]
    clear hW
    obtain ⟨⟨c0, c1, c2⟩, f0, f1, f2⟩ := box3 k0_h.out
    obtain ⟨⟨e0, e1, e2⟩, j0, j1, j2⟩ := box3 k1_h.out
    go_wp2_with (fail)
    clear c0 c1 c2 f0 f1 f2 e0 e1 e2 j0 j1 j2
    have hbd : Below W.heap.size W W.drew := below_drewN (Below.refl _ _) 1
    refine beginH (fun w' => w'.heap[w.heap.size]? = some (.cells #[.int .i64 s.1, .int .i64 s.2.1, .slice A n c] tRel) ∧ w'.heap[w.heap.size + 1]? = some (.cells #[.int .i64 t.1, .int .i64 t.2.1, .slice A' n' c'] tRel)) (by kernel_rfl) ?_
    generalize W.drew = W1 at hbd ⊢
    replace k0_h := Lib.hid (box_below k0_h.out hbd)
    replace k1_h := Lib.hid (box_below k1_h.out hbd)
    replace k2_h := Lib.hid (box_below k2_h.out hbd)
    have hF0 := And.intro k0_h.out k1_h.out
    have hF0_h := Lib.hid hF0
    have hbd_h := Lib.hid hbd
    clear hF0 hbd
    refine takeH 0 (v := ?_) rfl (by kernel_rfl) (by kernel_rfl) (by kernel_rfl) (fun _ _ _ h => h) hF0_h.out (by rfl) (fun W' hW' => ?_) ?_; rotate_left; · (obtain ⟨⟨y0, y1, y2⟩, y3, y4, y5⟩ := box3 hW'.1; obtain ⟨⟨x0, x1, x2⟩, x3, x4, x5⟩ := box3 hW'.2; clear hW'; go_simp; first | done | with_reducible rfl)
    simp only [Act.put, List.setIfInBounds_toArray, List.set_cons_zero, List.set_cons_succ]
    refine takeH 1 (v := ?_) rfl (by kernel_rfl) (by kernel_rfl) (by kernel_rfl) (fun _ _ _ h => h) hF0_h.out (by rfl) (fun W' hW' => ?_) ?_; rotate_left; · (obtain ⟨⟨y0, y1, y2⟩, y3, y4, y5⟩ := box3 hW'.1; obtain ⟨⟨x0, x1, x2⟩, x3, x4, x5⟩ := box3 hW'.2; clear hW'; go_simp; first | done | with_reducible rfl)
    simp only [Act.put, List.setIfInBounds_toArray, List.set_cons_zero, List.set_cons_succ]
    refine' callH 2 (f := _) (args := _) rfl (by kernel_rfl) (by rfl) ?_ ?_; rotate_left 2; · (go_simp; first | done | with_reducible rfl | (constructor <;> with_reducible rfl))
    refine (hG_h.out W1 hbd_h.out).mono ?_
    rintro e w1 ⟨rfl, hb1⟩
    replace k0_h := Lib.hid (box_below k0_h.out hb1)
    replace k1_h := Lib.hid (box_below k1_h.out hb1)
    replace k2_h := Lib.hid (box_below k2_h.out hb1)
    have hF1 := And.intro k0_h.out k1_h.out
    refine ⟨_, rfl, hF1, ?_⟩
    simp only [Act.put, List.setIfInBounds_toArray, List.set_cons_zero, List.set_cons_succ]
    have hc1 := below_trans hbd_h.out hb1 hbd_h.out.size
    have hF1_h := Lib.hid hF1
    have hb1_h := Lib.hid hb1
    have hc1_h := Lib.hid hc1
    clear hF1 hb1 hc1
    refine takeH 3 (v := ?_) rfl (by kernel_rfl) (by kernel_rfl) (by kernel_rfl) (fun _ _ _ h => h) hF1_h.out (by rfl) (fun W' hW' => ?_) ?_; rotate_left; · (skip; clear hW'; go_simp; first | done | with_reducible rfl)
    simp only [Act.put, List.setIfInBounds_toArray, List.set_cons_zero, List.set_cons_succ]
    refine takeH 4 (v := ?_) rfl (by kernel_rfl) (by kernel_rfl) (by kernel_rfl) (fun _ _ _ h => h) hF1_h.out (by rfl) (fun W' hW' => ?_) ?_; rotate_left; · (skip; clear hW'; go_simp; first | done | with_reducible rfl)
    simp only [Act.put, List.setIfInBounds_toArray, List.set_cons_zero, List.set_cons_succ]
    refine offH 5 rfl (by kernel_rfl) (by kernel_rfl) (by kernel_rfl) (fun _ _ _ h => h) hF1_h.out (by rfl) ?_
    simp only [Act.put, List.setIfInBounds_toArray, List.set_cons_zero, List.set_cons_succ]
    refine offH 6 rfl (by kernel_rfl) (by kernel_rfl) (by kernel_rfl) (fun _ _ _ h => h) hF1_h.out (by rfl) ?_
    simp only [Act.put, List.setIfInBounds_toArray, List.set_cons_zero, List.set_cons_succ]
    refine offH 7 rfl (by kernel_rfl) (by kernel_rfl) (by kernel_rfl) (fun _ _ _ h => h) hF1_h.out (by rfl) ?_
    simp only [Act.put, List.setIfInBounds_toArray, List.set_cons_zero, List.set_cons_succ]
    refine offH 8 rfl (by kernel_rfl) (by kernel_rfl) (by kernel_rfl) (fun _ _ _ h => h) hF1_h.out (by rfl) ?_
    simp only [Act.put, List.setIfInBounds_toArray, List.set_cons_zero, List.set_cons_succ]
    refine takeH 9 (v := ?_) rfl (by kernel_rfl) (by kernel_rfl) (by kernel_rfl) (fun _ _ _ h => h) hF1_h.out (by rfl) (fun W' hW' => ?_) ?_; rotate_left; · (skip; clear hW'; go_simp; first | done | with_reducible rfl)
    simp only [Act.put, List.setIfInBounds_toArray, List.set_cons_zero, List.set_cons_succ]
    refine takeH 10 (v := ?_) rfl (by kernel_rfl) (by kernel_rfl) (by kernel_rfl) (fun _ _ _ h => h) hF1_h.out (by rfl) (fun W' hW' => ?_) ?_; rotate_left; · (skip; clear hW'; go_simp; first | done | with_reducible rfl)
    simp only [Act.put, List.setIfInBounds_toArray, List.set_cons_zero, List.set_cons_succ]
    refine offH 11 rfl (by kernel_rfl) (by kernel_rfl) (by kernel_rfl) (fun _ _ _ h => h) hF1_h.out (by rfl) ?_
    simp only [Act.put, List.setIfInBounds_toArray, List.set_cons_zero, List.set_cons_succ]
    refine offH 12 rfl (by kernel_rfl) (by kernel_rfl) (by kernel_rfl) (fun _ _ _ h => h) hF1_h.out (by rfl) ?_
    simp only [Act.put, List.setIfInBounds_toArray, List.set_cons_zero, List.set_cons_succ]
    refine offH 13 rfl (by kernel_rfl) (by kernel_rfl) (by kernel_rfl) (fun _ _ _ h => h) hF1_h.out (by rfl) ?_
    simp only [Act.put, List.setIfInBounds_toArray, List.set_cons_zero, List.set_cons_succ]
    refine offH 14 rfl (by kernel_rfl) (by kernel_rfl) (by kernel_rfl) (fun _ _ _ h => h) hF1_h.out (by rfl) ?_
    simp only [Act.put, List.setIfInBounds_toArray, List.set_cons_zero, List.set_cons_succ]
    refine offH 15 rfl (by kernel_rfl) (by kernel_rfl) (by kernel_rfl) (fun _ _ _ h => h) hF1_h.out (by rfl) ?_
    simp only [Act.put, List.setIfInBounds_toArray, List.set_cons_zero, List.set_cons_succ]
    refine offH 16 rfl (by kernel_rfl) (by kernel_rfl) (by kernel_rfl) (fun _ _ _ h => h) hF1_h.out (by rfl) ?_
    simp only [Act.put, List.setIfInBounds_toArray, List.set_cons_zero, List.set_cons_succ]
    refine takeH 17 (v := ?_) rfl (by kernel_rfl) (by kernel_rfl) (by kernel_rfl) (fun _ _ _ h => h) hF1_h.out (by rfl) (fun W' hW' => ?_) ?_; rotate_left; · (skip; clear hW'; go_simp; first | done | with_reducible rfl)
    simp only [Act.put, List.setIfInBounds_toArray, List.set_cons_zero, List.set_cons_succ]
    refine doneH (by kernel_rfl) ?_
    have hB1 := below_trans bW_h.out hc1_h.out bW_h.out.size
    have hB1_h := Lib.hid hB1
    clear hB1
    have hzr := box_lt k2_h.out
    obtain ⟨⟨d0, d1, d2⟩, g0, g1, g2⟩ := box3 k2_h.out
    obtain ⟨s1, s2⟩ := set3 (a := .int .i64 0) (b := .int .i64 0) (c := .slice none 0 0) k2_h.out
    have hB9 := below_keeps hB1_h.out s2 (hB1_h.out).size (fun k hk => by omega)
    have s1_h := Lib.hid s1
    have s2_h := Lib.hid s2
    have hB9_h := Lib.hid hB9
    clear s1 s2 hB9
    go_wp2_with (fail)
    refine bodyPost_ret (results_cell_tmp rfl _ _ (w.heap.size + 1 + 1) _ _ (0, 0) _ rfl s1_h.out Tryd.underlying51 rfl (by kernel_rfl)) rfl ?_
    exact ⟨_, [], rfl, OwSys.zero _ 0 0, FreshL.nil _, hB9_h.out⟩
end Go.Proofs.YtpfidjegdpkhdaaDoor
