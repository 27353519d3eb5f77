/-
  THE LAW's HELPERS OVER MATCHES: sz, to, eq.
-/
import Derived.Test.YtanhmljgeiajoaaGrEq
import Derived.Test.YtanhmljgeiajoaaMa
namespace Go.Proofs.Ytanhmljgeiajoaa
open Go.RowKit

set_option maxRecDepth 100000 in
set_option maxHeartbeats 2000000 in
theorem szMatch_law {v : Value} {m : Ma} (left : Int) {w : World} (h : RdMa w v m) (hB : BigMatch m) (h0 : 0 ≤ left) (h1 : left ≤ 1048576) :
    Calls Try.prog 25 #[v, .int .i64 left] w fun e w' => e = .returned (.int .i64 (szMa m left)) ∧ Below w.heap.size w w' := by
  obtain ⟨hl1, hl2⟩ := hB
  obtain ⟨⟨B, b, s⟩, ⟨C, d, t⟩, rfl, e2, e3, -, -⟩ := h
  obtain ⟨s', t'⟩ := m
  have e2' : s = s' := e2
  have e3' : t = t' := e3
  subst e2' e3'
  have hl1' : s.length ≤ maxLen := hl1
  have hl2' : t.length ≤ maxLen := hl2
  obtain ⟨sl, hsl⟩ : ∃ sl, sl = s.length := ⟨_, rfl⟩
  obtain ⟨tl, htl⟩ : ∃ tl, tl = t.length := ⟨_, rfl⟩
  show Calls Try.prog _ #[.agg #[.slice B s.length b, .slice C t.length d], .int .i64 left] w fun e w' => e = .returned (.int .i64 (szMa (s, t) left)) ∧ Below w.heap.size w w'
  obtain ⟨S, hS⟩ : ∃ S, S = szMa (s, t) left := ⟨_, rfl⟩
  rw [← hS]
  unfold szMa at hS
  simp only [← hsl, ← htl] at hS
  rw [← hsl] at hl1' ⊢
  rw [← htl] at hl2' ⊢
  obtain ⟨W, hW, bW, k0⟩ : ∃ W, W = w.alloc (.cells #[.slice B sl b, .slice C tl d] 43) ∧ Below w.heap.size w W ∧ W.heap[w.heap.size]? = some (.cells #[.slice B sl b, .slice C tl d] 43) := ⟨_, rfl, below_alloc _ _, heap_alloc_new _ _⟩
  have hC1 := szIntL_any B b sl left W h0 h1 hl1'
  obtain ⟨y, hy⟩ : ∃ y, y = szL left sl := ⟨_, rfl⟩
  rw [← hy] at hC1 hS
  obtain ⟨⟨c0, c1⟩, f0, f1⟩ := box2 k0
  by_cases hyn : y < 0
  · have hy1 : y = -1 := by rw [hy]; exact szL_neg (by rw [← hy]; exact hyn)
    rw [if_pos hyn] at hS
    subst hS
    subst hy1
    have hC1_h := Lib.hid hC1
    have hy_h := Lib.hid hy
    have hsl_h := Lib.hid hsl
    have htl_h := Lib.hid htl
    have bW_h := Lib.hid bW
    have k0_h := Lib.hid k0
    clear hC1 hy hsl htl bW k0
    clear hl1 hl2 e2 e3
    go_enter Try.func25, Try.ntmps25
    go_upto_region 1 with (fail)
    rw [← hW]
    clear hW
    go_wp2_with (fail)
    refine (hC1_h.out).mono ?_
    rintro e w1 ⟨rfl, rfl⟩
    go_wp2_with (fail)
    go_ret
    exact ⟨rfl, bW_h.out⟩
  · rw [if_neg hyn] at hS
    have hyx : y ≤ 1048576 := by have := szL_nn (show 0 ≤ szL left sl by rw [← hy]; omega); omega
    have hC2 := szIntL_any C d tl y W (by omega) hyx hl2'
    rw [← hS] at hC2
    by_cases hSn : S < 0
    · have hS1 : S = -1 := by rw [hS]; exact szL_neg (by rw [← hS]; exact hSn)
      subst hS1
      have hC1_h := Lib.hid hC1
      have hC2_h := Lib.hid hC2
      have hy_h := Lib.hid hy
      have hS_h := Lib.hid hS
      have hsl_h := Lib.hid hsl
      have htl_h := Lib.hid htl
      have bW_h := Lib.hid bW
      have k0_h := Lib.hid k0
      clear hC1 hC2 hy hS hsl htl bW k0
      clear hl1 hl2 e2 e3
      go_enter Try.func25, Try.ntmps25
      go_upto_region 1 with (fail)
      rw [← hW]
      clear hW
      go_wp2_with (fail)
      refine (hC1_h.out).mono ?_
      rintro e w1 ⟨rfl, rfl⟩
      go_wp2_with (fail)
      refine (hC2_h.out).mono ?_
      rintro e w1 ⟨rfl, rfl⟩
      go_wp2_with (fail)
      go_ret
      exact ⟨rfl, bW_h.out⟩
    · have hC1_h := Lib.hid hC1
      have hC2_h := Lib.hid hC2
      have hy_h := Lib.hid hy
      have hS_h := Lib.hid hS
      have hsl_h := Lib.hid hsl
      have htl_h := Lib.hid htl
      have bW_h := Lib.hid bW
      have k0_h := Lib.hid k0
      clear hC1 hC2 hy hS hsl htl bW k0
      clear hl1 hl2 e2 e3
      go_enter Try.func25, Try.ntmps25
      go_upto_region 1 with (fail)
      rw [← hW]
      clear hW
      go_wp2_with (fail)
      refine (hC1_h.out).mono ?_
      rintro e w1 ⟨rfl, rfl⟩
      go_wp2_with (fail)
      refine (hC2_h.out).mono ?_
      rintro e w1 ⟨rfl, rfl⟩
      go_wp2_with (fail)
      go_ret
      exact ⟨rfl, bW_h.out⟩
set_option maxRecDepth 100000 in
set_option maxHeartbeats 2000000 in
theorem toMatch_law {v : Value} {m : Ma} {w : World} (h : RdMa w v m) (ok : OkMa m) :
    Calls Try.prog 27 #[v] w fun e w' => ∃ v' fp, e = .returned v' ∧ OwMa w' v' m fp ∧ FreshL w.heap.size fp ∧ Below w.heap.size w w' := by
  obtain ⟨⟨B, b, s⟩, ⟨C, d, t⟩, rfl, e2, e3, hRa, hRb⟩ := h
  obtain ⟨s', t'⟩ := m
  have e2' : s = s' := e2
  have e3' : t = t' := e3
  subst e2' e3'
  obtain ⟨ok2, ok3, -⟩ := ok
  have ok2' : s.length ≤ 1048576 := ok2
  have ok3' : t.length ≤ 1048576 := ok3
  obtain ⟨p, hp⟩ : ∃ p, p = s.length := ⟨_, rfl⟩
  obtain ⟨q, hq⟩ : ∃ q, q = t.length := ⟨_, rfl⟩
  have hC1 := fun (W : World) (hb : Below w.heap.size w W) => toIntS_any B b s W (RdI.below hRa hb) (by omega)
  have hC2 := fun (W : World) (hb : Below w.heap.size w W) => toIntS_any C d t W (RdI.below hRb hb) (by omega)
  simp only [← hp] at hC1
  simp only [← hq] at hC2
  show Calls Try.prog _ #[.agg #[.slice B s.length b, .slice C t.length d]] w fun e w' => ∃ v' fp, e = .returned v' ∧ OwMa w' v' (s, t) fp ∧ FreshL w.heap.size fp ∧ Below w.heap.size w w'
  rw [← hp, ← hq]
  obtain ⟨W1, hW, bW1, j0, j1, j2'⟩ := allocs3 w (.cells #[.slice B p b, .slice C q d] 43) (.cells #[.slice none 0 0, .slice none 0 0] tMa) (.cells #[.slice none 0 0, .slice none 0 0] tMa)
  have hz1 := box_lt j2'
  obtain ⟨⟨c0, c1⟩, f0, f1⟩ := box2 j0
  clear hRa hRb e2 e3 ok2 ok3
  have hC1_h := Lib.hid hC1
  have hC2_h := Lib.hid hC2
  have hp_h := Lib.hid hp
  have hq_h := Lib.hid hq
  have j0_h := Lib.hid j0
  have j1_h := Lib.hid j1
  have j2'_h := Lib.hid j2'
  have bW1_h := Lib.hid bW1
  clear hC1 hC2 hp hq j0 j1 j2' bW1
  go_enter Try.func27, Try.ntmps27
  go_upto_region 2 with (fail)
  rw [← hW]
  clear hW
  go_wp2_with (fail)
  refine (hC1_h.out W1 bW1_h.out).mono ?_
  rintro e w5 ⟨A5, q5, rfl, hi5, hf5, hb5⟩
  rw [← hp_h.out]
  have m0 := box_below j0_h.out hb5
  have m1 := box_below j1_h.out hb5
  have m2 := box_below j2'_h.out hb5
  obtain ⟨W6, hW6⟩ : ∃ W6, W6 = w5.setCell ⟨w.heap.size + 1 + 1, 0, none⟩ (.slice A5 p q5) := ⟨_, rfl⟩
  obtain ⟨n2, s5⟩ := box_set m2 0 (.slice A5 p q5)
  rw [← hW6] at n2 s5
  have n2' : W6.heap[w.heap.size + 1 + 1]? = some (.cells #[.slice A5 p q5, .slice none 0 0] tMa) := n2
  have n0 := box_keeps m0 s5 (by omega)
  have n1 := box_keeps m1 s5 (by omega)
  have hz6 : W1.heap.size ≤ W6.heap.size := Nat.le_trans hb5.size s5.size
  have hi6 := hi5.keeps s5 (fun x hx e => by have := hf5 x hx; omega)
  have bW6 := below_keeps (below_trans bW1_h.out hb5 bW1_h.out.size) s5 (Nat.le_trans bW1_h.out.size hb5.size) (fun x hx => by omega)
  clear c0 c1 f0 f1 n2 hb5 s5 m0 m1 hi5
  obtain ⟨⟨d0, d1⟩, g0, g1⟩ := box2 m2
  have m2_h := Lib.hid m2
  have n0_h := Lib.hid n0
  have n1_h := Lib.hid n1
  have n2'_h := Lib.hid n2'
  have hi6_h := Lib.hid hi6
  have bW6_h := Lib.hid bW6
  have hf5_h := Lib.hid hf5
  clear m2 n0 n1 n2' hi6 bW6 hf5
  go_upto_region 3 with (fail)
  rw [← hW6]
  clear hW6 d0 d1 g0 g1
  obtain ⟨⟨c0, c1⟩, f0, f1⟩ := box2 n0_h.out
  go_wp2_with (fail)
  refine (hC2_h.out W6 bW6_h.out).mono ?_
  rintro e w7 ⟨A7, q7, rfl, hi7, hf7, hb7⟩
  rw [← hq_h.out]
  have o1 := box_below n1_h.out hb7
  have o2 := box_below n2'_h.out hb7
  obtain ⟨W8, hW8⟩ : ∃ W8, W8 = w7.setCell ⟨w.heap.size + 1 + 1, 1, none⟩ (.slice A7 q q7) := ⟨_, rfl⟩
  obtain ⟨r2, s7⟩ := box_set o2 1 (.slice A7 q q7)
  rw [← hW8] at r2 s7
  have r2' : W8.heap[w.heap.size + 1 + 1]? = some (.cells #[.slice A5 p q5, .slice A7 q q7] tMa) := r2
  have r1 := box_keeps o1 s7 (by omega)
  have hO7 := OwLs.two (x := (A5, q5, s)) (y := (A7, q7, t)) hi6_h.out hb7 hi7 hf7
  have hff7 : FreshL W1.heap.size (fpR [((A5, q5, s) : Hd), (A7, q7, t)]) := fun x hx => by
    rw [fpR_cons, fpR_cons] at hx
    rcases List.mem_append.1 hx with hx | hx
    · exact hf5_h.out x hx
    · rcases List.mem_append.1 hx with hx | hx
      · have := hf7 x hx; omega
      · simp [fpR] at hx
  have hO8 := hO7.keeps s7 (fun x hx e => by have := hff7 x hx; omega)
  have bW8 := below_keeps (below_trans bW6_h.out hb7 bW6_h.out.size) s7 (Nat.le_trans bW6_h.out.size hb7.size) (fun x hx => by omega)
  obtain ⟨t1, t2⟩ := set2 (a := .slice A5 p q5) (b := .slice A7 q q7) r1
  have hO9 := hO8.keeps t2 (fun x hx e => by have := hff7 x hx; omega)
  have bW9 := below_keeps bW8 t2 bW8.size (fun x hx => by omega)
  have hffw := hff7.mono bW1_h.out.size
  clear c0 c1 f0 f1 r2 hb7 s7 o1 hi7 hf7 hO7 hO8 bW8 t2 hff7
  obtain ⟨⟨d0, d1⟩, g0, g1⟩ := box2 o2
  have o2_h := Lib.hid o2
  have r1_h := Lib.hid r1
  have r2'_h := Lib.hid r2'
  have hO9_h := Lib.hid hO9
  have bW9_h := Lib.hid bW9
  have hffw_h := Lib.hid hffw
  have t1_h := Lib.hid t1
  clear o2 r1 r2' hO9 bW9 hffw t1
  go_upto_region 4 with (fail)
  rw [← hW8]
  clear hW8 d0 d1 g0 g1
  obtain ⟨⟨d0, d1⟩, g0, g1⟩ := box2 r2'_h.out
  obtain ⟨⟨c0, c1⟩, f0, f1⟩ := box2 r1_h.out
  go_wp2_with (fail)
  refine bodyPost_ret (results_cell_row rfl _ _ (w.heap.size + 1) _ _ (0, 0) _ rfl t1_h.out Try.underlying47 rfl (by kernel_rfl)) rfl ?_
  refine ⟨_, fpR [((A5, q5, s) : Hd), (A7, q7, t)], rfl, ⟨(A5, q5, s), (A7, q7, t), ?_, rfl, rfl, hO9_h.out, rfl⟩, hffw_h.out, bW9_h.out⟩
  rw [hp_h.out, hq_h.out]
set_option maxRecDepth 100000 in
set_option maxHeartbeats 2000000 in
theorem eqMatch_law {v v' : Value} {m m' : Ma} {w : World} (h : RdMa w v m) (h' : RdMa w v' m') (ok : OkMa m) :
    Calls Try.prog 29 #[v, v'] w fun e w' => e = .returned (.bool (decide (m = m'))) ∧ Below w.heap.size w w' := by
  obtain ⟨⟨B, b, s⟩, ⟨C, d, t⟩, rfl, e2, e3, hRa, hRb⟩ := h
  obtain ⟨⟨B', b', s'⟩, ⟨C', d', t'⟩, rfl, e2', e3', hRa', hRb'⟩ := h'
  obtain ⟨s0, t0⟩ := m
  obtain ⟨s0', t0'⟩ := m'
  have a2 : s = s0 := e2
  have a3 : t = t0 := e3
  have b2 : s' = s0' := e2'
  have b3 : t' = t0' := e3'
  subst a2 a3 b2 b3
  obtain ⟨ok2, ok3, -⟩ := ok
  have ok2' : s.length ≤ 1048576 := ok2
  have ok3' : t.length ≤ 1048576 := ok3
  have hQ1 := fun (W : World) (hb : Below w.heap.size w W) => eqIntS_any B B' b b' s s' W (RdI.below hRa hb) (RdI.below hRa' hb) (by omega)
  have hQ2 := fun (W : World) (hb : Below w.heap.size w W) => eqIntS_any C C' d d' t t' W (RdI.below hRb hb) (RdI.below hRb' hb) (by omega)
  show Calls Try.prog _ #[.agg #[.slice B s.length b, .slice C t.length d], .agg #[.slice B' s'.length b', .slice C' t'.length d']] w fun e w' => e = .returned (.bool (decide (((s, t) : Ma) = (s', t')))) ∧ Below w.heap.size w w'
  obtain ⟨D, hD⟩ : ∃ D, D = decide (((s, t) : Ma) = (s', t')) := ⟨_, rfl⟩
  obtain ⟨D1, hD1⟩ : ∃ D, D = decide (s = s') := ⟨_, rfl⟩
  obtain ⟨D2, hD2⟩ : ∃ D, D = decide (t = t') := ⟨_, rfl⟩
  rw [← hD]
  simp only [← hD1] at hQ1
  simp only [← hD2] at hQ2
  have hDD : D = (D1 && D2) := by
    rw [hD, hD1, hD2, Bool.eq_iff_iff]; simp
  obtain ⟨p, hp⟩ : ∃ p, p = s.length := ⟨_, rfl⟩
  obtain ⟨q, hq⟩ : ∃ q, q = t.length := ⟨_, rfl⟩
  obtain ⟨p', hp'⟩ : ∃ p, p = s'.length := ⟨_, rfl⟩
  obtain ⟨q', hq'⟩ : ∃ q, q = t'.length := ⟨_, rfl⟩
  simp only [← hp, ← hp'] at hQ1
  simp only [← hq, ← hq'] at hQ2
  rw [← hp, ← hq, ← hp', ← hq']
  obtain ⟨W, hW, bW, k0, k1⟩ := allocs2 w (.cells #[.slice B p b, .slice C q d] tMa) (.cells #[.slice B' p' b', .slice C' q' d'] tMa)
  obtain ⟨⟨c0, c1⟩, f0, f1⟩ := box2 k0
  obtain ⟨⟨d0, d1⟩, g0, g1⟩ := box2 k1
  clear hRa hRa' hRb hRb' hD hD1 hD2 hp hq hp' hq' e2 e3 e2' e3' ok2 ok3
  cases D1
  · obtain rfl : D = false := by rw [hDD]; rfl
    clear hDD
    have hQ1_h := Lib.hid hQ1
    have hQ2_h := Lib.hid hQ2
    have k0_h := Lib.hid k0
    have k1_h := Lib.hid k1
    have bW_h := Lib.hid bW
    clear hQ1 hQ2 k0 k1 bW
    go_enter Try.func29, Try.ntmps29
    go_upto_region 1 with (fail)
    rw [← hW]
    clear hW
    go_wp2_with (fail)
    refine (hQ1_h.out W bW_h.out).mono ?_
    rintro e w2 ⟨rfl, hq2⟩
    have hB2 := below_trans bW_h.out hq2.below bW_h.out.size
    clear hq2
    have hB2_h := Lib.hid hB2
    clear hB2
    go_wp2_with (fail)
    go_ret
    exact ⟨rfl, hB2_h.out⟩
  · obtain rfl : D = D2 := by rw [hDD]; rfl
    clear hDD
    have hQ1_h := Lib.hid hQ1
    have hQ2_h := Lib.hid hQ2
    have k0_h := Lib.hid k0
    have k1_h := Lib.hid k1
    have bW_h := Lib.hid bW
    clear hQ1 hQ2 k0 k1 bW
    go_enter Try.func29, Try.ntmps29
    go_upto_region 1 with (fail)
    rw [← hW]
    clear hW
    go_wp2_with (fail)
    refine (hQ1_h.out W bW_h.out).mono ?_
    rintro e w2 ⟨rfl, hq2⟩
    clear c0 c1 f0 f1 d0 d1 g0 g1
    obtain ⟨⟨c0, c1⟩, f0, f1⟩ := box2 (box_qt k0_h.out hq2)
    obtain ⟨⟨d0, d1⟩, g0, g1⟩ := box2 (box_qt k1_h.out hq2)
    have hB2 := below_trans bW_h.out hq2.below bW_h.out.size
    clear hq2
    have hB2_h := Lib.hid hB2
    clear hB2
    go_wp2_with (fail)
    refine (hQ2_h.out w2 hB2_h.out).mono ?_
    rintro e w3 ⟨rfl, hq3⟩
    have hB3 := below_trans hB2_h.out hq3.below hB2_h.out.size
    clear hq3
    have hB3_h := Lib.hid hB3
    clear hB3
    cases D
    · go_wp2_with (fail)
      go_ret
      exact ⟨rfl, hB3_h.out⟩
    · go_wp2_with (fail)
      go_ret
      exact ⟨rfl, hB3_h.out⟩
end Go.Proofs.Ytanhmljgeiajoaa
