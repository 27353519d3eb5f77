/-
  THE LAW's HELPERS OVER GRAPHS: held; eq, mark, held of a graph.
-/
import Derived.Test.YtanhmljgeiajoaaGrMk
namespace Go.Proofs.Ytanhmljgeiajoaa
open Go.RowKit

set_option maxRecDepth 100000 in
set_option maxHeartbeats 2000000 in
theorem heldEdgeS_any (A : Option Addr) (c m : Nat) (l : List EHd) (L : List Eg) (k : Nat) (w : World) (h : RdE w A l) (hl : l.map egOf = marksE k L) (hm : l.length = m) (hml : m ≤ 1048576) (hb : k + cntE L ≤ 17592186044000) :
    Calls Try.prog 56 #[.slice A m c, .int .i64 k] w fun e w' => e = .returned (.int .i64 ((k + cntE L : Nat) : Int)) ∧ w = w' := by
  have hLm : L.length = m := by rw [← hm, ← marksE_length k L, ← hl, List.length_map]
  have hl_h := Lib.hid hl
  have hm_h := Lib.hid hm
  have hLm_h := Lib.hid hLm
  clear hl hm hLm
  go_enter Try.func56, Try.ntmps56
  go_wp2_with (fail)
  go_loop [1, 5] (fun q i => ∃ j : Nat, j ≤ m ∧ i = .int .i64 j ∧ q = .int .i64 ((k + cntE (L.take j) : Nat) : Int)) (fun _ i => m - (intOf i).toNat)
  case atStart => exact ⟨0, Nat.zero_le _, rfl, by simp [cntE]⟩
  case round =>
    obtain ⟨j, hj, rfl, rfl⟩ := hrel
    by_cases hlt : j < m
    · obtain ⟨ad, κ, v, B, b, s, C, d, t, rfl, hn, ⟨d0, d1, d2, d3⟩, hr1, hr2⟩ := h.at_ (j := j) (by rw [hm_h.out]; exact hlt)
      obtain ⟨e, he⟩ : ∃ e, L[j]? = some e := ⟨_, List.getElem?_eq_getElem (by rw [hLm_h.out]; exact hlt)⟩
      have hg := marksE_get (k := k) he
      rw [← hl_h.out, List.getElem?_map, hn] at hg
      simp only [Option.map_some, Option.some.injEq, egOf, Prod.mk.injEq] at hg
      obtain ⟨g0, g1, g2, g3⟩ := hg
      have hcs := cntE_take_succ he
      have hcl := cntE_take_le L (j + 1)
      obtain ⟨K, hK⟩ : ∃ K, K = k + cntE (L.take j) := ⟨_, rfl⟩
      obtain ⟨p, hp⟩ : ∃ p, p = e.2.2.1.length := ⟨_, rfl⟩
      obtain ⟨r, hr⟩ : ∃ r, r = e.2.2.2.length := ⟨_, rfl⟩
      rw [← hK] at g0 g1 g2 g3 ⊢
      rw [← hp] at g2 g3 hcs
      rw [← hr] at g3 hcs
      subst g0 g1 g2 g3
      rw [marks_length] at d2 d3
      have hC1 := heldIntS_any B b p (K + 2) w hr1 (by omega)
      have hC2 := heldIntS_any C d r (K + 2 + p) w hr2 (by omega)
      have hjI : (j : Int) < (m : Int) := by omega
      have eK2 : ((K : Int) + 1 + 1) = ((K + 2 : Nat) : Int) := by omega
      have hKb : K + 2 + p + r ≤ 17592186044000 := by omega
      have hn1 : ¬ (((K + 2 + p : Nat) : Int) < 0) := by omega
      have hn2 : ¬ (((K + 2 + p + r : Nat) : Int) < 0) := by omega
      have hsum : k + cntE (L.take (j + 1)) = K + 2 + p + r := by omega
      have hC1_h := Lib.hid hC1
      have hC2_h := Lib.hid hC2
      have hK_h := Lib.hid hK
      have hp_h := Lib.hid hp
      have hr_h := Lib.hid hr
      have eK2_h := Lib.hid eK2
      have hsum_h := Lib.hid hsum
      have he_h := Lib.hid he
      have hn_h := Lib.hid hn
      clear hC1 hC2 hK hp hr eK2 hsum he hn
      clear h hr1 hr2 hcs hcl
      go_wp2_with (fail)
      rw [eK2_h.out]
      refine (hC1_h.out).mono ?_
      rintro e w1 ⟨rfl, rfl⟩
      go_wp2_with (fail)
      refine (hC2_h.out).mono ?_
      rintro e w1 ⟨rfl, rfl⟩
      go_wp2_with (fail)
      go_round
      case rel => exact ⟨j + 1, by omega, by go_num, by rw [hsum_h.out]; go_num⟩
      case measure => simp [intOf]; omega
    · obtain rfl : m = j := by omega
      have hcn : cntE (L.take m) = cntE L := by rw [List.take_of_length_le (by rw [hLm_h.out]; exact Nat.le_refl _)]
      have hcn_h := Lib.hid hcn
      clear hcn
      clear h
      go_wp2_with (fail)
      go_ret
      exact ⟨ret_int (by rw [hcn_h.out]), rfl⟩
set_option maxRecDepth 100000 in
set_option maxHeartbeats 2000000 in
theorem eqGraph_law {v v' : Value} {g g' : Gr} {w : World} (h : RdGr w v g) (h' : RdGr w v' g') (ok : OkG g) :
    Calls Try.prog 17 #[v, v'] w fun e w' => e = .returned (.bool (decide (g = g'))) ∧ Below w.heap.size w w' := by
  obtain ⟨A, c, hs, ⟨B, b, s⟩, ⟨C, d, t⟩, rfl, e1, e2, e3, hE, hRa, hRb⟩ := h
  obtain ⟨A', c', hs', ⟨B', b', s'⟩, ⟨C', d', t'⟩, rfl, e1', e2', e3', hE', hRa', hRb'⟩ := h'
  obtain ⟨z, es, s0, t0⟩ := g
  obtain ⟨z', es', s0', t0'⟩ := g'
  have a1 : es = hs.map egOf := e1
  have a2 : s = s0 := e2
  have a3 : t = t0 := e3
  have b1 : es' = hs'.map egOf := e1'
  have b2 : s' = s0' := e2'
  have b3 : t' = t0' := e3'
  subst a1 a2 a3 b1 b2 b3
  obtain ⟨⟨ok1, ok2, ok3⟩, ok4, -⟩ := ok
  have ok1' : hs.length ≤ 1048576 := by have : (hs.map egOf).length ≤ 1048576 := ok1; simpa using this
  have ok2' : s.length ≤ 1048576 := ok2
  have ok3' : t.length ≤ 1048576 := ok3
  have hQ0 := fun (W : World) (hb : Below w.heap.size w W) => eqEdgeS_any A A' c c' hs hs' W (hE.below hb) (hE'.below hb) ok1' (fun x hx => ok4 _ (List.mem_map_of_mem hx))
  have hQ1 := fun (W : World) (hb : Below w.heap.size w W) => eqIntS_any B B' b b' s s' W (RdI.below hRa hb) (RdI.below hRa' hb) (by omega)
  have hQ2 := fun (W : World) (hb : Below w.heap.size w W) => eqIntS_any C C' d d' t t' W (RdI.below hRb hb) (RdI.below hRb' hb) (by omega)
  show Calls Try.prog _ #[.agg #[.int .i64 z, .slice A hs.length c, .slice B s.length b, .slice C t.length d], .agg #[.int .i64 z', .slice A' hs'.length c', .slice B' s'.length b', .slice C' t'.length d']] w fun e w' => e = .returned (.bool (decide (((z, hs.map egOf, s, t) : Gr) = (z', hs'.map egOf, s', t')))) ∧ Below w.heap.size w w'
  obtain ⟨D, hD⟩ : ∃ D, D = decide (((z, hs.map egOf, s, t) : Gr) = (z', hs'.map egOf, s', t')) := ⟨_, rfl⟩
  obtain ⟨D0, hD0⟩ : ∃ D, D = decide (hs.map egOf = hs'.map egOf) := ⟨_, rfl⟩
  obtain ⟨D1, hD1⟩ : ∃ D, D = decide (s = s') := ⟨_, rfl⟩
  obtain ⟨D2, hD2⟩ : ∃ D, D = decide (t = t') := ⟨_, rfl⟩
  rw [← hD]
  simp only [← hD0] at hQ0
  simp only [← hD1] at hQ1
  simp only [← hD2] at hQ2
  have hDD : D = (decide (z = z') && (D0 && (D1 && D2))) := by
    rw [hD, hD0, hD1, hD2, Bool.eq_iff_iff]; simp
  obtain ⟨n, hn⟩ : ∃ n, n = hs.length := ⟨_, rfl⟩
  obtain ⟨n', hn'⟩ : ∃ n, n = hs'.length := ⟨_, rfl⟩
  obtain ⟨p, hp⟩ : ∃ p, p = s.length := ⟨_, rfl⟩
  obtain ⟨q, hq⟩ : ∃ q, q = t.length := ⟨_, rfl⟩
  obtain ⟨p', hp'⟩ : ∃ p, p = s'.length := ⟨_, rfl⟩
  obtain ⟨q', hq'⟩ : ∃ q, q = t'.length := ⟨_, rfl⟩
  simp only [← hn, ← hn'] at hQ0
  simp only [← hp, ← hp'] at hQ1
  simp only [← hq, ← hq'] at hQ2
  rw [← hn, ← hn', ← hp, ← hq, ← hp', ← hq']
  obtain ⟨W, hW, bW, k0, k1⟩ := allocs2 w (.cells #[.int .i64 z, .slice A n c, .slice B p b, .slice C q d] tGr) (.cells #[.int .i64 z', .slice A' n' c', .slice B' p' b', .slice C' q' d'] tGr)
  obtain ⟨⟨c0, c1, c2, c3⟩, f0, f1, f2, f3⟩ := box4 k0
  obtain ⟨⟨d0, d1, d2, d3⟩, g0, g1, g2, g3⟩ := box4 k1
  clear hE hE' hRa hRa' hRb hRb' hD hD0 hD1 hD2 hn hn' hp hq hp' hq' e1 e2 e3 e1' e2' e3' ok1 ok2 ok3 ok4
  by_cases e0 : z = z'
  · have t0 : (z != z') = false := by simp [e0]
    rw [decide_eq_true e0] at hDD
    cases D0
    · obtain rfl : D = false := by rw [hDD]; rfl
      clear e0 hDD
      have hQ0_h := Lib.hid hQ0
      have hQ1_h := Lib.hid hQ1
      have hQ2_h := Lib.hid hQ2
      have k0_h := Lib.hid k0
      have k1_h := Lib.hid k1
      have bW_h := Lib.hid bW
      clear hQ0 hQ1 hQ2 k0 k1 bW
      go_enter Try.func17, Try.ntmps17
      go_upto_region 1 with (fail)
      rw [← hW]
      clear hW
      go_wp2_with (fail)
      refine (hQ0_h.out W bW_h.out).mono ?_
      rintro e w1 ⟨rfl, hb1⟩
      go_wp2_with (fail)
      go_ret
      exact ⟨rfl, below_trans bW_h.out hb1 bW_h.out.size⟩
    · cases D1
      · obtain rfl : D = false := by rw [hDD]; rfl
        clear e0 hDD
        have hQ0_h := Lib.hid hQ0
        have hQ1_h := Lib.hid hQ1
        have hQ2_h := Lib.hid hQ2
        have k0_h := Lib.hid k0
        have k1_h := Lib.hid k1
        have bW_h := Lib.hid bW
        clear hQ0 hQ1 hQ2 k0 k1 bW
        go_enter Try.func17, Try.ntmps17
        go_upto_region 1 with (fail)
        rw [← hW]
        clear hW
        go_wp2_with (fail)
        refine (hQ0_h.out W bW_h.out).mono ?_
        rintro e w1 ⟨rfl, hb1⟩
        clear c0 c1 c2 c3 f0 f1 f2 f3 d0 d1 d2 d3 g0 g1 g2 g3
        obtain ⟨⟨c0, c1, c2, c3⟩, f0, f1, f2, f3⟩ := box4 (box_below k0_h.out hb1)
        obtain ⟨⟨d0, d1, d2, d3⟩, g0, g1, g2, g3⟩ := box4 (box_below k1_h.out hb1)
        have hB1 := below_trans bW_h.out hb1 bW_h.out.size
        clear hb1
        have hB1_h := Lib.hid hB1
        clear hB1
        go_wp2_with (fail)
        refine (hQ1_h.out w1 hB1_h.out).mono ?_
        rintro e w2 ⟨rfl, hq2⟩
        have hB2 := below_trans hB1_h.out hq2.below hB1_h.out.size
        clear hq2
        have hB2_h := Lib.hid hB2
        clear hB2
        go_wp2_with (fail)
        go_ret
        exact ⟨rfl, hB2_h.out⟩
      · obtain rfl : D = D2 := by rw [hDD]; rfl
        clear e0 hDD
        have hQ0_h := Lib.hid hQ0
        have hQ1_h := Lib.hid hQ1
        have hQ2_h := Lib.hid hQ2
        have k0_h := Lib.hid k0
        have k1_h := Lib.hid k1
        have bW_h := Lib.hid bW
        clear hQ0 hQ1 hQ2 k0 k1 bW
        go_enter Try.func17, Try.ntmps17
        go_upto_region 1 with (fail)
        rw [← hW]
        clear hW
        go_wp2_with (fail)
        refine (hQ0_h.out W bW_h.out).mono ?_
        rintro e w1 ⟨rfl, hb1⟩
        clear c0 c1 c2 c3 f0 f1 f2 f3 d0 d1 d2 d3 g0 g1 g2 g3
        have k0a := box_below k0_h.out hb1
        have k1a := box_below k1_h.out hb1
        obtain ⟨⟨c0, c1, c2, c3⟩, f0, f1, f2, f3⟩ := box4 k0a
        obtain ⟨⟨d0, d1, d2, d3⟩, g0, g1, g2, g3⟩ := box4 k1a
        have hB1 := below_trans bW_h.out hb1 bW_h.out.size
        clear hb1
        have hB1_h := Lib.hid hB1
        have k0a_h := Lib.hid k0a
        have k1a_h := Lib.hid k1a
        clear hB1 k0a k1a
        go_wp2_with (fail)
        refine (hQ1_h.out w1 hB1_h.out).mono ?_
        rintro e w2 ⟨rfl, hq2⟩
        clear c0 c1 c2 c3 f0 f1 f2 f3 d0 d1 d2 d3 g0 g1 g2 g3
        obtain ⟨⟨c0, c1, c2, c3⟩, f0, f1, f2, f3⟩ := box4 (box_qt k0a_h.out hq2)
        obtain ⟨⟨d0, d1, d2, d3⟩, g0, g1, g2, g3⟩ := box4 (box_qt k1a_h.out hq2)
        have hB2 := below_trans hB1_h.out hq2.below hB1_h.out.size
        clear hq2
        have hB2_h := Lib.hid hB2
        clear hB2
        go_wp2_with (fail)
        refine (hQ2_h.out w2 hB2_h.out).mono ?_
        rintro e w3 ⟨rfl, hq3⟩
        have hB3 := below_trans hB2_h.out hq3.below hB2_h.out.size
        clear hq3
        have hB3_h := Lib.hid hB3
        clear hB3
        cases D
        · go_wp2_with (fail)
          go_ret
          exact ⟨rfl, hB3_h.out⟩
        · go_wp2_with (fail)
          go_ret
          exact ⟨rfl, hB3_h.out⟩
  · have t0 : (z != z') = true := by simp [e0]
    obtain rfl : D = false := by rw [hDD, decide_eq_false e0]; rfl
    clear e0 hDD
    have hQ0_h := Lib.hid hQ0
    have hQ1_h := Lib.hid hQ1
    have hQ2_h := Lib.hid hQ2
    have k0_h := Lib.hid k0
    have k1_h := Lib.hid k1
    have bW_h := Lib.hid bW
    clear hQ0 hQ1 hQ2 k0 k1 bW
    go_enter Try.func17, Try.ntmps17
    go_upto_region 1 with (fail)
    rw [← hW]
    clear hW
    go_wp2_with (fail)
    go_ret
    exact ⟨rfl, bW_h.out⟩
end Go.Proofs.Ytanhmljgeiajoaa
