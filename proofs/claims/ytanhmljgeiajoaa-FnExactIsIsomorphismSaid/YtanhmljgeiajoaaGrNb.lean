/-
  THE WALKS: slices.EqualFunc of edges, impl.equalGraphs.
-/
import Derived.Test.YtanhmljgeiajoaaGrNa
namespace Go.Proofs.Ytanhmljgeiajoaa
open Go.RowKit

set_option maxRecDepth 100000 in
set_option maxHeartbeats 4000000 in
theorem edgesEqual_any (A B : Option Addr) (c d m : Nat) (hs gs : List EHd) (L M : List Eg) (w : World) (ha : RdE w A hs) (hb : RdE w B gs) (ea : L = hs.map egOf) (eb : M = gs.map egOf) (hla : L.length = m) (hlb : M.length = m) (hm : m ≤ 1048576) (hL : ∀ e, e ∈ L → e.2.2.1.length ≤ 1048576 ∧ e.2.2.2.length ≤ 1048576) :
    Calls Try.prog 105 #[.slice A m c, .slice B m d, .func (.func 103) #[] #[]] w fun e w' => e = .returned (.bool (decide (L = M))) ∧ Below w.heap.size w w' := by
  obtain ⟨T, hT⟩ : ∃ T, T = decide (L = M) := ⟨_, rfl⟩
  rw [← hT]
  have h1 : hs.length = m := by rw [← hla, ea, List.length_map]
  have h2 : gs.length = m := by rw [← hlb, eb, List.length_map]
  have ea_h := Lib.hid ea
  have eb_h := Lib.hid eb
  have hT_h := Lib.hid hT
  have hL_h := Lib.hid hL
  have h1_h := Lib.hid h1
  have h2_h := Lib.hid h2
  have hla_h := Lib.hid hla
  have hlb_h := Lib.hid hlb
  clear ea eb hT hL h1 h2 hla hlb
  go_enter Try.func105, Try.ntmps105
  go_wp2_with (fail)
  go_loopw [17] (fun i wr => ∃ k : Nat, k ≤ m ∧ i = .int .i64 k ∧ L.take k = M.take k ∧ Below w.heap.size w wr) (fun i _ => m - (intOf i).toNat)
  case atStart => exact ⟨0, Nat.zero_le _, rfl, by simp, Below.refl _ _⟩
  case round =>
    obtain ⟨k, hk, rfl, htk, hB⟩ := hrel
    obtain ⟨wo, rfl⟩ : ∃ x, x = wr := ⟨_, rfl⟩
    by_cases hlt : k < m
    case neg =>
      obtain rfl : m = k := by omega
      have ht : T = true := by
        rw [hT_h.out]
        rw [List.take_of_length_le (Nat.le_of_eq hla_h.out), List.take_of_length_le (Nat.le_of_eq hlb_h.out)] at htk
        exact decide_eq_true htk
      subst ht
      have htk_h := Lib.hid htk
      have hB_h := Lib.hid hB
      clear htk hB
      go_wp2_with (fail)
      go_ret
      exact ⟨rfl, hB_h.out⟩
    obtain ⟨ad, κ, vv, B1, b1, s1, C1, b2, t1, rfl, hn, ⟨d0, d1, d2, d3⟩, hr1, hr2⟩ := (ha.below hB).at_ (j := k) (by rw [h1_h.out]; exact hlt)
    obtain ⟨ad3, κ', vv', B3, b3, s3, C3, b4, t3, rfl, hn3, ⟨y0, y1, y2, y3⟩, hr3, hr4⟩ := (hb.below hB).at_ (j := k) (by rw [h2_h.out]; exact hlt)
    have hek : L[k]? = some (κ, vv, s1, t1) := by rw [ea_h.out, List.getElem?_map, hn]; rfl
    have hem : M[k]? = some (κ', vv', s3, t3) := by rw [eb_h.out, List.getElem?_map, hn3]; rfl
    have hln := hL_h.out _ (List.mem_of_getElem? hek)
    have hkI : (k : Int) < (m : Int) := by omega
    obtain ⟨W6, hW6, bW6, k6, k7⟩ := allocs2 wo (.cells #[.int .i64 κ, .int .i64 vv, .slice B1 s1.length b1, .slice C1 t1.length b2] tEd) (.cells #[.int .i64 κ', .int .i64 vv', .slice B3 s3.length b3, .slice C3 t3.length b4] tEd)
    have hQ := equalEdges_any κ vv B1 C1 b1 b2 s1 t1 κ' vv' B3 C3 b3 b4 s3 t3 W6 (hr1.below bW6) (hr2.below bW6) (hr3.below bW6) (hr4.below bW6) hln.1 hln.2
    obtain ⟨E, hE⟩ : ∃ E, E = decide (((κ, vv, s1, t1) : Eg) = (κ', vv', s3, t3)) := ⟨_, rfl⟩
    rw [← hE] at hQ
    have hyes : E = true → L.take (k + 1) = M.take (k + 1) := fun hh => by
      have := of_decide_eq_true (hE.symm.trans hh)
      rw [List.take_add_one, List.take_add_one, hek, hem, htk, this]
    have hnot : E = false → T = false := fun hh => by
      rw [hT_h.out]
      refine decide_eq_false fun e => ?_
      have := of_decide_eq_false (hE.symm.trans hh)
      rw [e, hem] at hek
      exact this (Option.some.inj hek).symm
    have hB6 := below_trans hB bW6 hB.size
    obtain ⟨p1, hp1⟩ : ∃ p1, p1 = s1.length := ⟨_, rfl⟩
    obtain ⟨r1, hr1'⟩ : ∃ r1, r1 = t1.length := ⟨_, rfl⟩
    obtain ⟨p3, hp3⟩ : ∃ p1, p1 = s3.length := ⟨_, rfl⟩
    obtain ⟨r3, hr3'⟩ : ∃ r1, r1 = t3.length := ⟨_, rfl⟩
    rw [← hp1, ← hp3, ← hr1', ← hr3'] at hQ
    rw [← hp1, ← hp3, ← hr1', ← hr3'] at hW6
    rw [← hp1, ← hr1'] at k6
    rw [← hp3, ← hr3'] at k7
    rw [← hp1] at d2
    rw [← hr1'] at d3
    rw [← hp3] at y2
    rw [← hr3'] at y3
    obtain ⟨⟨x0, x1, x2, x3⟩, x4, x5, x6, x7⟩ := box4 k6
    obtain ⟨⟨z0, z1, z2, z3⟩, z4, z5, z6, z7⟩ := box4 k7
    have bA := below_alloc wo (.cells #[.int .i64 κ, .int .i64 vv, .slice B1 p1 b1, .slice C1 r1 b2] tEd)
    have y0 := cell_below y0 bA
    have y1 := cell_below y1 bA
    have y2 := cell_below y2 bA
    have y3 := cell_below y3 bA
    clear hn hn3 hr1 hr2 hr3 hr4 hek hem hln hE hp1 hr1' hp3 hr3' htk hB bA k6 k7 bW6
    have hQ_h := Lib.hid hQ
    have hyes_h := Lib.hid hyes
    have hnot_h := Lib.hid hnot
    have hB6_h := Lib.hid hB6
    clear hQ hyes hnot hB6
    go_upto_region 7 with (fail)
    rw [← hW6]
    clear hW6
    go_wp2_with (fail)
    refine (hQ_h.out).mono ?_
    rintro e w7 ⟨rfl, hb7⟩
    have hB7 := below_trans hB6_h.out hb7 hB6_h.out.size
    clear hb7
    cases E
    case false =>
      obtain rfl : T = false := hnot_h.out rfl
      have hB7_h := Lib.hid hB7
      clear hB7
      go_wp2_with (fail)
      go_ret
      exact ⟨rfl, hB7_h.out⟩
    case true =>
      have htk := hyes_h.out rfl
      have hB7_h := Lib.hid hB7
      have htk_h := Lib.hid htk
      clear hB7 htk
      go_wp2_with (fail)
      go_roundw
      case rel => exact ⟨k + 1, by omega, by go_num, htk_h.out, hB7_h.out⟩
      case measure => simp [intOf]; omega
set_option maxRecDepth 100000 in
set_option maxHeartbeats 4000000 in
theorem edgesLen_any (A B : Option Addr) (c d m n : Nat) (fv : Value) (w : World) (hmn : ¬ m = n) (hm : m ≤ 1048576) (hn : n ≤ 1048576) :
    Calls Try.prog 105 #[.slice A m c, .slice B n d, fv] w fun e w' => e = .returned (.bool false) ∧ Below w.heap.size w w' := by
  have hI : ¬ (m : Int) = (n : Int) := by omega
  go_enter Try.func105, Try.ntmps105
  go_wp2_with (fail)
  go_ret
  exact ⟨rfl, Below.refl _ _⟩

set_option maxRecDepth 100000 in
set_option maxHeartbeats 4000000 in
theorem equalGraphs_any {v v' : Value} {g g' : Gr} (w : World) (h : RdGr w v g) (h' : RdGr w v' g') (ok : OkG g) (ok' : OkG g') :
    Calls Try.prog 64 #[v, v'] w fun e w' => e = .returned (.bool (decide (g = g'))) ∧ Below w.heap.size w w' := by
  obtain ⟨D, hD⟩ : ∃ D, D = decide (g = g') := ⟨_, rfl⟩
  rw [← hD]
  obtain ⟨A, c, hs, ⟨B, b, s⟩, ⟨C, d, t⟩, rfl, e1, e2, e3, hE, hRa, hRb⟩ := h
  obtain ⟨A', c', hs', ⟨B', b', s'⟩, ⟨C', d', t'⟩, rfl, e1', e2', e3', hE', hRa', hRb'⟩ := h'
  obtain ⟨z, L, s0, t0⟩ := g
  obtain ⟨z', L', s0', t0'⟩ := g'
  have a1 : L = hs.map egOf := e1
  have a2 : s = s0 := e2
  have a3 : t = t0 := e3
  have a1' : L' = hs'.map egOf := e1'
  have a2' : s' = s0' := e2'
  have a3' : t' = t0' := e3'
  subst a2 a3 a2' a3'
  have hRs : RdI w B s := hRa
  have hRt : RdI w C t := hRb
  have hRs' : RdI w B' s' := hRa'
  have hRt' : RdI w C' t' := hRb'
  obtain ⟨E1, hE1⟩ : ∃ E, E = decide (s = s') := ⟨_, rfl⟩
  obtain ⟨E2, hE2⟩ : ∃ E, E = decide (t = t') := ⟨_, rfl⟩
  obtain ⟨E3, hE3⟩ : ∃ E, E = decide (L = L') := ⟨_, rfl⟩
  have hDD : D = (decide (z = z') && (E1 && (E2 && E3))) := by
    rw [hD, hE1, hE2, hE3, Bool.eq_iff_iff]
    simp only [Prod.mk.injEq, decide_eq_true_eq, Bool.and_eq_true]
    exact ⟨fun ⟨q1, q2, q3, q4⟩ => ⟨q1, q3, q4, q2⟩, fun ⟨q1, q3, q4, q2⟩ => ⟨q1, q2, q3, q4⟩⟩
  have hLl : L.length = hs.length := by rw [a1, List.length_map]
  have hLl' : L'.length = hs'.length := by rw [a1', List.length_map]
  have hlen1 : L.length ≤ 1048576 := ok.1.1
  have hlen2 : L'.length ≤ 1048576 := ok'.1.1
  have ls : s.length ≤ 1048576 := ok.1.2.1
  have lt : t.length ≤ 1048576 := ok.1.2.2
  have hlE : ∀ x, x ∈ L → x.2.2.1.length ≤ 1048576 ∧ x.2.2.2.length ≤ 1048576 := ok.2.1
  show Calls Try.prog _ #[.agg #[.int .i64 z, .slice A hs.length c, .slice B s.length b, .slice C t.length d], .agg #[.int .i64 z', .slice A' hs'.length c', .slice B' s'.length b', .slice C' t'.length d']] w _
  have hS1 := fun (W : World) (hb : Below w.heap.size w W) => slicesEqual_any B B' b b' s s' W (hRs.below hb) (hRs'.below hb) (by omega)
  have hS2 := fun (W : World) (hb : Below w.heap.size w W) => slicesEqual_any C C' d d' t t' W (hRt.below hb) (hRt'.below hb) (by omega)
  have hS3 : ∀ (W : World), Below w.heap.size w W → Calls Try.prog 105 #[.slice A hs.length c, .slice A' hs'.length c', .func (.func 103) #[] #[]] W fun e w' => e = .returned (.bool E3) ∧ Below W.heap.size W w' := fun W hb => by
    by_cases hmn : hs.length = hs'.length
    · have := edgesEqual_any A A' c c' hs.length hs hs' L L' W (hE.below hb) (hE'.below hb) a1 a1' hLl (hLl'.trans hmn.symm) (by omega) hlE
      rw [← hE3] at this
      rw [← hmn]
      exact this
    · have he : E3 = false := by rw [hE3]; exact decide_eq_false fun e => hmn (by rw [← hLl, ← hLl', e])
      rw [he]
      exact edgesLen_any A A' c c' hs.length hs'.length _ W hmn (by omega) (by omega)
  obtain ⟨p, hp⟩ : ∃ p, p = s.length := ⟨_, rfl⟩
  obtain ⟨r, hr⟩ : ∃ p, p = t.length := ⟨_, rfl⟩
  obtain ⟨p', hp'⟩ : ∃ p, p = s'.length := ⟨_, rfl⟩
  obtain ⟨r', hr'⟩ : ∃ p, p = t'.length := ⟨_, rfl⟩
  obtain ⟨m, hm⟩ : ∃ p, p = hs.length := ⟨_, rfl⟩
  obtain ⟨m', hm'⟩ : ∃ p, p = hs'.length := ⟨_, rfl⟩
  simp only [← hp, ← hp', ← hE1] at hS1
  simp only [← hr, ← hr', ← hE2] at hS2
  simp only [← hm, ← hm'] at hS3
  rw [← hp, ← hr, ← hp', ← hr', ← hm, ← hm']
  obtain ⟨W, hW, bW, k0, k1⟩ := allocs2 w (.cells #[.int .i64 z, .slice A m c, .slice B p b, .slice C r d] tGr) (.cells #[.int .i64 z', .slice A' m' c', .slice B' p' b', .slice C' r' d'] tGr)
  obtain ⟨⟨c0, c1, c2, c3⟩, f0, f1, f2, f3⟩ := box4 k0
  obtain ⟨⟨d0, d1, d2, d3⟩, g0, g1, g2, g3⟩ := box4 k1
  clear hD hE1 hE2 hE3 e1 e2 e3 e1' e2' e3' hE hE' hRa hRb hRa' hRb' hRs hRt hRs' hRt' a1 a1' hLl hLl' hlen1 hlen2 ls lt hlE ok ok' hp hr hp' hr' hm hm'
  have hS1_h := Lib.hid hS1
  have hS2_h := Lib.hid hS2
  have hS3_h := Lib.hid hS3
  have bW_h := Lib.hid bW
  have k0_h := Lib.hid k0
  have k1_h := Lib.hid k1
  have hDD_h := Lib.hid hDD
  clear hS1 hS2 hS3 bW k0 k1 hDD
  by_cases hk : z = z'
  case neg =>
    have hbq : (z == z') = false := by rw [beq_eq_false_iff_ne]; exact hk
    obtain rfl : D = false := by rw [hDD_h.out, decide_eq_false hk]; rfl
    go_enter Try.func64, Try.ntmps64
    go_upto_region 1 with (fail)
    rw [← hW]
    clear hW
    go_wp2_with (fail)
    go_ret
    exact ⟨rfl, bW_h.out⟩
  subst hk
  have hbq : (z == z) = true := by simp
  have hDE : D = (E1 && (E2 && E3)) := by rw [hDD_h.out]; simp
  have hDE_h := Lib.hid hDE
  clear hDE
  go_enter Try.func64, Try.ntmps64
  go_upto_region 1 with (fail)
  rw [← hW]
  clear hW
  go_wp2_with (fail)
  refine ((hS1_h.out _ bW_h.out)).mono ?_
  rintro e w1 ⟨rfl, hq1⟩
  have hb1 : Below W.heap.size W w1 := Qt.below hq1
  have hB1 := below_trans bW_h.out hb1 bW_h.out.size
  have k01 := box_below k0_h.out hb1
  have k11 := box_below k1_h.out hb1
  clear c0 c1 c2 c3 f0 f1 f2 f3 d0 d1 d2 d3 g0 g1 g2 g3 hq1 hb1
  obtain ⟨⟨c0, c1, c2, c3⟩, f0, f1, f2, f3⟩ := box4 k01
  obtain ⟨⟨d0, d1, d2, d3⟩, g0, g1, g2, g3⟩ := box4 k11
  cases E1
  case false =>
    obtain rfl : D = false := hDE_h.out
    have hB1_h := Lib.hid hB1
    clear hB1
    go_wp2_with (fail)
    go_ret
    exact ⟨rfl, hB1_h.out⟩
  have hD2 : D = (E2 && E3) := hDE_h.out.trans (Bool.true_and _)
  have hB1_h := Lib.hid hB1
  have k01_h := Lib.hid k01
  have k11_h := Lib.hid k11
  have hD2_h := Lib.hid hD2
  clear hB1 k01 k11 hD2
  go_wp2_with (fail)
  refine ((hS2_h.out _ hB1_h.out)).mono ?_
  rintro e w2 ⟨rfl, hq2⟩
  have hb2 : Below w1.heap.size w1 w2 := Qt.below hq2
  have hB2 := below_trans hB1_h.out hb2 hB1_h.out.size
  have k02 := box_below k01_h.out hb2
  have k12 := box_below k11_h.out hb2
  clear c0 c1 c2 c3 f0 f1 f2 f3 d0 d1 d2 d3 g0 g1 g2 g3 hq2 hb2
  obtain ⟨⟨c0, c1, c2, c3⟩, f0, f1, f2, f3⟩ := box4 k02
  obtain ⟨⟨d0, d1, d2, d3⟩, g0, g1, g2, g3⟩ := box4 k12
  cases E2
  case false =>
    obtain rfl : D = false := hD2_h.out
    have hB2_h := Lib.hid hB2
    have k02_h := Lib.hid k02
    have k12_h := Lib.hid k12
    clear hB2 k02 k12
    go_wp2_with (fail)
    go_ret
    exact ⟨rfl, hB2_h.out⟩
  obtain rfl : D = E3 := hD2_h.out.trans (Bool.true_and _)
  have hB2_h := Lib.hid hB2
  have k02_h := Lib.hid k02
  have k12_h := Lib.hid k12
  clear hB2 k02 k12
  go_wp2_with (fail)
  refine ((hS3_h.out _ hB2_h.out)).mono ?_
  rintro e w3 ⟨rfl, hb3⟩
  have hB3 := below_trans hB2_h.out hb3 hB2_h.out.size
  clear hb3
  have hB3_h := Lib.hid hB3
  clear hB3
  go_wp2_with (fail)
  go_ret
  exact ⟨rfl, hB3_h.out⟩
end Go.Proofs.Ytanhmljgeiajoaa
