/-
  THE WALK: impl.equalEdges.

  THE WALK: slices.Equal of ints (as in XSame).
-/
import Derived.Test.YtanhmljgeiajoaaGrMo
namespace Go.Proofs.Ytanhmljgeiajoaa
open Go.RowKit

set_option maxHeartbeats 400000 in
theorem slicesEqual_any (A B : Option Addr) (c d : Nat) (l m : List Int) (w : World) (ha : RdI w A l) (hb : RdI w B m) (hl : l.length ≤ 17592186044416) :
    Calls Try.prog 81 #[.slice A l.length c, .slice B m.length d] w fun e w' => e = .returned (.bool (decide (l = m))) ∧ Qt w w' := by
  by_cases hlen : l.length = m.length
  · have h0 : ((l.length : Int) != (m.length : Int)) = false := by rw [hlen]; simp
    go_enter Try.func81, Try.ntmps81
    go_wp2
    go_loopw [13] (fun i wr => ∃ k n : Nat, k ≤ l.length ∧ i = .int .i64 k ∧ l.take k = m.take k ∧ wr = w.drewN n)
      (fun i _ => l.length - (intOf i).toNat)
    case atStart => exact ⟨0, 0, Nat.zero_le _, rfl, by simp, rfl⟩
    case round =>
      obtain ⟨k, n, hk, rfl, htk, rfl⟩ := hrel
      by_cases hlt : k < l.length
      · obtain ⟨ad, x, rfl, hx, hc⟩ := ha.at_ hlt
        obtain ⟨ad', y, rfl, hy, hc'⟩ := hb.at_ (j := k) (by omega)
        have hlt2 : (k : Int) < (m.length : Int) := by omega
        have HT := Lib.hid htk
        have HL := Lib.hid hlen
        have HX := Lib.hid hx
        have HY := Lib.hid hy
        clear htk hlen hx hy ha hb h0
        go_wp2
        go_quiet (fail)
        go_wp2
        · have hne : (x != y) = true := by assumption
          go_ret
          refine ⟨ret_bool ?_, _, World.drewN_drewN _ _ _⟩
          have : ¬ l = m := by
            intro e
            have h1 := HX.out; have h2 := HY.out
            rw [e, h2] at h1
            simp at hne; exact hne (Option.some.inj h1).symm
          simp [this]
        · have heq : (x != y) = false := by assumption
          go_roundw
          case rel =>
            refine ⟨k + 1, _, by omega, by go_num, ?_, rfl⟩
            have e : x = y := by simpa using heq
            rw [List.take_add_one, List.take_add_one, HT.out, HX.out, HY.out, e]
          case measure => simp [intOf]; omega
      · obtain rfl : k = l.length := by omega
        have HT := Lib.hid htk
        clear htk
        go_wp2
        go_ret
        refine ⟨ret_bool ?_, _, rfl⟩
        have := HT.out
        rw [List.take_of_length_le (Nat.le_refl _), List.take_of_length_le (by omega)] at this
        simp [this]
  · have h0 : ((l.length : Int) != (m.length : Int)) = true := by simp; omega
    go_enter Try.func81, Try.ntmps81
    go_wp2
    go_ret
    refine ⟨ret_bool ?_, 0, rfl⟩
    have : ¬ l = m := fun e => hlen (by rw [e])
    simp [this]
end Go.Proofs.Ytanhmljgeiajoaa
namespace Go.Proofs.Ytanhmljgeiajoaa
open Go.RowKit

set_option maxRecDepth 100000 in
set_option maxHeartbeats 4000000 in
theorem equalEdges_any (k v : Int) (B C : Option Addr) (b c : Nat) (l m : List Int) (k' v' : Int) (B' C' : Option Addr) (b' c' : Nat) (l' m' : List Int) (w : World) (h1 : RdI w B l) (h2 : RdI w C m) (h1' : RdI w B' l') (h2' : RdI w C' m') (hl : l.length ≤ 1048576) (hm : m.length ≤ 1048576) :
    Calls Try.prog 103 #[.agg #[.int .i64 k, .int .i64 v, .slice B l.length b, .slice C m.length c], .agg #[.int .i64 k', .int .i64 v', .slice B' l'.length b', .slice C' m'.length c']] w fun e w' => e = .returned (.bool (decide (((k, v, l, m) : Eg) = (k', v', l', m')))) ∧ Below w.heap.size w w' := by
  obtain ⟨D, hD⟩ : ∃ D, D = decide (((k, v, l, m) : Eg) = (k', v', l', m')) := ⟨_, rfl⟩
  rw [← hD]
  obtain ⟨E1, hE1⟩ : ∃ E, E = decide (l = l') := ⟨_, rfl⟩
  obtain ⟨E2, hE2⟩ : ∃ E, E = decide (m = m') := ⟨_, rfl⟩
  have hDD : D = (decide (k = k') && (decide (v = v') && (E1 && E2))) := by
    rw [hD, hE1, hE2, Bool.eq_iff_iff]
    simp
  have hS1 := fun (W : World) (hb : Below w.heap.size w W) => slicesEqual_any B B' b b' l l' W (h1.below hb) (h1'.below hb) (by omega)
  have hS2 := fun (W : World) (hb : Below w.heap.size w W) => slicesEqual_any C C' c c' m m' W (h2.below hb) (h2'.below hb) (by omega)
  obtain ⟨p, hp⟩ : ∃ p, p = l.length := ⟨_, rfl⟩
  obtain ⟨q, hq⟩ : ∃ p, p = m.length := ⟨_, rfl⟩
  obtain ⟨p', hp'⟩ : ∃ p, p = l'.length := ⟨_, rfl⟩
  obtain ⟨q', hq'⟩ : ∃ p, p = m'.length := ⟨_, rfl⟩
  simp only [← hp, ← hp', ← hE1] at hS1
  simp only [← hq, ← hq', ← hE2] at hS2
  rw [← hp, ← hq, ← hp', ← hq']
  obtain ⟨W, hW, bW, k0, k1⟩ := allocs2 w (.cells #[.int .i64 k, .int .i64 v, .slice B p b, .slice C q c] tEd) (.cells #[.int .i64 k', .int .i64 v', .slice B' p' b', .slice C' q' c'] tEd)
  obtain ⟨⟨c0, c1, c2, c3⟩, f0, f1, f2, f3⟩ := box4 k0
  obtain ⟨⟨d0, d1, d2, d3⟩, g0, g1, g2, g3⟩ := box4 k1
  clear hD hE1 hE2 h1 h2 h1' h2' hl hm hp hq hp' hq'
  have hS1_h := Lib.hid hS1
  have hS2_h := Lib.hid hS2
  have bW_h := Lib.hid bW
  have k0_h := Lib.hid k0
  have k1_h := Lib.hid k1
  have hDD_h := Lib.hid hDD
  clear hS1 hS2 bW k0 k1 hDD
  by_cases hk : k = k'
  case neg =>
    have hbq : (k == k') = false := by rw [beq_eq_false_iff_ne]; exact hk
    obtain rfl : D = false := by rw [hDD_h.out, decide_eq_false hk]; rfl
    go_enter Try.func103, Try.ntmps103
    go_upto_region 1 with (fail)
    rw [← hW]
    clear hW
    go_wp2_with (fail)
    go_ret
    exact ⟨rfl, bW_h.out⟩
  subst hk
  by_cases hv : v = v'
  case neg =>
    have hbq : (v == v') = false := by rw [beq_eq_false_iff_ne]; exact hv
    obtain rfl : D = false := by rw [hDD_h.out, decide_eq_false hv]; simp
    go_enter Try.func103, Try.ntmps103
    go_upto_region 1 with (fail)
    rw [← hW]
    clear hW
    go_wp2_with (fail)
    go_ret
    exact ⟨rfl, bW_h.out⟩
  subst hv
  have hDE : D = (E1 && E2) := by rw [hDD_h.out]; simp
  have hDE_h := Lib.hid hDE
  clear hDE
  go_enter Try.func103, Try.ntmps103
  go_upto_region 1 with (fail)
  rw [← hW]
  clear hW
  go_wp2_with (fail)
  refine ((hS1_h.out _ bW_h.out)).mono ?_
  rintro e w1 ⟨rfl, hq1⟩
  have hb1 : Below W.heap.size W w1 := Qt.below hq1
  have hB1 := below_trans bW_h.out hb1 bW_h.out.size
  have k01 := box_below k0_h.out hb1
  have k11 := box_below k1_h.out hb1
  clear c0 c1 c2 c3 f0 f1 f2 f3 d0 d1 d2 d3 g0 g1 g2 g3 hq1
  obtain ⟨⟨c0, c1, c2, c3⟩, f0, f1, f2, f3⟩ := box4 k01
  obtain ⟨⟨d0, d1, d2, d3⟩, g0, g1, g2, g3⟩ := box4 k11
  clear k01 k11 hb1
  cases E1
  case false =>
    obtain rfl : D = false := hDE_h.out
    have hB1_h := Lib.hid hB1
    clear hB1
    go_wp2_with (fail)
    go_ret
    exact ⟨rfl, hB1_h.out⟩
  case true =>
    obtain rfl : D = E2 := hDE_h.out.trans (Bool.true_and _)
    have hB1_h := Lib.hid hB1
    clear hB1
    go_wp2_with (fail)
    refine ((hS2_h.out _ hB1_h.out)).mono ?_
    rintro e w2 ⟨rfl, hq2⟩
    have hB2 := below_trans hB1_h.out (Qt.below hq2) hB1_h.out.size
    clear hq2
    have hB2_h := Lib.hid hB2
    clear hB2
    go_wp2_with (fail)
    go_ret
    exact ⟨rfl, hB2_h.out⟩
end Go.Proofs.Ytanhmljgeiajoaa
