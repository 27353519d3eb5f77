/-
  THE WALKS: spec.IsMonogamous, mtTwo.
-/
import Derived.Test.YtanhmljgeiajoaaGrMo
namespace Go.Proofs.Ytanhmljgeiajoaa
open Go.RowKit

set_option maxRecDepth 100000 in
set_option maxHeartbeats 4000000 in
theorem sIsMonogamous_any {v : Value} {g : Gr} (w : World) (h : RdGr w v g) (ok : OkG g) :
    Calls Try.prog 69 #[v] w fun e w' => e = .returned (.bool (monoB g)) ∧ Below w.heap.size w w' := by
  obtain ⟨D, hD⟩ : ∃ D, D = monoB g := ⟨_, rfl⟩
  have hDD := hD
  unfold monoB at hDD
  rw [← hD]
  obtain ⟨A, n0, c, B, m0, d, C, k0', e0, rfl⟩ := h.shape
  obtain ⟨z, hz⟩ : ∃ z, z = g.1 := ⟨_, rfl⟩
  rw [← hz] at h ⊢
  obtain ⟨W, hW, bW, k0⟩ := (⟨_, rfl, below_alloc _ _, heap_alloc_new _ _⟩ : ∃ W, W = w.alloc (.cells #[.int .i64 z, .slice A n0 c, .slice B m0 d, .slice C k0' e0] tGr) ∧ Below w.heap.size w W ∧ W.heap[w.heap.size]? = some (.cells #[.int .i64 z, .slice A n0 c, .slice B m0 d, .slice C k0' e0] tGr))
  have hG := hgValid_any W (h.below bW) ok
  obtain ⟨T, hT⟩ : ∃ T, T = grB g := ⟨_, rfl⟩
  rw [← hT] at hG hDD
  obtain ⟨M, hM⟩ : ∃ M, M = (prmN g.1 (orgW g) && prmN g.1 (dstW g)) := ⟨_, rfl⟩
  rw [← hM] at hDD
  have hF : T = true → ∀ (W' : World), Below W.heap.size W W' → Calls Try.prog 108 #[.agg #[.int .i64 z, .slice A n0 c, .slice B m0 d, .slice C k0' e0]] W' fun e w' => e = .returned (.bool M) ∧ Below W'.heap.size W' w' := fun hh W' hb => by
    obtain ⟨n, e1, hn, _, _, _, hin⟩ := grB_parts (hT.symm.trans hh)
    have := hgMono_any W' n ((h.below bW).below hb) ok e1 (by omega) hin
    rw [← hM] at this
    exact this
  obtain ⟨⟨c0, c1, c2, c3⟩, f0, f1, f2, f3⟩ := box4 k0
  clear h hz hT hM ok hD
  have bW_h := Lib.hid bW
  have k0_h := Lib.hid k0
  have hG_h := Lib.hid hG
  have hF_h := Lib.hid hF
  have hDD_h := Lib.hid hDD
  clear bW k0 hG hF hDD
  go_enter Try.func69, Try.ntmps69
  go_upto_region 1 with (fail)
  rw [← hW]
  clear hW
  go_wp2_with (fail)
  refine (hG_h.out).mono ?_
  rintro e w1 ⟨rfl, hb1⟩
  have k1 := box_below k0_h.out hb1
  have hB := below_trans bW_h.out hb1 bW_h.out.size
  clear c0 c1 c2 c3 f0 f1 f2 f3
  obtain ⟨⟨c0, c1, c2, c3⟩, f0, f1, f2, f3⟩ := box4 k1
  cases T
  case false =>
    obtain rfl : D = false := hDD_h.out
    have hB_h := Lib.hid hB
    clear hB
    go_wp2_with (fail)
    go_ret
    exact ⟨rfl, hB_h.out⟩
  case true =>
    obtain rfl : D = M := hDD_h.out.trans (Bool.true_and _)
    have hB_h := Lib.hid hB
    have hb1_h := Lib.hid hb1
    clear hB hb1
    go_wp2_with (fail)
    refine ((hF_h.out trivial _ hb1_h.out)).mono ?_
    rintro e w2 ⟨rfl, hb2⟩
    have hB2 := below_trans hB_h.out hb2 hB_h.out.size
    clear hb2
    have hB2_h := Lib.hid hB2
    clear hB2
    go_wp2_with (fail)
    go_ret
    exact ⟨rfl, hB2_h.out⟩
set_option maxRecDepth 100000 in
set_option maxHeartbeats 4000000 in
theorem mtTwo_any {v v' : Value} {g g' : Gr} (w : World) (h : RdGr w v g) (h' : RdGr w v' g') (ok : OkG g) (ok' : OkG g') :
    Calls Try.prog 57 #[v, v'] w fun e w' => e = .returned (.bool (monoB g && monoB g')) ∧ Below w.heap.size w w' := by
  obtain ⟨T1, hT1⟩ : ∃ D, D = monoB g := ⟨_, rfl⟩
  obtain ⟨T2, hT2⟩ : ∃ D, D = monoB g' := ⟨_, rfl⟩
  rw [← hT1, ← hT2]
  obtain ⟨A, n0, c, B, m0, d, C, k0', e0, rfl⟩ := h.shape
  obtain ⟨A', n0', c', B', m0', d', C', k0'', e0', rfl⟩ := h'.shape
  obtain ⟨z, hz⟩ : ∃ z, z = g.1 := ⟨_, rfl⟩
  obtain ⟨z', hz'⟩ : ∃ z, z = g'.1 := ⟨_, rfl⟩
  rw [← hz] at h ⊢
  rw [← hz'] at h' ⊢
  obtain ⟨W, hW, bW, k0, k1⟩ := allocs2 w (.cells #[.int .i64 z, .slice A n0 c, .slice B m0 d, .slice C k0' e0] tGr) (.cells #[.int .i64 z', .slice A' n0' c', .slice B' m0' d', .slice C' k0'' e0'] tGr)
  have hG := sIsMonogamous_any W (h.below bW) ok
  have hG' := fun (W' : World) (hb : Below W.heap.size W W') => sIsMonogamous_any W' ((h'.below bW).below hb) ok'
  rw [← hT1] at hG
  simp only [← hT2] at hG'
  obtain ⟨⟨c0, c1, c2, c3⟩, f0, f1, f2, f3⟩ := box4 k0
  clear h h' hz hz' hT1 hT2 ok ok'
  have bW_h := Lib.hid bW
  have k0_h := Lib.hid k0
  have k1_h := Lib.hid k1
  have hG_h := Lib.hid hG
  have hG'_h := Lib.hid hG'
  clear bW k0 k1 hG hG'
  go_enter Try.func57, Try.ntmps57
  go_upto_region 1 with (fail)
  rw [← hW]
  clear hW
  go_wp2_with (fail)
  refine (hG_h.out).mono ?_
  rintro e w1 ⟨rfl, hb1⟩
  have k2 := box_below k1_h.out hb1
  have hB := below_trans bW_h.out hb1 bW_h.out.size
  clear c0 c1 c2 c3 f0 f1 f2 f3
  obtain ⟨⟨c0, c1, c2, c3⟩, f0, f1, f2, f3⟩ := box4 k2
  cases T1
  case false =>
    have hB_h := Lib.hid hB
    clear hB
    go_wp2_with (fail)
    go_ret
    exact ⟨rfl, hB_h.out⟩
  case true =>
    have hB_h := Lib.hid hB
    have hb1_h := Lib.hid hb1
    clear hB hb1
    go_wp2_with (fail)
    refine ((hG'_h.out _ hb1_h.out)).mono ?_
    rintro e w2 ⟨rfl, hb2⟩
    have hB2 := below_trans hB_h.out hb2 hB_h.out.size
    clear hb2
    have hB2_h := Lib.hid hB2
    clear hB2
    go_wp2_with (fail)
    go_ret
    exact ⟨by cases T2 <;> rfl, hB2_h.out⟩
end Go.Proofs.Ytanhmljgeiajoaa
