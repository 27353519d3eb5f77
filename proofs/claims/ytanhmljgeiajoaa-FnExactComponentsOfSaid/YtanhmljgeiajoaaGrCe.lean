/-
  THE WALKS: ComponentsOf, both sides.
-/
import Derived.Test.YtanhmljgeiajoaaGrCb
import Derived.Test.YtanhmljgeiajoaaGrCc
namespace Go.Proofs.Ytanhmljgeiajoaa
open Go.RowKit

theorem cpM_no {g : Gr} (h : grB g = false) : cpM g = ([], 0, false) := by unfold cpM; rw [h]; rfl
theorem cpM_yes {g : Gr} (h : grB g = true) {n : Nat} (hn : g.1 = (n : Int)) : cpM g = (numM (clsG g), (nrM (clsG g) n : Int), true) := by unfold cpM; rw [h, hn]; rfl
theorem clsG_cls {g : Gr} (h : grB g = true) {n : Nat} (hn : g.1 = (n : Int)) : Cls n (clsG g) := by
  obtain ⟨n', e1, _, _, _, _, hin⟩ := grB_parts h
  obtain rfl : n' = n := by omega
  rw [← clsK_all g n' hn]
  unfold allW at hin
  exact Cls.clsK (inW_app_right (inW_app_right hin)) _ (Nat.le_refl _)
theorem cpM_le (g : Gr) : (cpM g).1.length ≤ 1048576 := by
  by_cases h : grB g = true
  · obtain ⟨n, e1, hn, _⟩ := grB_parts h
    rw [cpM_yes h e1]
    show (numM (clsG g)).length ≤ _
    rw [numM_length, (clsG_cls h e1).len]; omega
  · rw [cpM_no (by simpa using h)]; simp

set_option maxRecDepth 100000 in
set_option maxHeartbeats 4000000 in
theorem iComponentsOf_law {v : Value} {g : Gr} {w : World} (h : RdGr w v g) (ok : OkG g) :
    Calls Try.prog 15 #[v] w fun e w' => ∃ v' fp, e = .returned (.tuple #[v', .int .i64 (cpM g).2.1, .bool (cpM g).2.2]) ∧ OwI w' v' (cpM g).1 fp ∧ FreshL w.heap.size fp ∧ Below w.heap.size w w' := by
  obtain ⟨M, hM⟩ : ∃ M, M = cpM g := ⟨_, rfl⟩
  rw [← hM]
  obtain ⟨A, n0, c, B, m0, d, C, k0', e0, rfl⟩ := h.shape
  obtain ⟨z, hz⟩ : ∃ z, z = g.1 := ⟨_, rfl⟩
  rw [← hz] at h ⊢
  obtain ⟨W, hW, bW, k0⟩ := (⟨_, rfl, below_alloc _ _, heap_alloc_new _ _⟩ : ∃ W, W = w.alloc (.cells #[.int .i64 z, .slice A n0 c, .slice B m0 d, .slice C k0' e0] tGr) ∧ Below w.heap.size w W ∧ W.heap[w.heap.size]? = some (.cells #[.int .i64 z, .slice A n0 c, .slice B m0 d, .slice C k0' e0] tGr))
  have hG := isGraph_any W (h.below bW) ok
  obtain ⟨T, hT⟩ : ∃ T, T = grB g := ⟨_, rfl⟩
  rw [← hT] at hG
  obtain ⟨⟨c0, c1, c2, c3⟩, f0, f1, f2, f3⟩ := box4 k0
  cases T
  case false =>
    have hM0 : M = ([], 0, false) := hM.trans (cpM_no hT.symm)
    clear hM hT h hz
    have hG_h := Lib.hid hG
    have bW_h := Lib.hid bW
    have k0_h := Lib.hid k0
    have hM0_h := Lib.hid hM0
    clear hG bW k0 hM0
    go_enter Try.func15, Try.ntmps15
    go_upto_region 1 with (fail)
    rw [← hW]
    clear hW
    go_wp2_with (fail)
    refine (hG_h.out).mono ?_
    rintro e w1 ⟨rfl, hb1⟩
    have hB := below_trans bW_h.out hb1 bW_h.out.size
    clear hb1
    have hB_h := Lib.hid hB
    clear hB
    go_wp2_with (fail)
    go_ret3
    rw [hM0_h.out]
    exact ⟨_, _, rfl, ⟨none, 0, rfl, Sl.nil _ _ _, rfl⟩, fun b hb => (by cases hb), hB_h.out⟩
  case true =>
    obtain ⟨n, e1, hn, _⟩ := grB_parts hT.symm
    have hM1 : M = (numM (clsG g), (nrM (clsG g) n : Int), true) := hM.trans (cpM_yes hT.symm e1)
    have hlen : (numM (clsG g)).length = n := by rw [numM_length, (clsG_cls hT.symm e1).len]
    have hF := fun (W' : World) (hb : Below W.heap.size W W') => components_any W' n ((h.below bW).below hb) e1 hT.symm
    obtain ⟨N, hN⟩ : ∃ N, N = numM (clsG g) := ⟨_, rfl⟩
    obtain ⟨K, hK⟩ : ∃ K, K = nrM (clsG g) n := ⟨_, rfl⟩
    rw [← hN] at hlen hM1
    rw [← hK] at hM1
    simp only [← hN, ← hK] at hF
    clear hM hT h hN hK e1 hz
    have hG_h := Lib.hid hG
    have bW_h := Lib.hid bW
    have k0_h := Lib.hid k0
    have hM1_h := Lib.hid hM1
    have hF_h := Lib.hid hF
    have hlen_h := Lib.hid hlen
    clear hG bW k0 hM1 hF hlen
    go_enter Try.func15, Try.ntmps15
    go_upto_region 1 with (fail)
    rw [← hW]
    clear hW
    go_wp2_with (fail)
    refine (hG_h.out).mono ?_
    rintro e w1 ⟨rfl, hb1⟩
    have k1 := box_below k0_h.out hb1
    clear c0 c1 c2 c3 f0 f1 f2 f3
    obtain ⟨⟨c0, c1, c2, c3⟩, f0, f1, f2, f3⟩ := box4 k1
    have hB := below_trans bW_h.out hb1 bW_h.out.size
    have hb1_h := Lib.hid hb1
    have k1_h := Lib.hid k1
    have hB_h := Lib.hid hB
    clear hb1 k1 hB
    go_wp2_with (fail)
    refine ((hF_h.out _ hb1_h.out)).mono ?_
    rintro e w2 ⟨A2, c2', rfl, hI2, hF2, hb2⟩
    have hB2 := below_trans hB_h.out hb2 hB_h.out.size
    have hF2' : FreshL w.heap.size (fpA A2) := fun b hb => by
      have := hF2 b hb
      have := hB_h.out.size
      omega
    clear hb2 hF2
    have hI2_h := Lib.hid hI2
    have hF2'_h := Lib.hid hF2'
    have hB2_h := Lib.hid hB2
    clear hI2 hF2' hB2
    go_wp2_with (fail)
    go_ret3
    rw [hM1_h.out]
    exact ⟨.slice A2 n c2', fpA A2, rfl, ⟨A2, c2', (by show _ = Value.slice A2 N.length c2'; rw [hlen_h.out]), hI2_h.out, rfl⟩, hF2'_h.out, hB2_h.out⟩
set_option maxRecDepth 100000 in
set_option maxHeartbeats 4000000 in
theorem sComponentsOf_law {v : Value} {g : Gr} {w : World} (h : RdGr w v g) (ok : OkG g) :
    Calls Try.prog 13 #[v] w fun e w' => ∃ v' fp, e = .returned (.tuple #[v', .int .i64 (cpM g).2.1, .bool (cpM g).2.2]) ∧ OwI w' v' (cpM g).1 fp ∧ FreshL w.heap.size fp ∧ Below w.heap.size w w' := by
  obtain ⟨M, hM⟩ : ∃ M, M = cpM g := ⟨_, rfl⟩
  rw [← hM]
  obtain ⟨A, n0, c, B, m0, d, C, k0', e0, rfl⟩ := h.shape
  obtain ⟨z, hz⟩ : ∃ z, z = g.1 := ⟨_, rfl⟩
  rw [← hz] at h ⊢
  obtain ⟨W, hW, bW, k0⟩ := (⟨_, rfl, below_alloc _ _, heap_alloc_new _ _⟩ : ∃ W, W = w.alloc (.cells #[.int .i64 z, .slice A n0 c, .slice B m0 d, .slice C k0' e0] tGr) ∧ Below w.heap.size w W ∧ W.heap[w.heap.size]? = some (.cells #[.int .i64 z, .slice A n0 c, .slice B m0 d, .slice C k0' e0] tGr))
  have hG := hgValid_any W (h.below bW) ok
  obtain ⟨T, hT⟩ : ∃ T, T = grB g := ⟨_, rfl⟩
  rw [← hT] at hG
  obtain ⟨⟨c0, c1, c2, c3⟩, f0, f1, f2, f3⟩ := box4 k0
  cases T
  case false =>
    have hM0 : M = ([], 0, false) := hM.trans (cpM_no hT.symm)
    clear hM hT h hz
    have hG_h := Lib.hid hG
    have bW_h := Lib.hid bW
    have k0_h := Lib.hid k0
    have hM0_h := Lib.hid hM0
    clear hG bW k0 hM0
    go_enter Try.func13, Try.ntmps13
    go_upto_region 1 with (fail)
    rw [← hW]
    clear hW
    go_wp2_with (fail)
    refine (hG_h.out).mono ?_
    rintro e w1 ⟨rfl, hb1⟩
    have hB := below_trans bW_h.out hb1 bW_h.out.size
    clear hb1
    have hB_h := Lib.hid hB
    clear hB
    go_wp2_with (fail)
    go_ret3
    rw [hM0_h.out]
    exact ⟨_, _, rfl, ⟨none, 0, rfl, Sl.nil _ _ _, rfl⟩, fun b hb => (by cases hb), hB_h.out⟩
  case true =>
    obtain ⟨n, e1, hn, _⟩ := grB_parts hT.symm
    have hM1 : M = (numM (clsG g), (nrM (clsG g) n : Int), true) := hM.trans (cpM_yes hT.symm e1)
    have hlen : (numM (clsG g)).length = n := by rw [numM_length, (clsG_cls hT.symm e1).len]
    have hF := fun (W' : World) (hb : Below W.heap.size W W') => hgParts_any W' n ((h.below bW).below hb) e1 hT.symm
    obtain ⟨N, hN⟩ : ∃ N, N = numM (clsG g) := ⟨_, rfl⟩
    obtain ⟨K, hK⟩ : ∃ K, K = nrM (clsG g) n := ⟨_, rfl⟩
    rw [← hN] at hlen hM1
    rw [← hK] at hM1
    simp only [← hN, ← hK] at hF
    clear hM hT h hN hK e1 hz
    have hG_h := Lib.hid hG
    have bW_h := Lib.hid bW
    have k0_h := Lib.hid k0
    have hM1_h := Lib.hid hM1
    have hF_h := Lib.hid hF
    have hlen_h := Lib.hid hlen
    clear hG bW k0 hM1 hF hlen
    go_enter Try.func13, Try.ntmps13
    go_upto_region 1 with (fail)
    rw [← hW]
    clear hW
    go_wp2_with (fail)
    refine (hG_h.out).mono ?_
    rintro e w1 ⟨rfl, hb1⟩
    have k1 := box_below k0_h.out hb1
    clear c0 c1 c2 c3 f0 f1 f2 f3
    obtain ⟨⟨c0, c1, c2, c3⟩, f0, f1, f2, f3⟩ := box4 k1
    have hB := below_trans bW_h.out hb1 bW_h.out.size
    have hb1_h := Lib.hid hb1
    have k1_h := Lib.hid k1
    have hB_h := Lib.hid hB
    clear hb1 k1 hB
    go_wp2_with (fail)
    refine ((hF_h.out _ hb1_h.out)).mono ?_
    rintro e w2 ⟨A2, c2', rfl, hI2, hF2, hb2⟩
    have hB2 := below_trans hB_h.out hb2 hB_h.out.size
    have hF2' : FreshL w.heap.size (fpA A2) := fun b hb => by
      have := hF2 b hb
      have := hB_h.out.size
      omega
    clear hb2 hF2
    have hI2_h := Lib.hid hI2
    have hF2'_h := Lib.hid hF2'
    have hB2_h := Lib.hid hB2
    clear hI2 hF2' hB2
    go_wp2_with (fail)
    go_ret3
    rw [hM1_h.out]
    exact ⟨.slice A2 n c2', fpA A2, rfl, ⟨A2, c2', (by show _ = Value.slice A2 N.length c2'; rw [hlen_h.out]), hI2_h.out, rfl⟩, hF2'_h.out, hB2_h.out⟩
end Go.Proofs.Ytanhmljgeiajoaa
