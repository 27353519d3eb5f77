/-
  THE WALK: impl.joinWires.
-/
import Derived.Test.YtlmnmdahphahfaaTmL
namespace Go.Proofs.Ytlmnmdahphahfaa
open Go.RowKit

def fitB (i o : Int) : Bool := decide (i ≤ 12 ∧ o ≤ 12)
theorem fit_any (i o : Int) (w : World) :
    Calls Try.prog 113 #[.agg #[.int .i64 i, .int .i64 o]] w fun e w' => e = .returned (.bool (fitB i o)) ∧ Below w.heap.size w w' := by
  by_cases h1 : i ≤ 12
  · by_cases h2 : o ≤ 12
    all_goals
      go_enter Try.func113, Try.ntmps113
      go_wp2_with (fail)
      go_ret
      refine ⟨ret_bool ?_, below_alloc _ _⟩
      unfold fitB
      simp
      omega
  · go_enter Try.func113, Try.ntmps113
    go_wp2_with (fail)
    go_ret
    refine ⟨ret_bool ?_, below_alloc _ _⟩
    unfold fitB
    simp
    omega

/-- What joinWires answers. -/
def JnA (p : Bool) (a b : Int × Int) (w : World) (e : Ending) (w' : World) : Prop :=
  ∃ (c : Bool), e = .returned (.tuple #[.agg #[.int .i64 (joinTy p a b).1, .int .i64 (joinTy p a b).2], .bool c]) ∧ c = joinB p a b ∧ Below w.heap.size w w'
theorem joinB_par (ai ao bi bo : Int) : joinB true (ai, ao) (bi, bo) = fitB (ai + bi) (ao + bo) := rfl

set_option maxRecDepth 8000 in
set_option maxHeartbeats 1000000 in
theorem joinWires_any (p : Bool) (ai ao bi bo : Int) (w : World) (h1 : 0 ≤ ai ∧ ai ≤ 12) (h2 : 0 ≤ ao ∧ ao ≤ 12) (h3 : 0 ≤ bi ∧ bi ≤ 12) (h4 : 0 ≤ bo ∧ bo ≤ 12) :
    Calls Try.prog 103 #[.int .i64 (kd p), .agg #[.int .i64 ai, .int .i64 ao], .agg #[.int .i64 bi, .int .i64 bo]] w (JnA p (ai, ao) (bi, bo) w) := by
  obtain ⟨W, hW⟩ : ∃ W, W = ((w.alloc (.cells #[.int .i64 ai, .int .i64 ao] tWires)).alloc (.cells #[.int .i64 bi, .int .i64 bo] tWires)).alloc (.cells #[.int .i64 0, .int .i64 0] tWires) := ⟨_, rfl⟩
  obtain ⟨b0, k0, k1, hz⟩ := two_boxes w (.cells #[.int .i64 ai, .int .i64 ao] tWires) (.cells #[.int .i64 bi, .int .i64 bo] tWires)
  have hbz := b0.alloc (by omega) (.cells #[.int .i64 0, .int .i64 0] tWires)
  have k2 := heap_alloc_new ((w.alloc (.cells #[.int .i64 ai, .int .i64 ao] tWires)).alloc (.cells #[.int .i64 bi, .int .i64 bo] tWires)) (.cells #[.int .i64 0, .int .i64 0] tWires)
  rw [hz] at k2
  have k0 := box_below k0 (below_alloc _ (.cells #[.int .i64 0, .int .i64 0] tWires))
  have k1 := box_below k1 (below_alloc _ (.cells #[.int .i64 0, .int .i64 0] tWires))
  rw [← hW] at hbz k0 k1 k2
  clear b0 hz
  cases p
  · show Calls Try.prog _ #[.int .i64 15, _, _] _ _
    have k0_h := Lib.hid k0
    have k1_h := Lib.hid k1
    have k2_h := Lib.hid k2
    have hbz_h := Lib.hid hbz
    clear k0 k1 k2 hbz
    go_enter Try.func103, Try.ntmps103
    go_wp2_with (fail)
    rw [← hW]
    clear hW
    have k0d : W.drew.heap[w.heap.size]? = some (.cells #[.int .i64 ai, .int .i64 ao] tWires) := k0_h.out
    have k1d : W.drew.heap[w.heap.size + 1]? = some (.cells #[.int .i64 bi, .int .i64 bo] tWires) := k1_h.out
    have k2d : W.drew.heap[w.heap.size + 2]? = some (.cells #[.int .i64 0, .int .i64 0] tWires) := k2_h.out
    have b0d := below_drew hbz_h.out
    refine beginH (fun w' => w'.heap[w.heap.size]? = some (.cells #[.int .i64 ai, .int .i64 ao] tWires) ∧ w'.heap[w.heap.size + 1]? = some (.cells #[.int .i64 bi, .int .i64 bo] tWires)) (by kernel_rfl) ?_
    clear k0_h k1_h k2_h hbz_h
    generalize W.drew = W1 at k0d k1d k2d b0d ⊢
    obtain ⟨s1, s2⟩ := set2 (a := .int .i64 ai) (b := .int .i64 bo) k2d
    have k0s := box_keeps k0d s2 (by omega)
    have k1s := box_keeps k1d s2 (by omega)
    have hS := And.intro k0d k1d
    have hSs := And.intro k0s k1s
    have hB2 := below_keeps b0d s2 b0d.size (fun k hk => by omega)
    obtain ⟨⟨c0, c1⟩, f0, f1⟩ := box2 k2d
    have k0d_h := Lib.hid k0d
    have k1d_h := Lib.hid k1d
    have k2d_h := Lib.hid k2d
    have s1_h := Lib.hid s1
    have s2_h := Lib.hid s2
    have k0s_h := Lib.hid k0s
    have k1s_h := Lib.hid k1s
    have hB2_h := Lib.hid hB2
    have hS_h := Lib.hid hS
    have hSs_h := Lib.hid hSs
    have b0d_h := Lib.hid b0d
    clear k0d k1d k2d s1 s2 k0s k1s hB2 hS hSs b0d
    refine takeH 0 (v := ?_) rfl (by kernel_rfl) (by kernel_rfl) (by kernel_rfl) (fun _ _ _ h => h) hS_h.out (by rfl) (fun W' hW' => ?_) ?_; rotate_left; · (obtain ⟨⟨d0, d1⟩, e0, e1⟩ := box2 hW'.1; obtain ⟨⟨g0, g1⟩, i0, i1⟩ := box2 hW'.2; clear hW'; go_simp; first | done | with_reducible rfl)
    simp only [Act.put, List.setIfInBounds_toArray, List.set_cons_zero, List.set_cons_succ]
    refine takeH 1 (v := ?_) rfl (by kernel_rfl) (by kernel_rfl) (by kernel_rfl) (fun _ _ _ h => h) hS_h.out (by rfl) (fun W' hW' => ?_) ?_; rotate_left; · (obtain ⟨⟨d0, d1⟩, e0, e1⟩ := box2 hW'.1; obtain ⟨⟨g0, g1⟩, i0, i1⟩ := box2 hW'.2; clear hW'; go_simp; first | done | with_reducible rfl)
    simp only [Act.put, List.setIfInBounds_toArray, List.set_cons_zero, List.set_cons_succ]
    refine takeH 2 (v := ?_) rfl (by kernel_rfl) (by kernel_rfl) (by kernel_rfl) (fun _ _ _ h => h) hS_h.out (by rfl) (fun W' hW' => ?_) ?_; rotate_left; · (obtain ⟨⟨d0, d1⟩, e0, e1⟩ := box2 hW'.1; obtain ⟨⟨g0, g1⟩, i0, i1⟩ := box2 hW'.2; clear hW'; go_simp; first | done | with_reducible rfl)
    simp only [Act.put, List.setIfInBounds_toArray, List.set_cons_zero, List.set_cons_succ]
    refine takeH 3 (v := ?_) rfl (by kernel_rfl) (by kernel_rfl) (by kernel_rfl) (fun _ _ _ h => h) hS_h.out (by rfl) (fun W' hW' => ?_) ?_; rotate_left; · (obtain ⟨⟨d0, d1⟩, e0, e1⟩ := box2 hW'.1; obtain ⟨⟨g0, g1⟩, i0, i1⟩ := box2 hW'.2; clear hW'; go_simp; first | done | with_reducible rfl)
    simp only [Act.put, List.setIfInBounds_toArray, List.set_cons_zero, List.set_cons_succ]
    refine takeH 4 (v := ?_) rfl (by kernel_rfl) (by kernel_rfl) (by kernel_rfl) (fun _ _ _ h => h) hS_h.out (by rfl) (fun W' hW' => ?_) ?_; rotate_left; · (obtain ⟨⟨d0, d1⟩, e0, e1⟩ := box2 hW'.1; obtain ⟨⟨g0, g1⟩, i0, i1⟩ := box2 hW'.2; clear hW'; go_simp; first | done | with_reducible rfl)
    simp only [Act.put, List.setIfInBounds_toArray, List.set_cons_zero, List.set_cons_succ]
    refine takeH 5 (v := ?_) rfl (by kernel_rfl) (by kernel_rfl) (by kernel_rfl) (fun _ _ _ h => h) hS_h.out (by rfl) (fun W' hW' => ?_) ?_; rotate_left; · (obtain ⟨⟨d0, d1⟩, e0, e1⟩ := box2 hW'.1; obtain ⟨⟨g0, g1⟩, i0, i1⟩ := box2 hW'.2; clear hW'; go_simp; first | done | with_reducible rfl)
    simp only [Act.put, List.setIfInBounds_toArray, List.set_cons_zero, List.set_cons_succ]
    refine takeH 6 (v := ?_) rfl (by kernel_rfl) (by kernel_rfl) (by kernel_rfl) (fun _ _ _ h => h) hS_h.out (by rfl) (fun W' hW' => ?_) ?_; rotate_left; · (obtain ⟨⟨d0, d1⟩, e0, e1⟩ := box2 hW'.1; obtain ⟨⟨g0, g1⟩, i0, i1⟩ := box2 hW'.2; clear hW'; go_simp; first | done | with_reducible rfl)
    simp only [Act.put, List.setIfInBounds_toArray, List.set_cons_zero, List.set_cons_succ]
    refine takeH 7 (v := ?_) rfl (by kernel_rfl) (by kernel_rfl) (by kernel_rfl) (fun _ _ _ h => h) hS_h.out (by rfl) (fun W' hW' => ?_) ?_; rotate_left; · (obtain ⟨⟨d0, d1⟩, e0, e1⟩ := box2 hW'.1; obtain ⟨⟨g0, g1⟩, i0, i1⟩ := box2 hW'.2; clear hW'; go_simp; first | done | with_reducible rfl)
    simp only [Act.put, List.setIfInBounds_toArray, List.set_cons_zero, List.set_cons_succ]
    refine takeH 8 (v := ?_) rfl (by kernel_rfl) (by kernel_rfl) (by kernel_rfl) (fun _ _ _ h => h) hS_h.out (by rfl) (fun W' hW' => ?_) ?_; rotate_left; · (obtain ⟨⟨d0, d1⟩, e0, e1⟩ := box2 hW'.1; obtain ⟨⟨g0, g1⟩, i0, i1⟩ := box2 hW'.2; clear hW'; go_simp; first | done | with_reducible rfl)
    simp only [Act.put, List.setIfInBounds_toArray, List.set_cons_zero, List.set_cons_succ]
    refine takeH 9 (v := ?_) rfl (by kernel_rfl) (by kernel_rfl) (by kernel_rfl) (fun _ _ _ h => h) hS_h.out (by rfl) (fun W' hW' => ?_) ?_; rotate_left; · (obtain ⟨⟨d0, d1⟩, e0, e1⟩ := box2 hW'.1; obtain ⟨⟨g0, g1⟩, i0, i1⟩ := box2 hW'.2; clear hW'; go_simp; first | done | with_reducible rfl)
    simp only [Act.put, List.setIfInBounds_toArray, List.set_cons_zero, List.set_cons_succ]
    refine oneH 10 rfl (by kernel_rfl) (by rfl) (fun K hK => ?_)
    go_simp
    refine hK _ _ hSs_h.out ?_
    clear hK K
    refine takeH 11 (v := ?_) rfl (by kernel_rfl) (by kernel_rfl) (by kernel_rfl) (fun _ _ _ h => h) hSs_h.out (by rfl) (fun W' hW' => ?_) ?_; rotate_left; · (skip; clear hW'; go_simp; first | done | with_reducible rfl)
    simp only [Act.put, List.setIfInBounds_toArray, List.set_cons_zero, List.set_cons_succ]
    refine doneH (by kernel_rfl) ?_
    go_wp2_with (fail)
    refine bodyPost_ret (results_cell_tmp rfl _ _ (w.heap.size + 2) _ _ (0, 0) _ rfl s1_h.out Try.underlying54 rfl (by kernel_rfl)) rfl ?_
    refine ⟨(ao == bi), rfl, ?_, hB2_h.out⟩
    simp only [joinB, Bool.false_eq_true, if_false]
    by_cases h0 : ao = bi <;> simp [h0]
  · show Calls Try.prog _ #[.int .i64 16, _, _] _ _
    obtain ⟨X, hX⟩ : ∃ X, X = W.alloc (.cells #[.int .i64 (ai + bi), .int .i64 (ao + bo)] tWires) := ⟨_, rfl⟩
    have bx := hbz.alloc hbz.size (.cells #[.int .i64 (ai + bi), .int .i64 (ao + bo)] tWires)
    have kx := heap_alloc_new W (.cells #[.int .i64 (ai + bi), .int .i64 (ao + bo)] tWires)
    have k2x := box_below k2 (below_alloc _ (.cells #[.int .i64 (ai + bi), .int .i64 (ao + bo)] tWires))
    have hWz : W.heap.size = w.heap.size + 3 := by rw [hW]; simp
    rw [← hX] at bx kx k2x
    rw [hWz] at kx
    have bx_h := Lib.hid bx
    have kx_h := Lib.hid kx
    have k2x_h := Lib.hid k2x
    have k0_h := Lib.hid k0
    have k1_h := Lib.hid k1
    have k2_h := Lib.hid k2
    have hbz_h := Lib.hid hbz
    have hWz_h := Lib.hid hWz
    clear bx kx k2x k0 k1 k2 hbz hWz
    go_enter Try.func103, Try.ntmps103
    go_wp2_with (fail)
    rw [← hW, ← hX]
    have kxd : X.drew.heap[w.heap.size + 3]? = some (.cells #[.int .i64 (ai + bi), .int .i64 (ao + bo)] tWires) := kx_h.out
    have k2d : X.drew.heap[w.heap.size + 2]? = some (.cells #[.int .i64 0, .int .i64 0] tWires) := k2x_h.out
    have b0d := below_drew bx_h.out
    refine beginH (fun w' => w'.heap[w.heap.size + 3]? = some (.cells #[.int .i64 (ai + bi), .int .i64 (ao + bo)] tWires)) (by kernel_rfl) ?_
    clear k0_h k1_h k2_h hbz_h bx_h kx_h k2x_h hW hX hWz_h
    generalize X.drew = W1 at kxd k2d b0d ⊢
    have kxd_h := Lib.hid kxd
    have k2d_h := Lib.hid k2d
    have b0d_h := Lib.hid b0d
    clear kxd k2d b0d
    refine takeH 0 (v := ?_) rfl (by kernel_rfl) (by kernel_rfl) (by kernel_rfl) (fun _ _ _ h => h) kxd_h.out (by rfl) (fun W' hW' => ?_) ?_; rotate_left; · (obtain ⟨⟨d0, d1⟩, e0, e1⟩ := box2 hW'; clear hW'; go_simp; first | done | with_reducible rfl)
    simp only [Act.put, List.setIfInBounds_toArray, List.set_cons_zero, List.set_cons_succ]
    refine takeH 1 (v := ?_) rfl (by kernel_rfl) (by kernel_rfl) (by kernel_rfl) (fun _ _ _ h => h) kxd_h.out (by rfl) (fun W' hW' => ?_) ?_; rotate_left; · (obtain ⟨⟨d0, d1⟩, e0, e1⟩ := box2 hW'; clear hW'; go_simp; first | done | with_reducible rfl)
    simp only [Act.put, List.setIfInBounds_toArray, List.set_cons_zero, List.set_cons_succ]
    refine' callH 2 (f := _) (args := _) rfl (by kernel_rfl) (by rfl) ?_ ?_; rotate_left 2; · (go_simp; first | done | with_reducible rfl | (constructor <;> with_reducible rfl))
    refine (fit_any _ _ _).mono ?_
    rintro e w2 ⟨rfl, hb2⟩
    have kx2 := box_below kxd_h.out hb2
    have k22 := box_below k2d_h.out hb2
    have b2 := below_trans b0d_h.out hb2 b0d_h.out.size
    obtain ⟨s1, s2⟩ := set2 (a := .int .i64 (ai + bi)) (b := .int .i64 (ao + bo)) k22
    have kxs := box_keeps kx2 s2 (by omega)
    have hB2 := below_keeps b2 s2 b2.size (fun k hk => by omega)
    obtain ⟨⟨c0, c1⟩, f0, f1⟩ := box2 k22
    refine ⟨_, rfl, kx2, ?_⟩
    have kx2_h := Lib.hid kx2
    have k22_h := Lib.hid k22
    have b2_h := Lib.hid b2
    have s1_h := Lib.hid s1
    have s2_h := Lib.hid s2
    have kxs_h := Lib.hid kxs
    have hB2_h := Lib.hid hB2
    have hb2_h := Lib.hid hb2
    clear kx2 k22 b2 s1 s2 kxs hB2 hb2
    simp only [Act.put, List.setIfInBounds_toArray, List.set_cons_zero, List.set_cons_succ]
    refine oneH 3 rfl (by kernel_rfl) (by rfl) (fun K hK => ?_)
    go_simp
    refine hK _ _ kxs_h.out ?_
    clear hK K
    refine takeH 4 (v := ?_) rfl (by kernel_rfl) (by kernel_rfl) (by kernel_rfl) (fun _ _ _ h => h) kxs_h.out (by rfl) (fun W' hW' => ?_) ?_; rotate_left; · (skip; clear hW'; go_simp; first | done | with_reducible rfl)
    simp only [Act.put, List.setIfInBounds_toArray, List.set_cons_zero, List.set_cons_succ]
    refine doneH (by kernel_rfl) ?_
    go_wp2_with (fail)
    refine bodyPost_ret (results_cell_tmp rfl _ _ (w.heap.size + 2) _ _ (0, 0) _ rfl s1_h.out Try.underlying54 rfl (by kernel_rfl)) rfl ?_
    exact ⟨_, rfl, rfl, hB2_h.out⟩
end Go.Proofs.Ytlmnmdahphahfaa
