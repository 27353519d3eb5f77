/-
  THE WALKS: impl.sameRows, equalSystems; spec.SameSystems, impl.SameSystems.
-/
import Derived.Test.YtomekicglojhhaaDoorCanon
import Derived.Test.YtomekicglojhhaaDoorSame
namespace Go.Proofs.YtomekicglojhhaaDoor
open Go.RowKit

theorem sameRows_any (A B : Option Addr) (c d : Nat) (hs gs : List Hd) (w : World) (ha : RdR w A hs) (hb : RdR w B gs) (hl : hs.length ≤ 17592186044416) (hr : ∀ x, x ∈ hs → x.2.2.length ≤ 17592186044416) :
    Calls Tryd.prog 124 #[.slice A hs.length c, .slice B gs.length d] w fun e w' => e = .returned (.bool (decide (hs.map (fun h : Hd => h.2.2) = gs.map (fun h : Hd => h.2.2)))) ∧ Qt w w' := by
  have HC := Lib.hid (equalFunc_any A B c d hs gs w ha hb hl hr)
  clear ha hb hl hr
  go_enter Tryd.func124, Tryd.ntmps124
  go_wp2_with (fail)
  refine HC.out.mono ?_
  rintro e w1 ⟨rfl, hq⟩
  go_wp2_with (fail)
  go_ret
  exact ⟨rfl, hq⟩
theorem qt_below {w w' : World} (h : Qt w w') : Below w.heap.size w w' := by
  obtain ⟨n, rfl⟩ := h; exact below_drewN (Below.refl _ _) n
theorem sameRV {w : World} {v v' : Value} {s t : Sys} (h : RdSysV w v s) (h' : RdSysV w v' t) (ok : OkR s.2.2) : ∃ a b A n c A' n' c', v = .agg #[.int .i64 s.1, .int .i64 s.2.1, .slice A n c] ∧ v' = .agg #[.int .i64 a, .int .i64 b, .slice A' n' c'] ∧ a = t.1 ∧ b = t.2.1 ∧
    (Calls Tryd.prog 124 #[.slice A n c, .slice A' n' c'] w fun e w' => e = .returned (.bool (decide (s.2.2 = t.2.2))) ∧ Below w.heap.size w w') ∧
    (Calls Tryd.prog 78 #[.slice A n c, .slice A' n' c'] w fun e w' => e = .returned (.bool (decide (s.2.2 = t.2.2))) ∧ Below w.heap.size w w') := by
  obtain ⟨A, c, hs, rfl, hL, hR⟩ := h
  obtain ⟨A', c', gs, rfl, hL', hR'⟩ := h'
  refine ⟨_, _, A, hs.length, c, A', gs.length, c', rfl, rfl, rfl, rfl, ?_, ?_⟩
  · have hok : ∀ x, x ∈ hs → x.2.2.length ≤ 17592186044416 := fun x hx => by have := ok.2.1 x.2.2 (by rw [hL]; exact List.mem_map_of_mem hx); omega
    have hn : hs.length ≤ 1048576 := by have := ok.1; rw [hL, List.length_map] at this; exact this
    rw [hL, hL']
    exact (sameRows_any A A' c c' hs gs w hR hR' (by omega) hok).mono fun e w' h => ⟨h.1, qt_below h.2⟩
  · have hok : ∀ x, x ∈ hs → x.2.2.length ≤ 17592186044416 := fun x hx => by have := ok.2.1 x.2.2 (by rw [hL]; exact List.mem_map_of_mem hx); omega
    have hn : hs.length ≤ 1048576 := by have := ok.1; rw [hL, List.length_map] at this; exact this
    rw [hL, hL']
    exact (spSame_any A A' c c' hs gs w hR hR' (by omega) hok).mono fun e w' h => ⟨h.1, qt_below h.2⟩

set_option maxRecDepth 100000 in
set_option maxHeartbeats 1000000 in
theorem equalSystems_any {v v' : Value} {s t : Sys} (w : World) (h : RdSysV w v s) (h' : RdSysV w v' t) (ok : OkR s.2.2) (e1 : t.1 = s.1) (e2 : t.2.1 = s.2.1) :
    Calls Tryd.prog 79 #[v, v'] w fun e w' => e = .returned (.bool (decide (s.2.2 = t.2.2))) ∧ Below w.heap.size w w' := by
  obtain ⟨A1, n1, c1, rfl⟩ := h.shape
  obtain ⟨A2, n2, c2, rfl⟩ := h'.shape
  obtain ⟨W, hW⟩ : ∃ W, W = (w.alloc (.cells #[.int .i64 s.1, .int .i64 s.2.1, .slice A1 n1 c1] 27)).alloc (.cells #[.int .i64 t.1, .int .i64 t.2.1, .slice A2 n2 c2] 27) := ⟨_, rfl⟩
  have hB0 : Below w.heap.size w W := by rw [hW]; exact ((Below.refl _ _).alloc (Nat.le_refl _) _).alloc (by simp) _
  have k0 : W.heap[w.heap.size]? = some (.cells #[.int .i64 s.1, .int .i64 s.2.1, .slice A1 n1 c1] 27) := by
    rw [hW]; exact box_below (heap_alloc_new w _) (below_alloc _ _)
  have k1 : W.heap[w.heap.size + 1]? = some (.cells #[.int .i64 t.1, .int .i64 t.2.1, .slice A2 n2 c2] 27) := by
    rw [hW]
    have := heap_alloc_new (w.alloc (.cells #[.int .i64 s.1, .int .i64 s.2.1, .slice A1 n1 c1] 27)) (.cells #[.int .i64 t.1, .int .i64 t.2.1, .slice A2 n2 c2] 27)
    rwa [World.size_alloc] at this
  obtain ⟨a, b, A, n, c, A', n', c', hv, hv', ha, hb, hC, _⟩ := sameRV (h.below hB0) (h'.below hB0) ok
  simp only [Value.agg.injEq, Array.mk.injEq, List.cons.injEq, Value.int.injEq, Value.slice.injEq, and_true, true_and] at hv hv'
  obtain ⟨rfl, rfl, rfl⟩ := hv
  obtain ⟨_, _, rfl, rfl, rfl⟩ := hv'
  rw [e1, e2] at hW k1
  obtain ⟨⟨ca0, ca1, ca2⟩, f0, f1, f2⟩ := box3 k0
  obtain ⟨⟨d0, d1, d2⟩, g0, g1, g2⟩ := box3 k1
  have HC := Lib.hid hC
  have HB := Lib.hid hB0
  rw [e1, e2]
  clear hC hB0 k0 k1 h h' ok ha hb e1 e2
  go_enter Tryd.func79, Tryd.ntmps79
  go_wp2_with (fail)
  rw [← hW]
  clear hW
  go_wp2_with (fail)
  refine HC.out.mono ?_
  rintro e w1 ⟨rfl, hb1⟩
  go_wp2_with (fail)
  go_ret
  exact ⟨rfl, below_trans HB.out hb1 HB.out.size⟩

/-- Whether two systems' canonical systems are one. -/
def sameM (p : Int) (s t : Sys) : Bool × Bool := if sysB p s && (sysB p t && decide (s.1 = t.1)) then (decide ((canonM p s).2.2 = (canonM p t).2.2), true) else (false, false)
theorem canonM_ok {p : Int} {s : Sys} (hs : SysOk p s) : OkR (canonM p s).2.2 := by
  have hr := nullM_red hs.fld s.1.toNat (solvM p s)
  have hl := red_len hr
  have hv := hs.vis
  exact okR_mat hr.1 (by omega) (by omega)

set_option maxRecDepth 100000 in
set_option maxHeartbeats 4000000 in
theorem sSameSystems_law (p : Int) {v v' : Value} {s t : Sys} {w : World} (h : RdSysV w v s) (h' : RdSysV w v' t) (ok : OkR s.2.2) (ok' : OkR t.2.2) :
    Calls Tryd.prog 30 #[.int .i64 p, v, v'] w fun e w' => e = .returned (.tuple #[.bool (sameM p s t).1, .bool (sameM p s t).2]) ∧ Below w.heap.size w w' := by
  obtain ⟨A1, n1, c1, rfl⟩ := h.shape
  obtain ⟨A2, n2, c2, rfl⟩ := h'.shape
  obtain ⟨W, hW⟩ : ∃ W, W = (w.alloc (.cells #[.int .i64 s.1, .int .i64 s.2.1, .slice A1 n1 c1] 27)).alloc (.cells #[.int .i64 t.1, .int .i64 t.2.1, .slice A2 n2 c2] 27) := ⟨_, rfl⟩
  have hB0 : Below w.heap.size w W := by rw [hW]; exact ((Below.refl _ _).alloc (Nat.le_refl _) _).alloc (by simp) _
  have k0 : W.heap[w.heap.size]? = some (.cells #[.int .i64 s.1, .int .i64 s.2.1, .slice A1 n1 c1] 27) := by
    rw [hW]; exact box_below (heap_alloc_new w _) (below_alloc _ _)
  have k1 : W.heap[w.heap.size + 1]? = some (.cells #[.int .i64 t.1, .int .i64 t.2.1, .slice A2 n2 c2] 27) := by
    rw [hW]
    have := heap_alloc_new (w.alloc (.cells #[.int .i64 s.1, .int .i64 s.2.1, .slice A1 n1 c1] 27)) (.cells #[.int .i64 t.1, .int .i64 t.2.1, .slice A2 n2 c2] 27)
    rwa [World.size_alloc] at this
  have hG := Lib.hid (syGood_any p W (h.below hB0) ok.1 ok.2.1)
  have hG2 := Lib.hid (fun (w' : World) (hb : Below W.heap.size W w') => syGood_any p w' ((h'.below hB0).below hb) ok'.1 ok'.2.1)
  have hC := Lib.hid (fun (w' : World) (hb : Below W.heap.size W w') (hs : SysOk p s) => syCanon_any p w' ((h.below hB0).below hb) hs)
  have hC2 := Lib.hid (fun (w' : World) (hb : Below W.heap.size W w') (hs : SysOk p t) => syCanon_any p w' ((h'.below hB0).below hb) hs)
  have HB := Lib.hid hB0
  have K1 := Lib.hid k1
  have K0 := Lib.hid k0
  have hcan : ∀ b, (sysB p s && (sysB p t && decide (s.1 = t.1))) = b → sameM p s t = if b then (decide ((canonM p s).2.2 = (canonM p t).2.2), true) else (false, false) := fun b hb => by unfold sameM; rw [hb]
  have HCAN := Lib.hid hcan
  have hfd : ∀ (x y z : Value) (W : World), (Instr.field 27 (.agg #[x, y, z]) 2).run Tryd.prog W = .ok z W := fun _ _ _ _ => by kernel_rfl
  obtain ⟨C, hCe⟩ : ∃ C, C = sameM p s t := ⟨_, rfl⟩
  rw [← hCe]
  have HCE := Lib.hid hCe
  obtain ⟨⟨ca0, ca1, ca2⟩, f0, f1, f2⟩ := box3 k0
  obtain ⟨⟨d0, d1, d2⟩, g0, g1, g2⟩ := box3 k1
  clear k0 k1 hB0 h h' ok ok' hcan hCe
  go_enter Tryd.func30, Tryd.ntmps30
  go_wp2_with (fail)
  rw [← hW]
  clear hW
  go_wp2_with (fail)
  refine hG.out.mono ?_
  rintro e w1 ⟨rfl, hb1⟩
  have k1' := box_below K1.out hb1
  have k0' := box_below K0.out hb1
  have hB1 := Lib.hid (below_trans HB.out hb1 HB.out.size)
  have hG2' := Lib.hid (hG2.out w1 hb1)
  clear ca0 ca1 ca2 f0 f1 f2 d0 d1 d2 g0 g1 g2 hG hG2
  obtain ⟨⟨ca0, ca1, ca2⟩, f0, f1, f2⟩ := box3 k0'
  obtain ⟨⟨d0, d1, d2⟩, g0, g1, g2⟩ := box3 k1'
  have K0' := Lib.hid k0'
  have K1' := Lib.hid k1'
  clear k0' k1'
  by_cases hb : sysB p s = true
  case neg =>
    have hb' : sysB p s = false := by simpa using hb
    obtain rfl : C = (false, false) := by rw [HCE.out, HCAN.out false (by rw [hb']; rfl)]; rfl
    rw [hb']
    clear hb hb' hG2' hC hC2 HCE HCAN
    go_wp2_with (fail)
    go_ret2
    exact ⟨rfl, hB1.out⟩
  have HBT := Lib.hid hb
  rw [hb]
  clear hb
  go_wp2_with (fail)
  refine hG2'.out.mono ?_
  rintro e w2 ⟨rfl, hb2⟩
  have k1'' := box_below K1'.out hb2
  have k0'' := box_below K0'.out hb2
  have hB2 := Lib.hid (below_trans hB1.out hb2 hB1.out.size)
  have hW2 := Lib.hid (below_trans hb1 hb2 hb1.size)
  clear ca0 ca1 ca2 f0 f1 f2 d0 d1 d2 g0 g1 g2 hG2' K0' K1'
  obtain ⟨⟨ca0, ca1, ca2⟩, f0, f1, f2⟩ := box3 k0''
  obtain ⟨⟨d0, d1, d2⟩, g0, g1, g2⟩ := box3 k1''
  have K0'' := Lib.hid k0''
  have K1'' := Lib.hid k1''
  clear k0'' k1''
  by_cases hb : sysB p t = true
  case neg =>
    have hb' : sysB p t = false := by simpa using hb
    obtain rfl : C = (false, false) := by rw [HCE.out, HCAN.out false (by rw [hb', HBT.out]; rfl)]; rfl
    rw [hb']
    clear hb hb' hC hC2 HCE HCAN
    go_wp2_with (fail)
    go_ret2
    exact ⟨rfl, hB2.out⟩
  have HBT2 := Lib.hid hb
  rw [hb]
  clear hb
  by_cases hne : s.1 = t.1
  case neg =>
    obtain rfl : C = (false, false) := by rw [HCE.out, HCAN.out false (by rw [HBT.out, HBT2.out, decide_eq_false hne]; rfl)]; rfl
    have hn' : (s.1 != t.1) = true := by simpa using hne
    clear hne hC hC2 HCE HCAN
    go_wp2_with (fail)
    go_ret2
    exact ⟨rfl, hB2.out⟩
  obtain ⟨r, hr⟩ : ∃ r, r = decide ((canonM p s).2.2 = (canonM p t).2.2) := ⟨_, rfl⟩
  obtain rfl : C = (r, true) := by rw [HCE.out, HCAN.out true (by rw [HBT.out, HBT2.out, decide_eq_true hne]; rfl), hr]; rfl
  have hn' : (s.1 != t.1) = false := by simpa using hne
  have hD : Below w2.heap.size w2 w2.drew := below_drewN (Below.refl _ _) 1
  have hWd := Lib.hid (below_trans hW2.out hD hW2.out.size)
  have hC1 := Lib.hid (hC.out w2.drew hWd.out (SysOk.of HBT.out))
  have S0 := Lib.hid (show w2.drew.heap[w.heap.size]? = some (.cells #[.int .i64 s.1, .int .i64 s.2.1, .slice A1 n1 c1] 27) ∧ w2.drew.heap[w.heap.size + 1]? = some (.cells #[.int .i64 t.1, .int .i64 t.2.1, .slice A2 n2 c2] 27) from ⟨box_below K0''.out hD, box_below K1''.out hD⟩)
  have hBd := Lib.hid (below_trans hB2.out hD hB2.out.size)
  have HR := Lib.hid hr
  have HNE := Lib.hid hne
  have HOK := Lib.hid (canonM_ok (SysOk.of HBT.out))
  clear hr hne hC HCE HCAN hD
  go_wp2_with (fail)
  refine beginH (fun w' => w'.heap[w.heap.size]? = some (.cells #[.int .i64 s.1, .int .i64 s.2.1, .slice A1 n1 c1] 27) ∧ w'.heap[w.heap.size + 1]? = some (.cells #[.int .i64 t.1, .int .i64 t.2.1, .slice A2 n2 c2] 27)) (by kernel_rfl) ?_
  refine takeH 0 (v := ?_) rfl (by kernel_rfl) (by kernel_rfl) (by kernel_rfl) (fun _ _ _ h => h) S0.out (by rfl) (fun W' hW' => ?_) ?_; rotate_left; · (obtain ⟨q1, q2⟩ := hW'; obtain ⟨⟨ca0, ca1, ca2⟩, f0, f1, f2⟩ := box3 q1; obtain ⟨⟨d0, d1, d2⟩, g0, g1, g2⟩ := box3 q2; clear q1 q2; go_simp; first | done | with_reducible rfl)
  simp only [Act.put, List.setIfInBounds_toArray, List.set_cons_zero, List.set_cons_succ]
  refine takeH 1 (v := ?_) rfl (by kernel_rfl) (by kernel_rfl) (by kernel_rfl) (fun _ _ _ h => h) S0.out (by rfl) (fun W' hW' => ?_) ?_; rotate_left; · (obtain ⟨q1, q2⟩ := hW'; obtain ⟨⟨ca0, ca1, ca2⟩, f0, f1, f2⟩ := box3 q1; obtain ⟨⟨d0, d1, d2⟩, g0, g1, g2⟩ := box3 q2; clear q1 q2; go_simp; first | done | with_reducible rfl)
  simp only [Act.put, List.setIfInBounds_toArray, List.set_cons_zero, List.set_cons_succ]
  refine takeH 4 (v := ?_) rfl (by kernel_rfl) (by kernel_rfl) (by kernel_rfl) (fun _ _ _ h => h) S0.out (by rfl) (fun W' hW' => ?_) ?_; rotate_left; · (obtain ⟨q1, q2⟩ := hW'; obtain ⟨⟨ca0, ca1, ca2⟩, f0, f1, f2⟩ := box3 q1; obtain ⟨⟨d0, d1, d2⟩, g0, g1, g2⟩ := box3 q2; clear q1 q2; go_simp; first | done | with_reducible rfl)
  simp only [Act.put, List.setIfInBounds_toArray, List.set_cons_zero, List.set_cons_succ]
  refine takeH 5 (v := ?_) rfl (by kernel_rfl) (by kernel_rfl) (by kernel_rfl) (fun _ _ _ h => h) S0.out (by rfl) (fun W' hW' => ?_) ?_; rotate_left; · (obtain ⟨q1, q2⟩ := hW'; obtain ⟨⟨ca0, ca1, ca2⟩, f0, f1, f2⟩ := box3 q1; obtain ⟨⟨d0, d1, d2⟩, g0, g1, g2⟩ := box3 q2; clear q1 q2; go_simp; first | done | with_reducible rfl)
  simp only [Act.put, List.setIfInBounds_toArray, List.set_cons_zero, List.set_cons_succ]
  refine' callH 2 (f := _) (args := _) rfl (by kernel_rfl) (by rfl) ?_ ?_; rotate_left 2; · (go_simp; first | done | with_reducible rfl | (constructor <;> with_reducible rfl))
  refine hC1.out.mono ?_
  rintro e w3 ⟨v3, fp3, rfl, hO3, hf3, hb3⟩
  have S3 := Lib.hid (show w3.heap[w.heap.size]? = some (.cells #[.int .i64 s.1, .int .i64 s.2.1, .slice A1 n1 c1] 27) ∧ w3.heap[w.heap.size + 1]? = some (.cells #[.int .i64 t.1, .int .i64 t.2.1, .slice A2 n2 c2] 27) from ⟨box_below S0.out.1 hb3, box_below S0.out.2 hb3⟩)
  refine ⟨_, rfl, S3.out, ?_⟩
  have hB3 := Lib.hid (below_trans hBd.out hb3 hBd.out.size)
  have hC3 := Lib.hid (hC2.out w3 (below_trans hWd.out hb3 hWd.out.size) (SysOk.of HBT2.out))
  obtain ⟨A3, n3, c3, rfl⟩ := hO3.shape
  have HO3 := Lib.hid hO3
  clear hC1 hC2 hO3 hf3 hb3
  simp only [Act.put, List.setIfInBounds_toArray, List.set_cons_zero, List.set_cons_succ]
  refine takeH 3 (v := ?_) rfl (by kernel_rfl) (by kernel_rfl) (by kernel_rfl) (fun _ _ _ h => h) S3.out (by rfl) (fun W' hW' => ?_) ?_; rotate_left; · (obtain ⟨q1, q2⟩ := hW'; obtain ⟨⟨ca0, ca1, ca2⟩, f0, f1, f2⟩ := box3 q1; obtain ⟨⟨d0, d1, d2⟩, g0, g1, g2⟩ := box3 q2; clear q1 q2; go_simp; first | done | with_reducible rfl)
  simp only [Act.put, List.setIfInBounds_toArray, List.set_cons_zero, List.set_cons_succ]
  refine' callH 6 (f := _) (args := _) rfl (by kernel_rfl) (by rfl) ?_ ?_; rotate_left 2; · (go_simp; first | done | with_reducible rfl | (constructor <;> with_reducible rfl))
  refine hC3.out.mono ?_
  rintro e w4 ⟨v4, fp4, rfl, hO4, hf4, hb4⟩
  have S4 := Lib.hid (show w4.heap[w.heap.size]? = some (.cells #[.int .i64 s.1, .int .i64 s.2.1, .slice A1 n1 c1] 27) ∧ w4.heap[w.heap.size + 1]? = some (.cells #[.int .i64 t.1, .int .i64 t.2.1, .slice A2 n2 c2] 27) from ⟨box_below S3.out.1 hb4, box_below S3.out.2 hb4⟩)
  refine ⟨_, rfl, S4.out, ?_⟩
  have hB4 := Lib.hid (below_trans hB3.out hb4 hB3.out.size)
  obtain ⟨A4, n4, c4, rfl⟩ := hO4.shape
  have HO3' := Lib.hid (HO3.out.below hb4)
  have HO4 := Lib.hid hO4
  obtain ⟨a, b, A5, n5, c5, A6, n6, c6, hv, hv', ha, hb', _, hCC⟩ := sameRV HO3'.out.rd HO4.out.rd HOK.out
  simp only [Value.agg.injEq, Array.mk.injEq, List.cons.injEq, Value.int.injEq, Value.slice.injEq, and_true, true_and] at hv hv'
  obtain ⟨rfl, rfl, rfl⟩ := hv
  obtain ⟨_, _, rfl, rfl, rfl⟩ := hv'
  rw [← HR.out] at hCC
  clear ha hb'
  have HCC := Lib.hid hCC
  clear hC3 hO4 hf4 hb4 hCC
  simp only [Act.put, List.setIfInBounds_toArray, List.set_cons_zero, List.set_cons_succ]
  refine takeH 7 (v := ?_) rfl (by kernel_rfl) (by kernel_rfl) (by kernel_rfl) (fun _ _ _ h => h) S4.out (by rfl) (fun W' hW' => ?_) ?_; rotate_left; · (obtain ⟨q1, q2⟩ := hW'; obtain ⟨⟨ca0, ca1, ca2⟩, f0, f1, f2⟩ := box3 q1; obtain ⟨⟨d0, d1, d2⟩, g0, g1, g2⟩ := box3 q2; clear q1 q2; go_simp; first | done | with_reducible rfl)
  simp only [Act.put, List.setIfInBounds_toArray, List.set_cons_zero, List.set_cons_succ]
  refine' callH 8 (f := _) (args := _) rfl (by kernel_rfl) (by rfl) ?_ ?_; rotate_left 2; · (go_simp; first | done | with_reducible rfl | (constructor <;> with_reducible rfl))
  refine HCC.out.mono ?_
  rintro e w5 ⟨rfl, hb5⟩
  have S5 := Lib.hid (show w5.heap[w.heap.size]? = some (.cells #[.int .i64 s.1, .int .i64 s.2.1, .slice A1 n1 c1] 27) ∧ w5.heap[w.heap.size + 1]? = some (.cells #[.int .i64 t.1, .int .i64 t.2.1, .slice A2 n2 c2] 27) from ⟨box_below S4.out.1 hb5, box_below S4.out.2 hb5⟩)
  refine ⟨_, rfl, S5.out, ?_⟩
  have hB5 := Lib.hid (below_trans hB4.out hb5 hB4.out.size)
  clear HCC hb5
  simp only [Act.put, List.setIfInBounds_toArray, List.set_cons_zero, List.set_cons_succ]
  refine takeH 9 (v := ?_) rfl (by kernel_rfl) (by kernel_rfl) (by kernel_rfl) (fun _ _ _ h => h) S5.out (by rfl) (fun W' hW' => ?_) ?_; rotate_left; · (obtain ⟨q1, q2⟩ := hW'; obtain ⟨⟨ca0, ca1, ca2⟩, f0, f1, f2⟩ := box3 q1; obtain ⟨⟨d0, d1, d2⟩, g0, g1, g2⟩ := box3 q2; clear q1 q2; go_simp; first | done | with_reducible rfl)
  simp only [Act.put, List.setIfInBounds_toArray, List.set_cons_zero, List.set_cons_succ]
  refine takeH 10 (v := ?_) rfl (by kernel_rfl) (by kernel_rfl) (by kernel_rfl) (fun _ _ _ h => h) S5.out (by rfl) (fun W' hW' => ?_) ?_; rotate_left; · (obtain ⟨q1, q2⟩ := hW'; obtain ⟨⟨ca0, ca1, ca2⟩, f0, f1, f2⟩ := box3 q1; obtain ⟨⟨d0, d1, d2⟩, g0, g1, g2⟩ := box3 q2; clear q1 q2; go_simp; first | done | with_reducible rfl)
  simp only [Act.put, List.setIfInBounds_toArray, List.set_cons_zero, List.set_cons_succ]
  refine doneH (by kernel_rfl) ?_
  go_wp2_with (fail)
  go_ret2
  exact ⟨rfl, hB5.out⟩

set_option maxRecDepth 100000 in
set_option maxHeartbeats 4000000 in
theorem iSameSystems_law (p : Int) {v v' : Value} {s t : Sys} {w : World} (h : RdSysV w v s) (h' : RdSysV w v' t) (ok : OkR s.2.2) (ok' : OkR t.2.2) (hT : Tab w) :
    Calls Tryd.prog 31 #[.int .i64 p, v, v'] w fun e w' => e = .returned (.tuple #[.bool (sameM p s t).1, .bool (sameM p s t).2]) ∧ Below w.heap.size w w' := by
  obtain ⟨A1, n1, c1, rfl⟩ := h.shape
  obtain ⟨A2, n2, c2, rfl⟩ := h'.shape
  obtain ⟨W, hW⟩ : ∃ W, W = (w.alloc (.cells #[.int .i64 s.1, .int .i64 s.2.1, .slice A1 n1 c1] 27)).alloc (.cells #[.int .i64 t.1, .int .i64 t.2.1, .slice A2 n2 c2] 27) := ⟨_, rfl⟩
  have hB0 : Below w.heap.size w W := by rw [hW]; exact ((Below.refl _ _).alloc (Nat.le_refl _) _).alloc (by simp) _
  have k0 : W.heap[w.heap.size]? = some (.cells #[.int .i64 s.1, .int .i64 s.2.1, .slice A1 n1 c1] 27) := by
    rw [hW]; exact box_below (heap_alloc_new w _) (below_alloc _ _)
  have k1 : W.heap[w.heap.size + 1]? = some (.cells #[.int .i64 t.1, .int .i64 t.2.1, .slice A2 n2 c2] 27) := by
    rw [hW]
    have := heap_alloc_new (w.alloc (.cells #[.int .i64 s.1, .int .i64 s.2.1, .slice A1 n1 c1] 27)) (.cells #[.int .i64 t.1, .int .i64 t.2.1, .slice A2 n2 c2] 27)
    rwa [World.size_alloc] at this
  have hG := Lib.hid (isSystem_any p W (h.below hB0) (hT.below hB0 hT.lt) ok.1 ok.2.1)
  have hG2 := Lib.hid (fun (w' : World) (hb : Below W.heap.size W w') => isSystem_any p w' ((h'.below hB0).below hb) (hT.below (below_trans hB0 hb hB0.size) hT.lt) ok'.1 ok'.2.1)
  have hC := Lib.hid (fun (w' : World) (hb : Below W.heap.size W w') (hs : SysOk p s) => canonicalSystem_any p w' ((h.below hB0).below hb) hs)
  have hC2 := Lib.hid (fun (w' : World) (hb : Below W.heap.size W w') (hs : SysOk p t) => canonicalSystem_any p w' ((h'.below hB0).below hb) hs)
  have HB := Lib.hid hB0
  have K1 := Lib.hid k1
  have K0 := Lib.hid k0
  have hcan : ∀ b, (sysB p s && (sysB p t && decide (s.1 = t.1))) = b → sameM p s t = if b then (decide ((canonM p s).2.2 = (canonM p t).2.2), true) else (false, false) := fun b hb => by unfold sameM; rw [hb]
  have HCAN := Lib.hid hcan
  have hfd : ∀ (x y z : Value) (W : World), (Instr.field 27 (.agg #[x, y, z]) 2).run Tryd.prog W = .ok z W := fun _ _ _ _ => by kernel_rfl
  obtain ⟨C, hCe⟩ : ∃ C, C = sameM p s t := ⟨_, rfl⟩
  rw [← hCe]
  have HCE := Lib.hid hCe
  obtain ⟨⟨ca0, ca1, ca2⟩, f0, f1, f2⟩ := box3 k0
  obtain ⟨⟨d0, d1, d2⟩, g0, g1, g2⟩ := box3 k1
  clear k0 k1 hB0 h h' ok ok' hcan hCe hT
  go_enter Tryd.func31, Tryd.ntmps31
  go_wp2_with (fail)
  rw [← hW]
  clear hW
  go_wp2_with (fail)
  refine hG.out.mono ?_
  rintro e w1 ⟨rfl, hb1⟩
  have k1' := box_below K1.out hb1
  have k0' := box_below K0.out hb1
  have hB1 := Lib.hid (below_trans HB.out hb1 HB.out.size)
  have hG2' := Lib.hid (hG2.out w1 hb1)
  clear ca0 ca1 ca2 f0 f1 f2 d0 d1 d2 g0 g1 g2 hG hG2
  obtain ⟨⟨ca0, ca1, ca2⟩, f0, f1, f2⟩ := box3 k0'
  obtain ⟨⟨d0, d1, d2⟩, g0, g1, g2⟩ := box3 k1'
  have K0' := Lib.hid k0'
  have K1' := Lib.hid k1'
  clear k0' k1'
  by_cases hb : sysB p s = true
  case neg =>
    have hb' : sysB p s = false := by simpa using hb
    obtain rfl : C = (false, false) := by rw [HCE.out, HCAN.out false (by rw [hb']; rfl)]; rfl
    rw [hb']
    clear hb hb' hG2' hC hC2 HCE HCAN
    go_wp2_with (fail)
    go_ret2
    exact ⟨rfl, hB1.out⟩
  have HBT := Lib.hid hb
  rw [hb]
  clear hb
  go_wp2_with (fail)
  refine hG2'.out.mono ?_
  rintro e w2 ⟨rfl, hb2⟩
  have k1'' := box_below K1'.out hb2
  have k0'' := box_below K0'.out hb2
  have hB2 := Lib.hid (below_trans hB1.out hb2 hB1.out.size)
  have hW2 := Lib.hid (below_trans hb1 hb2 hb1.size)
  clear ca0 ca1 ca2 f0 f1 f2 d0 d1 d2 g0 g1 g2 hG2' K0' K1'
  obtain ⟨⟨ca0, ca1, ca2⟩, f0, f1, f2⟩ := box3 k0''
  obtain ⟨⟨d0, d1, d2⟩, g0, g1, g2⟩ := box3 k1''
  have K0'' := Lib.hid k0''
  have K1'' := Lib.hid k1''
  clear k0'' k1''
  by_cases hb : sysB p t = true
  case neg =>
    have hb' : sysB p t = false := by simpa using hb
    obtain rfl : C = (false, false) := by rw [HCE.out, HCAN.out false (by rw [hb', HBT.out]; rfl)]; rfl
    rw [hb']
    clear hb hb' hC hC2 HCE HCAN
    go_wp2_with (fail)
    go_ret2
    exact ⟨rfl, hB2.out⟩
  have HBT2 := Lib.hid hb
  rw [hb]
  clear hb
  by_cases hne : s.1 = t.1
  case neg =>
    obtain rfl : C = (false, false) := by rw [HCE.out, HCAN.out false (by rw [HBT.out, HBT2.out, decide_eq_false hne]; rfl)]; rfl
    have hn' : (s.1 != t.1) = true := by simpa using hne
    clear hne hC hC2 HCE HCAN
    go_wp2_with (fail)
    go_ret2
    exact ⟨rfl, hB2.out⟩
  obtain ⟨r, hr⟩ : ∃ r, r = decide ((canonM p s).2.2 = (canonM p t).2.2) := ⟨_, rfl⟩
  obtain rfl : C = (r, true) := by rw [HCE.out, HCAN.out true (by rw [HBT.out, HBT2.out, decide_eq_true hne]; rfl), hr]; rfl
  have hn' : (s.1 != t.1) = false := by simpa using hne
  have hD : Below w2.heap.size w2 w2.drew := below_drewN (Below.refl _ _) 1
  have hWd := Lib.hid (below_trans hW2.out hD hW2.out.size)
  have hC1 := Lib.hid (hC.out w2.drew hWd.out (SysOk.of HBT.out))
  have S0 := Lib.hid (show w2.drew.heap[w.heap.size]? = some (.cells #[.int .i64 s.1, .int .i64 s.2.1, .slice A1 n1 c1] 27) ∧ w2.drew.heap[w.heap.size + 1]? = some (.cells #[.int .i64 t.1, .int .i64 t.2.1, .slice A2 n2 c2] 27) from ⟨box_below K0''.out hD, box_below K1''.out hD⟩)
  have hBd := Lib.hid (below_trans hB2.out hD hB2.out.size)
  have HR := Lib.hid hr
  have HNE := Lib.hid hne
  have HOK := Lib.hid (canonM_ok (SysOk.of HBT.out))
  clear hr hne hC HCE HCAN hD
  go_wp2_with (fail)
  refine beginH (fun w' => w'.heap[w.heap.size]? = some (.cells #[.int .i64 s.1, .int .i64 s.2.1, .slice A1 n1 c1] 27) ∧ w'.heap[w.heap.size + 1]? = some (.cells #[.int .i64 t.1, .int .i64 t.2.1, .slice A2 n2 c2] 27)) (by kernel_rfl) ?_
  refine takeH 0 (v := ?_) rfl (by kernel_rfl) (by kernel_rfl) (by kernel_rfl) (fun _ _ _ h => h) S0.out (by rfl) (fun W' hW' => ?_) ?_; rotate_left; · (obtain ⟨q1, q2⟩ := hW'; obtain ⟨⟨ca0, ca1, ca2⟩, f0, f1, f2⟩ := box3 q1; obtain ⟨⟨d0, d1, d2⟩, g0, g1, g2⟩ := box3 q2; clear q1 q2; go_simp; first | done | with_reducible rfl)
  simp only [Act.put, List.setIfInBounds_toArray, List.set_cons_zero, List.set_cons_succ]
  refine takeH 1 (v := ?_) rfl (by kernel_rfl) (by kernel_rfl) (by kernel_rfl) (fun _ _ _ h => h) S0.out (by rfl) (fun W' hW' => ?_) ?_; rotate_left; · (obtain ⟨q1, q2⟩ := hW'; obtain ⟨⟨ca0, ca1, ca2⟩, f0, f1, f2⟩ := box3 q1; obtain ⟨⟨d0, d1, d2⟩, g0, g1, g2⟩ := box3 q2; clear q1 q2; go_simp; first | done | with_reducible rfl)
  simp only [Act.put, List.setIfInBounds_toArray, List.set_cons_zero, List.set_cons_succ]
  refine takeH 3 (v := ?_) rfl (by kernel_rfl) (by kernel_rfl) (by kernel_rfl) (fun _ _ _ h => h) S0.out (by rfl) (fun W' hW' => ?_) ?_; rotate_left; · (obtain ⟨q1, q2⟩ := hW'; obtain ⟨⟨ca0, ca1, ca2⟩, f0, f1, f2⟩ := box3 q1; obtain ⟨⟨d0, d1, d2⟩, g0, g1, g2⟩ := box3 q2; clear q1 q2; go_simp; first | done | with_reducible rfl)
  simp only [Act.put, List.setIfInBounds_toArray, List.set_cons_zero, List.set_cons_succ]
  refine takeH 4 (v := ?_) rfl (by kernel_rfl) (by kernel_rfl) (by kernel_rfl) (fun _ _ _ h => h) S0.out (by rfl) (fun W' hW' => ?_) ?_; rotate_left; · (obtain ⟨q1, q2⟩ := hW'; obtain ⟨⟨ca0, ca1, ca2⟩, f0, f1, f2⟩ := box3 q1; obtain ⟨⟨d0, d1, d2⟩, g0, g1, g2⟩ := box3 q2; clear q1 q2; go_simp; first | done | with_reducible rfl)
  simp only [Act.put, List.setIfInBounds_toArray, List.set_cons_zero, List.set_cons_succ]
  refine' callH 2 (f := _) (args := _) rfl (by kernel_rfl) (by rfl) ?_ ?_; rotate_left 2; · (go_simp; first | done | with_reducible rfl | (constructor <;> with_reducible rfl))
  refine hC1.out.mono ?_
  rintro e w3 ⟨v3, fp3, rfl, hO3, hf3, hb3⟩
  have S3 := Lib.hid (show w3.heap[w.heap.size]? = some (.cells #[.int .i64 s.1, .int .i64 s.2.1, .slice A1 n1 c1] 27) ∧ w3.heap[w.heap.size + 1]? = some (.cells #[.int .i64 t.1, .int .i64 t.2.1, .slice A2 n2 c2] 27) from ⟨box_below S0.out.1 hb3, box_below S0.out.2 hb3⟩)
  refine ⟨_, rfl, S3.out, ?_⟩
  have hB3 := Lib.hid (below_trans hBd.out hb3 hBd.out.size)
  have hC3 := Lib.hid (hC2.out w3 (below_trans hWd.out hb3 hWd.out.size) (SysOk.of HBT2.out))
  obtain ⟨A3, n3, c3, rfl⟩ := hO3.shape
  have HO3 := Lib.hid hO3
  clear hC1 hC2 hO3 hf3 hb3
  simp only [Act.put, List.setIfInBounds_toArray, List.set_cons_zero, List.set_cons_succ]
  refine' callH 5 (f := _) (args := _) rfl (by kernel_rfl) (by rfl) ?_ ?_; rotate_left 2; · (go_simp; first | done | with_reducible rfl | (constructor <;> with_reducible rfl))
  refine hC3.out.mono ?_
  rintro e w4 ⟨v4, fp4, rfl, hO4, hf4, hb4⟩
  have S4 := Lib.hid (show w4.heap[w.heap.size]? = some (.cells #[.int .i64 s.1, .int .i64 s.2.1, .slice A1 n1 c1] 27) ∧ w4.heap[w.heap.size + 1]? = some (.cells #[.int .i64 t.1, .int .i64 t.2.1, .slice A2 n2 c2] 27) from ⟨box_below S3.out.1 hb4, box_below S3.out.2 hb4⟩)
  refine ⟨_, rfl, S4.out, ?_⟩
  have hB4 := Lib.hid (below_trans hB3.out hb4 hB3.out.size)
  obtain ⟨A4, n4, c4, rfl⟩ := hO4.shape
  have HO3' := Lib.hid (HO3.out.below hb4)
  have HO4 := Lib.hid hO4
  have hCC := equalSystems_any w4 HO3'.out.rd HO4.out.rd HOK.out HNE.out.symm rfl
  rw [← HR.out] at hCC
  have HCC := Lib.hid hCC
  clear hC3 hO4 hf4 hb4 hCC
  simp only [Act.put, List.setIfInBounds_toArray, List.set_cons_zero, List.set_cons_succ]
  refine' callH 6 (f := _) (args := _) rfl (by kernel_rfl) (by rfl) ?_ ?_; rotate_left 2; · (go_simp; first | done | with_reducible rfl | (constructor <;> with_reducible rfl))
  refine HCC.out.mono ?_
  rintro e w5 ⟨rfl, hb5⟩
  have S5 := Lib.hid (show w5.heap[w.heap.size]? = some (.cells #[.int .i64 s.1, .int .i64 s.2.1, .slice A1 n1 c1] 27) ∧ w5.heap[w.heap.size + 1]? = some (.cells #[.int .i64 t.1, .int .i64 t.2.1, .slice A2 n2 c2] 27) from ⟨box_below S4.out.1 hb5, box_below S4.out.2 hb5⟩)
  refine ⟨_, rfl, S5.out, ?_⟩
  have hB5 := Lib.hid (below_trans hB4.out hb5 hB4.out.size)
  clear HCC hb5
  simp only [Act.put, List.setIfInBounds_toArray, List.set_cons_zero, List.set_cons_succ]
  refine takeH 7 (v := ?_) rfl (by kernel_rfl) (by kernel_rfl) (by kernel_rfl) (fun _ _ _ h => h) S5.out (by rfl) (fun W' hW' => ?_) ?_; rotate_left; · (obtain ⟨q1, q2⟩ := hW'; obtain ⟨⟨ca0, ca1, ca2⟩, f0, f1, f2⟩ := box3 q1; obtain ⟨⟨d0, d1, d2⟩, g0, g1, g2⟩ := box3 q2; clear q1 q2; go_simp; first | done | with_reducible rfl)
  simp only [Act.put, List.setIfInBounds_toArray, List.set_cons_zero, List.set_cons_succ]
  refine takeH 8 (v := ?_) rfl (by kernel_rfl) (by kernel_rfl) (by kernel_rfl) (fun _ _ _ h => h) S5.out (by rfl) (fun W' hW' => ?_) ?_; rotate_left; · (obtain ⟨q1, q2⟩ := hW'; obtain ⟨⟨ca0, ca1, ca2⟩, f0, f1, f2⟩ := box3 q1; obtain ⟨⟨d0, d1, d2⟩, g0, g1, g2⟩ := box3 q2; clear q1 q2; go_simp; first | done | with_reducible rfl)
  simp only [Act.put, List.setIfInBounds_toArray, List.set_cons_zero, List.set_cons_succ]
  refine doneH (by kernel_rfl) ?_
  go_wp2_with (fail)
  go_ret2
  exact ⟨rfl, hB5.out⟩
end Go.Proofs.YtomekicglojhhaaDoor
