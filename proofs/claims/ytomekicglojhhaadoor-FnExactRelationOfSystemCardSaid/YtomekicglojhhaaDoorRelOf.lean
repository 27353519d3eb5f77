/-
  THE WALKS: spec.rlOf, spec.syRelation, spec.RelationOfSystem, impl.RelationOfSystem.
-/
import Derived.Test.YtomekicglojhhaaDoorCanon
import Derived.Test.YtomekicglojhhaaDoorSpRed
import Derived.IntWalk
namespace Go.Proofs.YtomekicglojhhaaDoor
open Go.RowKit

set_option maxRecDepth 100000 in
set_option maxHeartbeats 1000000 in
theorem rlOf_any (p a b : Int) (n : Nat) (A : Option Addr) (c : Nat) (hs : List Hd) (w : World) (h : RdR w A hs) (hp : fieldB p = true) (hn : a + b = (n : Int)) (hm : Mat p hs.length n (hs.map fun h : Hd => h.2.2)) (hl : hs.length ≤ 1048576) (hn' : n ≤ 1048576) :
    Calls Tryd.prog 125 #[.int .i64 p, .int .i64 a, .int .i64 b, .slice A hs.length c] w fun e w' => ∃ v' fp, e = .returned v' ∧ OwSys w' v' (a, b, redM p n (hs.map fun h : Hd => h.2.2)) fp ∧ FreshL w.heap.size fp ∧ Below w.heap.size w w' := by
  obtain ⟨W, hW⟩ : ∃ W, W = w.alloc (.cells #[.int .i64 0, .int .i64 0, .slice none 0 0] 41) := ⟨_, rfl⟩
  have hB0 : Below w.heap.size w W := by rw [hW]; exact (Below.refl _ _).alloc (Nat.le_refl _) _
  have k0 : W.heap[w.heap.size]? = some (.cells #[.int .i64 0, .int .i64 0, .slice none 0 0] 41) := by rw [hW]; exact heap_alloc_new w _
  have hC := spReduce_any p n A c hs W (h.below hB0) hp hm hl hn'
  obtain ⟨R, hR⟩ : ∃ R, R = redM p n (hs.map fun h : Hd => h.2.2) := ⟨_, rfl⟩
  rw [← hR] at hC ⊢
  have hC' : Calls Tryd.prog 130 #[.int .i64 p, .int .i64 (a + b), .slice A hs.length c] W (RetSS W R) := by rw [hn]; exact hC
  have hwr : IntKind.i64.wrap (a + b) = a + b := IntWalk.i64_in _ (by omega)
  have HC := Lib.hid hC'
  have HB := Lib.hid hB0
  have K0 := Lib.hid k0
  clear hC hC' hR hB0 k0 h hm hp hn
  go_enter Tryd.func125, Tryd.ntmps125
  go_wp2_with (fail)
  rw [← hW]
  clear hW
  go_wp2_with (fail)
  refine HC.out.mono ?_
  rintro e w1 hret
  obtain ⟨A1, c1, rfl, hO1⟩ := hret.om
  have k1 := box_below K0.out hO1.below_
  have hB1 := below_trans HB.out hO1.below_ HB.out.size
  obtain ⟨⟨d0, d1, d2⟩, g0, g1, g2⟩ := box3 k1
  obtain ⟨s1, s2⟩ := set3 (a := .int .i64 a) (b := .int .i64 b) (c := .slice A1 R.length c1) k1
  have S1 := Lib.hid s1
  have HO1 := Lib.hid hO1
  have S2 := Lib.hid s2
  have hw0 := (Array.getElem?_eq_some_iff.1 K0.out).1
  have hB3 := Lib.hid (below_keeps hB1 s2 hB1.size (fun k hk => by omega))
  have hBs := HB.out.size
  clear HC hret K0 k1 hO1 s1 s2 hB1
  go_wp2_with (fail)
  refine bodyPost_ret (results_cell_row rfl _ _ w.heap.size _ _ (0, 0) _ rfl S1.out Tryd.underlying41 rfl (by kernel_rfl)) rfl ?_
  obtain ⟨fp, h1, h2⟩ := OwSys.of_ret (a := a) (b := b) HO1.out S2.out (fun k hk => by omega) rfl
  exact ⟨_, fp, rfl, h1, h2.mono hBs, hB3.out⟩

/-- The relation that the first k visible wires of a system have with the rest. -/
def relM (p : Int) (s : Sys) (k : Int) : Sys := (k, s.1 - k, satM p s)

set_option maxRecDepth 100000 in
set_option maxHeartbeats 2000000 in
theorem syRelation_any (p : Int) {v : Value} {s : Sys} (k : Int) (w : World) (h : RdSysV w v s) (hs : SysOk p s) (hk : 0 ≤ k ∧ k ≤ s.1) :
    Calls Tryd.prog 80 #[.int .i64 p, v, .int .i64 k] w fun e w' => ∃ v' fp, e = .returned v' ∧ OwSys w' v' (relM p s k) fp ∧ FreshL w.heap.size fp ∧ Below w.heap.size w w' := by
  obtain ⟨A, n, c, rfl⟩ := h.shape
  obtain ⟨W, hW⟩ : ∃ W, W = (w.alloc (.cells #[.int .i64 s.1, .int .i64 s.2.1, .slice A n c] 27)).alloc (.cells #[.int .i64 0, .int .i64 0, .slice none 0 0] 41) := ⟨_, rfl⟩
  have hB0 : Below w.heap.size w W := by rw [hW]; exact ((Below.refl _ _).alloc (Nat.le_refl _) _).alloc (by simp) _
  have k0 : W.heap[w.heap.size]? = some (.cells #[.int .i64 s.1, .int .i64 s.2.1, .slice A n c] 27) := by
    rw [hW]; exact box_below (heap_alloc_new w _) (below_alloc _ _)
  have k1 : W.heap[w.heap.size + 1]? = some (.cells #[.int .i64 0, .int .i64 0, .slice none 0 0] 41) := by
    rw [hW]
    have := heap_alloc_new (w.alloc (.cells #[.int .i64 s.1, .int .i64 s.2.1, .slice A n c] 27)) (.cells #[.int .i64 0, .int .i64 0, .slice none 0 0] 41)
    rwa [World.size_alloc] at this
  have hD : Below W.heap.size W W.drew := below_drewN (Below.refl _ _) 1
  have hBd := below_trans hB0 hD hB0.size
  have hC := sySolved_any p W.drew (h.below hBd) hs
  have hv := hs.vis
  obtain ⟨hsm, hsl⟩ := solvM_mat hs
  have HC := Lib.hid hC
  have HSM := Lib.hid hsm
  have HF := Lib.hid hs.fld
  have HB := Lib.hid hBd
  have K1 := Lib.hid (box_below k1 hD)
  have K0 := Lib.hid (box_below k0 hD)
  have hwr : IntKind.i64.wrap (s.1 - k) = s.1 - k := IntWalk.i64_in _ (by have := hv; omega)
  clear hC hsm hB0 hD hBd k1 k0 hs h
  go_enter Tryd.func80, Tryd.ntmps80
  go_wp2_with (fail)
  rw [← hW]
  clear hW
  refine beginH (fun w' => w'.heap[w.heap.size]? = some (.cells #[.int .i64 s.1, .int .i64 s.2.1, .slice A n c] 27)) (by kernel_rfl) ?_
  refine takeH 0 (v := ?_) rfl (by kernel_rfl) (by kernel_rfl) (by kernel_rfl) (fun _ _ _ h => h) K0.out (by rfl) (fun W' hW' => ?_) ?_; rotate_left; · (obtain ⟨⟨c0, c1, c2⟩, f0, f1, f2⟩ := box3 hW'; clear hW'; go_simp; first | done | with_reducible rfl)
  simp only [Act.put, List.setIfInBounds_toArray, List.set_cons_zero, List.set_cons_succ]
  refine takeH 1 (v := ?_) rfl (by kernel_rfl) (by kernel_rfl) (by kernel_rfl) (fun _ _ _ h => h) K0.out (by rfl) (fun W' hW' => ?_) ?_; rotate_left; · (obtain ⟨⟨c0, c1, c2⟩, f0, f1, f2⟩ := box3 hW'; clear hW'; go_simp; first | done | with_reducible rfl)
  simp only [Act.put, List.setIfInBounds_toArray, List.set_cons_zero, List.set_cons_succ]
  refine takeH 2 (v := ?_) rfl (by kernel_rfl) (by kernel_rfl) (by kernel_rfl) (fun _ _ _ h => h) K0.out (by rfl) (fun W' hW' => ?_) ?_; rotate_left; · (obtain ⟨⟨c0, c1, c2⟩, f0, f1, f2⟩ := box3 hW'; clear hW'; go_simp; first | done | with_reducible rfl)
  simp only [Act.put, List.setIfInBounds_toArray, List.set_cons_zero, List.set_cons_succ]
  refine takeH 3 (v := ?_) rfl (by kernel_rfl) (by kernel_rfl) (by kernel_rfl) (fun _ _ _ h => h) K0.out (by rfl) (fun W' hW' => ?_) ?_; rotate_left; · (obtain ⟨⟨c0, c1, c2⟩, f0, f1, f2⟩ := box3 hW'; clear hW'; go_simp; first | done | with_reducible rfl)
  simp only [Act.put, List.setIfInBounds_toArray, List.set_cons_zero, List.set_cons_succ]
  refine takeH 4 (v := ?_) rfl (by kernel_rfl) (by kernel_rfl) (by kernel_rfl) (fun _ _ _ h => h) K0.out (by rfl) (fun W' hW' => ?_) ?_; rotate_left; · (obtain ⟨⟨c0, c1, c2⟩, f0, f1, f2⟩ := box3 hW'; clear hW'; go_simp; first | done | with_reducible rfl)
  simp only [Act.put, List.setIfInBounds_toArray, List.set_cons_zero, List.set_cons_succ]
  refine takeH 5 (v := ?_) rfl (by kernel_rfl) (by kernel_rfl) (by kernel_rfl) (fun _ _ _ h => h) K0.out (by rfl) (fun W' hW' => ?_) ?_; rotate_left; · (obtain ⟨⟨c0, c1, c2⟩, f0, f1, f2⟩ := box3 hW'; clear hW'; go_simp; first | done | with_reducible rfl)
  simp only [Act.put, List.setIfInBounds_toArray, List.set_cons_zero, List.set_cons_succ]
  refine takeH 6 (v := ?_) rfl (by kernel_rfl) (by kernel_rfl) (by kernel_rfl) (fun _ _ _ h => h) K0.out (by rfl) (fun W' hW' => ?_) ?_; rotate_left; · (obtain ⟨⟨c0, c1, c2⟩, f0, f1, f2⟩ := box3 hW'; clear hW'; go_simp; first | done | with_reducible rfl)
  simp only [Act.put, List.setIfInBounds_toArray, List.set_cons_zero, List.set_cons_succ]
  refine takeH 7 (v := ?_) rfl (by kernel_rfl) (by kernel_rfl) (by kernel_rfl) (fun _ _ _ h => h) K0.out (by rfl) (fun W' hW' => ?_) ?_; rotate_left; · (obtain ⟨⟨c0, c1, c2⟩, f0, f1, f2⟩ := box3 hW'; clear hW'; go_simp; first | done | with_reducible rfl)
  simp only [Act.put, List.setIfInBounds_toArray, List.set_cons_zero, List.set_cons_succ]
  refine' callH 8 (f := _) (args := _) rfl (by kernel_rfl) (by rfl) ?_ ?_; rotate_left 2; · (go_simp; first | done | with_reducible rfl | (constructor <;> with_reducible rfl))
  refine HC.out.mono ?_
  rintro e w1 ⟨A1, c1, hs1, rfl, hL1, hR1, hb1⟩
  refine ⟨_, rfl, box_below K0.out hb1, ?_⟩
  have k1' := Lib.hid (box_below K1.out hb1)
  have k0' := Lib.hid (box_below K0.out hb1)
  have hB1 := below_trans HB.out hb1 HB.out.size
  obtain ⟨m, hm⟩ : ∃ m, m = (solvM p s).length := ⟨_, rfl⟩
  have hml : hs1.length = m := by rw [hm, hL1, List.length_map]
  have hmat : Mat p hs1.length s.1.toNat (hs1.map fun h : Hd => h.2.2) := by rw [← hL1, hml, hm]; exact HSM.out
  have hC2 := rlOf_any p k (s.1 - k) s.1.toNat A1 c1 hs1 w1 hR1 HF.out (by omega) hmat (by omega) (by omega)
  rw [← hL1, hml] at hC2
  rw [← hm]
  have HC2 := Lib.hid hC2
  clear hC2 hmat hml hm hL1 hR1
  simp only [Act.put, List.setIfInBounds_toArray, List.set_cons_zero, List.set_cons_succ]
  refine' callH 9 (f := _) (args := _) rfl (by kernel_rfl) (by rfl) ?_ ?_; rotate_left 2; · (go_simp; first | done | with_reducible rfl | (constructor <;> with_reducible rfl))
  refine HC2.out.mono ?_
  rintro e w2 ⟨v2, fp2, rfl, hO2, hf2, hb2⟩
  refine ⟨_, rfl, box_below k0'.out hb2, ?_⟩
  have k1'' := box_below k1'.out hb2
  have k0'' := box_below k0'.out hb2
  have hB2 := below_trans hB1 hb2 hB1.size
  obtain ⟨A2, n2, c2, rfl⟩ := hO2.shape
  obtain ⟨⟨c0, c1', c2'⟩, f0, f1, f2⟩ := box3 k1''
  have hw1 : w.heap.size + 1 < w1.heap.size := (Array.getElem?_eq_some_iff.1 k1'.out).1
  have K1 := Lib.hid k1''
  have K0 := Lib.hid k0''
  have HO2 := Lib.hid hO2
  clear HC2 k1' k0' k1'' k0'' hO2
  simp only [Act.put, List.setIfInBounds_toArray, List.set_cons_zero, List.set_cons_succ]
  refine oneH 10 rfl (by kernel_rfl) (by rfl) (fun K hK => ?_)
  go_simp
  obtain ⟨s1, s2⟩ := set3 (a := .int .i64 k) (b := .int .i64 (s.1 - k)) (c := .slice A2 n2 c2) K1.out
  refine hK _ _ (box_keeps K0.out s2 (by omega)) ?_
  clear hK K
  refine doneH (by kernel_rfl) ?_
  go_wp2_with (fail)
  refine bodyPost_ret (results_cell_row rfl _ _ (w.heap.size + 1) _ _ (0, 0) _ rfl s1 Tryd.underlying41 rfl (by kernel_rfl)) rfl ?_
  exact ⟨_, rfl, fp2, HO2.out.keeps s2 (fun k hk e => by have := hf2 k hk; omega), hf2.mono hB1.size, below_keeps hB2 s2 hB2.size (fun k hk => by omega)⟩

/-- The relation, or none. -/
def relOf (p : Int) (s : Sys) (k : Int) : Sys × Bool := if sysB p s && (decide (0 ≤ k) && decide (k ≤ s.1)) then (relM p s k, true) else ((0, 0, []), false)
theorem relOf_ok {p k : Int} {s : Sys} (_h : OkR s.2.2) : OkR (relOf p s k).1.2.2 := by
  unfold relOf
  split
  · rename_i hb
    rw [Bool.and_eq_true] at hb
    have hs := SysOk.of hb.1
    obtain ⟨hm, hl⟩ := satM_mat hs
    have hv := hs.vis
    exact okR_mat hm (by omega) (by omega)
  · exact okR_nil

set_option maxRecDepth 100000 in
set_option maxHeartbeats 2000000 in
theorem sRelationOfSystem_law (p : Int) {v : Value} {s : Sys} (k : Int) {w : World} (h : RdSysV w v s) (ok : OkR s.2.2) :
    Calls Tryd.prog 32 #[.int .i64 p, v, .int .i64 k] w fun e w' => ∃ v' fp, e = .returned (.tuple #[v', .bool (relOf p s k).2]) ∧ OwSys w' v' (relOf p s k).1 fp ∧ FreshL w.heap.size fp ∧ Below w.heap.size w w' := by
  obtain ⟨A, n, c, rfl⟩ := h.shape
  obtain ⟨W, hW⟩ : ∃ W, W = (w.alloc (.cells #[.int .i64 s.1, .int .i64 s.2.1, .slice A n c] 27)).alloc (.cells #[.int .i64 0, .int .i64 0, .slice none 0 0] 41) := ⟨_, rfl⟩
  have hB0 : Below w.heap.size w W := by rw [hW]; exact ((Below.refl _ _).alloc (Nat.le_refl _) _).alloc (by simp) _
  have k0 : W.heap[w.heap.size]? = some (.cells #[.int .i64 s.1, .int .i64 s.2.1, .slice A n c] 27) := by
    rw [hW]; exact box_below (heap_alloc_new w _) (below_alloc _ _)
  have k1 : W.heap[w.heap.size + 1]? = some (.cells #[.int .i64 0, .int .i64 0, .slice none 0 0] 41) := by
    rw [hW]
    have := heap_alloc_new (w.alloc (.cells #[.int .i64 s.1, .int .i64 s.2.1, .slice A n c] 27)) (.cells #[.int .i64 0, .int .i64 0, .slice none 0 0] 41)
    rwa [World.size_alloc] at this
  have hG := Lib.hid (syGood_any p W (h.below hB0) ok.1 ok.2.1)
  have hC := Lib.hid (fun (w' : World) (hb : Below W.heap.size W w') (hs : SysOk p s) (hk : 0 ≤ k ∧ k ≤ s.1) => syRelation_any p k w' ((h.below hB0).below hb) hs hk)
  have HB := Lib.hid hB0
  have K1 := Lib.hid k1
  have K0 := Lib.hid k0
  have hcan : ∀ b, (sysB p s && (decide (0 ≤ k) && decide (k ≤ s.1))) = b → relOf p s k = if b then (relM p s k, true) else ((0, 0, []), false) := fun b hb => by unfold relOf; rw [hb]
  have hof : sysB p s = true → SysOk p s := SysOk.of
  have HOF := Lib.hid hof
  have HCAN := Lib.hid hcan
  obtain ⟨C, hCe⟩ : ∃ C, C = relOf p s k := ⟨_, rfl⟩
  rw [← hCe]
  have HCE := Lib.hid hCe
  obtain ⟨⟨c0, c1, c2⟩, f0, f1, f2⟩ := box3 k0
  clear k0 k1 hB0 h ok hcan hof hCe
  go_enter Tryd.func32, Tryd.ntmps32
  go_wp2_with (fail)
  rw [← hW]
  clear hW
  go_wp2_with (fail)
  refine hG.out.mono ?_
  rintro e w1 ⟨rfl, hb1⟩
  have k1' := box_below K1.out hb1
  have k0' := box_below K0.out hb1
  have hB1 := Lib.hid (below_trans HB.out hb1 HB.out.size)
  have hw1 : w.heap.size + 1 < w1.heap.size := (Array.getElem?_eq_some_iff.1 k1').1
  obtain ⟨⟨c0', c1', c2'⟩, f0', f1', f2'⟩ := box3 k0'
  obtain ⟨⟨d0, d1, d2⟩, g0, g1, g2⟩ := box3 k1'
  have K0' := Lib.hid k0'
  have K1' := Lib.hid k1'
  clear c0 c1 c2 f0 f1 f2 hG
  by_cases hb : sysB p s = true
  · rw [hb]
    have hv := (HOF.out hb).vis
    have HBT := Lib.hid hb
    clear k0' k1' hb
    go_wp2_with (fail)
    refine (l1In_any k 0 s.1 _).mono ?_
    rintro e w1' ⟨rfl, rfl⟩
    by_cases hk : 0 ≤ k ∧ k ≤ s.1
    · have hkb : (decide (0 ≤ k) && decide (k ≤ s.1)) = true := by simp [hk.1, hk.2]
      obtain rfl : C = (relM p s k, true) := by rw [HCE.out, HCAN.out true (by rw [HBT.out, hkb]; rfl)]; rfl
      rw [hkb]
      have hC1 := Lib.hid (hC.out w1 hb1 (HOF.out HBT.out) hk)
      clear hC HOF HCAN HCE hkb
      go_wp2_with (fail)
      refine hC1.out.mono ?_
      rintro e w2 ⟨v2, fp2, rfl, hO2, hf2, hb2⟩
      have k1'' := box_below K1'.out hb2
      obtain ⟨A2, n2, c2, rfl⟩ := hO2.shape
      obtain ⟨⟨d0, d1, d2⟩, g0, g1, g2⟩ := box3 k1''
      have hB2 := below_trans hB1.out hb2 hB1.out.size
      obtain ⟨s1, s2⟩ := set3 (a := .int .i64 (relM p s k).1) (b := .int .i64 (relM p s k).2.1) (c := .slice A2 n2 c2) k1''
      have S1 := Lib.hid s1
      have hB3 := Lib.hid (below_keeps hB2 s2 hB2.size (fun k hk => by omega))
      have hO3 := Lib.hid (hO2.keeps s2 (fun k hk e => by have := hf2 k hk; omega))
      have hF3 := Lib.hid (hf2.mono hB1.out.size)
      clear k1'' hO2 hf2 hb2 s1 s2 hC1 hB2
      go_wp2_with (fail)
      refine bodyPost_ret (results_cell_tmp rfl _ _ (w.heap.size + 1) _ _ (0, 0) _ rfl S1.out Tryd.underlying41 rfl (by kernel_rfl)) rfl ?_
      exact ⟨_, rfl, fp2, hO3.out, hF3.out, hB3.out⟩
    · have hkb : (decide (0 ≤ k) && decide (k ≤ s.1)) = false := by simp; omega
      obtain rfl : C = ((0, 0, []), false) := by rw [HCE.out, HCAN.out false (by rw [HBT.out, hkb]; rfl)]; rfl
      rw [hkb]
      obtain ⟨s1, s2⟩ := set3 (a := .int .i64 0) (b := .int .i64 0) (c := .slice none 0 0) K1'.out
      have S1 := Lib.hid s1
      have hB3 := Lib.hid (below_keeps hB1.out s2 hB1.out.size (fun k hk => by omega))
      clear hC HOF HCAN HCE s1 s2 hkb hk
      go_wp2_with (fail)
      refine bodyPost_ret (results_cell_tmp rfl _ _ (w.heap.size + 1) _ _ (0, 0) _ rfl S1.out Tryd.underlying41 rfl (by kernel_rfl)) rfl ?_
      exact ⟨_, rfl, [], OwSys.zero _ 0 0, FreshL.nil _, hB3.out⟩
  · have hb' : sysB p s = false := by simpa using hb
    obtain rfl : C = ((0, 0, []), false) := by rw [HCE.out, HCAN.out false (by rw [hb']; rfl)]; rfl
    rw [hb']
    obtain ⟨s1, s2⟩ := set3 (a := .int .i64 0) (b := .int .i64 0) (c := .slice none 0 0) K1'.out
    have S1 := Lib.hid s1
    have hB3 := Lib.hid (below_keeps hB1.out s2 hB1.out.size (fun k hk => by omega))
    clear hC HOF HCAN HCE s1 s2 hb hb' k0' k1'
    go_wp2_with (fail)
    refine bodyPost_ret (results_cell_tmp rfl _ _ (w.heap.size + 1) _ _ (0, 0) _ rfl S1.out Tryd.underlying41 rfl (by kernel_rfl)) rfl ?_
    exact ⟨_, rfl, [], OwSys.zero _ 0 0, FreshL.nil _, hB3.out⟩

set_option maxRecDepth 100000 in
set_option maxHeartbeats 2000000 in
theorem iRelationOfSystem_law (p : Int) {v : Value} {s : Sys} (k : Int) {w : World} (h : RdSysV w v s) (ok : OkR s.2.2) (hT : Tab w) :
    Calls Tryd.prog 33 #[.int .i64 p, v, .int .i64 k] w fun e w' => ∃ v' fp, e = .returned (.tuple #[v', .bool (relOf p s k).2]) ∧ OwSys w' v' (relOf p s k).1 fp ∧ FreshL w.heap.size fp ∧ Below w.heap.size w w' := by
  obtain ⟨A, n, c, rfl⟩ := h.shape
  obtain ⟨W, hW⟩ : ∃ W, W = (w.alloc (.cells #[.int .i64 s.1, .int .i64 s.2.1, .slice A n c] 27)).alloc (.cells #[.int .i64 0, .int .i64 0, .slice none 0 0] 41) := ⟨_, rfl⟩
  have hB0 : Below w.heap.size w W := by rw [hW]; exact ((Below.refl _ _).alloc (Nat.le_refl _) _).alloc (by simp) _
  have k0 : W.heap[w.heap.size]? = some (.cells #[.int .i64 s.1, .int .i64 s.2.1, .slice A n c] 27) := by
    rw [hW]; exact box_below (heap_alloc_new w _) (below_alloc _ _)
  have k1 : W.heap[w.heap.size + 1]? = some (.cells #[.int .i64 0, .int .i64 0, .slice none 0 0] 41) := by
    rw [hW]
    have := heap_alloc_new (w.alloc (.cells #[.int .i64 s.1, .int .i64 s.2.1, .slice A n c] 27)) (.cells #[.int .i64 0, .int .i64 0, .slice none 0 0] 41)
    rwa [World.size_alloc] at this
  have hG := Lib.hid (isSystem_any p W (h.below hB0) (hT.below hB0 hT.lt) ok.1 ok.2.1)
  have hC := Lib.hid (fun (w' : World) (hb : Below W.heap.size W w') (hs : SysOk p s) (hk : 0 ≤ k ∧ k ≤ s.1) => satisfying_any p w' ((h.below hB0).below hb) hs)
  have HB := Lib.hid hB0
  have K1 := Lib.hid k1
  have K0 := Lib.hid k0
  have hcan : ∀ b, (sysB p s && (decide (0 ≤ k) && decide (k ≤ s.1))) = b → relOf p s k = if b then (relM p s k, true) else ((0, 0, []), false) := fun b hb => by unfold relOf; rw [hb]
  have hof : sysB p s = true → SysOk p s := SysOk.of
  have HOF := Lib.hid hof
  have HCAN := Lib.hid hcan
  obtain ⟨C, hCe⟩ : ∃ C, C = relOf p s k := ⟨_, rfl⟩
  rw [← hCe]
  have HCE := Lib.hid hCe
  obtain ⟨⟨c0, c1, c2⟩, f0, f1, f2⟩ := box3 k0
  clear k0 k1 hB0 h ok hcan hof hCe hT
  go_enter Tryd.func33, Tryd.ntmps33
  go_wp2_with (fail)
  rw [← hW]
  clear hW
  go_wp2_with (fail)
  refine hG.out.mono ?_
  rintro e w1 ⟨rfl, hb1⟩
  have k1' := box_below K1.out hb1
  have k0' := box_below K0.out hb1
  have hB1 := Lib.hid (below_trans HB.out hb1 HB.out.size)
  have hw1 : w.heap.size + 1 < w1.heap.size := (Array.getElem?_eq_some_iff.1 k1').1
  obtain ⟨⟨c0', c1', c2'⟩, f0', f1', f2'⟩ := box3 k0'
  obtain ⟨⟨d0, d1, d2⟩, g0, g1, g2⟩ := box3 k1'
  have K0' := Lib.hid k0'
  have K1' := Lib.hid k1'
  clear c0 c1 c2 f0 f1 f2 hG
  by_cases hb : sysB p s = true
  · rw [hb]
    have hv := (HOF.out hb).vis
    have HBT := Lib.hid hb
    clear k0' k1' hb
    go_wp2_with (fail)
    refine (within_any k 0 s.1 _).mono ?_
    rintro e w1' ⟨rfl, rfl⟩
    by_cases hk : 0 ≤ k ∧ k ≤ s.1
    · have hkb : (decide (0 ≤ k) && decide (k ≤ s.1)) = true := by simp [hk.1, hk.2]
      obtain rfl : C = (relM p s k, true) := by rw [HCE.out, HCAN.out true (by rw [HBT.out, hkb]; rfl)]; rfl
      rw [hkb]
      have hD : Below w1.heap.size w1 w1.drew := below_drewN (Below.refl _ _) 1
      have hC1 := Lib.hid (hC.out w1.drew (below_trans hb1 hD hb1.size) (HOF.out HBT.out) hk)
      have K0d := Lib.hid (box_below K0'.out hD)
      have K1d := Lib.hid (box_below K1'.out hD)
      have hBd := Lib.hid (below_trans hB1.out hD hB1.out.size)
      have hwr : IntKind.i64.wrap (s.1 - k) = s.1 - k := IntWalk.i64_in _ (by have := hv; omega)
      clear hC HOF HCAN HCE hkb hD c0' c1' c2' f0' f1' f2' d0 d1 d2 g0 g1 g2
      go_wp2_with (fail)
      refine beginH (fun w' => w'.heap[w.heap.size]? = some (.cells #[.int .i64 s.1, .int .i64 s.2.1, .slice A n c] 27)) (by kernel_rfl) ?_
      refine takeH 0 (v := ?_) rfl (by kernel_rfl) (by kernel_rfl) (by kernel_rfl) (fun _ _ _ h => h) K0d.out (by rfl) (fun W' hW' => ?_) ?_; rotate_left; · (obtain ⟨⟨c0, c1, c2⟩, f0, f1, f2⟩ := box3 hW'; clear hW'; go_simp; first | done | with_reducible rfl)
      simp only [Act.put, List.setIfInBounds_toArray, List.set_cons_zero, List.set_cons_succ]
      refine takeH 1 (v := ?_) rfl (by kernel_rfl) (by kernel_rfl) (by kernel_rfl) (fun _ _ _ h => h) K0d.out (by rfl) (fun W' hW' => ?_) ?_; rotate_left; · (obtain ⟨⟨c0, c1, c2⟩, f0, f1, f2⟩ := box3 hW'; clear hW'; go_simp; first | done | with_reducible rfl)
      simp only [Act.put, List.setIfInBounds_toArray, List.set_cons_zero, List.set_cons_succ]
      refine takeH 2 (v := ?_) rfl (by kernel_rfl) (by kernel_rfl) (by kernel_rfl) (fun _ _ _ h => h) K0d.out (by rfl) (fun W' hW' => ?_) ?_; rotate_left; · (obtain ⟨⟨c0, c1, c2⟩, f0, f1, f2⟩ := box3 hW'; clear hW'; go_simp; first | done | with_reducible rfl)
      simp only [Act.put, List.setIfInBounds_toArray, List.set_cons_zero, List.set_cons_succ]
      refine takeH 3 (v := ?_) rfl (by kernel_rfl) (by kernel_rfl) (by kernel_rfl) (fun _ _ _ h => h) K0d.out (by rfl) (fun W' hW' => ?_) ?_; rotate_left; · (obtain ⟨⟨c0, c1, c2⟩, f0, f1, f2⟩ := box3 hW'; clear hW'; go_simp; first | done | with_reducible rfl)
      simp only [Act.put, List.setIfInBounds_toArray, List.set_cons_zero, List.set_cons_succ]
      refine takeH 4 (v := ?_) rfl (by kernel_rfl) (by kernel_rfl) (by kernel_rfl) (fun _ _ _ h => h) K0d.out (by rfl) (fun W' hW' => ?_) ?_; rotate_left; · (obtain ⟨⟨c0, c1, c2⟩, f0, f1, f2⟩ := box3 hW'; clear hW'; go_simp; first | done | with_reducible rfl)
      simp only [Act.put, List.setIfInBounds_toArray, List.set_cons_zero, List.set_cons_succ]
      refine takeH 5 (v := ?_) rfl (by kernel_rfl) (by kernel_rfl) (by kernel_rfl) (fun _ _ _ h => h) K0d.out (by rfl) (fun W' hW' => ?_) ?_; rotate_left; · (obtain ⟨⟨c0, c1, c2⟩, f0, f1, f2⟩ := box3 hW'; clear hW'; go_simp; first | done | with_reducible rfl)
      simp only [Act.put, List.setIfInBounds_toArray, List.set_cons_zero, List.set_cons_succ]
      refine takeH 6 (v := ?_) rfl (by kernel_rfl) (by kernel_rfl) (by kernel_rfl) (fun _ _ _ h => h) K0d.out (by rfl) (fun W' hW' => ?_) ?_; rotate_left; · (obtain ⟨⟨c0, c1, c2⟩, f0, f1, f2⟩ := box3 hW'; clear hW'; go_simp; first | done | with_reducible rfl)
      simp only [Act.put, List.setIfInBounds_toArray, List.set_cons_zero, List.set_cons_succ]
      refine' callH 7 (f := _) (args := _) rfl (by kernel_rfl) (by rfl) ?_ ?_; rotate_left 2; · (go_simp; first | done | with_reducible rfl | (constructor <;> with_reducible rfl))
      refine hC1.out.mono ?_
      rintro e w2 hret
      obtain ⟨A2, c2, rfl, hO2⟩ := hret.om
      refine ⟨_, rfl, box_below K0d.out hO2.below_, ?_⟩
      have k1'' := box_below K1d.out hO2.below_
      have K0'' := Lib.hid (box_below K0d.out hO2.below_)
      have hB2 := below_trans hBd.out hO2.below_ hBd.out.size
      obtain ⟨⟨d0, d1, d2⟩, g0, g1, g2⟩ := box3 k1''
      obtain ⟨s1, s2⟩ := set3 (a := .int .i64 k) (b := .int .i64 (s.1 - k)) (c := .slice A2 (satM p s).length c2) k1''
      have hds : w1.drew.heap.size = w1.heap.size := rfl
      obtain ⟨fp2, h1, h2⟩ := OwSys.of_ret (a := k) (b := s.1 - k) hO2 s2 (fun k hk => by omega) rfl
      have S1 := Lib.hid s1
      have HO := Lib.hid h1
      have HF := Lib.hid (h2.mono hBd.out.size)
      have hB3 := Lib.hid (below_keeps hB2 s2 hB2.size (fun k hk => by omega))
      have hS0 := Lib.hid (box_keeps K0''.out s2 (by omega))
      clear k1'' hO2 hret s1 s2 hC1 hB2 h1 h2
      simp only [Act.put, List.setIfInBounds_toArray, List.set_cons_zero, List.set_cons_succ]
      refine takeH 8 (v := ?_) rfl (by kernel_rfl) (by kernel_rfl) (by kernel_rfl) (fun _ _ _ h => h) K0''.out (by rfl) (fun W' hW' => ?_) ?_; rotate_left; · (clear hW'; go_simp; first | done | with_reducible rfl)
      simp only [Act.put, List.setIfInBounds_toArray, List.set_cons_zero, List.set_cons_succ]
      refine oneH 9 rfl (by kernel_rfl) (by rfl) (fun K hK => ?_)
      go_simp
      refine hK _ _ hS0.out ?_
      clear hK K
      refine takeH 10 (v := ?_) rfl (by kernel_rfl) (by kernel_rfl) (by kernel_rfl) (fun _ _ _ h => h) hS0.out (by rfl) (fun W' hW' => ?_) ?_; rotate_left; · (clear hW'; go_simp; first | done | with_reducible rfl)
      simp only [Act.put, List.setIfInBounds_toArray, List.set_cons_zero, List.set_cons_succ]
      refine doneH (by kernel_rfl) ?_
      go_wp2_with (fail)
      refine bodyPost_ret (results_cell_tmp rfl _ _ (w.heap.size + 1) _ _ (0, 0) _ rfl S1.out Tryd.underlying41 rfl (by kernel_rfl)) rfl ?_
      exact ⟨_, rfl, fp2, HO.out, HF.out, hB3.out⟩
    · have hkb : (decide (0 ≤ k) && decide (k ≤ s.1)) = false := by simp; omega
      obtain rfl : C = ((0, 0, []), false) := by rw [HCE.out, HCAN.out false (by rw [HBT.out, hkb]; rfl)]; rfl
      rw [hkb]
      obtain ⟨s1, s2⟩ := set3 (a := .int .i64 0) (b := .int .i64 0) (c := .slice none 0 0) K1'.out
      have S1 := Lib.hid s1
      have hB3 := Lib.hid (below_keeps hB1.out s2 hB1.out.size (fun k hk => by omega))
      clear hC HOF HCAN HCE s1 s2 hkb hk
      go_wp2_with (fail)
      refine bodyPost_ret (results_cell_tmp rfl _ _ (w.heap.size + 1) _ _ (0, 0) _ rfl S1.out Tryd.underlying41 rfl (by kernel_rfl)) rfl ?_
      exact ⟨_, rfl, [], OwSys.zero _ 0 0, FreshL.nil _, hB3.out⟩
  · have hb' : sysB p s = false := by simpa using hb
    obtain rfl : C = ((0, 0, []), false) := by rw [HCE.out, HCAN.out false (by rw [hb']; rfl)]; rfl
    rw [hb']
    obtain ⟨s1, s2⟩ := set3 (a := .int .i64 0) (b := .int .i64 0) (c := .slice none 0 0) K1'.out
    have S1 := Lib.hid s1
    have hB3 := Lib.hid (below_keeps hB1.out s2 hB1.out.size (fun k hk => by omega))
    clear hC HOF HCAN HCE s1 s2 hb hb' k0' k1'
    go_wp2_with (fail)
    refine bodyPost_ret (results_cell_tmp rfl _ _ (w.heap.size + 1) _ _ (0, 0) _ rfl S1.out Tryd.underlying41 rfl (by kernel_rfl)) rfl ?_
    exact ⟨_, rfl, [], OwSys.zero _ 0 0, FreshL.nil _, hB3.out⟩
end Go.Proofs.YtomekicglojhhaaDoor
