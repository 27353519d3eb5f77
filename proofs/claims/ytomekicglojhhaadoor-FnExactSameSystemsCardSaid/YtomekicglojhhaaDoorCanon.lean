/-
  THE WALKS: impl.canonicalSystem, spec.CanonicalSystem, impl.CanonicalSystem.
-/
import Derived.Test.YtomekicglojhhaaDoorSat
import Derived.Test.YtomekicglojhhaaDoorSysB
import Derived.Test.YtomekicglojhhaaDoorSysD
namespace Go.Proofs.YtomekicglojhhaaDoor
open Go.RowKit

theorem perp_sat {p : Int} {s : Sys} (hs : SysOk p s) : perpM p s.1.toNat (satM p s) = nullM p s.1.toNat (solvM p s) := by
  obtain ⟨hsm, _⟩ := solvM_mat hs
  have hr := (redM_spec hs.fld hsm).1.1
  rw [← nullM_redM hs.fld hsm]
  exact (null_eq_perp hs.fld hr).symm
theorem satM_mat {p : Int} {s : Sys} (hs : SysOk p s) : Mat p (satM p s).length s.1.toNat (satM p s) ∧ (satM p s).length ≤ 124 := by
  obtain ⟨hsm, hl⟩ := solvM_mat hs
  have hr := redM_spec hs.fld hsm
  exact ⟨hr.1.1, Nat.le_trans hr.2.2 hl⟩

set_option maxRecDepth 100000 in
set_option maxHeartbeats 2000000 in
theorem canonicalSystem_any (p : Int) {v : Value} {s : Sys} (w : World) (h : RdSysV w v s) (hs : SysOk p s) :
    Calls Tryd.prog 77 #[.int .i64 p, v] w fun e w' => ∃ v' fp, e = .returned v' ∧ OwSys w' v' (canonM p s) fp ∧ FreshL w.heap.size fp ∧ Below w.heap.size w w' := by
  obtain ⟨A, n, c, rfl⟩ := h.shape
  obtain ⟨W, hW⟩ : ∃ W, W = (w.alloc (.cells #[.int .i64 s.1, .int .i64 s.2.1, .slice A n c] 27)).alloc (.cells #[.int .i64 0, .int .i64 0, .slice none 0 0] 27) := ⟨_, rfl⟩
  have hB0 : Below w.heap.size w W := by rw [hW]; exact ((Below.refl _ _).alloc (Nat.le_refl _) _).alloc (by simp) _
  have k0 : W.heap[w.heap.size]? = some (.cells #[.int .i64 s.1, .int .i64 s.2.1, .slice A n c] 27) := by
    rw [hW]; exact box_below (heap_alloc_new w _) (below_alloc _ _)
  have k1 : W.heap[w.heap.size + 1]? = some (.cells #[.int .i64 0, .int .i64 0, .slice none 0 0] 27) := by
    rw [hW]
    have := heap_alloc_new (w.alloc (.cells #[.int .i64 s.1, .int .i64 s.2.1, .slice A n c] 27)) (.cells #[.int .i64 0, .int .i64 0, .slice none 0 0] 27)
    rwa [World.size_alloc] at this
  have hD : Below W.heap.size W W.drew := below_drewN (Below.refl _ _) 1
  have hBd := below_trans hB0 hD hB0.size
  have hC := satisfying_any p W.drew (h.below hBd) hs
  have hv := hs.vis
  obtain ⟨hsm, hsl⟩ := satM_mat hs
  have hcan : canonM p s = (s.1, 0, perpM p s.1.toNat (satM p s)) := by rw [perp_sat hs]; rfl
  rw [hcan]
  have HC := Lib.hid hC
  have HSM := Lib.hid hsm
  have HF := Lib.hid hs.fld
  have HB := Lib.hid hBd
  have K1 := Lib.hid (box_below k1 hD)
  have K0 := Lib.hid (box_below k0 hD)
  clear hC hsm hB0 hD hBd k1 k0 hs h hcan
  go_enter Tryd.func77, Tryd.ntmps77
  go_wp2_with (fail)
  rw [← hW]
  clear hW
  refine beginH (fun w' => w'.heap[w.heap.size]? = some (.cells #[.int .i64 s.1, .int .i64 s.2.1, .slice A n c] 27)) (by kernel_rfl) ?_
  refine takeH 0 (v := ?_) rfl (by kernel_rfl) (by kernel_rfl) (by kernel_rfl) (fun _ _ _ h => h) K0.out (by rfl) (fun W' hW' => ?_) ?_; rotate_left; · (obtain ⟨⟨c0, c1, c2⟩, f0, f1, f2⟩ := box3 hW'; clear hW'; go_simp; first | done | with_reducible rfl)
  simp only [Act.put, List.setIfInBounds_toArray, List.set_cons_zero, List.set_cons_succ]
  refine takeH 1 (v := ?_) rfl (by kernel_rfl) (by kernel_rfl) (by kernel_rfl) (fun _ _ _ h => h) K0.out (by rfl) (fun W' hW' => ?_) ?_; rotate_left; · (obtain ⟨⟨c0, c1, c2⟩, f0, f1, f2⟩ := box3 hW'; clear hW'; go_simp; first | done | with_reducible rfl)
  simp only [Act.put, List.setIfInBounds_toArray, List.set_cons_zero, List.set_cons_succ]
  refine takeH 2 (v := ?_) rfl (by kernel_rfl) (by kernel_rfl) (by kernel_rfl) (fun _ _ _ h => h) K0.out (by rfl) (fun W' hW' => ?_) ?_; rotate_left; · (obtain ⟨⟨c0, c1, c2⟩, f0, f1, f2⟩ := box3 hW'; clear hW'; go_simp; first | done | with_reducible rfl)
  simp only [Act.put, List.setIfInBounds_toArray, List.set_cons_zero, List.set_cons_succ]
  refine takeH 3 (v := ?_) rfl (by kernel_rfl) (by kernel_rfl) (by kernel_rfl) (fun _ _ _ h => h) K0.out (by rfl) (fun W' hW' => ?_) ?_; rotate_left; · (obtain ⟨⟨c0, c1, c2⟩, f0, f1, f2⟩ := box3 hW'; clear hW'; go_simp; first | done | with_reducible rfl)
  simp only [Act.put, List.setIfInBounds_toArray, List.set_cons_zero, List.set_cons_succ]
  refine takeH 4 (v := ?_) rfl (by kernel_rfl) (by kernel_rfl) (by kernel_rfl) (fun _ _ _ h => h) K0.out (by rfl) (fun W' hW' => ?_) ?_; rotate_left; · (obtain ⟨⟨c0, c1, c2⟩, f0, f1, f2⟩ := box3 hW'; clear hW'; go_simp; first | done | with_reducible rfl)
  simp only [Act.put, List.setIfInBounds_toArray, List.set_cons_zero, List.set_cons_succ]
  refine takeH 6 (v := ?_) rfl (by kernel_rfl) (by kernel_rfl) (by kernel_rfl) (fun _ _ _ h => h) K0.out (by rfl) (fun W' hW' => ?_) ?_; rotate_left; · (obtain ⟨⟨c0, c1, c2⟩, f0, f1, f2⟩ := box3 hW'; clear hW'; go_simp; first | done | with_reducible rfl)
  simp only [Act.put, List.setIfInBounds_toArray, List.set_cons_zero, List.set_cons_succ]
  refine takeH 7 (v := ?_) rfl (by kernel_rfl) (by kernel_rfl) (by kernel_rfl) (fun _ _ _ h => h) K0.out (by rfl) (fun W' hW' => ?_) ?_; rotate_left; · (obtain ⟨⟨c0, c1, c2⟩, f0, f1, f2⟩ := box3 hW'; clear hW'; go_simp; first | done | with_reducible rfl)
  simp only [Act.put, List.setIfInBounds_toArray, List.set_cons_zero, List.set_cons_succ]
  refine' callH 5 (f := _) (args := _) rfl (by kernel_rfl) (by rfl) ?_ ?_; rotate_left 2; · (go_simp; first | done | with_reducible rfl | (constructor <;> with_reducible rfl))
  refine HC.out.mono ?_
  rintro e w1 hret
  obtain ⟨A1, c1, rfl, hO1⟩ := hret.om
  obtain ⟨hs1, hL1, hR1⟩ := hO1.rdr
  have hb1 := hO1.below_
  clear hret hO1
  refine ⟨_, rfl, box_below K0.out hb1, ?_⟩
  have k1' := Lib.hid (box_below K1.out hb1)
  have k0' := Lib.hid (box_below K0.out hb1)
  have hB1 := below_trans HB.out hb1 HB.out.size
  obtain ⟨m, hm⟩ : ∃ m, m = (satM p s).length := ⟨_, rfl⟩
  have hml : hs1.length = m := by rw [hm, hL1, List.length_map]
  have hmat : Mat p hs1.length s.1.toNat (hs1.map fun h : Hd => h.2.2) := by rw [← hL1, hml, hm]; exact HSM.out
  have hC2 := orthogonal_any p s.1.toNat A1 c1 hs1 w1 hR1 HF.out hmat (by omega) (by omega)
  rw [← hL1, hml] at hC2
  have hC2' : Calls Tryd.prog 122 #[.int .i64 p, .slice A1 m c1, .int .i64 s.1] w1 (RetSS w1 (perpM p s.1.toNat (satM p s))) := by
    have e : ((s.1.toNat : Nat) : Int) = s.1 := by omega
    rw [e] at hC2; exact hC2
  rw [← hm]
  have HC2 := Lib.hid hC2'
  clear hC2 hC2' hmat hml hm hL1 hR1
  simp only [Act.put, List.setIfInBounds_toArray, List.set_cons_zero, List.set_cons_succ]
  refine' callH 8 (f := _) (args := _) rfl (by kernel_rfl) (by rfl) ?_ ?_; rotate_left 2; · (go_simp; first | done | with_reducible rfl | (constructor <;> with_reducible rfl))
  refine HC2.out.mono ?_
  rintro e w2 hret
  obtain ⟨A2, c2, rfl, hO2⟩ := hret.om
  refine ⟨_, rfl, box_below k0'.out hO2.below_, ?_⟩
  have k1'' := box_below k1'.out hO2.below_
  have k0'' := box_below k0'.out hO2.below_
  have hB2 := below_trans hB1 hO2.below_ hB1.size
  obtain ⟨⟨c0, c1', c2'⟩, f0, f1, f2⟩ := box3 k1''
  have hw1 : w.heap.size + 1 < w1.heap.size := (Array.getElem?_eq_some_iff.1 k1'.out).1
  have K1 := Lib.hid k1''
  have K0 := Lib.hid k0''
  clear HC2 hret k1' k0' k1'' k0''
  simp only [Act.put, List.setIfInBounds_toArray, List.set_cons_zero, List.set_cons_succ]
  refine takeH 9 (v := ?_) rfl (by kernel_rfl) (by kernel_rfl) (by kernel_rfl) (fun _ _ _ h => h) K0.out (by rfl) (fun W' hW' => ?_) ?_; rotate_left; · (clear hW'; go_simp; first | done | with_reducible rfl)
  simp only [Act.put, List.setIfInBounds_toArray, List.set_cons_zero, List.set_cons_succ]
  refine oneH 10 rfl (by kernel_rfl) (by rfl) (fun K hK => ?_)
  go_simp
  obtain ⟨s1, s2⟩ := set3 (a := .int .i64 s.1) (b := .int .i64 0) (c := .slice A2 (perpM p s.1.toNat (satM p s)).length c2) K1.out
  refine hK _ _ (box_keeps K0.out s2 (by omega)) ?_
  clear hK K
  refine doneH (by kernel_rfl) ?_
  go_wp2_with (fail)
  refine bodyPost_ret (results_cell_row rfl _ _ (w.heap.size + 1) _ _ (0, 0) _ rfl s1 Tryd.underlying27 rfl (by kernel_rfl)) rfl ?_
  obtain ⟨fp, h1, h2⟩ := OwSys.of_ret (a := s.1) (b := 0) hO2 s2 (fun k hk => by omega) rfl
  exact ⟨_, fp, rfl, h1, h2.mono hB1.size, below_keeps hB2 s2 hB2.size (fun k hk => by omega)⟩

/-- The canonical system, or none. -/
def canM (p : Int) (s : Sys) : Sys × Bool := if sysB p s then (canonM p s, true) else ((0, 0, []), false)
theorem cntR_le {L : List (List Int)} {k : Nat} (h : ∀ x, x ∈ L → x.length ≤ k) : cntR L ≤ L.length * k := by
  induction L with
  | nil => simp [cntR]
  | cons a L ih =>
    have h1 := ih fun x hx => h x (List.mem_cons_of_mem _ hx)
    have h2 := h a (List.mem_cons_self ..)
    rw [cntR, List.length_cons, Nat.succ_mul]; omega
theorem okR_mat {p : Int} {m n : Nat} {L : List (List Int)} (h : Mat p m n L) (hm : m ≤ 1000) (hn : n ≤ 1000) : OkR L := by
  have h1 := cntR_le (L := L) (k := n) fun x hx => Nat.le_of_eq (h.row x hx).1
  rw [h.len] at h1
  refine ⟨by rw [h.len]; omega, fun x hx => by rw [(h.row x hx).1]; omega, Nat.le_trans h1 ?_⟩
  have : m * n ≤ 1000 * 1000 := Nat.mul_le_mul hm hn
  omega
theorem canM_ok {p : Int} {s : Sys} (_h : OkR s.2.2) : OkR (canM p s).1.2.2 := by
  unfold canM
  split
  · rename_i hb
    have hs := SysOk.of hb
    have hr := nullM_red hs.fld s.1.toNat (solvM p s)
    have hl := red_len hr
    have hv := hs.vis
    exact okR_mat hr.1 (by omega) (by omega)
  · exact okR_nil

set_option maxRecDepth 100000 in
set_option maxHeartbeats 1000000 in
theorem sCanonicalSystem_law (p : Int) {v : Value} {s : Sys} {w : World} (h : RdSysV w v s) (ok : OkR s.2.2) :
    Calls Tryd.prog 28 #[.int .i64 p, v] w fun e w' => ∃ v' fp, e = .returned (.tuple #[v', .bool (canM p s).2]) ∧ OwSys w' v' (canM p s).1 fp ∧ FreshL w.heap.size fp ∧ Below w.heap.size w w' := by
  obtain ⟨A, n, c, rfl⟩ := h.shape
  obtain ⟨W, hW⟩ : ∃ W, W = (w.alloc (.cells #[.int .i64 s.1, .int .i64 s.2.1, .slice A n c] 27)).alloc (.cells #[.int .i64 0, .int .i64 0, .slice none 0 0] 27) := ⟨_, rfl⟩
  have hB0 : Below w.heap.size w W := by rw [hW]; exact ((Below.refl _ _).alloc (Nat.le_refl _) _).alloc (by simp) _
  have k0 : W.heap[w.heap.size]? = some (.cells #[.int .i64 s.1, .int .i64 s.2.1, .slice A n c] 27) := by
    rw [hW]; exact box_below (heap_alloc_new w _) (below_alloc _ _)
  have k1 : W.heap[w.heap.size + 1]? = some (.cells #[.int .i64 0, .int .i64 0, .slice none 0 0] 27) := by
    rw [hW]
    have := heap_alloc_new (w.alloc (.cells #[.int .i64 s.1, .int .i64 s.2.1, .slice A n c] 27)) (.cells #[.int .i64 0, .int .i64 0, .slice none 0 0] 27)
    rwa [World.size_alloc] at this
  have hG := Lib.hid (syGood_any p W (h.below hB0) ok.1 ok.2.1)
  have hC := Lib.hid (fun (w' : World) (hb : Below W.heap.size W w') (hs : SysOk p s) => syCanon_any p w' ((h.below hB0).below hb) hs)
  have HB := Lib.hid hB0
  have K1 := Lib.hid k1
  have K0 := Lib.hid k0
  have hcan : ∀ b, sysB p s = b → (canM p s) = if b then (canonM p s, true) else ((0, 0, []), false) := fun b hb => by unfold canM; rw [hb]
  have hof : sysB p s = true → SysOk p s := SysOk.of
  have HOF := Lib.hid hof
  have HCAN := Lib.hid hcan
  obtain ⟨C, hCe⟩ : ∃ C, C = canM p s := ⟨_, rfl⟩
  rw [← hCe]
  have HCE := Lib.hid hCe
  obtain ⟨⟨c0, c1, c2⟩, f0, f1, f2⟩ := box3 k0
  clear k0 k1 hB0 h ok hcan hof hCe
  go_enter Tryd.func28, Tryd.ntmps28
  go_wp2_with (fail)
  rw [← hW]
  clear hW
  go_wp2_with (fail)
  refine hG.out.mono ?_
  rintro e w1 ⟨rfl, hb1⟩
  have k1' := box_below K1.out hb1
  have k0' := box_below K0.out hb1
  have hB1 := Lib.hid (below_trans HB.out hb1 HB.out.size)
  have hw1 : w.heap.size + 1 < w1.heap.size := (Array.getElem?_eq_some_iff.1 k1').1
  obtain ⟨⟨c0', c1', c2'⟩, f0', f1', f2'⟩ := box3 k0'
  obtain ⟨⟨d0, d1, d2⟩, g0, g1, g2⟩ := box3 k1'
  clear c0 c1 c2 f0 f1 f2
  by_cases hb : sysB p s = true
  · have hC1 := Lib.hid (hC.out w1 hb1 (HOF.out hb))
    obtain rfl : C = (canonM p s, true) := by rw [HCE.out, HCAN.out true hb]; rfl
    rw [hb]
    have K1' := Lib.hid k1'
    clear hC hG hb HOF HCAN HCE k0' k1' hb1
    go_wp2_with (fail)
    refine hC1.out.mono ?_
    rintro e w2 ⟨v2, fp2, rfl, hO2, hf2, hb2⟩
    have k1'' := box_below K1'.out hb2
    obtain ⟨A2, n2, c2, rfl⟩ := hO2.shape
    obtain ⟨⟨d0, d1, d2⟩, g0, g1, g2⟩ := box3 k1''
    have hB2 := below_trans hB1.out hb2 hB1.out.size
    obtain ⟨s1, s2⟩ := set3 (a := .int .i64 (canonM p s).1) (b := .int .i64 (canonM p s).2.1) (c := .slice A2 n2 c2) k1''
    have S1 := Lib.hid s1
    have S2 := Lib.hid s2
    have hB3 := Lib.hid (below_keeps hB2 s2 hB2.size (fun k hk => by omega))
    have hO3 := Lib.hid (hO2.keeps s2 (fun k hk e => by have := hf2 k hk; omega))
    have hF3 := Lib.hid (hf2.mono hB1.out.size)
    clear k1'' hO2 hf2 hb2 s1 s2 hC1 hB2
    go_wp2_with (fail)
    refine bodyPost_ret (results_cell_tmp rfl _ _ (w.heap.size + 1) _ _ (0, 0) _ rfl S1.out Tryd.underlying27 rfl (by kernel_rfl)) rfl ?_
    exact ⟨_, rfl, fp2, hO3.out, hF3.out, hB3.out⟩
  · have hb' : sysB p s = false := by simpa using hb
    obtain rfl : C = ((0, 0, []), false) := by rw [HCE.out, HCAN.out false hb']; rfl
    rw [hb']
    obtain ⟨s1, s2⟩ := set3 (a := .int .i64 0) (b := .int .i64 0) (c := .slice none 0 0) k1'
    have S1 := Lib.hid s1
    have hB3 := Lib.hid (below_keeps hB1.out s2 hB1.out.size (fun k hk => by omega))
    clear hC hG hb hb' HOF HCAN HCE k0' k1' hb1 s1 s2
    go_wp2_with (fail)
    refine bodyPost_ret (results_cell_tmp rfl _ _ (w.heap.size + 1) _ _ (0, 0) _ rfl S1.out Tryd.underlying27 rfl (by kernel_rfl)) rfl ?_
    exact ⟨_, rfl, [], OwSys.zero _ 0 0, FreshL.nil _, hB3.out⟩

set_option maxRecDepth 100000 in
set_option maxHeartbeats 1000000 in
theorem iCanonicalSystem_law (p : Int) {v : Value} {s : Sys} {w : World} (h : RdSysV w v s) (ok : OkR s.2.2) (hT : Tab w) :
    Calls Tryd.prog 29 #[.int .i64 p, v] w fun e w' => ∃ v' fp, e = .returned (.tuple #[v', .bool (canM p s).2]) ∧ OwSys w' v' (canM p s).1 fp ∧ FreshL w.heap.size fp ∧ Below w.heap.size w w' := by
  obtain ⟨A, n, c, rfl⟩ := h.shape
  obtain ⟨W, hW⟩ : ∃ W, W = (w.alloc (.cells #[.int .i64 s.1, .int .i64 s.2.1, .slice A n c] 27)).alloc (.cells #[.int .i64 0, .int .i64 0, .slice none 0 0] 27) := ⟨_, rfl⟩
  have hB0 : Below w.heap.size w W := by rw [hW]; exact ((Below.refl _ _).alloc (Nat.le_refl _) _).alloc (by simp) _
  have k0 : W.heap[w.heap.size]? = some (.cells #[.int .i64 s.1, .int .i64 s.2.1, .slice A n c] 27) := by
    rw [hW]; exact box_below (heap_alloc_new w _) (below_alloc _ _)
  have k1 : W.heap[w.heap.size + 1]? = some (.cells #[.int .i64 0, .int .i64 0, .slice none 0 0] 27) := by
    rw [hW]
    have := heap_alloc_new (w.alloc (.cells #[.int .i64 s.1, .int .i64 s.2.1, .slice A n c] 27)) (.cells #[.int .i64 0, .int .i64 0, .slice none 0 0] 27)
    rwa [World.size_alloc] at this
  have hG := Lib.hid (isSystem_any p W (h.below hB0) (hT.below hB0 hT.lt) ok.1 ok.2.1)
  have hC := Lib.hid (fun (w' : World) (hb : Below W.heap.size W w') (hs : SysOk p s) => canonicalSystem_any p w' ((h.below hB0).below hb) hs)
  have HB := Lib.hid hB0
  have K1 := Lib.hid k1
  have K0 := Lib.hid k0
  have hcan : ∀ b, sysB p s = b → (canM p s) = if b then (canonM p s, true) else ((0, 0, []), false) := fun b hb => by unfold canM; rw [hb]
  have hof : sysB p s = true → SysOk p s := SysOk.of
  have HOF := Lib.hid hof
  have HCAN := Lib.hid hcan
  obtain ⟨C, hCe⟩ : ∃ C, C = canM p s := ⟨_, rfl⟩
  rw [← hCe]
  have HCE := Lib.hid hCe
  obtain ⟨⟨c0, c1, c2⟩, f0, f1, f2⟩ := box3 k0
  clear k0 k1 hB0 h ok hcan hof hCe hT
  go_enter Tryd.func29, Tryd.ntmps29
  go_wp2_with (fail)
  rw [← hW]
  clear hW
  go_wp2_with (fail)
  refine hG.out.mono ?_
  rintro e w1 ⟨rfl, hb1⟩
  have k1' := box_below K1.out hb1
  have k0' := box_below K0.out hb1
  have hB1 := Lib.hid (below_trans HB.out hb1 HB.out.size)
  have hw1 : w.heap.size + 1 < w1.heap.size := (Array.getElem?_eq_some_iff.1 k1').1
  obtain ⟨⟨c0', c1', c2'⟩, f0', f1', f2'⟩ := box3 k0'
  obtain ⟨⟨d0, d1, d2⟩, g0, g1, g2⟩ := box3 k1'
  clear c0 c1 c2 f0 f1 f2
  by_cases hb : sysB p s = true
  · have hC1 := Lib.hid (hC.out w1 hb1 (HOF.out hb))
    obtain rfl : C = (canonM p s, true) := by rw [HCE.out, HCAN.out true hb]; rfl
    rw [hb]
    have K1' := Lib.hid k1'
    clear hC hG hb HOF HCAN HCE k0' k1' hb1
    go_wp2_with (fail)
    refine hC1.out.mono ?_
    rintro e w2 ⟨v2, fp2, rfl, hO2, hf2, hb2⟩
    have k1'' := box_below K1'.out hb2
    obtain ⟨A2, n2, c2, rfl⟩ := hO2.shape
    obtain ⟨⟨d0, d1, d2⟩, g0, g1, g2⟩ := box3 k1''
    have hB2 := below_trans hB1.out hb2 hB1.out.size
    obtain ⟨s1, s2⟩ := set3 (a := .int .i64 (canonM p s).1) (b := .int .i64 (canonM p s).2.1) (c := .slice A2 n2 c2) k1''
    have S1 := Lib.hid s1
    have S2 := Lib.hid s2
    have hB3 := Lib.hid (below_keeps hB2 s2 hB2.size (fun k hk => by omega))
    have hO3 := Lib.hid (hO2.keeps s2 (fun k hk e => by have := hf2 k hk; omega))
    have hF3 := Lib.hid (hf2.mono hB1.out.size)
    clear k1'' hO2 hf2 hb2 s1 s2 hC1 hB2
    go_wp2_with (fail)
    refine bodyPost_ret (results_cell_tmp rfl _ _ (w.heap.size + 1) _ _ (0, 0) _ rfl S1.out Tryd.underlying27 rfl (by kernel_rfl)) rfl ?_
    exact ⟨_, rfl, fp2, hO3.out, hF3.out, hB3.out⟩
  · have hb' : sysB p s = false := by simpa using hb
    obtain rfl : C = ((0, 0, []), false) := by rw [HCE.out, HCAN.out false hb']; rfl
    rw [hb']
    obtain ⟨s1, s2⟩ := set3 (a := .int .i64 0) (b := .int .i64 0) (c := .slice none 0 0) k1'
    have S1 := Lib.hid s1
    have hB3 := Lib.hid (below_keeps hB1.out s2 hB1.out.size (fun k hk => by omega))
    clear hC hG hb hb' HOF HCAN HCE k0' k1' hb1 s1 s2
    go_wp2_with (fail)
    refine bodyPost_ret (results_cell_tmp rfl _ _ (w.heap.size + 1) _ _ (0, 0) _ rfl S1.out Tryd.underlying27 rfl (by kernel_rfl)) rfl ?_
    exact ⟨_, rfl, [], OwSys.zero _ 0 0, FreshL.nil _, hB3.out⟩
end Go.Proofs.YtomekicglojhhaaDoor
