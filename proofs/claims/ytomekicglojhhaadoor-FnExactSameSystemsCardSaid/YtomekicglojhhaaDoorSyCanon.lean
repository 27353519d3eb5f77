/-
  THE WALKS: spec.syCanon, spec.CanonicalSystem.

  RESULTS IN A BOX: a struct and a flag.
-/
import Derived.Test.YtomekicglojhhaaDoorKRows
import Derived.Test.YtomekicglojhhaaDoorSySolve
namespace Go.Proofs.YtomekicglojhhaaDoor
open Go.RowKit

theorem results_cell_tmp {P : Program} {fn : Func} {p u : Tmp} {ty : TypeId} (h : fn.results = #[.cell p ty, .tmp u]) (tmps : Array Value) (w : World) (g : Nat) (t : TypeId) (cs : Array Value) (fr : Nat × Nat) (d : TypeDesc)
    (hp : tmps.getD p undef = .pointer (some ⟨g, 0, none⟩)) (hg : w.heap[g]? = some (.cells cs t fr))
    (hu : P.underlying ty = some d) (hd : (match d with | .struct _ | .array _ _ => true | _ => false) = true) (hi : (P.info? ty).map (·.size) = some cs.size) :
    (results fn tmps).run P w = .ok (.tuple #[.agg cs, tmps.getD u undef]) w := by
  have hp' : tmps[p]?.getD undef = .pointer (some ⟨g, 0, none⟩) := by simpa using hp
  simp [results, h, hp', asAddr, run_loadVar_row w g t ty cs fr d hg hu hd hi]

section
variable {w : World} {B : Nat} {t : TypeId} {x y z a b c : Value}
theorem set3 (h : w.heap[B]? = some (.cells #[x, y, z] t)) : (((w.setCell ⟨B, 0, none⟩ a).setCell ⟨B, 1, none⟩ b).setCell ⟨B, 2, none⟩ c).heap[B]? = some (.cells #[a, b, c] t) ∧ Keeps (· = B) w (((w.setCell ⟨B, 0, none⟩ a).setCell ⟨B, 1, none⟩ b).setCell ⟨B, 2, none⟩ c) := by
  refine ⟨by simp [World.setCell, Array.getElem?_modify, h], ?_⟩
  exact ((((Keeps.refl (fun x => x = B) w).setCell (p := ⟨B, 0, none⟩) rfl _).setCell (p := ⟨B, 1, none⟩) rfl _).setCell (p := ⟨B, 2, none⟩) rfl _)
theorem set2 (h : w.heap[B]? = some (.cells #[x, y] t)) : ((w.setCell ⟨B, 0, none⟩ a).setCell ⟨B, 1, none⟩ b).heap[B]? = some (.cells #[a, b] t) ∧ Keeps (· = B) w ((w.setCell ⟨B, 0, none⟩ a).setCell ⟨B, 1, none⟩ b) := by
  refine ⟨by simp [World.setCell, Array.getElem?_modify, h], ?_⟩
  exact (((Keeps.refl (fun x => x = B) w).setCell (p := ⟨B, 0, none⟩) rfl _).setCell (p := ⟨B, 1, none⟩) rfl _)
end
/-- An owned struct of the empty kind. -/
theorem OwSys.zero (w : World) (a b : Int) : OwSys w (.agg #[.int .i64 a, .int .i64 b, .slice none 0 0]) (a, b, []) [] := ⟨none, 0, [], rfl, rfl, OwR.nil w, by simp [fpR]⟩
theorem OwMt.zero (w : World) (a : Int) : OwMt w (.agg #[.int .i64 a, .slice none 0 0]) (a, []) [] := ⟨none, 0, [], rfl, rfl, OwR.nil w, by simp [fpR]⟩
theorem FreshL.nil (B : Nat) : FreshL B [] := fun b hb => (by cases hb)
theorem okR_nil : OkR [] := ⟨by simp, fun x hx => (by cases hx), by simp [cntR]⟩
theorem OwSys.of_ret {w0 w : World} {L : List (List Int)} {A : Option Addr} {c : Nat} {a b : Int} (h : OM w0 w A c L) {w' : World} {S : Nat → Prop} (hk : Keeps S w w') (hS : ∀ k, S k → k < w0.heap.size) {n : Nat} (hn : L.length = n) : ∃ fp, OwSys w' (.agg #[.int .i64 a, .int .i64 b, .slice A n c]) (a, b, L) fp ∧ FreshL w0.heap.size fp := by
  subst hn
  obtain ⟨fp, h1, h2⟩ := OwSys.of_om (a := a) (b := b) h
  exact ⟨fp, h1.keeps hk fun k hk' hs => by have := h2 k hk'; have := hS k hs; omega, h2⟩
end Go.Proofs.YtomekicglojhhaaDoor
namespace Go.Proofs.YtomekicglojhhaaDoor
open Go.RowKit

/-- The canonical system. -/
def canonM (p : Int) (s : Sys) : Sys := (s.1, 0, nullM p s.1.toNat (solvM p s))

set_option maxRecDepth 100000 in
set_option maxHeartbeats 2000000 in
theorem syCanon_any (p : Int) {v : Value} {s : Sys} (w : World) (h : RdSysV w v s) (hs : SysOk p s) :
    Calls Tryd.prog 76 #[.int .i64 p, v] w fun e w' => ∃ v' fp, e = .returned v' ∧ OwSys w' v' (canonM p s) fp ∧ FreshL w.heap.size fp ∧ Below w.heap.size w w' := by
  obtain ⟨A, n, c, rfl⟩ := h.shape
  obtain ⟨W, hW⟩ : ∃ W, W = (w.alloc (.cells #[.int .i64 s.1, .int .i64 s.2.1, .slice A n c] 27)).alloc (.cells #[.int .i64 0, .int .i64 0, .slice none 0 0] 27) := ⟨_, rfl⟩
  have hB0 : Below w.heap.size w W := by rw [hW]; exact ((Below.refl _ _).alloc (Nat.le_refl _) _).alloc (by simp) _
  have k0 : W.heap[w.heap.size]? = some (.cells #[.int .i64 s.1, .int .i64 s.2.1, .slice A n c] 27) := by
    rw [hW]; exact box_below (heap_alloc_new w _) (below_alloc _ _)
  have k1 : W.heap[w.heap.size + 1]? = some (.cells #[.int .i64 0, .int .i64 0, .slice none 0 0] 27) := by
    rw [hW]
    have := heap_alloc_new (w.alloc (.cells #[.int .i64 s.1, .int .i64 s.2.1, .slice A n c] 27)) (.cells #[.int .i64 0, .int .i64 0, .slice none 0 0] 27)
    rwa [World.size_alloc] at this
  have hD : Below W.heap.size W W.drew := below_drewN (Below.refl _ _) 1
  have hBd := below_trans hB0 hD hB0.size
  have hC := sySolved_any p W.drew (h.below hBd) hs
  have hv := hs.vis
  obtain ⟨hsm, hsl⟩ := solvM_mat hs
  have HC := Lib.hid hC
  have HSM := Lib.hid hsm
  have HF := Lib.hid hs.fld
  have HB := Lib.hid hBd
  have K1 := Lib.hid (box_below k1 hD)
  have K0 := Lib.hid (box_below k0 hD)
  clear hC hsm hB0 hD hBd k1 k0 hs h
  go_enter Tryd.func76, Tryd.ntmps76
  go_wp2_with (fail)
  rw [← hW]
  clear hW
  refine beginH (fun w' => w'.heap[w.heap.size]? = some (.cells #[.int .i64 s.1, .int .i64 s.2.1, .slice A n c] 27)) (by kernel_rfl) ?_
  refine takeH 0 (v := ?_) rfl (by kernel_rfl) (by kernel_rfl) (by kernel_rfl) (fun _ _ _ h => h) K0.out (by rfl) (fun W' hW' => ?_) ?_; rotate_left; · (obtain ⟨⟨c0, c1, c2⟩, f0, f1, f2⟩ := box3 hW'; clear hW'; go_simp; first | done | with_reducible rfl)
  simp only [Act.put, List.setIfInBounds_toArray, List.set_cons_zero, List.set_cons_succ]
  refine takeH 1 (v := ?_) rfl (by kernel_rfl) (by kernel_rfl) (by kernel_rfl) (fun _ _ _ h => h) K0.out (by rfl) (fun W' hW' => ?_) ?_; rotate_left; · (obtain ⟨⟨c0, c1, c2⟩, f0, f1, f2⟩ := box3 hW'; clear hW'; go_simp; first | done | with_reducible rfl)
  simp only [Act.put, List.setIfInBounds_toArray, List.set_cons_zero, List.set_cons_succ]
  refine takeH 2 (v := ?_) rfl (by kernel_rfl) (by kernel_rfl) (by kernel_rfl) (fun _ _ _ h => h) K0.out (by rfl) (fun W' hW' => ?_) ?_; rotate_left; · (obtain ⟨⟨c0, c1, c2⟩, f0, f1, f2⟩ := box3 hW'; clear hW'; go_simp; first | done | with_reducible rfl)
  simp only [Act.put, List.setIfInBounds_toArray, List.set_cons_zero, List.set_cons_succ]
  refine takeH 3 (v := ?_) rfl (by kernel_rfl) (by kernel_rfl) (by kernel_rfl) (fun _ _ _ h => h) K0.out (by rfl) (fun W' hW' => ?_) ?_; rotate_left; · (obtain ⟨⟨c0, c1, c2⟩, f0, f1, f2⟩ := box3 hW'; clear hW'; go_simp; first | done | with_reducible rfl)
  simp only [Act.put, List.setIfInBounds_toArray, List.set_cons_zero, List.set_cons_succ]
  refine takeH 4 (v := ?_) rfl (by kernel_rfl) (by kernel_rfl) (by kernel_rfl) (fun _ _ _ h => h) K0.out (by rfl) (fun W' hW' => ?_) ?_; rotate_left; · (obtain ⟨⟨c0, c1, c2⟩, f0, f1, f2⟩ := box3 hW'; clear hW'; go_simp; first | done | with_reducible rfl)
  simp only [Act.put, List.setIfInBounds_toArray, List.set_cons_zero, List.set_cons_succ]
  refine takeH 5 (v := ?_) rfl (by kernel_rfl) (by kernel_rfl) (by kernel_rfl) (fun _ _ _ h => h) K0.out (by rfl) (fun W' hW' => ?_) ?_; rotate_left; · (obtain ⟨⟨c0, c1, c2⟩, f0, f1, f2⟩ := box3 hW'; clear hW'; go_simp; first | done | with_reducible rfl)
  simp only [Act.put, List.setIfInBounds_toArray, List.set_cons_zero, List.set_cons_succ]
  refine takeH 6 (v := ?_) rfl (by kernel_rfl) (by kernel_rfl) (by kernel_rfl) (fun _ _ _ h => h) K0.out (by rfl) (fun W' hW' => ?_) ?_; rotate_left; · (obtain ⟨⟨c0, c1, c2⟩, f0, f1, f2⟩ := box3 hW'; clear hW'; go_simp; first | done | with_reducible rfl)
  simp only [Act.put, List.setIfInBounds_toArray, List.set_cons_zero, List.set_cons_succ]
  refine' callH 7 (f := _) (args := _) rfl (by kernel_rfl) (by rfl) ?_ ?_; rotate_left 2; · (go_simp; first | done | with_reducible rfl | (constructor <;> with_reducible rfl))
  refine HC.out.mono ?_
  rintro e w1 ⟨A1, c1, hs1, rfl, hL1, hR1, hb1⟩
  refine ⟨_, rfl, box_below K0.out hb1, ?_⟩
  have k1' := Lib.hid (box_below K1.out hb1)
  have k0' := Lib.hid (box_below K0.out hb1)
  have hB1 := below_trans HB.out hb1 HB.out.size
  obtain ⟨m, hm⟩ : ∃ m, m = (solvM p s).length := ⟨_, rfl⟩
  have hml : hs1.length = m := by rw [hm, hL1, List.length_map]
  have hmat : Mat p hs1.length s.1.toNat (hs1.map fun h : Hd => h.2.2) := by rw [← hL1, hml, hm]; exact HSM.out
  have hC2 := spNull_any p s.1.toNat A1 c1 hs1 w1 hR1 HF.out hmat (by omega) (by omega)
  rw [← hL1, hml] at hC2
  have hC2' : Calls Tryd.prog 86 #[.int .i64 p, .int .i64 s.1, .slice A1 m c1] w1 (RetSS w1 (nullM p s.1.toNat (solvM p s))) := by
    have e : ((s.1.toNat : Nat) : Int) = s.1 := by omega
    rw [e] at hC2; exact hC2
  rw [← hm]
  have HC2 := Lib.hid hC2'
  clear hC2 hC2' hmat hml hm hL1 hR1
  simp only [Act.put, List.setIfInBounds_toArray, List.set_cons_zero, List.set_cons_succ]
  refine' callH 8 (f := _) (args := _) rfl (by kernel_rfl) (by rfl) ?_ ?_; rotate_left 2; · (go_simp; first | done | with_reducible rfl | (constructor <;> with_reducible rfl))
  refine HC2.out.mono ?_
  rintro e w2 hret
  obtain ⟨A2, c2, rfl, hO2⟩ := hret.om
  refine ⟨_, rfl, box_below k0'.out hO2.below_, ?_⟩
  have k1'' := box_below k1'.out hO2.below_
  have k0'' := box_below k0'.out hO2.below_
  have hB2 := below_trans hB1 hO2.below_ hB1.size
  obtain ⟨⟨c0, c1', c2'⟩, f0, f1, f2⟩ := box3 k1''
  have hw1 : w.heap.size + 1 < w1.heap.size := (Array.getElem?_eq_some_iff.1 k1'.out).1
  have K1 := Lib.hid k1''
  have K0 := Lib.hid k0''
  clear HC2 hret k1' k0' k1'' k0''
  simp only [Act.put, List.setIfInBounds_toArray, List.set_cons_zero, List.set_cons_succ]
  refine takeH 9 (v := ?_) rfl (by kernel_rfl) (by kernel_rfl) (by kernel_rfl) (fun _ _ _ h => h) K0.out (by rfl) (fun W' hW' => ?_) ?_; rotate_left; · (clear hW'; go_simp; first | done | with_reducible rfl)
  simp only [Act.put, List.setIfInBounds_toArray, List.set_cons_zero, List.set_cons_succ]
  refine oneH 10 rfl (by kernel_rfl) (by rfl) (fun K hK => ?_)
  go_simp
  obtain ⟨s1, s2⟩ := set3 (a := .int .i64 s.1) (b := .int .i64 0) (c := .slice A2 (nullM p s.1.toNat (solvM p s)).length c2) K1.out
  refine hK _ _ (box_keeps K0.out s2 (by omega)) ?_
  clear hK K
  refine doneH (by kernel_rfl) ?_
  go_wp2_with (fail)
  refine bodyPost_ret (results_cell_row rfl _ _ (w.heap.size + 1) _ _ (0, 0) _ rfl s1 Tryd.underlying27 rfl (by kernel_rfl)) rfl ?_
  obtain ⟨fp, h1, h2⟩ := OwSys.of_ret (a := s.1) (b := 0) hO2 s2 (fun k hk => by omega) rfl
  exact ⟨_, fp, rfl, h1, h2.mono hB1.size, below_keeps hB2 s2 hB2.size (fun k hk => by omega)⟩
end Go.Proofs.YtomekicglojhhaaDoor
