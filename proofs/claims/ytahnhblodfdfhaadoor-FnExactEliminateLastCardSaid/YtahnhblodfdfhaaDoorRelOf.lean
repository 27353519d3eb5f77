/-
  THE WALKS: spec.rlOf, spec.syRelation, spec.RelationOfSystem, impl.RelationOfSystem.
-/
import Derived.Test.YtahnhblodfdfhaaDoorCanon
import Derived.Test.YtahnhblodfdfhaaDoorSpRed
import Derived.IntWalk
namespace Go.Proofs.YtahnhblodfdfhaaDoor
open Go.RowKit

set_option maxRecDepth 100000 in
set_option maxHeartbeats 1000000 in
theorem rlOf_any (p a b : Int) (n : Nat) (A : Option Addr) (c : Nat) (hs : List Hd) (w : World) (h : RdR w A hs) (hp : fieldB p = true) (hn : a + b = (n : Int)) (hm : Mat p hs.length n (hs.map fun h : Hd => h.2.2)) (hl : hs.length ≤ 1048576) (hn' : n ≤ 1048576) :
    Calls Tryd.prog 122 #[.int .i64 p, .int .i64 a, .int .i64 b, .slice A hs.length c] w fun e w' => ∃ v' fp, e = .returned v' ∧ OwSys w' v' (a, b, redM p n (hs.map fun h : Hd => h.2.2)) fp ∧ FreshL w.heap.size fp ∧ Below w.heap.size w w' := by
  obtain ⟨W, hW⟩ : ∃ W, W = w.alloc (.cells #[.int .i64 0, .int .i64 0, .slice none 0 0] 43) := ⟨_, rfl⟩
  have hB0 : Below w.heap.size w W := by rw [hW]; exact (Below.refl _ _).alloc (Nat.le_refl _) _
  have k0 : W.heap[w.heap.size]? = some (.cells #[.int .i64 0, .int .i64 0, .slice none 0 0] 43) := by rw [hW]; exact heap_alloc_new w _
  have hC := spReduce_any p n A c hs W (h.below hB0) hp hm hl hn'
  obtain ⟨R, hR⟩ : ∃ R, R = redM p n (hs.map fun h : Hd => h.2.2) := ⟨_, rfl⟩
  rw [← hR] at hC ⊢
  have hC' : Calls Tryd.prog 113 #[.int .i64 p, .int .i64 (a + b), .slice A hs.length c] W (RetSS W R) := by rw [hn]; exact hC
  have hwr : IntKind.i64.wrap (a + b) = a + b := IntWalk.i64_in _ (by omega)
  have HC := Lib.hid hC'
  have HB := Lib.hid hB0
  have K0 := Lib.hid k0
  clear hC hC' hR hB0 k0 h hm hp hn
  go_enter Tryd.func122, Tryd.ntmps122
  go_wp2_with (fail)
  rw [← hW]
  clear hW
  go_wp2_with (fail)
  refine HC.out.mono ?_
  rintro e w1 hret
  obtain ⟨A1, c1, rfl, hO1⟩ := hret.om
  have k1 := box_below K0.out hO1.below_
  have hB1 := below_trans HB.out hO1.below_ HB.out.size
  obtain ⟨⟨d0, d1, d2⟩, g0, g1, g2⟩ := box3 k1
  obtain ⟨s1, s2⟩ := set3 (a := .int .i64 a) (b := .int .i64 b) (c := .slice A1 R.length c1) k1
  have S1 := Lib.hid s1
  have HO1 := Lib.hid hO1
  have S2 := Lib.hid s2
  have hw0 := (Array.getElem?_eq_some_iff.1 K0.out).1
  have hB3 := Lib.hid (below_keeps hB1 s2 hB1.size (fun k hk => by omega))
  have hBs := HB.out.size
  clear HC hret K0 k1 hO1 s1 s2 hB1
  go_wp2_with (fail)
  refine bodyPost_ret (results_cell_row rfl _ _ w.heap.size _ _ (0, 0) _ rfl S1.out Tryd.underlying43 rfl (by kernel_rfl)) rfl ?_
  obtain ⟨fp, h1, h2⟩ := OwSys.of_ret (a := a) (b := b) HO1.out S2.out (fun k hk => by omega) rfl
  exact ⟨_, fp, rfl, h1, h2.mono hBs, hB3.out⟩

/-- The relation that the first k visible wires of a system have with the rest. -/
def relM (p : Int) (s : Sys) (k : Int) : Sys := (k, s.1 - k, satM p s)

/-- The relation, or none. -/
def relOf (p : Int) (s : Sys) (k : Int) : Sys × Bool := if sysB p s && (decide (0 ≤ k) && decide (k ≤ s.1)) then (relM p s k, true) else ((0, 0, []), false)
theorem relOf_ok {p k : Int} {s : Sys} (_h : OkR s.2.2) : OkR (relOf p s k).1.2.2 := by
  unfold relOf
  split
  · rename_i hb
    rw [Bool.and_eq_true] at hb
    have hs := SysOk.of hb.1
    obtain ⟨hm, hl⟩ := satM_mat hs
    have hv := hs.vis
    exact okR_mat hm (by omega) (by omega)
  · exact okR_nil

end Go.Proofs.YtahnhblodfdfhaaDoor
