/-
  THE WALK: impl.validSystem.
-/
import Derived.Test.YtpfidjegdpkhdaaDoorCanon
namespace Go.Proofs.YtpfidjegdpkhdaaDoor
open Go.RowKit

set_option maxRecDepth 100000 in
set_option maxHeartbeats 1000000 in
theorem validSystem_any (p : Int) {v : Value} {s : Sys} {w : World} (h : RdSysV w v s) (ok : OkR s.2.2) (hT : Tab w) :
    Calls Tryd.prog 78 #[.int .i64 p, v] w fun e w' => e = .returned (.tuple #[if sysB p s = true then v else .agg #[.int .i64 0, .int .i64 0, .slice none 0 0], .bool (sysB p s)]) ∧ Below w.heap.size w w' := by
  obtain ⟨A, n, c, rfl⟩ := h.shape
  obtain ⟨W, hW⟩ : ∃ W, W = (w.alloc (.cells #[.int .i64 s.1, .int .i64 s.2.1, .slice A n c] 26)).alloc (.cells #[.int .i64 0, .int .i64 0, .slice none 0 0] 26) := ⟨_, rfl⟩
  have hB0 : Below w.heap.size w W := by rw [hW]; exact ((Below.refl _ _).alloc (Nat.le_refl _) _).alloc (by simp) _
  have k0 : W.heap[w.heap.size]? = some (.cells #[.int .i64 s.1, .int .i64 s.2.1, .slice A n c] 26) := by
    rw [hW]; exact box_below (heap_alloc_new w _) (below_alloc _ _)
  have k1 : W.heap[w.heap.size + 1]? = some (.cells #[.int .i64 0, .int .i64 0, .slice none 0 0] 26) := by
    rw [hW]
    have := heap_alloc_new (w.alloc (.cells #[.int .i64 s.1, .int .i64 s.2.1, .slice A n c] 26)) (.cells #[.int .i64 0, .int .i64 0, .slice none 0 0] 26)
    rwa [World.size_alloc] at this
  have hG := Lib.hid (isSystem_any p W (h.below hB0) (hT.below hB0 hT.lt) ok.1 ok.2.1)
  have HB := Lib.hid hB0
  have K1 := Lib.hid k1
  have K0 := Lib.hid k0
  obtain ⟨C, hCe⟩ : ∃ C, C = if sysB p s = true then (Value.agg #[.int .i64 s.1, .int .i64 s.2.1, .slice A n c]) else .agg #[.int .i64 0, .int .i64 0, .slice none 0 0] := ⟨_, rfl⟩
  rw [← hCe]
  obtain ⟨b, hb⟩ : ∃ b, b = sysB p s := ⟨_, rfl⟩
  rw [← hb] at hCe hG ⊢
  have HCE := Lib.hid hCe
  obtain ⟨⟨c0, c1, c2⟩, f0, f1, f2⟩ := box3 k0
  clear k0 k1 hB0 h ok hCe hb hT
  go_enter Tryd.func78, Tryd.ntmps78
  go_wp2_with (fail)
  rw [← hW]
  clear hW
  go_wp2_with (fail)
  refine hG.out.mono ?_
  rintro e w1 ⟨rfl, hb1⟩
  have k1' := box_below K1.out hb1
  have k0' := box_below K0.out hb1
  have hB1 := Lib.hid (below_trans HB.out hb1 HB.out.size)
  have hw1 : w.heap.size + 1 < w1.heap.size := (Array.getElem?_eq_some_iff.1 k1').1
  obtain ⟨⟨c0', c1', c2'⟩, f0', f1', f2'⟩ := box3 k0'
  obtain ⟨⟨d0, d1, d2⟩, g0, g1, g2⟩ := box3 k1'
  clear c0 c1 c2 f0 f1 f2 hG
  cases b with
  | true =>
    obtain rfl : C = (Value.agg #[.int .i64 s.1, .int .i64 s.2.1, .slice A n c]) := HCE.out
    obtain ⟨s1, s2⟩ := set3 (a := .int .i64 s.1) (b := .int .i64 s.2.1) (c := .slice A n c) k1'
    have S1 := Lib.hid s1
    have hB3 := Lib.hid (below_keeps hB1.out s2 hB1.out.size (fun k hk => by omega))
    clear k0' k1' s1 s2 HCE
    go_wp2_with (fail)
    refine bodyPost_ret (results_cell_tmp rfl _ _ (w.heap.size + 1) _ _ (0, 0) _ rfl S1.out Tryd.underlying26 rfl (by kernel_rfl)) rfl ?_
    exact ⟨rfl, hB3.out⟩
  | false =>
    obtain rfl : C = .agg #[.int .i64 0, .int .i64 0, .slice none 0 0] := HCE.out
    obtain ⟨s1, s2⟩ := set3 (a := .int .i64 0) (b := .int .i64 0) (c := .slice none 0 0) k1'
    have S1 := Lib.hid s1
    have hB3 := Lib.hid (below_keeps hB1.out s2 hB1.out.size (fun k hk => by omega))
    clear k0' k1' s1 s2 HCE
    go_wp2_with (fail)
    refine bodyPost_ret (results_cell_tmp rfl _ _ (w.heap.size + 1) _ _ (0, 0) _ rfl S1.out Tryd.underlying26 rfl (by kernel_rfl)) rfl ?_
    exact ⟨rfl, hB3.out⟩
end Go.Proofs.YtpfidjegdpkhdaaDoor
