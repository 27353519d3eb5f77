/-
  THE LAW's HELPERS OVER System: sz, to; what came in.
-/
import Derived.Test.YtahnhblodfdfhaaDoorKRows
import Derived.Test.YtahnhblodfdfhaaDoorInRows
namespace Go.Proofs.YtahnhblodfdfhaaDoor
open Go.ChangeShapes Go.WideShapes Go.ChangeAt Go.RowKit

/-- The bounds of what came in. -/
def BigSystem (s : Sys) : Prop := (-9223372036854775808 ≤ s.1 ∧ s.1 ≤ 9223372036854775807) ∧ (-9223372036854775808 ≤ s.2.1 ∧ s.2.1 ≤ 9223372036854775807) ∧ s.2.2.length ≤ 9223372036854775807 ∧ ∀ x, x ∈ s.2.2 → x.length ≤ 9223372036854775807
set_option maxRecDepth 100000 in
theorem in_System {H : Type} {enc : TypeId × Value → H} {W : World} {v : Value} {d : DataW H} {p : List MemPlace} (hv : Value.okWide Tryd.prog W .any 0 24 v) (h : DataW.Trod enc Tryd.prog W 0 (fun _ => true) true 24 v d p) :
    ∃ s : Sys, RdSysV W v s ∧ BigSystem s := by
  obtain ⟨v0, v1, v2, y0, y1, y2, n, rfl, _, _, h0, h1, h2⟩ := Joins.open_agg3 Tryd.underlying24 (by kernel_rfl) (by kernel_rfl) hv h
  obtain ⟨a, rfl, ha⟩ := in_int1 h0
  obtain ⟨b, rfl, hb⟩ := in_int1 h1
  obtain ⟨A, cap, hs, rfl, hR, hl, hr⟩ := in_rows h2
  exact ⟨(a, b, hs.map fun h : Hd => h.2.2), ⟨A, cap, hs, rfl, rfl, hR⟩, ha, hb, by simpa using hl, fun x hx => by
    obtain ⟨y, hy, rfl⟩ := List.mem_map.1 hx
    exact hr y hy⟩

set_option maxHeartbeats 1000000 in
theorem szSystem_law {v : Value} {s : Sys} (left : Int) {w : World} (h : RdSysV w v s) (hB : BigSystem s) (h0 : 0 ≤ left) (h1 : left ≤ 1048576) :
    Calls Tryd.prog 10 #[v, .int .i64 left] w fun e w' => e = .returned (.int .i64 (szR s.2.2 left)) ∧ Below w.heap.size w w' := by
  obtain ⟨_, _, hn, hr⟩ := hB
  obtain ⟨A, c, hs, rfl, hL, hR⟩ := h
  obtain ⟨a, b, L⟩ := s
  have hL' : L = hs.map (fun h : Hd => h.2.2) := hL
  subst hL'
  have hb : Below w.heap.size w (w.alloc (.cells #[.int .i64 a, .int .i64 b, .slice A hs.length c] 24)) := below_alloc _ _
  have hC := szIntSS_any A c hs left _ (hR.below hb) h0 h1 (by simpa using hn) (fun x hx => hr _ (List.mem_map_of_mem hx))
  obtain ⟨S, hS⟩ : ∃ S, S = szR (hs.map fun h : Hd => h.2.2) left := ⟨_, rfl⟩
  rw [← hS] at hC
  have HC := Lib.hid hC
  have HS := Lib.hid hS
  clear hC hL hR hS
  by_cases hneg : S < 0
  · have hS1 : S = -1 := by have := HS.out; rw [this]; exact szR_neg (by rw [← this]; exact hneg)
    subst hS1
    go_enter Tryd.func10, Tryd.ntmps10
    go_wp2_with (fail)
    refine HC.out.mono ?_
    rintro e w' ⟨rfl, rfl⟩
    go_wp2_with (fail)
    go_ret
    exact ⟨by show Ending.returned _ = .returned (.int .i64 (szR (hs.map fun h : Hd => h.2.2) left)); rw [← HS.out]; rfl, hb⟩
  · go_enter Tryd.func10, Tryd.ntmps10
    go_wp2_with (fail)
    refine HC.out.mono ?_
    rintro e w' ⟨rfl, rfl⟩
    go_wp2_with (fail)
    go_ret
    exact ⟨by show Ending.returned _ = .returned (.int .i64 (szR (hs.map fun h : Hd => h.2.2) left)); rw [← HS.out]; rfl, hb⟩

set_option maxHeartbeats 1000000 in
theorem toSystem_law {v : Value} {s : Sys} {w : World} (h : RdSysV w v s) (ok : OkR s.2.2) :
    Calls Tryd.prog 12 #[v] w fun e w' => ∃ v' fp, e = .returned v' ∧ OwSys w' v' s fp ∧ FreshL w.heap.size fp ∧ Below w.heap.size w w' := by
  obtain ⟨hn, hr, _⟩ := ok
  obtain ⟨A, c, hs, rfl, hL, hR⟩ := h
  obtain ⟨a, b, L⟩ := s
  have hL' : L = hs.map (fun h : Hd => h.2.2) := hL
  subst hL'
  clear hL
  go_enter Tryd.func12, Tryd.ntmps12
  go_wp2_with (fail)
  obtain ⟨W, hW⟩ : ∃ W, W = ((w.alloc (.cells #[.int .i64 a, .int .i64 b, .slice A hs.length c] 24)).alloc (.cells #[.int .i64 0, .int .i64 0, .slice none 0 0] 26)).alloc (.cells #[.int .i64 a, .int .i64 b, .slice none 0 0] 26) := ⟨_, rfl⟩
  have hB0 : Below w.heap.size w W := by rw [hW]; exact (((Below.refl _ _).alloc (Nat.le_refl _) _).alloc (by simp) _).alloc (by simp; omega) _
  have hz : W.heap.size = w.heap.size + 1 + 1 + 1 := by rw [hW]; simp
  have k2 : W.heap[w.heap.size + 1 + 1]? = some (.cells #[.int .i64 a, .int .i64 b, .slice none 0 0] 26) := by
    rw [hW]
    have := heap_alloc_new ((w.alloc (.cells #[.int .i64 a, .int .i64 b, .slice A hs.length c] 24)).alloc (.cells #[.int .i64 0, .int .i64 0, .slice none 0 0] 26)) (.cells #[.int .i64 a, .int .i64 b, .slice none 0 0] 26)
    rwa [World.size_alloc, World.size_alloc] at this
  have k1 : W.heap[w.heap.size + 1]? = some (.cells #[.int .i64 0, .int .i64 0, .slice none 0 0] 26) := by
    rw [hW]
    have := heap_alloc_new (w.alloc (.cells #[.int .i64 a, .int .i64 b, .slice A hs.length c] 24)) (.cells #[.int .i64 0, .int .i64 0, .slice none 0 0] 26)
    rw [World.size_alloc] at this
    rw [Below.heap_alloc _ _ _ (by simp)]
    exact this
  have hT := toIntSS_any A c hs W (hR.below hB0) (by simpa using hn) (fun x hx => hr _ (List.mem_map_of_mem hx))
  rw [← hW]
  have HZ := Lib.hid hz
  clear hW hz
  refine hT.mono ?_
  rintro e w1 ⟨A1, c1, gs, rfl, hgl, hO, hf, hb1⟩
  have k2' := (hb1.block (w.heap.size + 1 + 1) (by rw [HZ.out]; omega)).trans k2
  have k1' := (hb1.block (w.heap.size + 1) (by rw [HZ.out]; omega)).trans k1
  have hlen : (hs.map fun h : Hd => h.2.2).length = gs.length := by rw [hgl, List.length_map]
  rw [hlen]
  have HL := Lib.hid hlen
  have HGL := Lib.hid hgl
  obtain ⟨⟨c20, c21, c22⟩, f20, f21, f22⟩ := box3 k2'
  obtain ⟨⟨c10, c11, c12⟩, f10, f11, f12⟩ := box3 k1'
  have K1 := Lib.hid k1'
  clear k1 k2 hlen hgl hT k1' k2'
  go_wp2_with (fail)
  clear c20 f20 c21 f21 c22 f22 c10 f10 c11 f11 c12 f12
  obtain ⟨w5, hw5⟩ : ∃ w5, w5 = ((((w1.setCell ⟨w.heap.size + 1 + 1, 2, none⟩ (.slice A1 gs.length c1)).setCell ⟨w.heap.size + 1, 0, none⟩ (.int .i64 a)).setCell ⟨w.heap.size + 1, 1, none⟩ (.int .i64 b)).setCell ⟨w.heap.size + 1, 2, none⟩ (.slice A1 gs.length c1)) := ⟨_, rfl⟩
  have hk5 : w5.heap[w.heap.size + 1]? = some (.cells #[.int .i64 a, .int .i64 b, .slice A1 gs.length c1] 26) := by
    have := K1.out
    rw [hw5]
    simp [World.setCell, Array.getElem?_modify, this]
  have hkp : Keeps (fun k => k = w.heap.size + 1 ∨ k = w.heap.size + 1 + 1) w1 w5 := by
    rw [hw5]
    exact ((((Keeps.refl _ w1).setCell (p := ⟨w.heap.size + 1 + 1, 2, none⟩) (.inr rfl) _).setCell (p := ⟨w.heap.size + 1, 0, none⟩) (.inl rfl) _).setCell (p := ⟨w.heap.size + 1, 1, none⟩) (.inl rfl) _).setCell (p := ⟨w.heap.size + 1, 2, none⟩) (.inl rfl) _
  rw [← hw5]
  refine bodyPost_ret (results_cell_row rfl _ w5 (w.heap.size + 1) _ _ (0, 0) _ rfl hk5 Tryd.underlying26 rfl (by kernel_rfl)) rfl ?_
  refine ⟨_, fpA A1 ++ fpR gs, rfl, ⟨A1, c1, gs, rfl, HGL.out, hO.keeps hkp (fun k hk e => ?_), rfl⟩, fun k hk => ?_, below_keeps (below_trans hB0 hb1 hB0.size) hkp (by have := hb1.size; have := HZ.out; omega) (fun k hk => by omega)⟩
  · have := hf k hk; have := HZ.out; omega
  · have := hf k hk; have := HZ.out; omega
end Go.Proofs.YtahnhblodfdfhaaDoor
