/-
  THE LAW's HELPERS OVER System: eq, mark, held.
-/
import Derived.Test.YtahnhblodfdfhaaDoorKRows
namespace Go.Proofs.YtahnhblodfdfhaaDoor
open Go.RowKit

set_option maxHeartbeats 1000000 in
theorem eqSystem_law {v v' : Value} {s t : Sys} {w : World} (h : RdSysV w v s) (h' : RdSysV w v' t) (ok : OkR s.2.2) :
    Calls Tryd.prog 14 #[v, v'] w fun e w' => e = .returned (.bool (decide (s = t))) ∧ Below w.heap.size w w' := by
  obtain ⟨hn, hr, _⟩ := ok
  obtain ⟨A, c, hs, rfl, hL, hR⟩ := h
  obtain ⟨B, d, gs, rfl, hM, hS⟩ := h'
  obtain ⟨a1, b1, L⟩ := s
  obtain ⟨a2, b2, M⟩ := t
  have hL' : L = hs.map (fun h : Hd => h.2.2) := hL
  have hM' : M = gs.map (fun h : Hd => h.2.2) := hM
  subst hL' hM'
  have hb : Below w.heap.size w ((w.alloc (.cells #[.int .i64 a1, .int .i64 b1, .slice A hs.length c] 26)).alloc (.cells #[.int .i64 a2, .int .i64 b2, .slice B gs.length d] 26)) :=
    ((Below.refl _ _).alloc (Nat.le_refl _) _).alloc (by simp) _
  have hC := eqIntSS_any A B c d hs gs _ (hR.below hb) (hS.below hb) (by have : (hs.map fun h : Hd => h.2.2).length ≤ 1048576 := hn; simp at this; omega) (fun x hx => by have := hr _ (List.mem_map_of_mem hx); omega)
  have HC := Lib.hid hC
  clear hC hL hM hR hS hr
  by_cases e0 : a1 = a2
  · have h0 : (a1 != a2) = false := by simp [e0]
    have E0 := Lib.hid e0
    clear e0
    by_cases e1 : b1 = b2
    · have h1 : (b1 != b2) = false := by simp [e1]
      have E1 := Lib.hid e1
      clear e1
      go_enter Tryd.func14, Tryd.ntmps14
      go_wp2_with (fail)
      have hC2 := HC.out
      by_cases e9 : (hs.map fun h : Hd => h.2.2) = gs.map fun h : Hd => h.2.2
      · rw [decide_eq_true e9] at hC2
        have E9 := Lib.hid e9
        clear e9
        refine hC2.mono ?_
        clear hC2
        rintro e w1 ⟨rfl, n, rfl⟩
        go_wp2_with (fail)
        go_ret
        exact ⟨ret_bool (decide_eq_true (by rw [E0.out, E1.out, E9.out])).symm, below_drewN hb n⟩
      · rw [decide_eq_false e9] at hC2
        have E9 := Lib.hid e9
        clear e9
        refine hC2.mono ?_
        clear hC2
        rintro e w1 ⟨rfl, n, rfl⟩
        go_wp2_with (fail)
        go_ret
        exact ⟨ret_bool (decide_eq_false (fun e => E9.out (congrArg (·.2.2) e))).symm, below_drewN hb n⟩
    · have h1 : (b1 != b2) = true := by simp [e1]
      have E1 := Lib.hid e1
      clear e1
      go_enter Tryd.func14, Tryd.ntmps14
      go_wp2_with (fail)
      go_ret
      exact ⟨ret_bool (by have := E1.out; simp [this]), hb⟩
  · have h0 : (a1 != a2) = true := by simp [e0]
    have E0 := Lib.hid e0
    clear e0
    go_enter Tryd.func14, Tryd.ntmps14
    go_wp2_with (fail)
    go_ret
    exact ⟨ret_bool (by have := E0.out; simp [this]), hb⟩

set_option maxHeartbeats 1000000 in
theorem markSystem_law {v : Value} {s : Sys} {fp : List Nat} {K : Int} {w : World} (k : Nat) (h : OwSys w v s fp) (hK : K = (k : Int)) (ok : OkR s.2.2) (hl : k + cntR s.2.2 ≤ 17592186044416) :
    Calls Tryd.prog 15 #[v, .int .i64 K] w fun e w' => e = .returned (.int .i64 (K + (cntR s.2.2 : Int))) ∧ HeSys w' v s k fp ∧ Keeps (· ∈ fp) w w' := by
  obtain ⟨A, c, hs, rfl, hL, hO, rfl⟩ := h
  subst hK
  have hb : Below w.heap.size w (w.alloc (.cells #[.int .i64 s.1, .int .i64 s.2.1, .slice A hs.length c] 26)) := below_alloc _ _
  have hlen : s.2.2.length = hs.length := by rw [hL, List.length_map]
  have hC := markIntSS_any A c hs.length s.2.2 (fpA A ++ fpR hs) k _ ⟨hs, hL, hO.below hb, fun b hb => hb⟩ hlen (by have := ok.1; omega) hl
  have HC := Lib.hid hC
  have HL := Lib.hid hlen
  clear hC hlen hL ok
  go_enter Tryd.func15, Tryd.ntmps15
  go_wp2_with (fail)
  refine HC.out.mono ?_
  rintro e w1 ⟨rfl, hR, hk⟩
  go_wp2_with (fail)
  go_ret
  obtain ⟨gs, hg, hO', hf⟩ := hR
  have hgl : gs.length = hs.length := by
    have := congrArg List.length hg
    rw [marksR_length, List.length_map, List.length_map, HL.out] at this; exact this.symm
  refine ⟨ret_int (by omega), ⟨A, c, gs, by rw [hgl], hg.symm, hO', hf⟩, (Keeps.of_below hb _).trans hk⟩

set_option maxHeartbeats 1000000 in
theorem heldSystem_law {v : Value} {s : Sys} {k : Nat} {fp : List Nat} {K : Int} {w : World} (h : HeSys w v s k fp) (hK : K = (k : Int)) (ok : OkR s.2.2) (hl : k + cntR s.2.2 ≤ 17592186044416) :
    Calls Tryd.prog 16 #[v, .int .i64 K] w fun e w' => e = .returned (.int .i64 (K + (cntR s.2.2 : Int))) ∧ Below w.heap.size w w' := by
  obtain ⟨A, c, hs, rfl, hL, hO, _⟩ := h
  subst hK
  have hb : Below w.heap.size w (w.alloc (.cells #[.int .i64 s.1, .int .i64 s.2.1, .slice A hs.length c] 26)) := below_alloc _ _
  have hlen : s.2.2.length = hs.length := by have := congrArg List.length hL; rw [List.length_map, marksR_length, List.length_map] at this; exact this.symm
  have hC := heldIntSS_any A c hs s.2.2 k _ (hO.rd.below hb) hL (by have := ok.1; omega) hl
  have HC := Lib.hid hC
  have hnn : ¬ ((k + cntR s.2.2 : Nat) : Int) < 0 := by omega
  clear hC hlen hL ok
  go_enter Tryd.func16, Tryd.ntmps16
  go_wp2_with (fail)
  refine HC.out.mono ?_
  rintro e w1 ⟨rfl, rfl⟩
  go_wp2_with (fail)
  go_ret
  exact ⟨ret_int (by omega), hb⟩
end Go.Proofs.YtahnhblodfdfhaaDoor
