/-
  THE WALK: layer of the program.
-/
import Derived.Test.YtlmnmdahphahfaaTmQa
import Derived.Test.YtlmnmdahphahfaaTmJn
namespace Go.Proofs.Ytlmnmdahphahfaa
open Go.RowKit

set_option maxHeartbeats 1000000 in
theorem leafOf1_any (k x : Int) (w : World) : Calls Try.prog 97 #[.int .i64 k, .int .i64 x] w fun e w' => e = .returned (.agg #[.int .i64 k, .int .i64 x, .string noName]) ∧ Below w.heap.size w w' := by
  go_enter Try.func97, Try.ntmps97
  go_wp2_with (fail)
  refine bodyPost_ret (results_cell_row rfl _ _ w.heap.size _ _ (0, 0) _ rfl (heap_alloc_new w _) Try.underlying69 rfl (by kernel_rfl)) rfl ?_
  exact ⟨rfl, below_alloc _ _⟩
/-- A slice of one leaf, in new memory. -/
theorem one_node (w : World) (k x : Int) : ∃ W, W = w.alloc (.cells #[.int .i64 k, .int .i64 x, .string noName] tNd) ∧ Below w.heap.size w W ∧ Sl W tNd 3 (some ⟨w.heap.size, 0, none⟩) 1 1 (ncs [(k, x, noName)]) :=
  ⟨_, rfl, below_alloc _ _, Sl.laid w tNd 3 1 #[.int .i64 k, .int .i64 x, .string noName] (by unfold maxLen; omega) rfl⟩
set_option maxRecDepth 8000 in
set_option maxHeartbeats 4000000 in
theorem layer_any (n i : Nat) (w : World) (hi : i + 1 < n) (hn : n ≤ 1000) : Calls Try.prog 96 #[.int .i64 n, .int .i64 i] w (RetNs (layerN n i) w) := by
  obtain ⟨r, hr⟩ : ∃ r, n = r + i + 2 := ⟨n - 2 - i, by omega⟩
  have hre : n - 2 - i = r := by omega
  obtain ⟨L, hL⟩ : ∃ L, L = layerN n i := ⟨_, rfl⟩
  rw [← hL]
  unfold layerN at hL
  rw [hre] at hL
  have e1 : (n : Int) - 2 - (i : Int) = (r : Int) := by omega
  have hJ := fun (a b : List Nd) (A B : Option Addr) (m c q d : Nat) (W : World) (h : RdN W A a) (h' : RdN W B b) (hm : m = a.length) (hn : q = b.length) (hl : a.length + b.length ≤ 1048575) => joinNodes_any 16 A B m c q d a b W h h' hm hn hl
  unfold RetNs at hJ
  have hL_h := Lib.hid hL
  have hJ_h := Lib.hid hJ
  have hr_h := Lib.hid hr
  clear hL hJ hr
  go_enter Try.func96, Try.ntmps96
  go_wp2_with (fail)
  refine (leafOf1_any 2 0 _).mono ?_
  rintro e w1 ⟨rfl, hb1⟩
  obtain ⟨W1, hW1, hal, hs1⟩ := one_node w1 2 0
  have hB1 := below_trans hb1 hal hb1.size
  have hF1 : FreshL w.heap.size (fpA (some (⟨w1.heap.size, 0, none⟩ : Addr))) := fun b hb => by have := hb1.size; simp at hb; omega
  have hb1_h := Lib.hid hb1
  have hal_h := Lib.hid hal
  have hB1_h := Lib.hid hB1
  have hs1_h := Lib.hid hs1
  have hF1_h := Lib.hid hF1
  clear hb1 hal hB1 hs1 hF1
  go_upto_region 2 with (fail)
  rw [← hW1]
  clear hW1
  go_upto_if 10 with (fail)
  go_cut [5] (fun s wx => ∃ (O : List Nd) (A : Option Addr) (m c : Nat), s = .slice A m c ∧ m = O.length ∧ O = (if 0 < i then (1, (i : Int), noName) :: ((2, 0, noName) :: [joinNd true]) else [(2, 0, noName)]) ∧ Sl wx tNd 3 A m c (ncs O) ∧ FreshL w.heap.size (fpA A) ∧ Below w.heap.size w wx)
  case first =>
    by_cases h0 : 0 < i
    · have h0I : (0 : Int) < (i : Int) := by omega
      go_wp2_with (fail)
      refine (leafOf1_any 1 i _).mono ?_
      rintro e w2 ⟨rfl, hb2⟩
      obtain ⟨W2, hW2, hal2, hs2⟩ := one_node w2 1 i
      have hb12 := below_trans hb2 hal2 hb2.size
      have hr1 : RdN W2 (some ⟨w1.heap.size, 0, none⟩) [(2, 0, noName)] := RdN.below (Sl.rdc hs1_h.out) hb12
      have hJ1 := hJ_h.out [(1, (i : Int), noName)] [(2, 0, noName)] (some ⟨w2.heap.size, 0, none⟩) (some ⟨w1.heap.size, 0, none⟩) 1 1 1 1 W2 (Sl.rdc hs2) hr1 rfl rfl (by simp)
      have hB2 := below_trans hB1_h.out hb12 hB1_h.out.size
      have hb2_h := Lib.hid hb2
      have hal2_h := Lib.hid hal2
      have hs2_h := Lib.hid hs2
      have hb12_h := Lib.hid hb12
      have hr1_h := Lib.hid hr1
      have hJ1_h := Lib.hid hJ1
      have hB2_h := Lib.hid hB2
      clear hb2 hal2 hs2 hb12 hr1 hJ1 hB2
      go_wp2_with (rw [← hW2])
      first
      | rw [← hW2]
      | skip
      clear hW2
      refine (hJ1_h.out).mono ?_
      rintro e w3 ⟨A3, c3, m3, rfl, hm3, hN3, hF3, hb3⟩
      have hB3 := below_trans hB2_h.out hb3 hB2_h.out.size
      have hO : joinOf 16 [(1, (i : Int), noName)] [(2, 0, noName)] = (1, (i : Int), noName) :: ((2, 0, noName) :: [joinNd true]) := rfl
      rw [hO] at hm3 hN3
      have hF4 : FreshL w.heap.size (fpA A3) := fun b hb => by have := hF3 b hb; have := hB2_h.out.size; omega
      have hm3_h := Lib.hid hm3
      have hN3_h := Lib.hid hN3
      have hF3_h := Lib.hid hF3
      have hb3_h := Lib.hid hb3
      have hB3_h := Lib.hid hB3
      have hF4_h := Lib.hid hF4
      have hO_h := Lib.hid hO
      clear hm3 hN3 hF3 hb3 hB3 hF4 hO
      go_wp2_with (fail)
      go_meet
      exact ⟨_, A3, m3, c3, rfl, hm3_h.out, by rw [if_pos h0], hN3_h.out, hF4_h.out, hB3_h.out⟩
    · have h0I : ¬ (0 : Int) < (i : Int) := by omega
      go_wp2_with (fail)
      go_meet
      exact ⟨[(2, 0, noName)], _, _, _, rfl, rfl, by rw [if_neg h0], hs1_h.out, hF1_h.out, hB1_h.out⟩
  case rest =>
  obtain ⟨O, A4, m4, c4, rfl, hm4, hO4, hN4, hF4, hB4⟩ := hcut
  obtain ⟨w4, rfl⟩ : ∃ x, x = wc := ⟨_, rfl⟩
  have hOl : O.length ≤ 3 := by rw [hO4]; split <;> simp
  have hLe : L = if 0 < r then O ++ [(1, (r : Int), noName), joinNd true] else O := by rw [hL_h.out, ← hO4]
  by_cases h0 : 0 < r
  · have h0I : (0 : Int) < (r : Int) := by omega
    rw [if_pos h0] at hLe
    have hm4_h := Lib.hid hm4
    have hO4_h := Lib.hid hO4
    have hN4_h := Lib.hid hN4
    have hF4_h := Lib.hid hF4
    have hB4_h := Lib.hid hB4
    have hLe_h := Lib.hid hLe
    clear hm4 hO4 hN4 hF4 hB4 hLe
    go_wp2_with (fail)
    refine (leafOf1_any 1 r _).mono ?_
    rintro e w5 ⟨rfl, hb5⟩
    obtain ⟨W5, hW5, hal5, hs5⟩ := one_node w5 1 r
    have hb45 := below_trans hb5 hal5 hb5.size
    have hr4 : RdN W5 A4 O := RdN.below (Sl.rdc hN4_h.out) hb45
    have hJ2 := hJ_h.out O [(1, (r : Int), noName)] A4 (some ⟨w5.heap.size, 0, none⟩) m4 c4 1 1 W5 hr4 (Sl.rdc hs5) hm4_h.out rfl (by simp; omega)
    have hB5 := below_trans hB4_h.out hb45 hB4_h.out.size
    have hb5_h := Lib.hid hb5
    have hal5_h := Lib.hid hal5
    have hs5_h := Lib.hid hs5
    have hb45_h := Lib.hid hb45
    have hr4_h := Lib.hid hr4
    have hJ2_h := Lib.hid hJ2
    have hB5_h := Lib.hid hB5
    clear hb5 hal5 hs5 hb45 hr4 hJ2 hB5
    go_wp2_with (rw [← hW5])
    first
    | rw [← hW5]
    | skip
    clear hW5
    refine (hJ2_h.out).mono ?_
    rintro e w6 ⟨A6, c6, m6, rfl, hm6, hN6, hF6, hb6⟩
    have hB6 := below_trans hB5_h.out hb6 hB5_h.out.size
    have hO2 : joinOf 16 O [(1, (r : Int), noName)] = L := by rw [hLe_h.out]; unfold joinOf; rw [List.append_assoc]; rfl
    rw [hO2] at hm6 hN6
    have hm6_h := Lib.hid hm6
    have hN6_h := Lib.hid hN6
    have hF6_h := Lib.hid hF6
    have hb6_h := Lib.hid hb6
    have hB6_h := Lib.hid hB6
    have hO2_h := Lib.hid hO2
    clear hm6 hN6 hF6 hb6 hB6 hO2
    go_wp2_with (fail)
    go_ret
    exact ⟨A6, c6, m6, rfl, hm6_h.out, hN6_h.out, fun b hb => Nat.le_trans hB5_h.out.size (hF6_h.out b hb), hB6_h.out⟩
  · have h0I : ¬ (0 : Int) < (r : Int) := by omega
    rw [if_neg h0] at hLe
    subst hLe
    have hm4_h := Lib.hid hm4
    have hO4_h := Lib.hid hO4
    have hN4_h := Lib.hid hN4
    have hF4_h := Lib.hid hF4
    have hB4_h := Lib.hid hB4
    clear hm4 hO4 hN4 hF4 hB4
    go_wp2_with (fail)
    go_ret
    exact ⟨A4, c4, m4, rfl, hm4_h.out, hN4_h.out, hF4_h.out, hB4_h.out⟩
end Go.Proofs.Ytlmnmdahphahfaa
