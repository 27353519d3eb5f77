/-
  The program's SameSystems returns what the reference's returns, for all arguments (laws.FnExactSameSystems answers true): the tied card.
-/
import Derived.Test.YtomekicglojhhaaDoorSameSys
import Derived.Test.YtomekicglojhhaaDoorRegH
import Derived.Test.YtomekicglojhhaaDoorFrame
import Derived.Test.YtomekicglojhhaaDoorKSystemIn
import Derived.Test.YtomekicglojhhaaDoorKSystem
namespace Go.Proofs.YtomekicglojhhaaDoor
open Go.ChangeShapes Go.WideShapes Go.ChangeAt Go.RowKit

set_option maxHeartbeats 4000000 in
set_option maxRecDepth 100000 in
theorem lawSameSystems_any (p : Int) (vs : Value) (s : Sys) (vt : Value) (t : Sys) (w : World) (hs : RdSysV w vs s) (hgs : BigSystem s) (ht : RdSysV w vt t) (hgt : BigSystem t) (_lop : -9223372036854775808 ≤ p) (_hip : p ≤ 9223372036854775807) (hT : Tab w) :
    Calls Tryd.prog 8 #[.int .i64 p, vs, vt] w fun e w' => e = .returned (.bool true) ∧ Below w.heap.size w w' := by
  obtain ⟨As, ns, cs, rfl⟩ := hs.shape
  obtain ⟨At, nt, ct, rfl⟩ := ht.shape
  obtain ⟨Ss, hSs⟩ : ∃ S, S = szR (s).2.2 1048576 := ⟨_, rfl⟩
  have HSs := Lib.hid hSs
  clear hSs
  obtain ⟨St, hSt⟩ : ∃ S, S = szR (t).2.2 Ss := ⟨_, rfl⟩
  have HSt := Lib.hid hSt
  clear hSt
  have hB0 : Below w.heap.size w w := Below.refl _ _
  have hb1 := below_alloc (w) (.cells #[.int .i64 (s).1, .int .i64 (s).2.1, .slice As ns cs] 24)
  have hB1 := below_trans hB0 hb1 hB0.size
  have bx1 := heap_alloc_new (w) (.cells #[.int .i64 (s).1, .int .i64 (s).2.1, .slice As ns cs] 24)
  have lt_ps : LtL ((w).alloc (.cells #[.int .i64 (s).1, .int .i64 (s).2.1, .slice As ns cs] 24)).heap.size [(w).heap.size] := fun b hb => by obtain rfl := List.mem_singleton.1 hb; exact box_lt bx1
  have fr_ps : FreshL (w).heap.size [(w).heap.size] := fun b hb => by obtain rfl := List.mem_singleton.1 hb; exact Nat.le_refl _
  have BX_ps_1 := Lib.hid bx1
  clear bx1
  have hb2 := below_alloc ((w).alloc (.cells #[.int .i64 (s).1, .int .i64 (s).2.1, .slice As ns cs] 24)) (.cells #[.int .i64 (t).1, .int .i64 (t).2.1, .slice At nt ct] 24)
  have hB2 := below_trans hB1 hb2 hB1.size
  have bx2 : (((w).alloc (.cells #[.int .i64 (s).1, .int .i64 (s).2.1, .slice As ns cs] 24)).alloc (.cells #[.int .i64 (t).1, .int .i64 (t).2.1, .slice At nt ct] 24)).heap[(w).heap.size + 1]? = some (.cells #[.int .i64 (t).1, .int .i64 (t).2.1, .slice At nt ct] 24) := by
    have := heap_alloc_new ((w).alloc (.cells #[.int .i64 (s).1, .int .i64 (s).2.1, .slice As ns cs] 24)) (.cells #[.int .i64 (t).1, .int .i64 (t).2.1, .slice At nt ct] 24)
    simp only [World.size_alloc] at this; exact this
  have lt_pt : LtL (((w).alloc (.cells #[.int .i64 (s).1, .int .i64 (s).2.1, .slice As ns cs] 24)).alloc (.cells #[.int .i64 (t).1, .int .i64 (t).2.1, .slice At nt ct] 24)).heap.size [(w).heap.size + 1] := fun b hb => by obtain rfl := List.mem_singleton.1 hb; exact box_lt bx2
  have fr_pt : FreshL ((w).alloc (.cells #[.int .i64 (s).1, .int .i64 (s).2.1, .slice As ns cs] 24)).heap.size [(w).heap.size + 1] := fun b hb => by obtain rfl := List.mem_singleton.1 hb; simp only [World.size_alloc]; exact Nat.le_refl _
  have BX_pt_2 := Lib.hid bx2
  clear bx2
  by_cases negs : Ss < 0
  case pos =>
    go_enter Tryd.func8, Tryd.ntmps8
    have F1_ps_2 := Lib.hid (box_below BX_ps_1.out hb2)
    clear BX_ps_1
    obtain ⟨⟨c2_0, c2_1, c2_2⟩, f2_0, f2_1, f2_2⟩ := box3 F1_ps_2.out
    go_wp2_with (fail)
    refine (szSystem_law 1048576 (hs.below hB2) hgs (by omega) (by omega)).mono ?_
    rintro e w3 ⟨he3, hb3⟩
    have hB3 := below_trans hB2 hb3 hB2.size
    clear c2_0 c2_1 c2_2 f2_0 f2_1 f2_2
    rw [← HSs.out] at he3
    subst he3
    go_wp2_with (fail)
    go_ret
    exact ⟨rfl, hB3⟩
  have soks := szR_ok (by rw [← HSs.out]; omega : 0 ≤ szR (s).2.2 1048576) (by omega)
  have oks := soks.1
  have sles : Ss ≤ 1048576 := by rw [HSs.out]; exact soks.2
  clear soks
  by_cases negt : St < 0
  case pos =>
    go_enter Tryd.func8, Tryd.ntmps8
    have F3_ps_2 := Lib.hid (box_below BX_ps_1.out hb2)
    clear BX_ps_1
    obtain ⟨⟨c4_0, c4_1, c4_2⟩, f4_0, f4_1, f4_2⟩ := box3 F3_ps_2.out
    go_wp2_with (fail)
    refine (szSystem_law 1048576 (hs.below hB2) hgs (by omega) (by omega)).mono ?_
    rintro e w3 ⟨he3, hb3⟩
    have hB3 := below_trans hB2 hb3 hB2.size
    clear c4_0 c4_1 c4_2 f4_0 f4_1 f4_2
    rw [← HSs.out] at he3
    subst he3
    have F5_pt_3 := Lib.hid (box_below BX_pt_2.out hb3)
    clear BX_pt_2
    obtain ⟨⟨c6_0, c6_1, c6_2⟩, f6_0, f6_1, f6_2⟩ := box3 F5_pt_3.out
    go_wp2_with (fail)
    refine (szSystem_law Ss (ht.below hB3) hgt (by omega) (by omega)).mono ?_
    rintro e w4 ⟨he4, hb4⟩
    have hB4 := below_trans hB3 hb4 hB3.size
    clear c6_0 c6_1 c6_2 f6_0 f6_1 f6_2
    rw [← HSt.out] at he4
    subst he4
    go_wp2_with (fail)
    go_ret
    exact ⟨rfl, hB4⟩
  have sokt := szR_ok (by rw [← HSt.out]; omega : 0 ≤ szR (t).2.2 Ss) (by omega)
  have okt := sokt.1
  have slet : St ≤ Ss := by rw [HSt.out]; exact sokt.2
  clear sokt
  go_enter Tryd.func8, Tryd.ntmps8
  have F7_ps_2 := Lib.hid (box_below BX_ps_1.out hb2)
  clear BX_ps_1
  obtain ⟨⟨c8_0, c8_1, c8_2⟩, f8_0, f8_1, f8_2⟩ := box3 F7_ps_2.out
  go_wp2_with (fail)
  refine (szSystem_law 1048576 (hs.below hB2) hgs (by omega) (by omega)).mono ?_
  rintro e w3 ⟨he3, hb3⟩
  have hB3 := below_trans hB2 hb3 hB2.size
  clear c8_0 c8_1 c8_2 f8_0 f8_1 f8_2
  rw [← HSs.out] at he3
  subst he3
  have F9_pt_3 := Lib.hid (box_below BX_pt_2.out hb3)
  clear BX_pt_2
  obtain ⟨⟨c10_0, c10_1, c10_2⟩, f10_0, f10_1, f10_2⟩ := box3 F9_pt_3.out
  go_wp2_with (fail)
  refine (szSystem_law Ss (ht.below hB3) hgt (by omega) (by omega)).mono ?_
  rintro e w4 ⟨he4, hb4⟩
  have hB4 := below_trans hB3 hb4 hB3.size
  clear c10_0 c10_1 c10_2 f10_0 f10_1 f10_2
  rw [← HSt.out] at he4
  subst he4
  have F11_ps_3 := Lib.hid (box_below F7_ps_2.out hb3)
  clear F7_ps_2
  have F12_ps_4 := Lib.hid (box_below F11_ps_3.out hb4)
  clear F11_ps_3
  have F13_pt_4 := Lib.hid (box_below F9_pt_3.out hb4)
  clear F9_pt_3
  go_wp2_with (fail)
  refine beginH (fun w' => w'.heap[(w).heap.size]? = some (.cells #[.int .i64 (s).1, .int .i64 (s).2.1, .slice As ns cs] 24) ∧ w'.heap[(w).heap.size + 1]? = some (.cells #[.int .i64 (t).1, .int .i64 (t).2.1, .slice At nt ct] 24)) (by kernel_rfl) ?_
  have hb5 : Below (w4).heap.size (w4) (w4).drew := below_drewN (Below.refl _ _) 1
  have hB5 := below_trans hB4 hb5 hB4.size
  have F14_ps_5 := Lib.hid (box_below F12_ps_4.out hb5)
  clear F12_ps_4
  have F15_pt_5 := Lib.hid (box_below F13_pt_4.out hb5)
  clear F13_pt_4
  refine takeH 0 (v := ?_) rfl (by kernel_rfl) (by kernel_rfl) (by kernel_rfl) (fun _ _ _ h => h) ⟨F14_ps_5.out, F15_pt_5.out⟩ (by rfl) (fun W' hW' => ?_) ?_; rotate_left; · (obtain ⟨q0, q1⟩ := hW'; obtain ⟨⟨ca0_0, ca0_1, ca0_2⟩, ga0_0, ga0_1, ga0_2⟩ := box3 q0; obtain ⟨⟨ca1_0, ca1_1, ca1_2⟩, ga1_0, ga1_1, ga1_2⟩ := box3 q1; clear q0 q1; go_simp; first | done | with_reducible rfl)
  simp only [Act.put, List.setIfInBounds_toArray, List.set_cons_zero, List.set_cons_succ]
  refine takeH 1 (v := ?_) rfl (by kernel_rfl) (by kernel_rfl) (by kernel_rfl) (fun _ _ _ h => h) ⟨F14_ps_5.out, F15_pt_5.out⟩ (by rfl) (fun W' hW' => ?_) ?_; rotate_left; · (obtain ⟨q0, q1⟩ := hW'; obtain ⟨⟨ca0_0, ca0_1, ca0_2⟩, ga0_0, ga0_1, ga0_2⟩ := box3 q0; obtain ⟨⟨ca1_0, ca1_1, ca1_2⟩, ga1_0, ga1_1, ga1_2⟩ := box3 q1; clear q0 q1; go_simp; first | done | with_reducible rfl)
  simp only [Act.put, List.setIfInBounds_toArray, List.set_cons_zero, List.set_cons_succ]
  refine takeH 3 (v := ?_) rfl (by kernel_rfl) (by kernel_rfl) (by kernel_rfl) (fun _ _ _ h => h) ⟨F14_ps_5.out, F15_pt_5.out⟩ (by rfl) (fun W' hW' => ?_) ?_; rotate_left; · (obtain ⟨q0, q1⟩ := hW'; obtain ⟨⟨ca0_0, ca0_1, ca0_2⟩, ga0_0, ga0_1, ga0_2⟩ := box3 q0; obtain ⟨⟨ca1_0, ca1_1, ca1_2⟩, ga1_0, ga1_1, ga1_2⟩ := box3 q1; clear q0 q1; go_simp; first | done | with_reducible rfl)
  simp only [Act.put, List.setIfInBounds_toArray, List.set_cons_zero, List.set_cons_succ]
  refine' callH 2 (f := _) (args := _) rfl (by kernel_rfl) (by rfl) ?_ ?_; rotate_left 2; · (go_simp; first | done | with_reducible rfl | (constructor <;> with_reducible rfl))
  refine (toSystem_law (hs.below hB5) oks).mono ?_
  rintro e w6 ⟨v6, fp6, rfl, o6, fr6, hb6⟩
  have hB6 := below_trans hB5 hb6 hB5.size
  have F16_ps_6 := Lib.hid (box_below F14_ps_5.out hb6)
  clear F14_ps_5
  have F17_pt_6 := Lib.hid (box_below F15_pt_5.out hb6)
  clear F15_pt_5
  refine ⟨_, rfl, ⟨F16_ps_6.out, F17_pt_6.out⟩, ?_⟩
  obtain ⟨A6, n6, c6, rfl⟩ := o6.shape
  have lt_as := o6.lt
  simp only [Act.put, List.setIfInBounds_toArray, List.set_cons_zero, List.set_cons_succ]
  refine' callH 4 (f := _) (args := _) rfl (by kernel_rfl) (by rfl) ?_ ?_; rotate_left 2; · (go_simp; first | done | with_reducible rfl | (constructor <;> with_reducible rfl))
  refine (toSystem_law (ht.below hB6) okt).mono ?_
  rintro e w7 ⟨v7, fp7, rfl, o7, fr7, hb7⟩
  have hB7 := below_trans hB6 hb7 hB6.size
  have F18_ps_7 := Lib.hid (box_below F16_ps_6.out hb7)
  clear F16_ps_6
  have F19_pt_7 := Lib.hid (box_below F17_pt_6.out hb7)
  clear F17_pt_6
  refine ⟨_, rfl, ⟨F18_ps_7.out, F19_pt_7.out⟩, ?_⟩
  obtain ⟨A7, n7, c7, rfl⟩ := o7.shape
  have lt_at := o7.lt
  simp only [Act.put, List.setIfInBounds_toArray, List.set_cons_zero, List.set_cons_succ]
  refine' callH 5 (f := _) (args := _) rfl (by kernel_rfl) (by rfl) ?_ ?_; rotate_left 2; · (go_simp; first | done | with_reducible rfl | (constructor <;> with_reducible rfl))
  have F20_as_7 := o6.below hb7
  clear o6
  refine (sSameSystems_law p F20_as_7.rd o7.rd oks okt).mono ?_
  rintro e w8 ⟨rfl, hb8⟩
  have hB8 := below_trans hB7 hb8 hB7.size
  have F21_ps_8 := Lib.hid (box_below F18_ps_7.out hb8)
  clear F18_ps_7
  have F22_pt_8 := Lib.hid (box_below F19_pt_7.out hb8)
  clear F19_pt_7
  refine ⟨_, rfl, ⟨F21_ps_8.out, F22_pt_8.out⟩, ?_⟩
  simp only [Act.put, List.setIfInBounds_toArray, List.set_cons_zero, List.set_cons_succ]
  refine takeH 6 (v := ?_) rfl (by kernel_rfl) (by kernel_rfl) (by kernel_rfl) (fun _ _ _ h => h) ⟨F21_ps_8.out, F22_pt_8.out⟩ (by rfl) (fun W' hW' => ?_) ?_; rotate_left; · (obtain ⟨q0, q1⟩ := hW'; obtain ⟨⟨ca0_0, ca0_1, ca0_2⟩, ga0_0, ga0_1, ga0_2⟩ := box3 q0; obtain ⟨⟨ca1_0, ca1_1, ca1_2⟩, ga1_0, ga1_1, ga1_2⟩ := box3 q1; clear q0 q1; go_simp; first | done | with_reducible rfl)
  simp only [Act.put, List.setIfInBounds_toArray, List.set_cons_zero, List.set_cons_succ]
  refine takeH 7 (v := ?_) rfl (by kernel_rfl) (by kernel_rfl) (by kernel_rfl) (fun _ _ _ h => h) ⟨F21_ps_8.out, F22_pt_8.out⟩ (by rfl) (fun W' hW' => ?_) ?_; rotate_left; · (obtain ⟨q0, q1⟩ := hW'; obtain ⟨⟨ca0_0, ca0_1, ca0_2⟩, ga0_0, ga0_1, ga0_2⟩ := box3 q0; obtain ⟨⟨ca1_0, ca1_1, ca1_2⟩, ga1_0, ga1_1, ga1_2⟩ := box3 q1; clear q0 q1; go_simp; first | done | with_reducible rfl)
  simp only [Act.put, List.setIfInBounds_toArray, List.set_cons_zero, List.set_cons_succ]
  refine takeH 8 (v := ?_) rfl (by kernel_rfl) (by kernel_rfl) (by kernel_rfl) (fun _ _ _ h => h) ⟨F21_ps_8.out, F22_pt_8.out⟩ (by rfl) (fun W' hW' => ?_) ?_; rotate_left; · (obtain ⟨q0, q1⟩ := hW'; obtain ⟨⟨ca0_0, ca0_1, ca0_2⟩, ga0_0, ga0_1, ga0_2⟩ := box3 q0; obtain ⟨⟨ca1_0, ca1_1, ca1_2⟩, ga1_0, ga1_1, ga1_2⟩ := box3 q1; clear q0 q1; go_simp; first | done | with_reducible rfl)
  simp only [Act.put, List.setIfInBounds_toArray, List.set_cons_zero, List.set_cons_succ]
  refine takeH 9 (v := ?_) rfl (by kernel_rfl) (by kernel_rfl) (by kernel_rfl) (fun _ _ _ h => h) ⟨F21_ps_8.out, F22_pt_8.out⟩ (by rfl) (fun W' hW' => ?_) ?_; rotate_left; · (obtain ⟨q0, q1⟩ := hW'; obtain ⟨⟨ca0_0, ca0_1, ca0_2⟩, ga0_0, ga0_1, ga0_2⟩ := box3 q0; obtain ⟨⟨ca1_0, ca1_1, ca1_2⟩, ga1_0, ga1_1, ga1_2⟩ := box3 q1; clear q0 q1; go_simp; first | done | with_reducible rfl)
  simp only [Act.put, List.setIfInBounds_toArray, List.set_cons_zero, List.set_cons_succ]
  refine takeH 10 (v := ?_) rfl (by kernel_rfl) (by kernel_rfl) (by kernel_rfl) (fun _ _ _ h => h) ⟨F21_ps_8.out, F22_pt_8.out⟩ (by rfl) (fun W' hW' => ?_) ?_; rotate_left; · (obtain ⟨q0, q1⟩ := hW'; obtain ⟨⟨ca0_0, ca0_1, ca0_2⟩, ga0_0, ga0_1, ga0_2⟩ := box3 q0; obtain ⟨⟨ca1_0, ca1_1, ca1_2⟩, ga1_0, ga1_1, ga1_2⟩ := box3 q1; clear q0 q1; go_simp; first | done | with_reducible rfl)
  simp only [Act.put, List.setIfInBounds_toArray, List.set_cons_zero, List.set_cons_succ]
  refine doneH (by kernel_rfl) ?_
  obtain ⟨⟨c23_0, c23_1, c23_2⟩, f23_0, f23_1, f23_2⟩ := box3 F21_ps_8.out
  go_wp2_with (fail)
  refine (toSystem_law (hs.below hB8) oks).mono ?_
  rintro e w9 ⟨v9, fp9, rfl, o9, fr9, hb9⟩
  have hB9 := below_trans hB8 hb9 hB8.size
  clear c23_0 c23_1 c23_2 f23_0 f23_1 f23_2
  obtain ⟨A9, n9, c9, rfl⟩ := o9.shape
  have lt_xs := o9.lt
  have hb10 := below_alloc (w9) (.cells #[.int .i64 (s).1, .int .i64 (s).2.1, .slice A9 n9 c9] 27)
  have hB10 := below_trans hB9 hb10 hB9.size
  have bx10 := heap_alloc_new (w9) (.cells #[.int .i64 (s).1, .int .i64 (s).2.1, .slice A9 n9 c9] 27)
  have lt_bxs : LtL ((w9).alloc (.cells #[.int .i64 (s).1, .int .i64 (s).2.1, .slice A9 n9 c9] 27)).heap.size [(w9).heap.size] := fun b hb => by obtain rfl := List.mem_singleton.1 hb; exact box_lt bx10
  have fr_bxs : FreshL (w9).heap.size [(w9).heap.size] := fun b hb => by obtain rfl := List.mem_singleton.1 hb; exact Nat.le_refl _
  have BX_bxs_10 := Lib.hid bx10
  clear bx10
  have F24_pt_9 := Lib.hid (box_below F22_pt_8.out hb9)
  clear F22_pt_8
  have F25_pt_10 := Lib.hid (box_below F24_pt_9.out hb10)
  clear F24_pt_9
  obtain ⟨⟨c26_0, c26_1, c26_2⟩, f26_0, f26_1, f26_2⟩ := box3 F25_pt_10.out
  go_wp2_with (fail)
  refine (toSystem_law (ht.below hB10) okt).mono ?_
  rintro e w11 ⟨v11, fp11, rfl, o11, fr11, hb11⟩
  have hB11 := below_trans hB10 hb11 hB10.size
  clear c26_0 c26_1 c26_2 f26_0 f26_1 f26_2
  obtain ⟨A11, n11, c11, rfl⟩ := o11.shape
  have lt_xt := o11.lt
  have hb12 := below_alloc (w11) (.cells #[.int .i64 (t).1, .int .i64 (t).2.1, .slice A11 n11 c11] 27)
  have hB12 := below_trans hB11 hb12 hB11.size
  have bx12 := heap_alloc_new (w11) (.cells #[.int .i64 (t).1, .int .i64 (t).2.1, .slice A11 n11 c11] 27)
  have lt_bxt : LtL ((w11).alloc (.cells #[.int .i64 (t).1, .int .i64 (t).2.1, .slice A11 n11 c11] 27)).heap.size [(w11).heap.size] := fun b hb => by obtain rfl := List.mem_singleton.1 hb; exact box_lt bx12
  have fr_bxt : FreshL (w11).heap.size [(w11).heap.size] := fun b hb => by obtain rfl := List.mem_singleton.1 hb; exact Nat.le_refl _
  have BX_bxt_12 := Lib.hid bx12
  clear bx12
  have F27_xs_10 := o9.below hb10
  clear o9
  have F28_xs_11 := F27_xs_10.below hb11
  clear F27_xs_10
  have F29_xs_12 := F28_xs_11.below hb12
  clear F28_xs_11
  have F30_xt_12 := o11.below hb12
  clear o11
  have F31_bxs_11 := Lib.hid (box_below BX_bxs_10.out hb11)
  clear BX_bxs_10
  have F32_bxs_12 := Lib.hid (box_below F31_bxs_11.out hb12)
  clear F31_bxs_11
  obtain ⟨⟨c33_0, c33_1, c33_2⟩, f33_0, f33_1, f33_2⟩ := box3 F32_bxs_12.out
  obtain ⟨⟨c34_0, c34_1, c34_2⟩, f34_0, f34_1, f34_2⟩ := box3 BX_bxt_12.out
  go_wp2_with (fail)
  refine (iSameSystems_law p F29_xs_12.rd F30_xt_12.rd oks okt (hT.below hB12 hT.lt)).mono ?_
  rintro e w13 ⟨rfl, hb13⟩
  have hB13 := below_trans hB12 hb13 hB12.size
  clear c33_0 c33_1 c33_2 f33_0 f33_1 f33_2 c34_0 c34_1 c34_2 f34_0 f34_1 f34_2
  have F35_bxs_13 := Lib.hid (box_below F32_bxs_12.out hb13)
  clear F32_bxs_12
  have F36_ps_9 := Lib.hid (box_below F21_ps_8.out hb9)
  clear F21_ps_8
  have F37_ps_10 := Lib.hid (box_below F36_ps_9.out hb10)
  clear F36_ps_9
  have F38_ps_11 := Lib.hid (box_below F37_ps_10.out hb11)
  clear F37_ps_10
  have F39_ps_12 := Lib.hid (box_below F38_ps_11.out hb12)
  clear F38_ps_11
  have F40_ps_13 := Lib.hid (box_below F39_ps_12.out hb13)
  clear F39_ps_12
  have F41_xs_13 := F29_xs_12.below hb13
  clear F29_xs_12
  go_wp2_with (fail)
  refine beginH (fun w' => w'.heap[(w9).heap.size]? = some (.cells #[.int .i64 (s).1, .int .i64 (s).2.1, .slice A9 n9 c9] 27) ∧ w'.heap[(w).heap.size]? = some (.cells #[.int .i64 (s).1, .int .i64 (s).2.1, .slice As ns cs] 24)) (by kernel_rfl) ?_
  have hb14 : Below (w13).heap.size (w13) (w13).drew := below_drewN (Below.refl _ _) 1
  have hB14 := below_trans hB13 hb14 hB13.size
  have F43_bxs_14 := Lib.hid (box_below F35_bxs_13.out hb14)
  clear F35_bxs_13
  have F44_ps_14 := Lib.hid (box_below F40_ps_13.out hb14)
  clear F40_ps_13
  have F45_xs_14 := F41_xs_13.below hb14
  clear F41_xs_13
  refine takeH 0 (v := ?_) rfl (by kernel_rfl) (by kernel_rfl) (by kernel_rfl) (fun _ _ _ h => h) ⟨F43_bxs_14.out, F44_ps_14.out⟩ (by rfl) (fun W' hW' => ?_) ?_; rotate_left; · (obtain ⟨q1, q2⟩ := hW'; obtain ⟨⟨ca0, ca1, ca2⟩, gca0, gca1, gca2⟩ := box3 q1; obtain ⟨⟨cb0, cb1, cb2⟩, gcb0, gcb1, gcb2⟩ := box3 q2; clear q1 q2; go_simp; first | done | with_reducible rfl)
  simp only [Act.put, List.setIfInBounds_toArray, List.set_cons_zero, List.set_cons_succ]
  refine takeH 1 (v := ?_) rfl (by kernel_rfl) (by kernel_rfl) (by kernel_rfl) (fun _ _ _ h => h) ⟨F43_bxs_14.out, F44_ps_14.out⟩ (by rfl) (fun W' hW' => ?_) ?_; rotate_left; · (obtain ⟨q1, q2⟩ := hW'; obtain ⟨⟨ca0, ca1, ca2⟩, gca0, gca1, gca2⟩ := box3 q1; obtain ⟨⟨cb0, cb1, cb2⟩, gcb0, gcb1, gcb2⟩ := box3 q2; clear q1 q2; go_simp; first | done | with_reducible rfl)
  simp only [Act.put, List.setIfInBounds_toArray, List.set_cons_zero, List.set_cons_succ]
  refine' callH 2 (f := _) (args := _) rfl (by kernel_rfl) (by rfl) ?_ ?_; rotate_left 2; · (go_simp; first | done | with_reducible rfl | (constructor <;> with_reducible rfl))
  refine (toSystem_law (hs.below hB14) oks).mono ?_
  rintro e w15 ⟨v15, fp15, rfl, o15, fr15, hb15⟩
  have hB15 := below_trans hB14 hb15 hB14.size
  have F46_bxs_15 := Lib.hid (box_below F43_bxs_14.out hb15)
  clear F43_bxs_14
  have F47_ps_15 := Lib.hid (box_below F44_ps_14.out hb15)
  clear F44_ps_14
  have F48_xs_15 := F45_xs_14.below hb15
  clear F45_xs_14
  refine ⟨_, rfl, ⟨F46_bxs_15.out, F47_ps_15.out⟩, ?_⟩
  simp only [Act.put, List.setIfInBounds_toArray, List.set_cons_zero, List.set_cons_succ]
  refine' callH 3 (f := _) (args := _) rfl (by kernel_rfl) (by rfl) ?_ ?_; rotate_left 2; · (go_simp; first | done | with_reducible rfl | (constructor <;> with_reducible rfl))
  refine (eqSystem_law F48_xs_15.rd o15.rd oks).mono ?_
  rintro e w16 ⟨rfl, hb16⟩
  have hB16 := below_trans hB15 hb16 hB15.size
  have F49_bxs_16 := Lib.hid (box_below F46_bxs_15.out hb16)
  clear F46_bxs_15
  have F50_ps_16 := Lib.hid (box_below F47_ps_15.out hb16)
  clear F47_ps_15
  have F51_xs_16 := F48_xs_15.below hb16
  clear F48_xs_15
  refine ⟨_, rfl, ⟨F49_bxs_16.out, F50_ps_16.out⟩, ?_⟩
  rw [decide_eq_true (rfl : s = s)]
  simp only [Act.put, List.setIfInBounds_toArray, List.set_cons_zero, List.set_cons_succ]
  refine takeH 4 (v := .bool false) rfl (by kernel_rfl) (by kernel_rfl) (by kernel_rfl) (fun _ _ _ h => h) ⟨F49_bxs_16.out, F50_ps_16.out⟩ (by rfl) (fun W' hW' => ?_) ?_; · (go_simp; first | done | with_reducible rfl)
  simp only [Act.put, List.setIfInBounds_toArray, List.set_cons_zero, List.set_cons_succ]
  refine doneH (by kernel_rfl) ?_
  have F52_bxt_13 := Lib.hid (box_below BX_bxt_12.out hb13)
  clear BX_bxt_12
  have F53_bxt_14 := Lib.hid (box_below F52_bxt_13.out hb14)
  clear F52_bxt_13
  have F54_bxt_15 := Lib.hid (box_below F53_bxt_14.out hb15)
  clear F53_bxt_14
  have F55_bxt_16 := Lib.hid (box_below F54_bxt_15.out hb16)
  clear F54_bxt_15
  have F56_pt_11 := Lib.hid (box_below F25_pt_10.out hb11)
  clear F25_pt_10
  have F57_pt_12 := Lib.hid (box_below F56_pt_11.out hb12)
  clear F56_pt_11
  have F58_pt_13 := Lib.hid (box_below F57_pt_12.out hb13)
  clear F57_pt_12
  have F59_pt_14 := Lib.hid (box_below F58_pt_13.out hb14)
  clear F58_pt_13
  have F60_pt_15 := Lib.hid (box_below F59_pt_14.out hb15)
  clear F59_pt_14
  have F61_pt_16 := Lib.hid (box_below F60_pt_15.out hb16)
  clear F60_pt_15
  have F62_xt_13 := F30_xt_12.below hb13
  clear F30_xt_12
  have F63_xt_14 := F62_xt_13.below hb14
  clear F62_xt_13
  have F64_xt_15 := F63_xt_14.below hb15
  clear F63_xt_14
  have F65_xt_16 := F64_xt_15.below hb16
  clear F64_xt_15
  go_wp2_with (fail)
  refine beginH (fun w' => w'.heap[(w11).heap.size]? = some (.cells #[.int .i64 (t).1, .int .i64 (t).2.1, .slice A11 n11 c11] 27) ∧ w'.heap[(w).heap.size + 1]? = some (.cells #[.int .i64 (t).1, .int .i64 (t).2.1, .slice At nt ct] 24)) (by kernel_rfl) ?_
  have hb17 : Below (w16).heap.size (w16) (w16).drew := below_drewN (Below.refl _ _) 1
  have hB17 := below_trans hB16 hb17 hB16.size
  have F67_bxt_17 := Lib.hid (box_below F55_bxt_16.out hb17)
  clear F55_bxt_16
  have F68_pt_17 := Lib.hid (box_below F61_pt_16.out hb17)
  clear F61_pt_16
  have F69_xt_17 := F65_xt_16.below hb17
  clear F65_xt_16
  refine takeH 0 (v := ?_) rfl (by kernel_rfl) (by kernel_rfl) (by kernel_rfl) (fun _ _ _ h => h) ⟨F67_bxt_17.out, F68_pt_17.out⟩ (by rfl) (fun W' hW' => ?_) ?_; rotate_left; · (obtain ⟨q1, q2⟩ := hW'; obtain ⟨⟨ca0, ca1, ca2⟩, gca0, gca1, gca2⟩ := box3 q1; obtain ⟨⟨cb0, cb1, cb2⟩, gcb0, gcb1, gcb2⟩ := box3 q2; clear q1 q2; go_simp; first | done | with_reducible rfl)
  simp only [Act.put, List.setIfInBounds_toArray, List.set_cons_zero, List.set_cons_succ]
  refine takeH 1 (v := ?_) rfl (by kernel_rfl) (by kernel_rfl) (by kernel_rfl) (fun _ _ _ h => h) ⟨F67_bxt_17.out, F68_pt_17.out⟩ (by rfl) (fun W' hW' => ?_) ?_; rotate_left; · (obtain ⟨q1, q2⟩ := hW'; obtain ⟨⟨ca0, ca1, ca2⟩, gca0, gca1, gca2⟩ := box3 q1; obtain ⟨⟨cb0, cb1, cb2⟩, gcb0, gcb1, gcb2⟩ := box3 q2; clear q1 q2; go_simp; first | done | with_reducible rfl)
  simp only [Act.put, List.setIfInBounds_toArray, List.set_cons_zero, List.set_cons_succ]
  refine' callH 2 (f := _) (args := _) rfl (by kernel_rfl) (by rfl) ?_ ?_; rotate_left 2; · (go_simp; first | done | with_reducible rfl | (constructor <;> with_reducible rfl))
  refine (toSystem_law (ht.below hB17) okt).mono ?_
  rintro e w18 ⟨v18, fp18, rfl, o18, fr18, hb18⟩
  have hB18 := below_trans hB17 hb18 hB17.size
  have F70_bxt_18 := Lib.hid (box_below F67_bxt_17.out hb18)
  clear F67_bxt_17
  have F71_pt_18 := Lib.hid (box_below F68_pt_17.out hb18)
  clear F68_pt_17
  have F72_xt_18 := F69_xt_17.below hb18
  clear F69_xt_17
  refine ⟨_, rfl, ⟨F70_bxt_18.out, F71_pt_18.out⟩, ?_⟩
  simp only [Act.put, List.setIfInBounds_toArray, List.set_cons_zero, List.set_cons_succ]
  refine' callH 3 (f := _) (args := _) rfl (by kernel_rfl) (by rfl) ?_ ?_; rotate_left 2; · (go_simp; first | done | with_reducible rfl | (constructor <;> with_reducible rfl))
  refine (eqSystem_law F72_xt_18.rd o18.rd okt).mono ?_
  rintro e w19 ⟨rfl, hb19⟩
  have hB19 := below_trans hB18 hb19 hB18.size
  have F73_bxt_19 := Lib.hid (box_below F70_bxt_18.out hb19)
  clear F70_bxt_18
  have F74_pt_19 := Lib.hid (box_below F71_pt_18.out hb19)
  clear F71_pt_18
  have F75_xt_19 := F72_xt_18.below hb19
  clear F72_xt_18
  refine ⟨_, rfl, ⟨F73_bxt_19.out, F74_pt_19.out⟩, ?_⟩
  rw [decide_eq_true (rfl : t = t)]
  simp only [Act.put, List.setIfInBounds_toArray, List.set_cons_zero, List.set_cons_succ]
  refine takeH 4 (v := .bool false) rfl (by kernel_rfl) (by kernel_rfl) (by kernel_rfl) (fun _ _ _ h => h) ⟨F73_bxt_19.out, F74_pt_19.out⟩ (by rfl) (fun W' hW' => ?_) ?_; · (go_simp; first | done | with_reducible rfl)
  simp only [Act.put, List.setIfInBounds_toArray, List.set_cons_zero, List.set_cons_succ]
  refine doneH (by kernel_rfl) ?_
  go_wp2_with (fail)
  go_ret
  exact ⟨rfl, hB19⟩

set_option maxRecDepth 100000 in
theorem contractSameSystems (H : Type) (enc : TypeId × Value → H) (W : World) (args : Array Value) (ds gs : List (DataW H)) (before : List MemPlace)
    (hval : ∀ (j : Nat) t v, Tryd.f8.params[j]? = some t → args[j]? = some v → Value.okWide Tryd.prog W .any 0 t v)
    (hW : DataW.Whole enc Tryd.prog Tryd.f8.params.toList Rows.fnExactSameSystemsSpec.vars false W args.toList ds gs before) (hL : laidMetH Tryd.prog Rows.fnExactSameSystemsRow.laid W) :
    Calls Tryd.prog 8 args W fun e W' => ∃ v, e = .returned v ∧ Rows.fnExactSameSystemsSpec.post enc Tryd.prog Tryd.f8 false true false false W args v W' := by
  have hW' := hW
  obtain ⟨p, q, hA0, hV, rfl, hfz, hnd⟩ := hW
  have hA : DataW.TrodAll enc Tryd.prog W 0 (fun _ => true) true Tryd.f8.params.toList args.toList ds p := hA0
  have hr : ∀ t ∈ Tryd.f8.params.toList, Tryd.prog.readableRec t = true ∧ t < Tryd.prog.types.size := by
    rw [Tryd.params8]
    intro t ht
    have ht' : t ∈ ([3, 24, 24] : List TypeId) := ht
    rcases List.mem_cons.1 ht' with rfl | ht'
    · exact ⟨by kernel_rfl, of_decide_eq_true (by kernel_rfl)⟩
    rcases List.mem_cons.1 ht' with rfl | ht'
    · exact ⟨by kernel_rfl, of_decide_eq_true (by kernel_rfl)⟩
    rcases List.mem_cons.1 ht' with rfl | ht'
    · exact ⟨by kernel_rfl, of_decide_eq_true (by kernel_rfl)⟩
    cases ht'
  rw [Tryd.params8] at hA hval
  obtain ⟨v0, vs0, d0, ds0, p0, q0, hargs, rfl, rfl, t0, r0⟩ := trodAll_cons hA
  obtain ⟨v1, vs1, d1, ds1, p1, q1, rfl, rfl, rfl, t1, r1⟩ := trodAll_cons r0
  obtain ⟨v2, vs2, d2, ds2, p2, q2, rfl, rfl, rfl, t2, r2⟩ := trodAll_cons r1
  obtain ⟨rfl, rfl, rfl⟩ := trodAll_nil r2
  obtain rfl : args = #[v0, v1, v2] := by cases args; simp_all
  obtain ⟨g, _, _, _, dg, pg, rfl, _⟩ := trodVars_one hV
  obtain ⟨x0, rfl, lo0, hi0⟩ := in_int (hval 0 _ v0 rfl rfl) t0
  obtain ⟨m1, hl1, hg1⟩ := in_System (hval 1 _ v1 rfl rfl) t1
  obtain ⟨m2, hl2, hg2⟩ := in_System (hval 2 _ v2 rfl rfl) t2
  refine (lawSameSystems_any x0 v1 m1 v2 m2 W hl1 hg1 hl2 hg2 lo0 hi0 (tab_of_laid hL)).mono fun e W' ⟨he, hb⟩ => ?_
  subst he
  exact ⟨_, rfl, post_true laidOut hW' hb hr vars_ok rfl rfl Tryd.underlying4⟩

set_option maxRecDepth 100000 in
theorem liftedSameSystems (os : Os) (started : os.Started) (H : Type) (enc : TypeId × Value → H) (F : Stop.Interp) :
    ReturnsInHanded {} Tryd.checked os 8 .any ((OpenSpec.ofChange Rows.fnExactSameSystemsSpec).preRow enc Tryd.prog Tryd.f8 Rows.fnExactSameSystemsRow.domain false Rows.fnExactSameSystemsRow.laid) (((OpenSpec.ofChange Rows.fnExactSameSystemsSpec).at F).post enc Tryd.prog Tryd.f8 false true false false) := by
  obtain ⟨ds, gs, places, hx⟩ : ∃ ds gs places, DataW.whole enc Tryd.prog ((laidWorld os).forCall (fun _ _ => 0) ⟨#[], #[.int .i64 0, .agg #[.int .i64 0, .int .i64 0, .slice none 0 0], .agg #[.int .i64 0, .int .i64 0, .slice none 0 0]], []⟩).memory Tryd.f8.params.toList Rows.fnExactSameSystemsSpec.vars false (#[.int .i64 0, .agg #[.int .i64 0, .int .i64 0, .slice none 0 0], .agg #[.int .i64 0, .int .i64 0, .slice none 0 0]] : Array Value).toList 8 = some (ds, gs, places) :=
    ⟨[.lit (.int .i64 0), .agg [.lit (.int .i64 0), .lit (.int .i64 0), .nil], .agg [.lit (.int .i64 0), .lit (.int .i64 0), .nil]], [Rows.laid_loop_example_g01073_impl_smallPrimes], MemPlace.row ⟨0, 0, none⟩ 4, by kernel_rfl⟩
  refine returnsInHanded_of_row (C := Tryd.checked) (s := OpenSpec.ofChange Rows.fnExactSameSystemsSpec) own started (by kernel_rfl) Tryd.func8
    (witness_row_at (enc := enc) (C := Tryd.checked) false (laidWorld os) #[.int .i64 0, .agg #[.int .i64 0, .int .i64 0, .slice none 0 0], .agg #[.int .i64 0, .int .i64 0, .slice none 0 0]] rfl (by kernel_rfl) (by kernel_rfl) (by kernel_rfl)
      (OpenSpec.preRow_of_cond 8 hx (by kernel_rfl) (fun k hk => by cases hk) (by kernel_rfl) (laid_met os _))) ?_
  intro W base args ds gs before hval hW _ _ _ hL _ _
  exact contractSameSystems H enc W args ds gs before hval hW hL

theorem saidSameSystems : Rows.FnExactSameSystemsSaid :=
  OpenClaim.holds_of_cond 8 Tryd.f8 rfl rfl rfl rfl rfl rfl rfl ⟨rfl, rfl, rfl, rfl, rfl⟩ rfl rfl rfl rfl rfl (by kernel_rfl) Tryd.func8 (by kernel_rfl)
    (of_decide_eq_true (by kernel_rfl)) (by unfold Func.isWrapper; first | (rw [if_pos (by decide +kernel)]; kernel_rfl) | (rw [if_neg (by decide +kernel)]; exact ⟨rfl, rfl⟩))
    (fun os started H enc _ F => by rw [OpenClaim.pre_eq_preRow]; exact liftedSameSystems os started H enc F)

theorem plainSameSystems (f : FuncId) (fn : Func) (hf : Tryd.pinned.checked.prog.funcNamed "loop.example/g01073/laws.FnExactSameSystems" = some f) (hfn : Tryd.pinned.checked.prog.funcs[f]? = some fn) :
    false = Tryd.pinned.checked.prog.looks [] ∧ ∀ (j : Nat) t, fn.params[j]? = some t → Tryd.pinned.checked.prog.wantsStandIn t = false := by
  obtain rfl : f = 8 := Option.some.inj ((show Tryd.prog.funcNamed "loop.example/g01073/laws.FnExactSameSystems" = some 8 by kernel_rfl).symm.trans hf) |>.symm
  obtain rfl : fn = Tryd.f8 := (Option.some.inj (Tryd.func8.symm.trans hfn)).symm
  refine ⟨by kernel_rfl, fun j t ht => ?_⟩
  rw [Tryd.params8] at ht
  have ht' : t ∈ ([3, 24, 24] : List TypeId) := by have := Array.mem_of_getElem? ht; simpa using this
  rcases List.mem_cons.1 ht' with rfl | ht'
  · exact (show Tryd.prog.wantsStandIn 3 = false by kernel_rfl)
  rcases List.mem_cons.1 ht' with rfl | ht'
  · exact (show Tryd.prog.wantsStandIn 24 = false by kernel_rfl)
  rcases List.mem_cons.1 ht' with rfl | ht'
  · exact (show Tryd.prog.wantsStandIn 24 = false by kernel_rfl)
  cases ht'

theorem cardSameSystems : Rows.FnExactSameSystemsCardSaid :=
  Claim7.holds_tied_plain_at .later [] _ _ _ _ saidSameSystems (fun _ h => by cases h) (by kernel_rfl) (fun _ h => by cases h) fnExactSameSystems_row_tie rfl ⟨rfl, rfl⟩ (by kernel_rfl) rfl plainSameSystems (by kernel_rfl)
#print axioms cardSameSystems
end Go.Proofs.YtomekicglojhhaaDoor
