/-
  The program's SameGraphs returns what the reference's returns, for all arguments (laws.FnExactSameGraphs answers true). No condition.
-/
import Derived.Test.YtjompikdkhhlgaaGreatKSameGraphs5
namespace Go.Proofs.YtjompikdkhhlgaaGreat
open Go.ChangeShapes Go.WideShapes Go.ChangeAt Go.RowKit
set_option maxHeartbeats 40000000 in
set_option maxRecDepth 100000 in
theorem lawSameGraphs_any (va : Value) (a : Gr) (vb : Value) (b : Gr) (w : World) (ha : RdGr w va a) (hga : BigGraph a) (hb : RdGr w vb b) (hgb : BigGraph b) :
  Calls Tryz.prog 4 #[va, vb] w fun e w' => e = .returned (.bool true) ∧ Below w.heap.size w w' := by
 obtain ⟨Aa, na, ca, Ba, ma, da, Ca, ka, ea, rfl⟩ := ha.shape
 obtain ⟨Ab, nb, cb, Bb, mb, db, Cb, kb, eb, rfl⟩ := hb.shape
 obtain ⟨Sa, hSa⟩ : ∃ S, S = szG (a) 1048576 := ⟨_, rfl⟩
 have HSa := lH hSa; clear hSa
 obtain ⟨Sb, hSb⟩ : ∃ S, S = szG (b) Sa := ⟨_, rfl⟩
 have HSb := lH hSb; clear hSb
 have hB0 : Below w.heap.size w w := Below.refl _ _
 have hb1 := t_below_alloc (w) (.cells #[.int .i64 (a).1, .slice Aa na ca, .slice Ba ma da, .slice Ca ka ea] 25)
 have hB1 := below_trans hB0 hb1 hB0.size
 have bx1 := heap_alloc_new (w) (.cells #[.int .i64 (a).1, .slice Aa na ca, .slice Ba ma da, .slice Ca ka ea] 25)
 have lt_pa : LtL ((w).alloc (.cells #[.int .i64 (a).1, .slice Aa na ca, .slice Ba ma da, .slice Ca ka ea] 25)).heap.size [(w).heap.size] := fun b hb => by obtain rfl := List.mem_singleton.1 hb; exact t_box_lt bx1
 have fr_pa : FreshL (w).heap.size [(w).heap.size] := fun b hb => by obtain rfl := List.mem_singleton.1 hb; exact Nat.le_refl _
 have BX_pa_1 := lH bx1; clear bx1
 have hb2 := t_below_alloc ((w).alloc (.cells #[.int .i64 (a).1, .slice Aa na ca, .slice Ba ma da, .slice Ca ka ea] 25)) (.cells #[.int .i64 (b).1, .slice Ab nb cb, .slice Bb mb db, .slice Cb kb eb] 25)
 have hB2 := below_trans hB1 hb2 hB1.size
 have bx2 : (((w).alloc (.cells #[.int .i64 (a).1, .slice Aa na ca, .slice Ba ma da, .slice Ca ka ea] 25)).alloc (.cells #[.int .i64 (b).1, .slice Ab nb cb, .slice Bb mb db, .slice Cb kb eb] 25)).heap[(w).heap.size + 1]? = some (.cells #[.int .i64 (b).1, .slice Ab nb cb, .slice Bb mb db, .slice Cb kb eb] 25) := by
  have := heap_alloc_new ((w).alloc (.cells #[.int .i64 (a).1, .slice Aa na ca, .slice Ba ma da, .slice Ca ka ea] 25)) (.cells #[.int .i64 (b).1, .slice Ab nb cb, .slice Bb mb db, .slice Cb kb eb] 25)
  simp only [World.size_alloc] at this; exact this
 have lt_pb : LtL (((w).alloc (.cells #[.int .i64 (a).1, .slice Aa na ca, .slice Ba ma da, .slice Ca ka ea] 25)).alloc (.cells #[.int .i64 (b).1, .slice Ab nb cb, .slice Bb mb db, .slice Cb kb eb] 25)).heap.size [(w).heap.size + 1] := fun b hb => by obtain rfl := List.mem_singleton.1 hb; exact t_box_lt bx2
 have fr_pb : FreshL ((w).alloc (.cells #[.int .i64 (a).1, .slice Aa na ca, .slice Ba ma da, .slice Ca ka ea] 25)).heap.size [(w).heap.size + 1] := fun b hb => by obtain rfl := List.mem_singleton.1 hb; simp only [World.size_alloc]; exact Nat.le_refl _
 have BX_pb_2 := lH bx2; clear bx2
 by_cases nega : Sa < 0
 case pos =>
  go_enter Tryz.func4, Tryz.ntmps4
  have F1_pa_2 := lH (t_box_below BX_pa_1.out hb2)
  clear BX_pa_1
  obtain ⟨⟨c2_0, c2_1, c2_2, c2_3⟩, f2_0, f2_1, f2_2, f2_3⟩ := t_box4 F1_pa_2.out
  go_wp2_with (fail)
  refine (szGraph_law 1048576 (ha.below hB2) hga (by omega) (by omega)).mono ?_
  rintro e w3 ⟨he3, hb3⟩
  have hB3 := below_trans hB2 hb3 hB2.size
  clear c2_0 c2_1 c2_2 c2_3 f2_0 f2_1 f2_2 f2_3
  rw [← HSa.out] at he3
  subst he3
  go_wp2_with (fail)
  go_ret
  exact ⟨rfl, hB3⟩
 have soka := szG_ok (by rw [← HSa.out]; omega : 0 ≤ szG (a) 1048576) (by omega)
 have oka := soka.1
 have slea : Sa ≤ 1048576 := by rw [HSa.out]; exact soka.2
 clear soka
 by_cases negb : Sb < 0
 case pos =>
  go_enter Tryz.func4, Tryz.ntmps4
  have F3_pa_2 := lH (t_box_below BX_pa_1.out hb2)
  clear BX_pa_1
  obtain ⟨⟨c4_0, c4_1, c4_2, c4_3⟩, f4_0, f4_1, f4_2, f4_3⟩ := t_box4 F3_pa_2.out
  go_wp2_with (fail)
  refine (szGraph_law 1048576 (ha.below hB2) hga (by omega) (by omega)).mono ?_
  rintro e w3 ⟨he3, hb3⟩
  have hB3 := below_trans hB2 hb3 hB2.size
  clear c4_0 c4_1 c4_2 c4_3 f4_0 f4_1 f4_2 f4_3
  rw [← HSa.out] at he3
  subst he3
  have F5_pb_3 := lH (t_box_below BX_pb_2.out hb3)
  clear BX_pb_2
  obtain ⟨⟨c6_0, c6_1, c6_2, c6_3⟩, f6_0, f6_1, f6_2, f6_3⟩ := t_box4 F5_pb_3.out
  go_wp2_with (fail)
  refine (szGraph_law Sa (hb.below hB3) hgb (by omega) (by omega)).mono ?_
  rintro e w4 ⟨he4, hb4⟩
  have hB4 := below_trans hB3 hb4 hB3.size
  clear c6_0 c6_1 c6_2 c6_3 f6_0 f6_1 f6_2 f6_3
  rw [← HSb.out] at he4
  subst he4
  go_wp2_with (fail)
  go_ret
  exact ⟨rfl, hB4⟩
 have sokb := szG_ok (by rw [← HSb.out]; omega : 0 ≤ szG (b) Sa) (by omega)
 have okb := sokb.1
 have sleb : Sb ≤ Sa := by rw [HSb.out]; exact sokb.2
 clear sokb
 go_enter Tryz.func4, Tryz.ntmps4
 have F7_pa_2 := lH (t_box_below BX_pa_1.out hb2)
 clear BX_pa_1
 obtain ⟨⟨c8_0, c8_1, c8_2, c8_3⟩, f8_0, f8_1, f8_2, f8_3⟩ := t_box4 F7_pa_2.out
 go_wp2_with (fail)
 refine (szGraph_law 1048576 (ha.below hB2) hga (by omega) (by omega)).mono ?_
 rintro e w3 ⟨he3, hb3⟩
 have hB3 := below_trans hB2 hb3 hB2.size
 clear c8_0 c8_1 c8_2 c8_3 f8_0 f8_1 f8_2 f8_3
 rw [← HSa.out] at he3
 subst he3
 have F9_pb_3 := lH (t_box_below BX_pb_2.out hb3)
 clear BX_pb_2
 obtain ⟨⟨c10_0, c10_1, c10_2, c10_3⟩, f10_0, f10_1, f10_2, f10_3⟩ := t_box4 F9_pb_3.out
 go_wp2_with (fail)
 refine (szGraph_law Sa (hb.below hB3) hgb (by omega) (by omega)).mono ?_
 rintro e w4 ⟨he4, hb4⟩
 have hB4 := below_trans hB3 hb4 hB3.size
 clear c10_0 c10_1 c10_2 c10_3 f10_0 f10_1 f10_2 f10_3
 rw [← HSb.out] at he4
 subst he4
 have F11_pa_3 := lH (t_box_below F7_pa_2.out hb3)
 clear F7_pa_2
 have F12_pa_4 := lH (t_box_below F11_pa_3.out hb4)
 clear F11_pa_3
 have F13_pb_4 := lH (t_box_below F9_pb_3.out hb4)
 clear F9_pb_3
 go_wp2_with (fail)
 refine beginH (fun w' => w'.heap[(w).heap.size]? = some (.cells #[.int .i64 (a).1, .slice Aa na ca, .slice Ba ma da, .slice Ca ka ea] 25) ∧ w'.heap[(w).heap.size + 1]? = some (.cells #[.int .i64 (b).1, .slice Ab nb cb, .slice Bb mb db, .slice Cb kb eb] 25)) (by kernel_rfl) ?_
 have hb5 : Below (w4).heap.size (w4) (w4).drew := below_drewN (Below.refl _ _) 1
 have hB5 := below_trans hB4 hb5 hB4.size
 have F14_pa_5 := lH (t_box_below F12_pa_4.out hb5)
 clear F12_pa_4
 have F15_pb_5 := lH (t_box_below F13_pb_4.out hb5)
 clear F13_pb_4
 refine tkH 0 ?_ rfl ⟨F14_pa_5.out, F15_pb_5.out⟩ (fun W' hW' => ?_) ?_; rotate_left; · (obtain ⟨q0, q1⟩ := hW'; obtain ⟨⟨ca0_0, ca0_1, ca0_2, ca0_3⟩, ga0_0, ga0_1, ga0_2, ga0_3⟩ := t_box4 q0; obtain ⟨⟨ca1_0, ca1_1, ca1_2, ca1_3⟩, ga1_0, ga1_1, ga1_2, ga1_3⟩ := t_box4 q1; clear q0 q1; go_simp; first | done | with_reducible rfl)
 simp only [Act.put, nS]
 refine tkH 2 ?_ rfl ⟨F14_pa_5.out, F15_pb_5.out⟩ (fun W' hW' => ?_) ?_; rotate_left; · (obtain ⟨q0, q1⟩ := hW'; obtain ⟨⟨ca0_0, ca0_1, ca0_2, ca0_3⟩, ga0_0, ga0_1, ga0_2, ga0_3⟩ := t_box4 q0; obtain ⟨⟨ca1_0, ca1_1, ca1_2, ca1_3⟩, ga1_0, ga1_1, ga1_2, ga1_3⟩ := t_box4 q1; clear q0 q1; go_simp; first | done | with_reducible rfl)
 simp only [Act.put, nS]
 refine' callH 1 (f := _) (args := _) rfl (by kernel_rfl) (by rfl) ?_ ?_; rotate_left 2; · (go_simp; first | done | with_reducible rfl | (constructor <;> with_reducible rfl))
 refine (toGraph_law (ha.below hB5) oka).mono ?_
 rintro e w6 ⟨v6, fp6, rfl, o6, fr6, hb6⟩
 have hB6 := below_trans hB5 hb6 hB5.size
 have F16_pa_6 := lH (t_box_below F14_pa_5.out hb6)
 clear F14_pa_5
 have F17_pb_6 := lH (t_box_below F15_pb_5.out hb6)
 clear F15_pb_5
 refine ⟨_, rfl, ⟨F16_pa_6.out, F17_pb_6.out⟩, ?_⟩
 obtain ⟨A6, n6, c6, B6, m6, d6, C6, k6, e6, rfl⟩ := o6.shape
 have lt_aa := o6.lt
 simp only [Act.put, nS]
 refine' callH 3 (f := _) (args := _) rfl (by kernel_rfl) (by rfl) ?_ ?_; rotate_left 2; · (go_simp; first | done | with_reducible rfl | (constructor <;> with_reducible rfl))
 refine (toGraph_law (hb.below hB6) okb).mono ?_
 rintro e w7 ⟨v7, fp7, rfl, o7, fr7, hb7⟩
 have hB7 := below_trans hB6 hb7 hB6.size
 have F18_pa_7 := lH (t_box_below F16_pa_6.out hb7)
 clear F16_pa_6
 have F19_pb_7 := lH (t_box_below F17_pb_6.out hb7)
 clear F17_pb_6
 refine ⟨_, rfl, ⟨F18_pa_7.out, F19_pb_7.out⟩, ?_⟩
 obtain ⟨A7, n7, c7, B7, m7, d7, C7, k7, e7, rfl⟩ := o7.shape
 have lt_ab := o7.lt
 simp only [Act.put, nS]
 refine' callH 4 (f := _) (args := _) rfl (by kernel_rfl) (by rfl) ?_ ?_; rotate_left 2; · (go_simp; first | done | with_reducible rfl | (constructor <;> with_reducible rfl))
 have F20_aa_7 := o6.below hb7
 clear o6
 refine (sSameGraphs_law  F20_aa_7.rd o7.rd oka okb).mono ?_
 rintro e w8 ⟨rfl, hb8⟩
 have hB8 := below_trans hB7 hb8 hB7.size
 have F21_pa_8 := lH (t_box_below F18_pa_7.out hb8)
 clear F18_pa_7
 have F22_pb_8 := lH (t_box_below F19_pb_7.out hb8)
 clear F19_pb_7
 refine ⟨_, rfl, ⟨F21_pa_8.out, F22_pb_8.out⟩, ?_⟩
 simp only [Act.put, nS]
 refine tkH 5 ?_ rfl ⟨F21_pa_8.out, F22_pb_8.out⟩ (fun W' hW' => ?_) ?_; rotate_left; · (obtain ⟨q0, q1⟩ := hW'; obtain ⟨⟨ca0_0, ca0_1, ca0_2, ca0_3⟩, ga0_0, ga0_1, ga0_2, ga0_3⟩ := t_box4 q0; obtain ⟨⟨ca1_0, ca1_1, ca1_2, ca1_3⟩, ga1_0, ga1_1, ga1_2, ga1_3⟩ := t_box4 q1; clear q0 q1; go_simp; first | done | with_reducible rfl)
 simp only [Act.put, nS]
 refine tkH 6 ?_ rfl ⟨F21_pa_8.out, F22_pb_8.out⟩ (fun W' hW' => ?_) ?_; rotate_left; · (obtain ⟨q0, q1⟩ := hW'; obtain ⟨⟨ca0_0, ca0_1, ca0_2, ca0_3⟩, ga0_0, ga0_1, ga0_2, ga0_3⟩ := t_box4 q0; obtain ⟨⟨ca1_0, ca1_1, ca1_2, ca1_3⟩, ga1_0, ga1_1, ga1_2, ga1_3⟩ := t_box4 q1; clear q0 q1; go_simp; first | done | with_reducible rfl)
 simp only [Act.put, nS]
 refine tkH 7 ?_ rfl ⟨F21_pa_8.out, F22_pb_8.out⟩ (fun W' hW' => ?_) ?_; rotate_left; · (obtain ⟨q0, q1⟩ := hW'; obtain ⟨⟨ca0_0, ca0_1, ca0_2, ca0_3⟩, ga0_0, ga0_1, ga0_2, ga0_3⟩ := t_box4 q0; obtain ⟨⟨ca1_0, ca1_1, ca1_2, ca1_3⟩, ga1_0, ga1_1, ga1_2, ga1_3⟩ := t_box4 q1; clear q0 q1; go_simp; first | done | with_reducible rfl)
 simp only [Act.put, nS]
 refine tkH 8 ?_ rfl ⟨F21_pa_8.out, F22_pb_8.out⟩ (fun W' hW' => ?_) ?_; rotate_left; · (obtain ⟨q0, q1⟩ := hW'; obtain ⟨⟨ca0_0, ca0_1, ca0_2, ca0_3⟩, ga0_0, ga0_1, ga0_2, ga0_3⟩ := t_box4 q0; obtain ⟨⟨ca1_0, ca1_1, ca1_2, ca1_3⟩, ga1_0, ga1_1, ga1_2, ga1_3⟩ := t_box4 q1; clear q0 q1; go_simp; first | done | with_reducible rfl)
 simp only [Act.put, nS]
 refine tkH 9 ?_ rfl ⟨F21_pa_8.out, F22_pb_8.out⟩ (fun W' hW' => ?_) ?_; rotate_left; · (obtain ⟨q0, q1⟩ := hW'; obtain ⟨⟨ca0_0, ca0_1, ca0_2, ca0_3⟩, ga0_0, ga0_1, ga0_2, ga0_3⟩ := t_box4 q0; obtain ⟨⟨ca1_0, ca1_1, ca1_2, ca1_3⟩, ga1_0, ga1_1, ga1_2, ga1_3⟩ := t_box4 q1; clear q0 q1; go_simp; first | done | with_reducible rfl)
 simp only [Act.put, nS]
 refine doneH (by kernel_rfl) ?_
 obtain ⟨⟨c23_0, c23_1, c23_2, c23_3⟩, f23_0, f23_1, f23_2, f23_3⟩ := t_box4 F21_pa_8.out
 go_wp2_with (fail)
 refine (toGraph_law (ha.below hB8) oka).mono ?_
 rintro e w9 ⟨v9, fp9, rfl, o9, fr9, hb9⟩
 have hB9 := below_trans hB8 hb9 hB8.size
 clear c23_0 c23_1 c23_2 c23_3 f23_0 f23_1 f23_2 f23_3
 obtain ⟨A9, n9, c9, B9, m9, d9, C9, k9, e9, rfl⟩ := o9.shape
 have lt_xa := o9.lt
 have hb10 := t_below_alloc (w9) (.cells #[.int .i64 (a).1, .slice A9 n9 c9, .slice B9 m9 d9, .slice C9 k9 e9] 29)
 have hB10 := below_trans hB9 hb10 hB9.size
 have bx10 := heap_alloc_new (w9) (.cells #[.int .i64 (a).1, .slice A9 n9 c9, .slice B9 m9 d9, .slice C9 k9 e9] 29)
 have lt_bxa : LtL ((w9).alloc (.cells #[.int .i64 (a).1, .slice A9 n9 c9, .slice B9 m9 d9, .slice C9 k9 e9] 29)).heap.size [(w9).heap.size] := fun b hb => by obtain rfl := List.mem_singleton.1 hb; exact t_box_lt bx10
 have fr_bxa : FreshL (w9).heap.size [(w9).heap.size] := fun b hb => by obtain rfl := List.mem_singleton.1 hb; exact Nat.le_refl _
 have BX_bxa_10 := lH bx10; clear bx10
 have F24_pb_9 := lH (t_box_below F22_pb_8.out hb9)
 clear F22_pb_8
 have F25_pb_10 := lH (t_box_below F24_pb_9.out hb10)
 clear F24_pb_9
 obtain ⟨⟨c26_0, c26_1, c26_2, c26_3⟩, f26_0, f26_1, f26_2, f26_3⟩ := t_box4 F25_pb_10.out
 go_wp2_with (fail)
 refine (toGraph_law (hb.below hB10) okb).mono ?_
 rintro e w11 ⟨v11, fp11, rfl, o11, fr11, hb11⟩
 have hB11 := below_trans hB10 hb11 hB10.size
 clear c26_0 c26_1 c26_2 c26_3 f26_0 f26_1 f26_2 f26_3
 obtain ⟨A11, n11, c11, B11, m11, d11, C11, k11, e11, rfl⟩ := o11.shape
 have lt_xb := o11.lt
 have hb12 := t_below_alloc (w11) (.cells #[.int .i64 (b).1, .slice A11 n11 c11, .slice B11 m11 d11, .slice C11 k11 e11] 29)
 have hB12 := below_trans hB11 hb12 hB11.size
 have bx12 := heap_alloc_new (w11) (.cells #[.int .i64 (b).1, .slice A11 n11 c11, .slice B11 m11 d11, .slice C11 k11 e11] 29)
 have lt_bxb : LtL ((w11).alloc (.cells #[.int .i64 (b).1, .slice A11 n11 c11, .slice B11 m11 d11, .slice C11 k11 e11] 29)).heap.size [(w11).heap.size] := fun b hb => by obtain rfl := List.mem_singleton.1 hb; exact t_box_lt bx12
 have fr_bxb : FreshL (w11).heap.size [(w11).heap.size] := fun b hb => by obtain rfl := List.mem_singleton.1 hb; exact Nat.le_refl _
 have BX_bxb_12 := lH bx12; clear bx12
 have F27_xa_10 := o9.below hb10
 clear o9
 have F28_xa_11 := F27_xa_10.below hb11
 clear F27_xa_10
 have F29_xa_12 := F28_xa_11.below hb12
 clear F28_xa_11
 have F30_xb_12 := o11.below hb12
 clear o11
 have F31_bxa_11 := lH (t_box_below BX_bxa_10.out hb11)
 clear BX_bxa_10
 have F32_bxa_12 := lH (t_box_below F31_bxa_11.out hb12)
 clear F31_bxa_11
 obtain ⟨⟨c33_0, c33_1, c33_2, c33_3⟩, f33_0, f33_1, f33_2, f33_3⟩ := t_box4 F32_bxa_12.out
 obtain ⟨⟨c34_0, c34_1, c34_2, c34_3⟩, f34_0, f34_1, f34_2, f34_3⟩ := t_box4 BX_bxb_12.out
 go_wp2_with (fail)
 refine (iSameGraphs_law  F29_xa_12.rd F30_xb_12.rd oka okb).mono ?_
 rintro e w13 ⟨rfl, hb13⟩
 have hB13 := below_trans hB12 hb13 hB12.size
 clear c33_0 c33_1 c33_2 c33_3 f33_0 f33_1 f33_2 f33_3 c34_0 c34_1 c34_2 c34_3 f34_0 f34_1 f34_2 f34_3
 have F35_bxa_13 := lH (t_box_below F32_bxa_12.out hb13)
 clear F32_bxa_12
 have F36_pa_9 := lH (t_box_below F21_pa_8.out hb9)
 clear F21_pa_8
 have F37_pa_10 := lH (t_box_below F36_pa_9.out hb10)
 clear F36_pa_9
 have F38_pa_11 := lH (t_box_below F37_pa_10.out hb11)
 clear F37_pa_10
 have F39_pa_12 := lH (t_box_below F38_pa_11.out hb12)
 clear F38_pa_11
 have F40_pa_13 := lH (t_box_below F39_pa_12.out hb13)
 clear F39_pa_12
 have F41_xa_13 := F29_xa_12.below hb13
 clear F29_xa_12
 go_wp2_with (fail)
 refine beginH (fun w' => w'.heap[(w9).heap.size]? = some (.cells #[.int .i64 (a).1, .slice A9 n9 c9, .slice B9 m9 d9, .slice C9 k9 e9] 29) ∧ w'.heap[(w).heap.size]? = some (.cells #[.int .i64 (a).1, .slice Aa na ca, .slice Ba ma da, .slice Ca ka ea] 25)) (by kernel_rfl) ?_
 have hb14 : Below (w13).heap.size (w13) (w13).drew := below_drewN (Below.refl _ _) 1
 have hB14 := below_trans hB13 hb14 hB13.size
 have F43_bxa_14 := lH (t_box_below F35_bxa_13.out hb14)
 clear F35_bxa_13
 have F44_pa_14 := lH (t_box_below F40_pa_13.out hb14)
 clear F40_pa_13
 have F45_xa_14 := F41_xa_13.below hb14
 clear F41_xa_13
 refine tkH 0 ?_ rfl ⟨F43_bxa_14.out, F44_pa_14.out⟩ (fun W' hW' => ?_) ?_; rotate_left; · (obtain ⟨q1, q2⟩ := hW'; obtain ⟨⟨ca0, ca1, ca2, ca3⟩, gca0, gca1, gca2, gca3⟩ := t_box4 q1; obtain ⟨⟨cb0, cb1, cb2, cb3⟩, gcb0, gcb1, gcb2, gcb3⟩ := t_box4 q2; clear q1 q2; go_simp; first | done | with_reducible rfl)
 simp only [Act.put, nS]
 refine tkH 1 ?_ rfl ⟨F43_bxa_14.out, F44_pa_14.out⟩ (fun W' hW' => ?_) ?_; rotate_left; · (obtain ⟨q1, q2⟩ := hW'; obtain ⟨⟨ca0, ca1, ca2, ca3⟩, gca0, gca1, gca2, gca3⟩ := t_box4 q1; obtain ⟨⟨cb0, cb1, cb2, cb3⟩, gcb0, gcb1, gcb2, gcb3⟩ := t_box4 q2; clear q1 q2; go_simp; first | done | with_reducible rfl)
 simp only [Act.put, nS]
 refine' callH 2 (f := _) (args := _) rfl (by kernel_rfl) (by rfl) ?_ ?_; rotate_left 2; · (go_simp; first | done | with_reducible rfl | (constructor <;> with_reducible rfl))
 refine (toGraph_law (ha.below hB14) oka).mono ?_
 rintro e w15 ⟨v15, fp15, rfl, o15, fr15, hb15⟩
 have hB15 := below_trans hB14 hb15 hB14.size
 have F46_bxa_15 := lH (t_box_below F43_bxa_14.out hb15)
 clear F43_bxa_14
 have F47_pa_15 := lH (t_box_below F44_pa_14.out hb15)
 clear F44_pa_14
 have F48_xa_15 := F45_xa_14.below hb15
 clear F45_xa_14
 refine ⟨_, rfl, ⟨F46_bxa_15.out, F47_pa_15.out⟩, ?_⟩
 simp only [Act.put, nS]
 refine' callH 3 (f := _) (args := _) rfl (by kernel_rfl) (by rfl) ?_ ?_; rotate_left 2; · (go_simp; first | done | with_reducible rfl | (constructor <;> with_reducible rfl))
 refine (eqGraph_law F48_xa_15.rd o15.rd oka).mono ?_
 rintro e w16 ⟨rfl, hb16⟩
 have hB16 := below_trans hB15 hb16 hB15.size
 have F49_bxa_16 := lH (t_box_below F46_bxa_15.out hb16)
 clear F46_bxa_15
 have F50_pa_16 := lH (t_box_below F47_pa_15.out hb16)
 clear F47_pa_15
 have F51_xa_16 := F48_xa_15.below hb16
 clear F48_xa_15
 refine ⟨_, rfl, ⟨F49_bxa_16.out, F50_pa_16.out⟩, ?_⟩
 rw [decide_eq_true (rfl : a = a)]
 simp only [Act.put, nS]
 refine takeH 4 (v := .bool false) rfl (by kernel_rfl) (by kernel_rfl) (by kernel_rfl) (fun _ _ _ h => h) ⟨F49_bxa_16.out, F50_pa_16.out⟩ (by rfl) (fun W' hW' => ?_) ?_; · (go_simp; first | done | with_reducible rfl)
 simp only [Act.put, nS]
 refine doneH (by kernel_rfl) ?_
 have F52_bxb_13 := lH (t_box_below BX_bxb_12.out hb13)
 clear BX_bxb_12
 have F53_bxb_14 := lH (t_box_below F52_bxb_13.out hb14)
 clear F52_bxb_13
 have F54_bxb_15 := lH (t_box_below F53_bxb_14.out hb15)
 clear F53_bxb_14
 have F55_bxb_16 := lH (t_box_below F54_bxb_15.out hb16)
 clear F54_bxb_15
 have F56_pb_11 := lH (t_box_below F25_pb_10.out hb11)
 clear F25_pb_10
 have F57_pb_12 := lH (t_box_below F56_pb_11.out hb12)
 clear F56_pb_11
 have F58_pb_13 := lH (t_box_below F57_pb_12.out hb13)
 clear F57_pb_12
 have F59_pb_14 := lH (t_box_below F58_pb_13.out hb14)
 clear F58_pb_13
 have F60_pb_15 := lH (t_box_below F59_pb_14.out hb15)
 clear F59_pb_14
 have F61_pb_16 := lH (t_box_below F60_pb_15.out hb16)
 clear F60_pb_15
 have F62_xb_13 := F30_xb_12.below hb13
 clear F30_xb_12
 have F63_xb_14 := F62_xb_13.below hb14
 clear F62_xb_13
 have F64_xb_15 := F63_xb_14.below hb15
 clear F63_xb_14
 have F65_xb_16 := F64_xb_15.below hb16
 clear F64_xb_15
 go_wp2_with (fail)
 refine beginH (fun w' => w'.heap[(w11).heap.size]? = some (.cells #[.int .i64 (b).1, .slice A11 n11 c11, .slice B11 m11 d11, .slice C11 k11 e11] 29) ∧ w'.heap[(w).heap.size + 1]? = some (.cells #[.int .i64 (b).1, .slice Ab nb cb, .slice Bb mb db, .slice Cb kb eb] 25)) (by kernel_rfl) ?_
 have hb17 : Below (w16).heap.size (w16) (w16).drew := below_drewN (Below.refl _ _) 1
 have hB17 := below_trans hB16 hb17 hB16.size
 have F67_bxb_17 := lH (t_box_below F55_bxb_16.out hb17)
 clear F55_bxb_16
 have F68_pb_17 := lH (t_box_below F61_pb_16.out hb17)
 clear F61_pb_16
 have F69_xb_17 := F65_xb_16.below hb17
 clear F65_xb_16
 refine tkH 0 ?_ rfl ⟨F67_bxb_17.out, F68_pb_17.out⟩ (fun W' hW' => ?_) ?_; rotate_left; · (obtain ⟨q1, q2⟩ := hW'; obtain ⟨⟨ca0, ca1, ca2, ca3⟩, gca0, gca1, gca2, gca3⟩ := t_box4 q1; obtain ⟨⟨cb0, cb1, cb2, cb3⟩, gcb0, gcb1, gcb2, gcb3⟩ := t_box4 q2; clear q1 q2; go_simp; first | done | with_reducible rfl)
 simp only [Act.put, nS]
 refine tkH 1 ?_ rfl ⟨F67_bxb_17.out, F68_pb_17.out⟩ (fun W' hW' => ?_) ?_; rotate_left; · (obtain ⟨q1, q2⟩ := hW'; obtain ⟨⟨ca0, ca1, ca2, ca3⟩, gca0, gca1, gca2, gca3⟩ := t_box4 q1; obtain ⟨⟨cb0, cb1, cb2, cb3⟩, gcb0, gcb1, gcb2, gcb3⟩ := t_box4 q2; clear q1 q2; go_simp; first | done | with_reducible rfl)
 simp only [Act.put, nS]
 refine' callH 2 (f := _) (args := _) rfl (by kernel_rfl) (by rfl) ?_ ?_; rotate_left 2; · (go_simp; first | done | with_reducible rfl | (constructor <;> with_reducible rfl))
 refine (toGraph_law (hb.below hB17) okb).mono ?_
 rintro e w18 ⟨v18, fp18, rfl, o18, fr18, hb18⟩
 have hB18 := below_trans hB17 hb18 hB17.size
 have F70_bxb_18 := lH (t_box_below F67_bxb_17.out hb18)
 clear F67_bxb_17
 have F71_pb_18 := lH (t_box_below F68_pb_17.out hb18)
 clear F68_pb_17
 have F72_xb_18 := F69_xb_17.below hb18
 clear F69_xb_17
 refine ⟨_, rfl, ⟨F70_bxb_18.out, F71_pb_18.out⟩, ?_⟩
 simp only [Act.put, nS]
 refine' callH 3 (f := _) (args := _) rfl (by kernel_rfl) (by rfl) ?_ ?_; rotate_left 2; · (go_simp; first | done | with_reducible rfl | (constructor <;> with_reducible rfl))
 refine (eqGraph_law F72_xb_18.rd o18.rd okb).mono ?_
 rintro e w19 ⟨rfl, hb19⟩
 have hB19 := below_trans hB18 hb19 hB18.size
 have F73_bxb_19 := lH (t_box_below F70_bxb_18.out hb19)
 clear F70_bxb_18
 have F74_pb_19 := lH (t_box_below F71_pb_18.out hb19)
 clear F71_pb_18
 have F75_xb_19 := F72_xb_18.below hb19
 clear F72_xb_18
 refine ⟨_, rfl, ⟨F73_bxb_19.out, F74_pb_19.out⟩, ?_⟩
 rw [decide_eq_true (rfl : b = b)]
 simp only [Act.put, nS]
 refine takeH 4 (v := .bool false) rfl (by kernel_rfl) (by kernel_rfl) (by kernel_rfl) (fun _ _ _ h => h) ⟨F73_bxb_19.out, F74_pb_19.out⟩ (by rfl) (fun W' hW' => ?_) ?_; · (go_simp; first | done | with_reducible rfl)
 simp only [Act.put, nS]
 refine doneH (by kernel_rfl) ?_
 go_wp2_with (fail)
 go_ret
 exact ⟨rfl, hB19⟩
theorem readSameGraphs : ∀ t ∈ Tryz.f4.params.toList, Tryz.prog.readableRec t = true ∧ t < Tryz.prog.types.size := by
 rw [Tryz.params4]
 intro t ht
 have ht' : t ∈ ([25, 25] : List TypeId) := ht
 rcases List.mem_cons.1 ht' with rfl | ht'
 · exact ⟨by kernel_rfl, of_decide_eq_true (by kernel_rfl)⟩
 rcases List.mem_cons.1 ht' with rfl | ht'
 · exact ⟨by kernel_rfl, of_decide_eq_true (by kernel_rfl)⟩
 cases ht'
set_option maxRecDepth 100000 in
theorem liftedSameGraphs (os : Os) (started : os.Started) (H : Type) (enc : TypeId × Value → H) :
  ReturnsInHanded {} Tryz.checked os 4 .any (Rows.fnExactSameGraphsSpec.pre6 enc Tryz.prog Tryz.f4 Rows.fnExactSameGraphsRow.domain false) (Rows.fnExactSameGraphsSpec.post enc Tryz.prog Tryz.f4 false true false false) := by
 refine returnsInHanded_of_change (C := Tryz.checked) own started (by kernel_rfl) Tryz.func4
  (ChangeSpec.witness6 (enc := enc) (C := Tryz.checked) false ⟨#[], #[.agg #[.int .i64 0, .slice none 0 0, .slice none 0 0, .slice none 0 0], .agg #[.int .i64 0, .slice none 0 0, .slice none 0 0, .slice none 0 0]], []⟩ 8 (by kernel_rfl) (by kernel_rfl) (by kernel_rfl) (by kernel_rfl)) ?_
 intro W base args ds gs before hval0 hW hcnd _
 have hval : ∀ (j : Nat) t v, Tryz.f4.params[j]? = some t → args[j]? = some v → Value.okWide Tryz.prog W .any base t v := hval0
 have hW' := hW
 obtain ⟨p, q, hA0, hV, rfl, hfz, hnd⟩ := hW
 have hA : DataW.TrodAll enc Tryz.prog W 0 (fun _ => true) true Tryz.f4.params.toList args.toList ds p := hA0
 rw [Tryz.params4] at hA hval
 obtain ⟨v0, vs0, d0, ds0, p0, q0, hargs, rfl, rfl, t0, r0⟩ := trodAll_cons hA
 obtain ⟨v1, vs1, d1, ds1, p1, q1, rfl, rfl, rfl, t1, r1⟩ := trodAll_cons r0
 obtain ⟨rfl, rfl, rfl⟩ := trodAll_nil r1
 obtain rfl : args = #[v0, v1] := by cases args; simp_all
 obtain ⟨rfl, rfl⟩ := trodVars_none hV
 obtain ⟨m0, hl0, hg0⟩ := in_Graph (hval 0 _ v0 rfl rfl) t0
 obtain ⟨m1, hl1, hg1⟩ := in_Graph (hval 1 _ v1 rfl rfl) t1
 clear hA0 hval0
 refine (lawSameGraphs_any v0 m0 v1 m1 W hl0 hg0 hl1 hg1 ).mono fun e W' ⟨he, hb⟩ => ?_
 subst he
 exact ⟨_, rfl, post_true laidOut hW' hb readSameGraphs (fun n hn => by cases hn) rfl rfl Tryz.underlying4⟩
theorem provedSameGraphs : Rows.FnExactSameGraphsSaid :=
 OpenClaim.holds_of_wide 4 Tryz.f4 rfl rfl rfl rfl rfl rfl rfl ⟨rfl, rfl, rfl, rfl, rfl⟩ rfl rfl rfl rfl rfl (by kernel_rfl) Tryz.func4 (by kernel_rfl)
  (of_decide_eq_true (by kernel_rfl)) (by unfold Func.isWrapper; first | (rw [if_pos (by decide +kernel)]; kernel_rfl) | (rw [if_neg (by decide +kernel)]; exact ⟨rfl, rfl⟩))
  (fun os started H enc _ => liftedSameGraphs os started H enc)
#print axioms provedSameGraphs
end Go.Proofs.YtjompikdkhhlgaaGreat
