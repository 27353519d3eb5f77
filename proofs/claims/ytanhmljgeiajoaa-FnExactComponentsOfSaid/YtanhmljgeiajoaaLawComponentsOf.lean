/-
  The program's ComponentsOf returns what the reference's returns, for all arguments (laws.FnExactComponentsOf answers true). No condition.
-/
import Derived.Test.YtanhmljgeiajoaaGrCe
import Derived.Test.YtanhmljgeiajoaaRegH
import Derived.Test.YtanhmljgeiajoaaFrameP
import Derived.Test.YtanhmljgeiajoaaGrSz
import Derived.Test.YtanhmljgeiajoaaGrLaw
import Derived.Test.YtanhmljgeiajoaaLawI
namespace Go.Proofs.Ytanhmljgeiajoaa
open Go.ChangeShapes Go.WideShapes Go.ChangeAt Go.RowKit

set_option maxHeartbeats 40000000 in
set_option maxRecDepth 100000 in
theorem lawComponentsOf_any (vg : Value) (g : Gr) (w : World) (hg : RdGr w vg g) (hgg : BigGraph g) :
    Calls Try.prog 3 #[vg] w fun e w' => e = .returned (.bool true) ∧ Below w.heap.size w w' := by
  obtain ⟨Ag, ng, cg, Bg, mg, dg, Cg, kg, eg, rfl⟩ := hg.shape
  obtain ⟨Sg, hSg⟩ : ∃ S, S = szG (g) 1048576 := ⟨_, rfl⟩
  have HSg := Lib.hid hSg
  clear hSg
  have hB0 : Below w.heap.size w w := Below.refl _ _
  have hb1 := below_alloc (w) (.cells #[.int .i64 (g).1, .slice Ag ng cg, .slice Bg mg dg, .slice Cg kg eg] 25)
  have hB1 := below_trans hB0 hb1 hB0.size
  have bx1 := heap_alloc_new (w) (.cells #[.int .i64 (g).1, .slice Ag ng cg, .slice Bg mg dg, .slice Cg kg eg] 25)
  have lt_pg : LtL ((w).alloc (.cells #[.int .i64 (g).1, .slice Ag ng cg, .slice Bg mg dg, .slice Cg kg eg] 25)).heap.size [(w).heap.size] := fun b hb => by obtain rfl := List.mem_singleton.1 hb; exact box_lt bx1
  have fr_pg : FreshL (w).heap.size [(w).heap.size] := fun b hb => by obtain rfl := List.mem_singleton.1 hb; exact Nat.le_refl _
  have BX_pg_1 := Lib.hid bx1
  clear bx1
  by_cases negg : Sg < 0
  case pos =>
    go_enter Try.func3, Try.ntmps3
    obtain ⟨⟨c1_0, c1_1, c1_2, c1_3⟩, f1_0, f1_1, f1_2, f1_3⟩ := box4 BX_pg_1.out
    go_wp2_with (fail)
    refine (szGraph_law 1048576 (hg.below hB1) hgg (by omega) (by omega)).mono ?_
    rintro e w2 ⟨he2, hb2⟩
    have hB2 := below_trans hB1 hb2 hB1.size
    clear c1_0 c1_1 c1_2 c1_3 f1_0 f1_1 f1_2 f1_3
    rw [← HSg.out] at he2
    subst he2
    go_wp2_with (fail)
    go_ret
    exact ⟨rfl, hB2⟩
  have sokg := szG_ok (by rw [← HSg.out]; omega : 0 ≤ szG (g) 1048576) (by omega)
  have okg := sokg.1
  have sleg : Sg ≤ 1048576 := by rw [HSg.out]; exact sokg.2
  clear sokg
  go_enter Try.func3, Try.ntmps3
  obtain ⟨⟨c2_0, c2_1, c2_2, c2_3⟩, f2_0, f2_1, f2_2, f2_3⟩ := box4 BX_pg_1.out
  go_wp2_with (fail)
  refine (szGraph_law 1048576 (hg.below hB1) hgg (by omega) (by omega)).mono ?_
  rintro e w2 ⟨he2, hb2⟩
  have hB2 := below_trans hB1 hb2 hB1.size
  clear c2_0 c2_1 c2_2 c2_3 f2_0 f2_1 f2_2 f2_3
  rw [← HSg.out] at he2
  subst he2
  have F3_pg_2 := Lib.hid (box_below BX_pg_1.out hb2)
  clear BX_pg_1
  obtain ⟨⟨c4_0, c4_1, c4_2, c4_3⟩, f4_0, f4_1, f4_2, f4_3⟩ := box4 F3_pg_2.out
  go_wp2_with (fail)
  refine (toGraph_law (hg.below hB2) okg).mono ?_
  rintro e w3 ⟨v3, fp3, rfl, o3, fr3, hb3⟩
  have hB3 := below_trans hB2 hb3 hB2.size
  clear c4_0 c4_1 c4_2 c4_3 f4_0 f4_1 f4_2 f4_3
  obtain ⟨A3, n3, c3, B3, m3, d3, C3, k3, e3, rfl⟩ := o3.shape
  have lt_ag := o3.lt
  go_wp2_with (fail)
  refine (sComponentsOf_law  o3.rd okg).mono ?_
  rintro e w4 ⟨v4_0, fp4_0, rfl, o4r0, fr4_0, hb4⟩
  have hB4 := below_trans hB3 hb4 hB3.size
  have lt_W0 := o4r0.lt
  have F5_pg_3 := Lib.hid (box_below F3_pg_2.out hb3)
  clear F3_pg_2
  have F6_pg_4 := Lib.hid (box_below F5_pg_3.out hb4)
  clear F5_pg_3
  obtain ⟨⟨c7_0, c7_1, c7_2, c7_3⟩, f7_0, f7_1, f7_2, f7_3⟩ := box4 F6_pg_4.out
  go_wp2_with (fail)
  refine (toGraph_law (hg.below hB4) okg).mono ?_
  rintro e w5 ⟨v5, fp5, rfl, o5, fr5, hb5⟩
  have hB5 := below_trans hB4 hb5 hB4.size
  clear c7_0 c7_1 c7_2 c7_3 f7_0 f7_1 f7_2 f7_3
  obtain ⟨A5, n5, c5, B5, m5, d5, C5, k5, e5, rfl⟩ := o5.shape
  have lt_xg := o5.lt
  have hb6 := below_alloc (w5) (.cells #[.int .i64 (g).1, .slice A5 n5 c5, .slice B5 m5 d5, .slice C5 k5 e5] 31)
  have hB6 := below_trans hB5 hb6 hB5.size
  have bx6 := heap_alloc_new (w5) (.cells #[.int .i64 (g).1, .slice A5 n5 c5, .slice B5 m5 d5, .slice C5 k5 e5] 31)
  have lt_bxg : LtL ((w5).alloc (.cells #[.int .i64 (g).1, .slice A5 n5 c5, .slice B5 m5 d5, .slice C5 k5 e5] 31)).heap.size [(w5).heap.size] := fun b hb => by obtain rfl := List.mem_singleton.1 hb; exact box_lt bx6
  have fr_bxg : FreshL (w5).heap.size [(w5).heap.size] := fun b hb => by obtain rfl := List.mem_singleton.1 hb; exact Nat.le_refl _
  have BX_bxg_6 := Lib.hid bx6
  clear bx6
  have F8_xg_6 := o5.below hb6
  clear o5
  obtain ⟨⟨c9_0, c9_1, c9_2, c9_3⟩, f9_0, f9_1, f9_2, f9_3⟩ := box4 BX_bxg_6.out
  go_wp2_with (fail)
  refine (iComponentsOf_law  F8_xg_6.rd okg).mono ?_
  rintro e w7 ⟨v7_0, fp7_0, rfl, o7r0, fr7_0, hb7⟩
  have hB7 := below_trans hB6 hb7 hB6.size
  clear c9_0 c9_1 c9_2 c9_3 f9_0 f9_1 f9_2 f9_3
  have lt_G0 := o7r0.lt
  have F10_W0_5 := o4r0.below hb5
  clear o4r0
  have F11_W0_6 := F10_W0_5.below hb6
  clear F10_W0_5
  have F12_W0_7 := F11_W0_6.below hb7
  clear F11_W0_6
  go_wp2_with (fail)
  refine (eqI_law o7r0.rd F12_W0_7.rd (by have := cpM_le g; omega)).mono ?_
  rintro e w8 ⟨rfl, hb8⟩
  have hB8 := below_trans hB7 hb8 hB7.size
  rw [decide_eq_true (rfl : (cpM g).1 = (cpM g).1)]
  have F13_bxg_7 := Lib.hid (box_below BX_bxg_6.out hb7)
  clear BX_bxg_6
  have F14_bxg_8 := Lib.hid (box_below F13_bxg_7.out hb8)
  clear F13_bxg_7
  have F15_pg_5 := Lib.hid (box_below F6_pg_4.out hb5)
  clear F6_pg_4
  have F16_pg_6 := Lib.hid (box_below F15_pg_5.out hb6)
  clear F15_pg_5
  have F17_pg_7 := Lib.hid (box_below F16_pg_6.out hb7)
  clear F16_pg_6
  have F18_pg_8 := Lib.hid (box_below F17_pg_7.out hb8)
  clear F17_pg_7
  have F19_xg_7 := F8_xg_6.below hb7
  clear F8_xg_6
  have F20_xg_8 := F19_xg_7.below hb8
  clear F19_xg_7
  go_wp2_with (fail)
  refine beginH (fun w' => w'.heap[(w5).heap.size]? = some (.cells #[.int .i64 (g).1, .slice A5 n5 c5, .slice B5 m5 d5, .slice C5 k5 e5] 31) ∧ w'.heap[(w).heap.size]? = some (.cells #[.int .i64 (g).1, .slice Ag ng cg, .slice Bg mg dg, .slice Cg kg eg] 25)) (by kernel_rfl) ?_
  have hb9 : Below (w8).heap.size (w8) (w8).drew := below_drewN (Below.refl _ _) 1
  have hB9 := below_trans hB8 hb9 hB8.size
  have F22_bxg_9 := Lib.hid (box_below F14_bxg_8.out hb9)
  clear F14_bxg_8
  have F23_pg_9 := Lib.hid (box_below F18_pg_8.out hb9)
  clear F18_pg_8
  have F24_xg_9 := F20_xg_8.below hb9
  clear F20_xg_8
  refine takeH 0 (v := ?_) rfl (by kernel_rfl) (by kernel_rfl) (by kernel_rfl) (fun _ _ _ h => h) ⟨F22_bxg_9.out, F23_pg_9.out⟩ (by rfl) (fun W' hW' => ?_) ?_; rotate_left; · (obtain ⟨q1, q2⟩ := hW'; obtain ⟨⟨ca0, ca1, ca2, ca3⟩, gca0, gca1, gca2, gca3⟩ := box4 q1; obtain ⟨⟨cb0, cb1, cb2, cb3⟩, gcb0, gcb1, gcb2, gcb3⟩ := box4 q2; clear q1 q2; go_simp; first | done | with_reducible rfl)
  simp only [Act.put, List.setIfInBounds_toArray, List.set_cons_zero, List.set_cons_succ]
  refine takeH 1 (v := ?_) rfl (by kernel_rfl) (by kernel_rfl) (by kernel_rfl) (fun _ _ _ h => h) ⟨F22_bxg_9.out, F23_pg_9.out⟩ (by rfl) (fun W' hW' => ?_) ?_; rotate_left; · (obtain ⟨q1, q2⟩ := hW'; obtain ⟨⟨ca0, ca1, ca2, ca3⟩, gca0, gca1, gca2, gca3⟩ := box4 q1; obtain ⟨⟨cb0, cb1, cb2, cb3⟩, gcb0, gcb1, gcb2, gcb3⟩ := box4 q2; clear q1 q2; go_simp; first | done | with_reducible rfl)
  simp only [Act.put, List.setIfInBounds_toArray, List.set_cons_zero, List.set_cons_succ]
  refine' callH 2 (f := _) (args := _) rfl (by kernel_rfl) (by rfl) ?_ ?_; rotate_left 2; · (go_simp; first | done | with_reducible rfl | (constructor <;> with_reducible rfl))
  refine (toGraph_law (hg.below hB9) okg).mono ?_
  rintro e w10 ⟨v10, fp10, rfl, o10, fr10, hb10⟩
  have hB10 := below_trans hB9 hb10 hB9.size
  have F25_bxg_10 := Lib.hid (box_below F22_bxg_9.out hb10)
  clear F22_bxg_9
  have F26_pg_10 := Lib.hid (box_below F23_pg_9.out hb10)
  clear F23_pg_9
  have F27_xg_10 := F24_xg_9.below hb10
  clear F24_xg_9
  refine ⟨_, rfl, ⟨F25_bxg_10.out, F26_pg_10.out⟩, ?_⟩
  simp only [Act.put, List.setIfInBounds_toArray, List.set_cons_zero, List.set_cons_succ]
  refine' callH 3 (f := _) (args := _) rfl (by kernel_rfl) (by rfl) ?_ ?_; rotate_left 2; · (go_simp; first | done | with_reducible rfl | (constructor <;> with_reducible rfl))
  refine (eqGraph_law F27_xg_10.rd o10.rd okg).mono ?_
  rintro e w11 ⟨rfl, hb11⟩
  have hB11 := below_trans hB10 hb11 hB10.size
  have F28_bxg_11 := Lib.hid (box_below F25_bxg_10.out hb11)
  clear F25_bxg_10
  have F29_pg_11 := Lib.hid (box_below F26_pg_10.out hb11)
  clear F26_pg_10
  have F30_xg_11 := F27_xg_10.below hb11
  clear F27_xg_10
  refine ⟨_, rfl, ⟨F28_bxg_11.out, F29_pg_11.out⟩, ?_⟩
  rw [decide_eq_true (rfl : g = g)]
  simp only [Act.put, List.setIfInBounds_toArray, List.set_cons_zero, List.set_cons_succ]
  refine takeH 4 (v := .bool false) rfl (by kernel_rfl) (by kernel_rfl) (by kernel_rfl) (fun _ _ _ h => h) ⟨F28_bxg_11.out, F29_pg_11.out⟩ (by rfl) (fun W' hW' => ?_) ?_; · (go_simp; first | done | with_reducible rfl)
  simp only [Act.put, List.setIfInBounds_toArray, List.set_cons_zero, List.set_cons_succ]
  refine doneH (by kernel_rfl) ?_
  obtain ⟨⟨c31_0, c31_1, c31_2, c31_3⟩, f31_0, f31_1, f31_2, f31_3⟩ := box4 F28_bxg_11.out
  go_wp2_with (fail)
  refine (markGraph_law (1) F30_xg_11 (by omega) okg (by have := okg.2.2; constructor <;> omega)).mono ?_
  rintro e w12 ⟨rfl, he12, hk12⟩
  have hB12 := below_keeps hB11 hk12 hB11.size (fun b hb => Nat.le_trans hB4.size (fr5 b hb))
  clear c31_0 c31_1 c31_2 c31_3 f31_0 f31_1 f31_2 f31_3
  have F32_G0_8 := o7r0.below hb8
  clear o7r0
  have F33_G0_9 := F32_G0_8.below hb9
  clear F32_G0_8
  have F34_G0_10 := F33_G0_9.below hb10
  clear F33_G0_9
  have F35_G0_11 := F34_G0_10.below hb11
  clear F34_G0_10
  have F36_G0_12 := F35_G0_11.keeps hk12 (apart_of' lt_xg (fr7_0.mono (Nat.le_trans (Nat.le_refl _) hb6.size)))
  clear F35_G0_11
  have F37_W0_8 := F12_W0_7.below hb8
  clear F12_W0_7
  have F38_W0_9 := F37_W0_8.below hb9
  clear F37_W0_8
  have F39_W0_10 := F38_W0_9.below hb10
  clear F38_W0_9
  have F40_W0_11 := F39_W0_10.below hb11
  clear F39_W0_10
  have F41_W0_12 := F40_W0_11.keeps hk12 (apart_of lt_W0 (fr5))
  clear F40_W0_11
  go_wp2_with (fail)
  refine (eqI_law F36_G0_12.rd F41_W0_12.rd (by have := cpM_le g; omega)).mono ?_
  rintro e w13 ⟨rfl, hb13⟩
  have hB13 := below_trans hB12 hb13 hB12.size
  rw [decide_eq_true (rfl : (cpM g).1 = (cpM g).1)]
  have F42_G0_13 := F36_G0_12.below hb13
  clear F36_G0_12
  go_wp2_with (fail)
  refine (markI_law (1) F42_G0_13 (by omega) (by have := cpM_le g; omega)).mono ?_
  rintro e w14 ⟨rfl, he14, hk14⟩
  have hB14 := below_keeps hB13 hk14 hB13.size (fun b hb => Nat.le_trans hB6.size (fr7_0 b hb))
  go_wp2_with (fail)
  refine (heldI_law he14 (by omega) (by have := cpM_le g; omega)).mono ?_
  rintro e w15 ⟨rfl, hb15⟩
  have hB15 := below_trans hB14 hb15 hB14.size
  have F43_pg_12 := Lib.hid (box_keeps F29_pg_11.out hk12 (fun hh => (apart_of lt_pg (fr5.mono (Nat.le_trans (Nat.le_trans (Nat.le_trans (Nat.le_refl _) hb2.size) hb3.size) hb4.size))) _ (List.mem_singleton.2 rfl) hh))
  clear F29_pg_11
  have F44_pg_13 := Lib.hid (box_below F43_pg_12.out hb13)
  clear F43_pg_12
  have F45_pg_14 := Lib.hid (box_keeps F44_pg_13.out hk14 (fun hh => (apart_of lt_pg (fr7_0.mono (Nat.le_trans (Nat.le_trans (Nat.le_trans (Nat.le_trans (Nat.le_trans (Nat.le_refl _) hb2.size) hb3.size) hb4.size) hb5.size) hb6.size))) _ (List.mem_singleton.2 rfl) hh))
  clear F44_pg_13
  have F46_pg_15 := Lib.hid (box_below F45_pg_14.out hb15)
  clear F45_pg_14
  obtain ⟨⟨c47_0, c47_1, c47_2, c47_3⟩, f47_0, f47_1, f47_2, f47_3⟩ := box4 F46_pg_15.out
  go_wp2_with (fail)
  refine (toGraph_law (hg.below hB15) okg).mono ?_
  rintro e w16 ⟨v16, fp16, rfl, o16, fr16, hb16⟩
  have hB16 := below_trans hB15 hb16 hB15.size
  clear c47_0 c47_1 c47_2 c47_3 f47_0 f47_1 f47_2 f47_3
  obtain ⟨A16, n16, c16, B16, m16, d16, C16, k16, e16, rfl⟩ := o16.shape
  have lt_yg := o16.lt
  go_wp2_with (fail)
  refine (iComponentsOf_law  o16.rd okg).mono ?_
  rintro e w17 ⟨v17_0, fp17_0, rfl, o17r0, fr17_0, hb17⟩
  have hB17 := below_trans hB16 hb17 hB16.size
  have lt_H0 := o17r0.lt
  have F48_W0_13 := F41_W0_12.below hb13
  clear F41_W0_12
  have F49_W0_14 := F48_W0_13.keeps hk14 (apart_of lt_W0 (fr7_0.mono (Nat.le_trans (Nat.le_trans (Nat.le_refl _) hb5.size) hb6.size)))
  clear F48_W0_13
  have F50_W0_15 := F49_W0_14.below hb15
  clear F49_W0_14
  have F51_W0_16 := F50_W0_15.below hb16
  clear F50_W0_15
  have F52_W0_17 := F51_W0_16.below hb17
  clear F51_W0_16
  go_wp2_with (fail)
  refine (eqI_law o17r0.rd F52_W0_17.rd (by have := cpM_le g; omega)).mono ?_
  rintro e w18 ⟨rfl, hb18⟩
  have hB18 := below_trans hB17 hb18 hB17.size
  rw [decide_eq_true (rfl : (cpM g).1 = (cpM g).1)]
  have F53_G0_15 := he14.below hb15
  clear he14
  have F54_G0_16 := F53_G0_15.below hb16
  clear F53_G0_15
  have F55_G0_17 := F54_G0_16.below hb17
  clear F54_G0_16
  have F56_G0_18 := F55_G0_17.below hb18
  clear F55_G0_17
  go_wp2_with (fail)
  refine (heldI_law F56_G0_18 (by omega) (by have := cpM_le g; omega)).mono ?_
  rintro e w19 ⟨rfl, hb19⟩
  have hB19 := below_trans hB18 hb19 hB18.size
  go_wp2_with (fail)
  go_ret
  exact ⟨rfl, hB19⟩

theorem readComponentsOf : ∀ t ∈ Try.f3.params.toList, Try.prog.readableRec t = true ∧ t < Try.prog.types.size := by
  rw [Try.params3]
  intro t ht
  have ht' : t ∈ ([25] : List TypeId) := ht
  rcases List.mem_cons.1 ht' with rfl | ht'
  · exact ⟨by kernel_rfl, of_decide_eq_true (by kernel_rfl)⟩
  cases ht'
set_option maxRecDepth 100000 in
theorem liftedComponentsOf (os : Os) (started : os.Started) (H : Type) (enc : TypeId × Value → H) :
    ReturnsInHanded {} Try.checked os 3 .any (Rows.fnExactComponentsOfSpec.pre6 enc Try.prog Try.f3 Rows.fnExactComponentsOfRow.domain false) (Rows.fnExactComponentsOfSpec.post enc Try.prog Try.f3 false true false false) := by
  refine returnsInHanded_of_change (C := Try.checked) own started (by kernel_rfl) Try.func3
    (ChangeSpec.witness6 (enc := enc) (C := Try.checked) false ⟨#[], #[.agg #[.int .i64 0, .slice none 0 0, .slice none 0 0, .slice none 0 0]], []⟩ 8 (by kernel_rfl) (by kernel_rfl) (by kernel_rfl) (by kernel_rfl)) ?_
  intro W base args ds gs before hval0 hW hcnd _
  have hval : ∀ (j : Nat) t v, Try.f3.params[j]? = some t → args[j]? = some v → Value.okWide Try.prog W .any base t v := hval0
  have hW' := hW
  obtain ⟨p, q, hA0, hV, rfl, hfz, hnd⟩ := hW
  have hA : DataW.TrodAll enc Try.prog W 0 (fun _ => true) true Try.f3.params.toList args.toList ds p := hA0
  rw [Try.params3] at hA hval
  obtain ⟨v0, vs0, d0, ds0, p0, q0, hargs, rfl, rfl, t0, r0⟩ := trodAll_cons hA
  obtain ⟨rfl, rfl, rfl⟩ := trodAll_nil r0
  obtain rfl : args = #[v0] := by cases args; simp_all
  obtain ⟨rfl, rfl⟩ := trodVars_none hV
  obtain ⟨m0, hl0, hg0⟩ := in_Graph (hval 0 _ v0 rfl rfl) t0
  clear hA0 hval0
  refine (lawComponentsOf_any v0 m0 W hl0 hg0 ).mono fun e W' ⟨he, hb⟩ => ?_
  subst he
  exact ⟨_, rfl, post_true laidOut hW' hb readComponentsOf (fun n hn => by cases hn) rfl rfl Try.underlying4⟩
theorem provedComponentsOf : Rows.FnExactComponentsOfSaid :=
  OpenClaim.holds_of_wide 3 Try.f3 rfl rfl rfl rfl rfl rfl rfl ⟨rfl, rfl, rfl, rfl, rfl⟩ rfl rfl rfl rfl rfl (by kernel_rfl) Try.func3 (by kernel_rfl)
    (of_decide_eq_true (by kernel_rfl)) (by unfold Func.isWrapper; first | (rw [if_pos (by decide +kernel)]; kernel_rfl) | (rw [if_neg (by decide +kernel)]; exact ⟨rfl, rfl⟩))
    (fun os started H enc _ => liftedComponentsOf os started H enc)
#print axioms provedComponentsOf
end Go.Proofs.Ytanhmljgeiajoaa
