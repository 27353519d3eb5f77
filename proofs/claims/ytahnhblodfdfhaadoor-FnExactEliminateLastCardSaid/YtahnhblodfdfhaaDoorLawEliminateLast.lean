/-
  The program's EliminateLast returns what the reference's returns, for all arguments (laws.FnExactEliminateLast answers true): the tied card.
-/
import Derived.Test.YtahnhblodfdfhaaDoorElimC
import Derived.Test.YtahnhblodfdfhaaDoorRegH
import Derived.Test.YtahnhblodfdfhaaDoorFrame
import Derived.Test.YtahnhblodfdfhaaDoorKSystemIn
import Derived.Test.YtahnhblodfdfhaaDoorKSystem
namespace Go.Proofs.YtahnhblodfdfhaaDoor
open Go.ChangeShapes Go.WideShapes Go.ChangeAt Go.RowKit

set_option maxHeartbeats 4000000 in
set_option maxRecDepth 100000 in
theorem lawEliminateLast_any (p : Int) (vs : Value) (s : Sys) (w : World) (hs : RdSysV w vs s) (hgs : BigSystem s) (_lop : -9223372036854775808 ≤ p) (_hip : p ≤ 9223372036854775807) (hT : Tab w) :
    Calls Tryd.prog 3 #[.int .i64 p, vs] w fun e w' => e = .returned (.bool true) ∧ Below w.heap.size w w' := by
  obtain ⟨As, ns, cs, rfl⟩ := hs.shape
  obtain ⟨Ss, hSs⟩ : ∃ S, S = szR (s).2.2 1048576 := ⟨_, rfl⟩
  have HSs := Lib.hid hSs
  clear hSs
  have hB0 : Below w.heap.size w w := Below.refl _ _
  have hb1 := below_alloc (w) (.cells #[.int .i64 (s).1, .int .i64 (s).2.1, .slice As ns cs] 24)
  have hB1 := below_trans hB0 hb1 hB0.size
  have bx1 := heap_alloc_new (w) (.cells #[.int .i64 (s).1, .int .i64 (s).2.1, .slice As ns cs] 24)
  have lt_ps : LtL ((w).alloc (.cells #[.int .i64 (s).1, .int .i64 (s).2.1, .slice As ns cs] 24)).heap.size [(w).heap.size] := fun b hb => by obtain rfl := List.mem_singleton.1 hb; exact box_lt bx1
  have fr_ps : FreshL (w).heap.size [(w).heap.size] := fun b hb => by obtain rfl := List.mem_singleton.1 hb; exact Nat.le_refl _
  have BX_ps_1 := Lib.hid bx1
  clear bx1
  by_cases negs : Ss < 0
  case pos =>
    go_enter Tryd.func3, Tryd.ntmps3
    obtain ⟨⟨c1_0, c1_1, c1_2⟩, f1_0, f1_1, f1_2⟩ := box3 BX_ps_1.out
    go_wp2_with (fail)
    refine (szSystem_law 1048576 (hs.below hB1) hgs (by omega) (by omega)).mono ?_
    rintro e w2 ⟨he2, hb2⟩
    have hB2 := below_trans hB1 hb2 hB1.size
    clear c1_0 c1_1 c1_2 f1_0 f1_1 f1_2
    rw [← HSs.out] at he2
    subst he2
    go_wp2_with (fail)
    go_ret
    exact ⟨rfl, hB2⟩
  have soks := szR_ok (by rw [← HSs.out]; omega : 0 ≤ szR (s).2.2 1048576) (by omega)
  have oks := soks.1
  have sles : Ss ≤ 1048576 := by rw [HSs.out]; exact soks.2
  clear soks
  go_enter Tryd.func3, Tryd.ntmps3
  obtain ⟨⟨c2_0, c2_1, c2_2⟩, f2_0, f2_1, f2_2⟩ := box3 BX_ps_1.out
  go_wp2_with (fail)
  refine (szSystem_law 1048576 (hs.below hB1) hgs (by omega) (by omega)).mono ?_
  rintro e w2 ⟨he2, hb2⟩
  have hB2 := below_trans hB1 hb2 hB1.size
  clear c2_0 c2_1 c2_2 f2_0 f2_1 f2_2
  rw [← HSs.out] at he2
  subst he2
  have F3_ps_2 := Lib.hid (box_below BX_ps_1.out hb2)
  clear BX_ps_1
  obtain ⟨⟨c4_0, c4_1, c4_2⟩, f4_0, f4_1, f4_2⟩ := box3 F3_ps_2.out
  go_wp2_with (fail)
  refine (toSystem_law (hs.below hB2) oks).mono ?_
  rintro e w3 ⟨v3, fp3, rfl, o3, fr3, hb3⟩
  have hB3 := below_trans hB2 hb3 hB2.size
  clear c4_0 c4_1 c4_2 f4_0 f4_1 f4_2
  obtain ⟨A3, n3, c3, rfl⟩ := o3.shape
  have lt_as := o3.lt
  go_wp2_with (fail)
  refine (sEliminateLast_law p o3 oks).mono ?_
  rintro e w4 ⟨v4_0, fp4_0, rfl, o4r0, fr4_0, hb4⟩
  have hB4 := below_trans hB3 hb4 hB3.size
  obtain ⟨A4_0, n4_0, c4_0, rfl⟩ := o4r0.shape
  have lt_W0 := o4r0.lt
  have hb5 := below_alloc (w4) (.cells #[.int .i64 ((elM p s).1).1, .int .i64 ((elM p s).1).2.1, .slice A4_0 n4_0 c4_0] 26)
  have hB5 := below_trans hB4 hb5 hB4.size
  have bx5 := heap_alloc_new (w4) (.cells #[.int .i64 ((elM p s).1).1, .int .i64 ((elM p s).1).2.1, .slice A4_0 n4_0 c4_0] 26)
  have lt_bW0 : LtL ((w4).alloc (.cells #[.int .i64 ((elM p s).1).1, .int .i64 ((elM p s).1).2.1, .slice A4_0 n4_0 c4_0] 26)).heap.size [(w4).heap.size] := fun b hb => by obtain rfl := List.mem_singleton.1 hb; exact box_lt bx5
  have fr_bW0 : FreshL (w4).heap.size [(w4).heap.size] := fun b hb => by obtain rfl := List.mem_singleton.1 hb; exact Nat.le_refl _
  have BX_bW0_5 := Lib.hid bx5
  clear bx5
  have F5_ps_3 := Lib.hid (box_below F3_ps_2.out hb3)
  clear F3_ps_2
  have F6_ps_4 := Lib.hid (box_below F5_ps_3.out hb4)
  clear F5_ps_3
  have F7_ps_5 := Lib.hid (box_below F6_ps_4.out hb5)
  clear F6_ps_4
  obtain ⟨⟨c8_0, c8_1, c8_2⟩, f8_0, f8_1, f8_2⟩ := box3 F7_ps_5.out
  go_wp2_with (fail)
  refine (toSystem_law (hs.below hB5) oks).mono ?_
  rintro e w6 ⟨v6, fp6, rfl, o6, fr6, hb6⟩
  have hB6 := below_trans hB5 hb6 hB5.size
  clear c8_0 c8_1 c8_2 f8_0 f8_1 f8_2
  obtain ⟨A6, n6, c6, rfl⟩ := o6.shape
  have lt_xs := o6.lt
  have hb7 := below_alloc (w6) (.cells #[.int .i64 (s).1, .int .i64 (s).2.1, .slice A6 n6 c6] 26)
  have hB7 := below_trans hB6 hb7 hB6.size
  have bx7 := heap_alloc_new (w6) (.cells #[.int .i64 (s).1, .int .i64 (s).2.1, .slice A6 n6 c6] 26)
  have lt_bxs : LtL ((w6).alloc (.cells #[.int .i64 (s).1, .int .i64 (s).2.1, .slice A6 n6 c6] 26)).heap.size [(w6).heap.size] := fun b hb => by obtain rfl := List.mem_singleton.1 hb; exact box_lt bx7
  have fr_bxs : FreshL (w6).heap.size [(w6).heap.size] := fun b hb => by obtain rfl := List.mem_singleton.1 hb; exact Nat.le_refl _
  have BX_bxs_7 := Lib.hid bx7
  clear bx7
  have F9_xs_7 := o6.below hb7
  clear o6
  obtain ⟨⟨c10_0, c10_1, c10_2⟩, f10_0, f10_1, f10_2⟩ := box3 BX_bxs_7.out
  go_wp2_with (fail)
  refine (iEliminateLast_law p F9_xs_7 oks (hT.below hB7 hT.lt)).mono ?_
  rintro e w8 ⟨v8_0, fp8_0, rfl, o8r0, fr8_0, hb8⟩
  have hB8 := below_trans hB7 hb8 hB7.size
  clear c10_0 c10_1 c10_2 f10_0 f10_1 f10_2
  obtain ⟨A8_0, n8_0, c8_0, rfl⟩ := o8r0.shape
  have lt_G0 := o8r0.lt
  have hb9 := below_alloc (w8) (.cells #[.int .i64 ((elM p s).1).1, .int .i64 ((elM p s).1).2.1, .slice A8_0 n8_0 c8_0] 26)
  have hB9 := below_trans hB8 hb9 hB8.size
  have bx9 := heap_alloc_new (w8) (.cells #[.int .i64 ((elM p s).1).1, .int .i64 ((elM p s).1).2.1, .slice A8_0 n8_0 c8_0] 26)
  have lt_bG0 : LtL ((w8).alloc (.cells #[.int .i64 ((elM p s).1).1, .int .i64 ((elM p s).1).2.1, .slice A8_0 n8_0 c8_0] 26)).heap.size [(w8).heap.size] := fun b hb => by obtain rfl := List.mem_singleton.1 hb; exact box_lt bx9
  have fr_bG0 : FreshL (w8).heap.size [(w8).heap.size] := fun b hb => by obtain rfl := List.mem_singleton.1 hb; exact Nat.le_refl _
  have BX_bG0_9 := Lib.hid bx9
  clear bx9
  have F11_G0_9 := o8r0.below hb9
  clear o8r0
  have F12_W0_5 := o4r0.below hb5
  clear o4r0
  have F13_W0_6 := F12_W0_5.below hb6
  clear F12_W0_5
  have F14_W0_7 := F13_W0_6.below hb7
  clear F13_W0_6
  have F15_W0_8 := F14_W0_7.below hb8
  clear F14_W0_7
  have F16_W0_9 := F15_W0_8.below hb9
  clear F15_W0_8
  obtain ⟨⟨c17_0, c17_1, c17_2⟩, f17_0, f17_1, f17_2⟩ := box3 BX_bG0_9.out
  have F18_bW0_6 := Lib.hid (box_below BX_bW0_5.out hb6)
  clear BX_bW0_5
  have F19_bW0_7 := Lib.hid (box_below F18_bW0_6.out hb7)
  clear F18_bW0_6
  have F20_bW0_8 := Lib.hid (box_below F19_bW0_7.out hb8)
  clear F19_bW0_7
  have F21_bW0_9 := Lib.hid (box_below F20_bW0_8.out hb9)
  clear F20_bW0_8
  obtain ⟨⟨c22_0, c22_1, c22_2⟩, f22_0, f22_1, f22_2⟩ := box3 F21_bW0_9.out
  go_wp2_with (fail)
  refine (eqSystem_law F11_G0_9.rd F16_W0_9.rd ((elM_ok (p := p) oks))).mono ?_
  rintro e w10 ⟨rfl, hb10⟩
  have hB10 := below_trans hB9 hb10 hB9.size
  clear c17_0 c17_1 c17_2 f17_0 f17_1 f17_2 c22_0 c22_1 c22_2 f22_0 f22_1 f22_2
  rw [decide_eq_true (rfl : (elM p s).1 = (elM p s).1)]
  have F23_bxs_8 := Lib.hid (box_below BX_bxs_7.out hb8)
  clear BX_bxs_7
  have F24_bxs_9 := Lib.hid (box_below F23_bxs_8.out hb9)
  clear F23_bxs_8
  have F25_bxs_10 := Lib.hid (box_below F24_bxs_9.out hb10)
  clear F24_bxs_9
  have F26_ps_6 := Lib.hid (box_below F7_ps_5.out hb6)
  clear F7_ps_5
  have F27_ps_7 := Lib.hid (box_below F26_ps_6.out hb7)
  clear F26_ps_6
  have F28_ps_8 := Lib.hid (box_below F27_ps_7.out hb8)
  clear F27_ps_7
  have F29_ps_9 := Lib.hid (box_below F28_ps_8.out hb9)
  clear F28_ps_8
  have F30_ps_10 := Lib.hid (box_below F29_ps_9.out hb10)
  clear F29_ps_9
  have F31_xs_8 := F9_xs_7.below hb8
  clear F9_xs_7
  have F32_xs_9 := F31_xs_8.below hb9
  clear F31_xs_8
  have F33_xs_10 := F32_xs_9.below hb10
  clear F32_xs_9
  go_wp2_with (fail)
  refine beginH (fun w' => w'.heap[(w6).heap.size]? = some (.cells #[.int .i64 (s).1, .int .i64 (s).2.1, .slice A6 n6 c6] 26) ∧ w'.heap[(w).heap.size]? = some (.cells #[.int .i64 (s).1, .int .i64 (s).2.1, .slice As ns cs] 24)) (by kernel_rfl) ?_
  have hb11 : Below (w10).heap.size (w10) (w10).drew := below_drewN (Below.refl _ _) 1
  have hB11 := below_trans hB10 hb11 hB10.size
  have F35_bxs_11 := Lib.hid (box_below F25_bxs_10.out hb11)
  clear F25_bxs_10
  have F36_ps_11 := Lib.hid (box_below F30_ps_10.out hb11)
  clear F30_ps_10
  have F37_xs_11 := F33_xs_10.below hb11
  clear F33_xs_10
  refine takeH 0 (v := ?_) rfl (by kernel_rfl) (by kernel_rfl) (by kernel_rfl) (fun _ _ _ h => h) ⟨F35_bxs_11.out, F36_ps_11.out⟩ (by rfl) (fun W' hW' => ?_) ?_; rotate_left; · (obtain ⟨q1, q2⟩ := hW'; obtain ⟨⟨ca0, ca1, ca2⟩, gca0, gca1, gca2⟩ := box3 q1; obtain ⟨⟨cb0, cb1, cb2⟩, gcb0, gcb1, gcb2⟩ := box3 q2; clear q1 q2; go_simp; first | done | with_reducible rfl)
  simp only [Act.put, List.setIfInBounds_toArray, List.set_cons_zero, List.set_cons_succ]
  refine takeH 1 (v := ?_) rfl (by kernel_rfl) (by kernel_rfl) (by kernel_rfl) (fun _ _ _ h => h) ⟨F35_bxs_11.out, F36_ps_11.out⟩ (by rfl) (fun W' hW' => ?_) ?_; rotate_left; · (obtain ⟨q1, q2⟩ := hW'; obtain ⟨⟨ca0, ca1, ca2⟩, gca0, gca1, gca2⟩ := box3 q1; obtain ⟨⟨cb0, cb1, cb2⟩, gcb0, gcb1, gcb2⟩ := box3 q2; clear q1 q2; go_simp; first | done | with_reducible rfl)
  simp only [Act.put, List.setIfInBounds_toArray, List.set_cons_zero, List.set_cons_succ]
  refine' callH 2 (f := _) (args := _) rfl (by kernel_rfl) (by rfl) ?_ ?_; rotate_left 2; · (go_simp; first | done | with_reducible rfl | (constructor <;> with_reducible rfl))
  refine (toSystem_law (hs.below hB11) oks).mono ?_
  rintro e w12 ⟨v12, fp12, rfl, o12, fr12, hb12⟩
  have hB12 := below_trans hB11 hb12 hB11.size
  have F38_bxs_12 := Lib.hid (box_below F35_bxs_11.out hb12)
  clear F35_bxs_11
  have F39_ps_12 := Lib.hid (box_below F36_ps_11.out hb12)
  clear F36_ps_11
  have F40_xs_12 := F37_xs_11.below hb12
  clear F37_xs_11
  refine ⟨_, rfl, ⟨F38_bxs_12.out, F39_ps_12.out⟩, ?_⟩
  simp only [Act.put, List.setIfInBounds_toArray, List.set_cons_zero, List.set_cons_succ]
  refine' callH 3 (f := _) (args := _) rfl (by kernel_rfl) (by rfl) ?_ ?_; rotate_left 2; · (go_simp; first | done | with_reducible rfl | (constructor <;> with_reducible rfl))
  refine (eqSystem_law F40_xs_12.rd o12.rd oks).mono ?_
  rintro e w13 ⟨rfl, hb13⟩
  have hB13 := below_trans hB12 hb13 hB12.size
  have F41_bxs_13 := Lib.hid (box_below F38_bxs_12.out hb13)
  clear F38_bxs_12
  have F42_ps_13 := Lib.hid (box_below F39_ps_12.out hb13)
  clear F39_ps_12
  have F43_xs_13 := F40_xs_12.below hb13
  clear F40_xs_12
  refine ⟨_, rfl, ⟨F41_bxs_13.out, F42_ps_13.out⟩, ?_⟩
  rw [decide_eq_true (rfl : s = s)]
  simp only [Act.put, List.setIfInBounds_toArray, List.set_cons_zero, List.set_cons_succ]
  refine takeH 4 (v := .bool false) rfl (by kernel_rfl) (by kernel_rfl) (by kernel_rfl) (fun _ _ _ h => h) ⟨F41_bxs_13.out, F42_ps_13.out⟩ (by rfl) (fun W' hW' => ?_) ?_; · (go_simp; first | done | with_reducible rfl)
  simp only [Act.put, List.setIfInBounds_toArray, List.set_cons_zero, List.set_cons_succ]
  refine doneH (by kernel_rfl) ?_
  obtain ⟨⟨c44_0, c44_1, c44_2⟩, f44_0, f44_1, f44_2⟩ := box3 F41_bxs_13.out
  go_wp2_with (fail)
  refine (markSystem_law (1) F43_xs_13 (by omega) oks (by have := oks.2.2; omega)).mono ?_
  rintro e w14 ⟨rfl, he14, hk14⟩
  have hB14 := below_keeps hB13 hk14 hB13.size (fun b hb => Nat.le_trans hB5.size (fr6 b hb))
  clear c44_0 c44_1 c44_2 f44_0 f44_1 f44_2
  have F45_G0_10 := F11_G0_9.below hb10
  clear F11_G0_9
  have F46_G0_11 := F45_G0_10.below hb11
  clear F45_G0_10
  have F47_G0_12 := F46_G0_11.below hb12
  clear F46_G0_11
  have F48_G0_13 := F47_G0_12.below hb13
  clear F47_G0_12
  have F49_G0_14 := F48_G0_13.keeps hk14 (apart_of' lt_xs (fr8_0.mono (Nat.le_trans (Nat.le_refl _) hb7.size)))
  clear F48_G0_13
  have F50_W0_10 := F16_W0_9.below hb10
  clear F16_W0_9
  have F51_W0_11 := F50_W0_10.below hb11
  clear F50_W0_10
  have F52_W0_12 := F51_W0_11.below hb12
  clear F51_W0_11
  have F53_W0_13 := F52_W0_12.below hb13
  clear F52_W0_12
  have F54_W0_14 := F53_W0_13.keeps hk14 (apart_of lt_W0 (fr6.mono (Nat.le_trans (Nat.le_refl _) hb5.size)))
  clear F53_W0_13
  have F55_bG0_10 := Lib.hid (box_below BX_bG0_9.out hb10)
  clear BX_bG0_9
  have F56_bG0_11 := Lib.hid (box_below F55_bG0_10.out hb11)
  clear F55_bG0_10
  have F57_bG0_12 := Lib.hid (box_below F56_bG0_11.out hb12)
  clear F56_bG0_11
  have F58_bG0_13 := Lib.hid (box_below F57_bG0_12.out hb13)
  clear F57_bG0_12
  have F59_bG0_14 := Lib.hid (box_keeps F58_bG0_13.out hk14 (fun hh => (apart_of' lt_xs (fr_bG0.mono (Nat.le_trans (Nat.le_trans (Nat.le_refl _) hb7.size) hb8.size))) _ (List.mem_singleton.2 rfl) hh))
  clear F58_bG0_13
  obtain ⟨⟨c60_0, c60_1, c60_2⟩, f60_0, f60_1, f60_2⟩ := box3 F59_bG0_14.out
  have F61_bW0_10 := Lib.hid (box_below F21_bW0_9.out hb10)
  clear F21_bW0_9
  have F62_bW0_11 := Lib.hid (box_below F61_bW0_10.out hb11)
  clear F61_bW0_10
  have F63_bW0_12 := Lib.hid (box_below F62_bW0_11.out hb12)
  clear F62_bW0_11
  have F64_bW0_13 := Lib.hid (box_below F63_bW0_12.out hb13)
  clear F63_bW0_12
  have F65_bW0_14 := Lib.hid (box_keeps F64_bW0_13.out hk14 (fun hh => (apart_of lt_bW0 (fr6)) _ (List.mem_singleton.2 rfl) hh))
  clear F64_bW0_13
  obtain ⟨⟨c66_0, c66_1, c66_2⟩, f66_0, f66_1, f66_2⟩ := box3 F65_bW0_14.out
  go_wp2_with (fail)
  refine (eqSystem_law F49_G0_14.rd F54_W0_14.rd ((elM_ok (p := p) oks))).mono ?_
  rintro e w15 ⟨rfl, hb15⟩
  have hB15 := below_trans hB14 hb15 hB14.size
  clear c60_0 c60_1 c60_2 f60_0 f60_1 f60_2 c66_0 c66_1 c66_2 f66_0 f66_1 f66_2
  rw [decide_eq_true (rfl : (elM p s).1 = (elM p s).1)]
  have F67_G0_15 := F49_G0_14.below hb15
  clear F49_G0_14
  have F68_bG0_15 := Lib.hid (box_below F59_bG0_14.out hb15)
  clear F59_bG0_14
  obtain ⟨⟨c69_0, c69_1, c69_2⟩, f69_0, f69_1, f69_2⟩ := box3 F68_bG0_15.out
  go_wp2_with (fail)
  refine (markSystem_law (1) F67_G0_15 (by omega) ((elM_ok (p := p) oks)) (by have := ((elM_ok (p := p) oks)).2.2; omega)).mono ?_
  rintro e w16 ⟨rfl, he16, hk16⟩
  have hB16 := below_keeps hB15 hk16 hB15.size (fun b hb => Nat.le_trans hB7.size (fr8_0 b hb))
  clear c69_0 c69_1 c69_2 f69_0 f69_1 f69_2
  have F70_bG0_16 := Lib.hid (box_keeps F68_bG0_15.out hk16 (fun hh => (apart_of' lt_G0 (fr_bG0)) _ (List.mem_singleton.2 rfl) hh))
  clear F68_bG0_15
  obtain ⟨⟨c71_0, c71_1, c71_2⟩, f71_0, f71_1, f71_2⟩ := box3 F70_bG0_16.out
  go_wp2_with (fail)
  refine (heldSystem_law he16 (by omega) ((elM_ok (p := p) oks)) (by have := ((elM_ok (p := p) oks)).2.2; omega)).mono ?_
  rintro e w17 ⟨rfl, hb17⟩
  have hB17 := below_trans hB16 hb17 hB16.size
  clear c71_0 c71_1 c71_2 f71_0 f71_1 f71_2
  have F72_ps_14 := Lib.hid (box_keeps F42_ps_13.out hk14 (fun hh => (apart_of lt_ps (fr6.mono (Nat.le_trans (Nat.le_trans (Nat.le_trans (Nat.le_trans (Nat.le_refl _) hb2.size) hb3.size) hb4.size) hb5.size))) _ (List.mem_singleton.2 rfl) hh))
  clear F42_ps_13
  have F73_ps_15 := Lib.hid (box_below F72_ps_14.out hb15)
  clear F72_ps_14
  have F74_ps_16 := Lib.hid (box_keeps F73_ps_15.out hk16 (fun hh => (apart_of lt_ps (fr8_0.mono (Nat.le_trans (Nat.le_trans (Nat.le_trans (Nat.le_trans (Nat.le_trans (Nat.le_trans (Nat.le_refl _) hb2.size) hb3.size) hb4.size) hb5.size) hb6.size) hb7.size))) _ (List.mem_singleton.2 rfl) hh))
  clear F73_ps_15
  have F75_ps_17 := Lib.hid (box_below F74_ps_16.out hb17)
  clear F74_ps_16
  obtain ⟨⟨c76_0, c76_1, c76_2⟩, f76_0, f76_1, f76_2⟩ := box3 F75_ps_17.out
  go_wp2_with (fail)
  refine (toSystem_law (hs.below hB17) oks).mono ?_
  rintro e w18 ⟨v18, fp18, rfl, o18, fr18, hb18⟩
  have hB18 := below_trans hB17 hb18 hB17.size
  clear c76_0 c76_1 c76_2 f76_0 f76_1 f76_2
  obtain ⟨A18, n18, c18, rfl⟩ := o18.shape
  have lt_ys := o18.lt
  go_wp2_with (fail)
  refine (iEliminateLast_law p o18 oks (hT.below hB18 hT.lt)).mono ?_
  rintro e w19 ⟨v19_0, fp19_0, rfl, o19r0, fr19_0, hb19⟩
  have hB19 := below_trans hB18 hb19 hB18.size
  obtain ⟨A19_0, n19_0, c19_0, rfl⟩ := o19r0.shape
  have lt_H0 := o19r0.lt
  have hb20 := below_alloc (w19) (.cells #[.int .i64 ((elM p s).1).1, .int .i64 ((elM p s).1).2.1, .slice A19_0 n19_0 c19_0] 26)
  have hB20 := below_trans hB19 hb20 hB19.size
  have bx20 := heap_alloc_new (w19) (.cells #[.int .i64 ((elM p s).1).1, .int .i64 ((elM p s).1).2.1, .slice A19_0 n19_0 c19_0] 26)
  have lt_bH0 : LtL ((w19).alloc (.cells #[.int .i64 ((elM p s).1).1, .int .i64 ((elM p s).1).2.1, .slice A19_0 n19_0 c19_0] 26)).heap.size [(w19).heap.size] := fun b hb => by obtain rfl := List.mem_singleton.1 hb; exact box_lt bx20
  have fr_bH0 : FreshL (w19).heap.size [(w19).heap.size] := fun b hb => by obtain rfl := List.mem_singleton.1 hb; exact Nat.le_refl _
  have BX_bH0_20 := Lib.hid bx20
  clear bx20
  have F77_H0_20 := o19r0.below hb20
  clear o19r0
  have F78_W0_15 := F54_W0_14.below hb15
  clear F54_W0_14
  have F79_W0_16 := F78_W0_15.keeps hk16 (apart_of lt_W0 (fr8_0.mono (Nat.le_trans (Nat.le_trans (Nat.le_trans (Nat.le_refl _) hb5.size) hb6.size) hb7.size)))
  clear F78_W0_15
  have F80_W0_17 := F79_W0_16.below hb17
  clear F79_W0_16
  have F81_W0_18 := F80_W0_17.below hb18
  clear F80_W0_17
  have F82_W0_19 := F81_W0_18.below hb19
  clear F81_W0_18
  have F83_W0_20 := F82_W0_19.below hb20
  clear F82_W0_19
  obtain ⟨⟨c84_0, c84_1, c84_2⟩, f84_0, f84_1, f84_2⟩ := box3 BX_bH0_20.out
  have F85_bW0_15 := Lib.hid (box_below F65_bW0_14.out hb15)
  clear F65_bW0_14
  have F86_bW0_16 := Lib.hid (box_keeps F85_bW0_15.out hk16 (fun hh => (apart_of lt_bW0 (fr8_0.mono (Nat.le_trans (Nat.le_trans (Nat.le_refl _) hb6.size) hb7.size))) _ (List.mem_singleton.2 rfl) hh))
  clear F85_bW0_15
  have F87_bW0_17 := Lib.hid (box_below F86_bW0_16.out hb17)
  clear F86_bW0_16
  have F88_bW0_18 := Lib.hid (box_below F87_bW0_17.out hb18)
  clear F87_bW0_17
  have F89_bW0_19 := Lib.hid (box_below F88_bW0_18.out hb19)
  clear F88_bW0_18
  have F90_bW0_20 := Lib.hid (box_below F89_bW0_19.out hb20)
  clear F89_bW0_19
  obtain ⟨⟨c91_0, c91_1, c91_2⟩, f91_0, f91_1, f91_2⟩ := box3 F90_bW0_20.out
  go_wp2_with (fail)
  refine (eqSystem_law F77_H0_20.rd F83_W0_20.rd ((elM_ok (p := p) oks))).mono ?_
  rintro e w21 ⟨rfl, hb21⟩
  have hB21 := below_trans hB20 hb21 hB20.size
  clear c84_0 c84_1 c84_2 f84_0 f84_1 f84_2 c91_0 c91_1 c91_2 f91_0 f91_1 f91_2
  rw [decide_eq_true (rfl : (elM p s).1 = (elM p s).1)]
  have F92_G0_17 := he16.below hb17
  clear he16
  have F93_G0_18 := F92_G0_17.below hb18
  clear F92_G0_17
  have F94_G0_19 := F93_G0_18.below hb19
  clear F93_G0_18
  have F95_G0_20 := F94_G0_19.below hb20
  clear F94_G0_19
  have F96_G0_21 := F95_G0_20.below hb21
  clear F95_G0_20
  have F97_bG0_17 := Lib.hid (box_below F70_bG0_16.out hb17)
  clear F70_bG0_16
  have F98_bG0_18 := Lib.hid (box_below F97_bG0_17.out hb18)
  clear F97_bG0_17
  have F99_bG0_19 := Lib.hid (box_below F98_bG0_18.out hb19)
  clear F98_bG0_18
  have F100_bG0_20 := Lib.hid (box_below F99_bG0_19.out hb20)
  clear F99_bG0_19
  have F101_bG0_21 := Lib.hid (box_below F100_bG0_20.out hb21)
  clear F100_bG0_20
  obtain ⟨⟨c102_0, c102_1, c102_2⟩, f102_0, f102_1, f102_2⟩ := box3 F101_bG0_21.out
  go_wp2_with (fail)
  refine (heldSystem_law F96_G0_21 (by omega) ((elM_ok (p := p) oks)) (by have := ((elM_ok (p := p) oks)).2.2; omega)).mono ?_
  rintro e w22 ⟨rfl, hb22⟩
  have hB22 := below_trans hB21 hb22 hB21.size
  clear c102_0 c102_1 c102_2 f102_0 f102_1 f102_2
  go_wp2_with (fail)
  go_ret
  exact ⟨rfl, hB22⟩

set_option maxRecDepth 100000 in
theorem contractEliminateLast (H : Type) (enc : TypeId × Value → H) (W : World) (args : Array Value) (ds gs : List (DataW H)) (before : List MemPlace)
    (hval : ∀ (j : Nat) t v, Tryd.f3.params[j]? = some t → args[j]? = some v → Value.okWide Tryd.prog W .any 0 t v)
    (hW : DataW.Whole enc Tryd.prog Tryd.f3.params.toList Rows.fnExactEliminateLastSpec.vars false W args.toList ds gs before) (hL : laidMetH Tryd.prog Rows.fnExactEliminateLastRow.laid W) :
    Calls Tryd.prog 3 args W fun e W' => ∃ v, e = .returned v ∧ Rows.fnExactEliminateLastSpec.post enc Tryd.prog Tryd.f3 false true false false W args v W' := by
  have hW' := hW
  obtain ⟨p, q, hA0, hV, rfl, hfz, hnd⟩ := hW
  have hA : DataW.TrodAll enc Tryd.prog W 0 (fun _ => true) true Tryd.f3.params.toList args.toList ds p := hA0
  have hr : ∀ t ∈ Tryd.f3.params.toList, Tryd.prog.readableRec t = true ∧ t < Tryd.prog.types.size := by
    rw [Tryd.params3]
    intro t ht
    have ht' : t ∈ ([3, 24] : List TypeId) := ht
    rcases List.mem_cons.1 ht' with rfl | ht'
    · exact ⟨by kernel_rfl, of_decide_eq_true (by kernel_rfl)⟩
    rcases List.mem_cons.1 ht' with rfl | ht'
    · exact ⟨by kernel_rfl, of_decide_eq_true (by kernel_rfl)⟩
    cases ht'
  rw [Tryd.params3] at hA hval
  obtain ⟨v0, vs0, d0, ds0, p0, q0, hargs, rfl, rfl, t0, r0⟩ := trodAll_cons hA
  obtain ⟨v1, vs1, d1, ds1, p1, q1, rfl, rfl, rfl, t1, r1⟩ := trodAll_cons r0
  obtain ⟨rfl, rfl, rfl⟩ := trodAll_nil r1
  obtain rfl : args = #[v0, v1] := by cases args; simp_all
  obtain ⟨g, _, _, _, dg, pg, rfl, _⟩ := trodVars_one hV
  obtain ⟨x0, rfl, lo0, hi0⟩ := in_int (hval 0 _ v0 rfl rfl) t0
  obtain ⟨m1, hl1, hg1⟩ := in_System (hval 1 _ v1 rfl rfl) t1
  refine (lawEliminateLast_any x0 v1 m1 W hl1 hg1 lo0 hi0 (tab_of_laid hL)).mono fun e W' ⟨he, hb⟩ => ?_
  subst he
  exact ⟨_, rfl, post_true laidOut hW' hb hr vars_ok rfl rfl Tryd.underlying4⟩

set_option maxRecDepth 100000 in
theorem liftedEliminateLast (os : Os) (started : os.Started) (H : Type) (enc : TypeId × Value → H) (F : Stop.Interp) :
    ReturnsInHanded {} Tryd.checked os 3 .any ((OpenSpec.ofChange Rows.fnExactEliminateLastSpec).preRow enc Tryd.prog Tryd.f3 Rows.fnExactEliminateLastRow.domain false Rows.fnExactEliminateLastRow.laid) (((OpenSpec.ofChange Rows.fnExactEliminateLastSpec).at F).post enc Tryd.prog Tryd.f3 false true false false) := by
  obtain ⟨ds, gs, places, hx⟩ : ∃ ds gs places, DataW.whole enc Tryd.prog ((laidWorld os).forCall (fun _ _ => 0) ⟨#[], #[.int .i64 0, .agg #[.int .i64 0, .int .i64 0, .slice none 0 0]], []⟩).memory Tryd.f3.params.toList Rows.fnExactEliminateLastSpec.vars false (#[.int .i64 0, .agg #[.int .i64 0, .int .i64 0, .slice none 0 0]] : Array Value).toList 8 = some (ds, gs, places) :=
    ⟨[.lit (.int .i64 0), .agg [.lit (.int .i64 0), .lit (.int .i64 0), .nil]], [Rows.laid_loop_example_g01073_impl_smallPrimes], MemPlace.row ⟨0, 0, none⟩ 4, by kernel_rfl⟩
  refine returnsInHanded_of_row (C := Tryd.checked) (s := OpenSpec.ofChange Rows.fnExactEliminateLastSpec) own started (by kernel_rfl) Tryd.func3
    (witness_row_at (enc := enc) (C := Tryd.checked) false (laidWorld os) #[.int .i64 0, .agg #[.int .i64 0, .int .i64 0, .slice none 0 0]] rfl (by kernel_rfl) (by kernel_rfl) (by kernel_rfl)
      (OpenSpec.preRow_of_cond 8 hx (by kernel_rfl) (fun k hk => by cases hk) (by kernel_rfl) (laid_met os _))) ?_
  intro W base args ds gs before hval hW _ _ _ hL _ _
  exact contractEliminateLast H enc W args ds gs before hval hW hL

theorem saidEliminateLast : Rows.FnExactEliminateLastSaid :=
  OpenClaim.holds_of_cond 3 Tryd.f3 rfl rfl rfl rfl rfl rfl rfl ⟨rfl, rfl, rfl, rfl, rfl⟩ rfl rfl rfl rfl rfl (by kernel_rfl) Tryd.func3 (by kernel_rfl)
    (of_decide_eq_true (by kernel_rfl)) (by unfold Func.isWrapper; first | (rw [if_pos (by decide +kernel)]; kernel_rfl) | (rw [if_neg (by decide +kernel)]; exact ⟨rfl, rfl⟩))
    (fun os started H enc _ F => by rw [OpenClaim.pre_eq_preRow]; exact liftedEliminateLast os started H enc F)

theorem plainEliminateLast (f : FuncId) (fn : Func) (hf : Tryd.pinned.checked.prog.funcNamed "loop.example/g01073/laws.FnExactEliminateLast" = some f) (hfn : Tryd.pinned.checked.prog.funcs[f]? = some fn) :
    false = Tryd.pinned.checked.prog.looks [] ∧ ∀ (j : Nat) t, fn.params[j]? = some t → Tryd.pinned.checked.prog.wantsStandIn t = false := by
  obtain rfl : f = 3 := Option.some.inj ((show Tryd.prog.funcNamed "loop.example/g01073/laws.FnExactEliminateLast" = some 3 by kernel_rfl).symm.trans hf) |>.symm
  obtain rfl : fn = Tryd.f3 := (Option.some.inj (Tryd.func3.symm.trans hfn)).symm
  refine ⟨by kernel_rfl, fun j t ht => ?_⟩
  rw [Tryd.params3] at ht
  have ht' : t ∈ ([3, 24] : List TypeId) := by have := Array.mem_of_getElem? ht; simpa using this
  rcases List.mem_cons.1 ht' with rfl | ht'
  · exact (show Tryd.prog.wantsStandIn 3 = false by kernel_rfl)
  rcases List.mem_cons.1 ht' with rfl | ht'
  · exact (show Tryd.prog.wantsStandIn 24 = false by kernel_rfl)
  cases ht'

theorem cardEliminateLast : Rows.FnExactEliminateLastCardSaid :=
  Claim7.holds_tied_plain_at .later [] _ _ _ _ saidEliminateLast (fun _ h => by cases h) (by kernel_rfl) (fun _ h => by cases h) fnExactEliminateLast_row_tie rfl ⟨rfl, rfl⟩ (by kernel_rfl) rfl plainEliminateLast (by kernel_rfl)
#print axioms cardEliminateLast
end Go.Proofs.YtahnhblodfdfhaaDoor
