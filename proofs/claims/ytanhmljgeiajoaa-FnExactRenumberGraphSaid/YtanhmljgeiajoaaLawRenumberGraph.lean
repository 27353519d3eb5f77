/-
  The program's RenumberGraph returns what the reference's returns, for all arguments (laws.FnExactRenumberGraph answers true). No condition.
-/
import Derived.Test.YtanhmljgeiajoaaGrQ
import Derived.Test.YtanhmljgeiajoaaRegH
import Derived.Test.YtanhmljgeiajoaaFrameP
import Derived.Test.YtanhmljgeiajoaaGrSz
import Derived.Test.YtanhmljgeiajoaaGrLaw
import Derived.Test.YtanhmljgeiajoaaLawI
namespace Go.Proofs.Ytanhmljgeiajoaa
open Go.ChangeShapes Go.WideShapes Go.ChangeAt Go.RowKit

set_option maxHeartbeats 40000000 in
set_option maxRecDepth 100000 in
theorem lawRenumberGraph_any (vg : Value) (g : Gr) (Ap : Option Addr) (cp : Nat) (p : List Int) (Aq : Option Addr) (cq : Nat) (q : List Int) (w : World) (hg : RdGr w vg g) (hgg : BigGraph g) (qp : RdI w Ap p) (qq : RdI w Aq q) :
    Calls Try.prog 4 #[vg, .slice Ap p.length cp, .slice Aq q.length cq] w fun e w' => e = .returned (.bool true) ∧ Below w.heap.size w w' := by
  obtain ⟨Ag, ng, cg, Bg, mg, dg, Cg, kg, eg, rfl⟩ := hg.shape
  obtain ⟨Sg, hSg⟩ : ∃ S, S = szG (g) 1048576 := ⟨_, rfl⟩
  have HSg := Lib.hid hSg
  clear hSg
  by_cases lenp : p.length ≤ 1048576
  case neg =>
    have gtp : 1048576 < (p.length : Int) := by omega
    go_enter Try.func4, Try.ntmps4
    go_wp2_with (fail)
    go_ret
    exact ⟨rfl, (Below.refl _ _).alloc (Nat.le_refl _) _⟩
  by_cases lenq : q.length ≤ 1048576
  case neg =>
    have gtp : ¬ (1048576 < (p.length : Int)) := by omega
    have gtq : 1048576 < (q.length : Int) := by omega
    go_enter Try.func4, Try.ntmps4
    go_wp2_with (fail)
    go_ret
    exact ⟨rfl, (Below.refl _ _).alloc (Nat.le_refl _) _⟩
  have gtp : ¬ (1048576 < (p.length : Int)) := by omega
  have hp : RdIV w (.slice Ap p.length cp) p := ⟨Ap, cp, rfl, qp⟩
  clear qp
  have gtq : ¬ (1048576 < (q.length : Int)) := by omega
  have hq : RdIV w (.slice Aq q.length cq) q := ⟨Aq, cq, rfl, qq⟩
  clear qq
  have hB0 : Below w.heap.size w w := Below.refl _ _
  have hb1 := below_alloc (w) (.cells #[.int .i64 (g).1, .slice Ag ng cg, .slice Bg mg dg, .slice Cg kg eg] 25)
  have hB1 := below_trans hB0 hb1 hB0.size
  have bx1 := heap_alloc_new (w) (.cells #[.int .i64 (g).1, .slice Ag ng cg, .slice Bg mg dg, .slice Cg kg eg] 25)
  have lt_pg : LtL ((w).alloc (.cells #[.int .i64 (g).1, .slice Ag ng cg, .slice Bg mg dg, .slice Cg kg eg] 25)).heap.size [(w).heap.size] := fun b hb => by obtain rfl := List.mem_singleton.1 hb; exact box_lt bx1
  have fr_pg : FreshL (w).heap.size [(w).heap.size] := fun b hb => by obtain rfl := List.mem_singleton.1 hb; exact Nat.le_refl _
  have BX_pg_1 := Lib.hid bx1
  clear bx1
  by_cases negg : Sg < 0
  case pos =>
    go_enter Try.func4, Try.ntmps4
    obtain ⟨⟨c1_0, c1_1, c1_2, c1_3⟩, f1_0, f1_1, f1_2, f1_3⟩ := box4 BX_pg_1.out
    go_wp2_with (fail)
    refine (szGraph_law 1048576 (hg.below hB1) hgg (by omega) (by omega)).mono ?_
    rintro e w2 ⟨he2, hb2⟩
    have hB2 := below_trans hB1 hb2 hB1.size
    clear c1_0 c1_1 c1_2 c1_3 f1_0 f1_1 f1_2 f1_3
    rw [← HSg.out] at he2
    subst he2
    go_wp2_with (fail)
    go_ret
    exact ⟨rfl, hB2⟩
  have sokg := szG_ok (by rw [← HSg.out]; omega : 0 ≤ szG (g) 1048576) (by omega)
  have okg := sokg.1
  have sleg : Sg ≤ 1048576 := by rw [HSg.out]; exact sokg.2
  clear sokg
  go_enter Try.func4, Try.ntmps4
  obtain ⟨⟨c2_0, c2_1, c2_2, c2_3⟩, f2_0, f2_1, f2_2, f2_3⟩ := box4 BX_pg_1.out
  go_wp2_with (fail)
  refine (szGraph_law 1048576 (hg.below hB1) hgg (by omega) (by omega)).mono ?_
  rintro e w2 ⟨he2, hb2⟩
  have hB2 := below_trans hB1 hb2 hB1.size
  clear c2_0 c2_1 c2_2 c2_3 f2_0 f2_1 f2_2 f2_3
  rw [← HSg.out] at he2
  subst he2
  have F3_pg_2 := Lib.hid (box_below BX_pg_1.out hb2)
  clear BX_pg_1
  obtain ⟨⟨c4_0, c4_1, c4_2, c4_3⟩, f4_0, f4_1, f4_2, f4_3⟩ := box4 F3_pg_2.out
  go_wp2_with (fail)
  refine (toGraph_law (hg.below hB2) okg).mono ?_
  rintro e w3 ⟨v3, fp3, rfl, o3, fr3, hb3⟩
  have hB3 := below_trans hB2 hb3 hB2.size
  clear c4_0 c4_1 c4_2 c4_3 f4_0 f4_1 f4_2 f4_3
  obtain ⟨A3, n3, c3, B3, m3, d3, C3, k3, e3, rfl⟩ := o3.shape
  have lt_ag := o3.lt
  go_wp2_with (fail)
  refine (toI_law (hp.below hB3) (by omega)).mono ?_
  rintro e w4 ⟨v4, fp4, rfl, o4, fr4, hb4⟩
  have hB4 := below_trans hB3 hb4 hB3.size
  have lt_ap := o4.lt
  go_wp2_with (fail)
  refine (toI_law (hq.below hB4) (by omega)).mono ?_
  rintro e w5 ⟨v5, fp5, rfl, o5, fr5, hb5⟩
  have hB5 := below_trans hB4 hb5 hB4.size
  have lt_aq := o5.lt
  have F5_ag_4 := o3.below hb4
  clear o3
  have F6_ag_5 := F5_ag_4.below hb5
  clear F5_ag_4
  have F7_ap_5 := o4.below hb5
  clear o4
  go_wp2_with (fail)
  refine (sRenumberGraph_law  F6_ag_5.rd F7_ap_5.rd o5.rd okg (by omega) (by omega)).mono ?_
  rintro e w6 ⟨v6_0, fp6_0, rfl, o6r0, fr6_0, hb6⟩
  have hB6 := below_trans hB5 hb6 hB5.size
  obtain ⟨A6_0, n6_0, c6_0, B6_0, m6_0, d6_0, C6_0, k6_0, e6_0, rfl⟩ := o6r0.shape
  have lt_W0 := o6r0.lt
  have hb7 := below_alloc (w6) (.cells #[.int .i64 ((renM g p q).1).1, .slice A6_0 n6_0 c6_0, .slice B6_0 m6_0 d6_0, .slice C6_0 k6_0 e6_0] 31)
  have hB7 := below_trans hB6 hb7 hB6.size
  have bx7 := heap_alloc_new (w6) (.cells #[.int .i64 ((renM g p q).1).1, .slice A6_0 n6_0 c6_0, .slice B6_0 m6_0 d6_0, .slice C6_0 k6_0 e6_0] 31)
  have lt_bW0 : LtL ((w6).alloc (.cells #[.int .i64 ((renM g p q).1).1, .slice A6_0 n6_0 c6_0, .slice B6_0 m6_0 d6_0, .slice C6_0 k6_0 e6_0] 31)).heap.size [(w6).heap.size] := fun b hb => by obtain rfl := List.mem_singleton.1 hb; exact box_lt bx7
  have fr_bW0 : FreshL (w6).heap.size [(w6).heap.size] := fun b hb => by obtain rfl := List.mem_singleton.1 hb; exact Nat.le_refl _
  have BX_bW0_7 := Lib.hid bx7
  clear bx7
  have F8_pg_3 := Lib.hid (box_below F3_pg_2.out hb3)
  clear F3_pg_2
  have F9_pg_4 := Lib.hid (box_below F8_pg_3.out hb4)
  clear F8_pg_3
  have F10_pg_5 := Lib.hid (box_below F9_pg_4.out hb5)
  clear F9_pg_4
  have F11_pg_6 := Lib.hid (box_below F10_pg_5.out hb6)
  clear F10_pg_5
  have F12_pg_7 := Lib.hid (box_below F11_pg_6.out hb7)
  clear F11_pg_6
  obtain ⟨⟨c13_0, c13_1, c13_2, c13_3⟩, f13_0, f13_1, f13_2, f13_3⟩ := box4 F12_pg_7.out
  go_wp2_with (fail)
  refine (toGraph_law (hg.below hB7) okg).mono ?_
  rintro e w8 ⟨v8, fp8, rfl, o8, fr8, hb8⟩
  have hB8 := below_trans hB7 hb8 hB7.size
  clear c13_0 c13_1 c13_2 c13_3 f13_0 f13_1 f13_2 f13_3
  obtain ⟨A8, n8, c8, B8, m8, d8, C8, k8, e8, rfl⟩ := o8.shape
  have lt_xg := o8.lt
  have hb9 := below_alloc (w8) (.cells #[.int .i64 (g).1, .slice A8 n8 c8, .slice B8 m8 d8, .slice C8 k8 e8] 31)
  have hB9 := below_trans hB8 hb9 hB8.size
  have bx9 := heap_alloc_new (w8) (.cells #[.int .i64 (g).1, .slice A8 n8 c8, .slice B8 m8 d8, .slice C8 k8 e8] 31)
  have lt_bxg : LtL ((w8).alloc (.cells #[.int .i64 (g).1, .slice A8 n8 c8, .slice B8 m8 d8, .slice C8 k8 e8] 31)).heap.size [(w8).heap.size] := fun b hb => by obtain rfl := List.mem_singleton.1 hb; exact box_lt bx9
  have fr_bxg : FreshL (w8).heap.size [(w8).heap.size] := fun b hb => by obtain rfl := List.mem_singleton.1 hb; exact Nat.le_refl _
  have BX_bxg_9 := Lib.hid bx9
  clear bx9
  go_wp2_with (fail)
  refine (toI_law (hp.below hB9) (by omega)).mono ?_
  rintro e w10 ⟨v10, fp10, rfl, o10, fr10, hb10⟩
  have hB10 := below_trans hB9 hb10 hB9.size
  have lt_xp := o10.lt
  go_wp2_with (fail)
  refine (toI_law (hq.below hB10) (by omega)).mono ?_
  rintro e w11 ⟨v11, fp11, rfl, o11, fr11, hb11⟩
  have hB11 := below_trans hB10 hb11 hB10.size
  have lt_xq := o11.lt
  have F14_xg_9 := o8.below hb9
  clear o8
  have F15_xg_10 := F14_xg_9.below hb10
  clear F14_xg_9
  have F16_xg_11 := F15_xg_10.below hb11
  clear F15_xg_10
  have F17_xp_11 := o10.below hb11
  clear o10
  have F18_bxg_10 := Lib.hid (box_below BX_bxg_9.out hb10)
  clear BX_bxg_9
  have F19_bxg_11 := Lib.hid (box_below F18_bxg_10.out hb11)
  clear F18_bxg_10
  obtain ⟨⟨c20_0, c20_1, c20_2, c20_3⟩, f20_0, f20_1, f20_2, f20_3⟩ := box4 F19_bxg_11.out
  go_wp2_with (fail)
  refine (iRenumberGraph_law  F16_xg_11.rd F17_xp_11.rd o11.rd okg (by omega) (by omega)).mono ?_
  rintro e w12 ⟨v12_0, fp12_0, rfl, o12r0, fr12_0, hb12⟩
  have hB12 := below_trans hB11 hb12 hB11.size
  clear c20_0 c20_1 c20_2 c20_3 f20_0 f20_1 f20_2 f20_3
  obtain ⟨A12_0, n12_0, c12_0, B12_0, m12_0, d12_0, C12_0, k12_0, e12_0, rfl⟩ := o12r0.shape
  have lt_G0 := o12r0.lt
  have hb13 := below_alloc (w12) (.cells #[.int .i64 ((renM g p q).1).1, .slice A12_0 n12_0 c12_0, .slice B12_0 m12_0 d12_0, .slice C12_0 k12_0 e12_0] 31)
  have hB13 := below_trans hB12 hb13 hB12.size
  have bx13 := heap_alloc_new (w12) (.cells #[.int .i64 ((renM g p q).1).1, .slice A12_0 n12_0 c12_0, .slice B12_0 m12_0 d12_0, .slice C12_0 k12_0 e12_0] 31)
  have lt_bG0 : LtL ((w12).alloc (.cells #[.int .i64 ((renM g p q).1).1, .slice A12_0 n12_0 c12_0, .slice B12_0 m12_0 d12_0, .slice C12_0 k12_0 e12_0] 31)).heap.size [(w12).heap.size] := fun b hb => by obtain rfl := List.mem_singleton.1 hb; exact box_lt bx13
  have fr_bG0 : FreshL (w12).heap.size [(w12).heap.size] := fun b hb => by obtain rfl := List.mem_singleton.1 hb; exact Nat.le_refl _
  have BX_bG0_13 := Lib.hid bx13
  clear bx13
  have F21_G0_13 := o12r0.below hb13
  clear o12r0
  have F22_W0_7 := o6r0.below hb7
  clear o6r0
  have F23_W0_8 := F22_W0_7.below hb8
  clear F22_W0_7
  have F24_W0_9 := F23_W0_8.below hb9
  clear F23_W0_8
  have F25_W0_10 := F24_W0_9.below hb10
  clear F24_W0_9
  have F26_W0_11 := F25_W0_10.below hb11
  clear F25_W0_10
  have F27_W0_12 := F26_W0_11.below hb12
  clear F26_W0_11
  have F28_W0_13 := F27_W0_12.below hb13
  clear F27_W0_12
  obtain ⟨⟨c29_0, c29_1, c29_2, c29_3⟩, f29_0, f29_1, f29_2, f29_3⟩ := box4 BX_bG0_13.out
  have F30_bW0_8 := Lib.hid (box_below BX_bW0_7.out hb8)
  clear BX_bW0_7
  have F31_bW0_9 := Lib.hid (box_below F30_bW0_8.out hb9)
  clear F30_bW0_8
  have F32_bW0_10 := Lib.hid (box_below F31_bW0_9.out hb10)
  clear F31_bW0_9
  have F33_bW0_11 := Lib.hid (box_below F32_bW0_10.out hb11)
  clear F32_bW0_10
  have F34_bW0_12 := Lib.hid (box_below F33_bW0_11.out hb12)
  clear F33_bW0_11
  have F35_bW0_13 := Lib.hid (box_below F34_bW0_12.out hb13)
  clear F34_bW0_12
  obtain ⟨⟨c36_0, c36_1, c36_2, c36_3⟩, f36_0, f36_1, f36_2, f36_3⟩ := box4 F35_bW0_13.out
  go_wp2_with (fail)
  refine (eqGraph_law F21_G0_13.rd F28_W0_13.rd (renM_ok p q okg)).mono ?_
  rintro e w14 ⟨rfl, hb14⟩
  have hB14 := below_trans hB13 hb14 hB13.size
  clear c29_0 c29_1 c29_2 c29_3 f29_0 f29_1 f29_2 f29_3 c36_0 c36_1 c36_2 c36_3 f36_0 f36_1 f36_2 f36_3
  rw [decide_eq_true (rfl : (renM g p q).1 = (renM g p q).1)]
  have F37_bxg_12 := Lib.hid (box_below F19_bxg_11.out hb12)
  clear F19_bxg_11
  have F38_bxg_13 := Lib.hid (box_below F37_bxg_12.out hb13)
  clear F37_bxg_12
  have F39_bxg_14 := Lib.hid (box_below F38_bxg_13.out hb14)
  clear F38_bxg_13
  have F40_pg_8 := Lib.hid (box_below F12_pg_7.out hb8)
  clear F12_pg_7
  have F41_pg_9 := Lib.hid (box_below F40_pg_8.out hb9)
  clear F40_pg_8
  have F42_pg_10 := Lib.hid (box_below F41_pg_9.out hb10)
  clear F41_pg_9
  have F43_pg_11 := Lib.hid (box_below F42_pg_10.out hb11)
  clear F42_pg_10
  have F44_pg_12 := Lib.hid (box_below F43_pg_11.out hb12)
  clear F43_pg_11
  have F45_pg_13 := Lib.hid (box_below F44_pg_12.out hb13)
  clear F44_pg_12
  have F46_pg_14 := Lib.hid (box_below F45_pg_13.out hb14)
  clear F45_pg_13
  have F47_xg_12 := F16_xg_11.below hb12
  clear F16_xg_11
  have F48_xg_13 := F47_xg_12.below hb13
  clear F47_xg_12
  have F49_xg_14 := F48_xg_13.below hb14
  clear F48_xg_13
  go_wp2_with (fail)
  refine beginH (fun w' => w'.heap[(w8).heap.size]? = some (.cells #[.int .i64 (g).1, .slice A8 n8 c8, .slice B8 m8 d8, .slice C8 k8 e8] 31) ∧ w'.heap[(w).heap.size]? = some (.cells #[.int .i64 (g).1, .slice Ag ng cg, .slice Bg mg dg, .slice Cg kg eg] 25)) (by kernel_rfl) ?_
  have hb15 : Below (w14).heap.size (w14) (w14).drew := below_drewN (Below.refl _ _) 1
  have hB15 := below_trans hB14 hb15 hB14.size
  have F51_bxg_15 := Lib.hid (box_below F39_bxg_14.out hb15)
  clear F39_bxg_14
  have F52_pg_15 := Lib.hid (box_below F46_pg_14.out hb15)
  clear F46_pg_14
  have F53_xg_15 := F49_xg_14.below hb15
  clear F49_xg_14
  refine takeH 0 (v := ?_) rfl (by kernel_rfl) (by kernel_rfl) (by kernel_rfl) (fun _ _ _ h => h) ⟨F51_bxg_15.out, F52_pg_15.out⟩ (by rfl) (fun W' hW' => ?_) ?_; rotate_left; · (obtain ⟨q1, q2⟩ := hW'; obtain ⟨⟨ca0, ca1, ca2, ca3⟩, gca0, gca1, gca2, gca3⟩ := box4 q1; obtain ⟨⟨cb0, cb1, cb2, cb3⟩, gcb0, gcb1, gcb2, gcb3⟩ := box4 q2; clear q1 q2; go_simp; first | done | with_reducible rfl)
  simp only [Act.put, List.setIfInBounds_toArray, List.set_cons_zero, List.set_cons_succ]
  refine takeH 1 (v := ?_) rfl (by kernel_rfl) (by kernel_rfl) (by kernel_rfl) (fun _ _ _ h => h) ⟨F51_bxg_15.out, F52_pg_15.out⟩ (by rfl) (fun W' hW' => ?_) ?_; rotate_left; · (obtain ⟨q1, q2⟩ := hW'; obtain ⟨⟨ca0, ca1, ca2, ca3⟩, gca0, gca1, gca2, gca3⟩ := box4 q1; obtain ⟨⟨cb0, cb1, cb2, cb3⟩, gcb0, gcb1, gcb2, gcb3⟩ := box4 q2; clear q1 q2; go_simp; first | done | with_reducible rfl)
  simp only [Act.put, List.setIfInBounds_toArray, List.set_cons_zero, List.set_cons_succ]
  refine' callH 2 (f := _) (args := _) rfl (by kernel_rfl) (by rfl) ?_ ?_; rotate_left 2; · (go_simp; first | done | with_reducible rfl | (constructor <;> with_reducible rfl))
  refine (toGraph_law (hg.below hB15) okg).mono ?_
  rintro e w16 ⟨v16, fp16, rfl, o16, fr16, hb16⟩
  have hB16 := below_trans hB15 hb16 hB15.size
  have F54_bxg_16 := Lib.hid (box_below F51_bxg_15.out hb16)
  clear F51_bxg_15
  have F55_pg_16 := Lib.hid (box_below F52_pg_15.out hb16)
  clear F52_pg_15
  have F56_xg_16 := F53_xg_15.below hb16
  clear F53_xg_15
  refine ⟨_, rfl, ⟨F54_bxg_16.out, F55_pg_16.out⟩, ?_⟩
  simp only [Act.put, List.setIfInBounds_toArray, List.set_cons_zero, List.set_cons_succ]
  refine' callH 3 (f := _) (args := _) rfl (by kernel_rfl) (by rfl) ?_ ?_; rotate_left 2; · (go_simp; first | done | with_reducible rfl | (constructor <;> with_reducible rfl))
  refine (eqGraph_law F56_xg_16.rd o16.rd okg).mono ?_
  rintro e w17 ⟨rfl, hb17⟩
  have hB17 := below_trans hB16 hb17 hB16.size
  have F57_bxg_17 := Lib.hid (box_below F54_bxg_16.out hb17)
  clear F54_bxg_16
  have F58_pg_17 := Lib.hid (box_below F55_pg_16.out hb17)
  clear F55_pg_16
  have F59_xg_17 := F56_xg_16.below hb17
  clear F56_xg_16
  refine ⟨_, rfl, ⟨F57_bxg_17.out, F58_pg_17.out⟩, ?_⟩
  rw [decide_eq_true (rfl : g = g)]
  simp only [Act.put, List.setIfInBounds_toArray, List.set_cons_zero, List.set_cons_succ]
  refine takeH 4 (v := .bool false) rfl (by kernel_rfl) (by kernel_rfl) (by kernel_rfl) (fun _ _ _ h => h) ⟨F57_bxg_17.out, F58_pg_17.out⟩ (by rfl) (fun W' hW' => ?_) ?_; · (go_simp; first | done | with_reducible rfl)
  simp only [Act.put, List.setIfInBounds_toArray, List.set_cons_zero, List.set_cons_succ]
  refine doneH (by kernel_rfl) ?_
  go_wp2_with (fail)
  refine (toI_law (hp.below hB17) (by omega)).mono ?_
  rintro e w18 ⟨v18, fp18, rfl, o18, fr18, hb18⟩
  have hB18 := below_trans hB17 hb18 hB17.size
  have lt_tp := o18.lt
  have F60_xp_12 := F17_xp_11.below hb12
  clear F17_xp_11
  have F61_xp_13 := F60_xp_12.below hb13
  clear F60_xp_12
  have F62_xp_14 := F61_xp_13.below hb14
  clear F61_xp_13
  have F63_xp_15 := F62_xp_14.below hb15
  clear F62_xp_14
  have F64_xp_16 := F63_xp_15.below hb16
  clear F63_xp_15
  have F65_xp_17 := F64_xp_16.below hb17
  clear F64_xp_16
  have F66_xp_18 := F65_xp_17.below hb18
  clear F65_xp_17
  go_wp2_with (fail)
  refine (eqI_law F66_xp_18.rd o18.rd (by omega)).mono ?_
  rintro e w19 ⟨rfl, hb19⟩
  have hB19 := below_trans hB18 hb19 hB18.size
  rw [decide_eq_true (rfl : p = p)]
  go_wp2_with (fail)
  refine (toI_law (hq.below hB19) (by omega)).mono ?_
  rintro e w20 ⟨v20, fp20, rfl, o20, fr20, hb20⟩
  have hB20 := below_trans hB19 hb20 hB19.size
  have lt_tq := o20.lt
  have F67_xq_12 := o11.below hb12
  clear o11
  have F68_xq_13 := F67_xq_12.below hb13
  clear F67_xq_12
  have F69_xq_14 := F68_xq_13.below hb14
  clear F68_xq_13
  have F70_xq_15 := F69_xq_14.below hb15
  clear F69_xq_14
  have F71_xq_16 := F70_xq_15.below hb16
  clear F70_xq_15
  have F72_xq_17 := F71_xq_16.below hb17
  clear F71_xq_16
  have F73_xq_18 := F72_xq_17.below hb18
  clear F72_xq_17
  have F74_xq_19 := F73_xq_18.below hb19
  clear F73_xq_18
  have F75_xq_20 := F74_xq_19.below hb20
  clear F74_xq_19
  go_wp2_with (fail)
  refine (eqI_law F75_xq_20.rd o20.rd (by omega)).mono ?_
  rintro e w21 ⟨rfl, hb21⟩
  have hB21 := below_trans hB20 hb21 hB20.size
  rw [decide_eq_true (rfl : q = q)]
  have F76_xg_18 := F59_xg_17.below hb18
  clear F59_xg_17
  have F77_xg_19 := F76_xg_18.below hb19
  clear F76_xg_18
  have F78_xg_20 := F77_xg_19.below hb20
  clear F77_xg_19
  have F79_xg_21 := F78_xg_20.below hb21
  clear F78_xg_20
  have F80_bxg_18 := Lib.hid (box_below F57_bxg_17.out hb18)
  clear F57_bxg_17
  have F81_bxg_19 := Lib.hid (box_below F80_bxg_18.out hb19)
  clear F80_bxg_18
  have F82_bxg_20 := Lib.hid (box_below F81_bxg_19.out hb20)
  clear F81_bxg_19
  have F83_bxg_21 := Lib.hid (box_below F82_bxg_20.out hb21)
  clear F82_bxg_20
  obtain ⟨⟨c84_0, c84_1, c84_2, c84_3⟩, f84_0, f84_1, f84_2, f84_3⟩ := box4 F83_bxg_21.out
  go_wp2_with (fail)
  refine (markGraph_law (1) F79_xg_21 (by omega) okg (by have := okg.2.2; constructor <;> omega)).mono ?_
  rintro e w22 ⟨rfl, he22, hk22⟩
  have hB22 := below_keeps hB21 hk22 hB21.size (fun b hb => Nat.le_trans hB7.size (fr8 b hb))
  clear c84_0 c84_1 c84_2 c84_3 f84_0 f84_1 f84_2 f84_3
  have F85_xp_19 := F66_xp_18.below hb19
  clear F66_xp_18
  have F86_xp_20 := F85_xp_19.below hb20
  clear F85_xp_19
  have F87_xp_21 := F86_xp_20.below hb21
  clear F86_xp_20
  have F88_xp_22 := F87_xp_21.keeps hk22 (apart_of' lt_xg (fr10.mono (Nat.le_trans (Nat.le_refl _) hb9.size)))
  clear F87_xp_21
  go_wp2_with (fail)
  refine (markI_law (1 + cntG (g)) F88_xp_22 (by omega) (by have := okg.2.2; omega)).mono ?_
  rintro e w23 ⟨rfl, he23, hk23⟩
  have hB23 := below_keeps hB22 hk23 hB22.size (fun b hb => Nat.le_trans hB9.size (fr10 b hb))
  have F89_xq_21 := F75_xq_20.below hb21
  clear F75_xq_20
  have F90_xq_22 := F89_xq_21.keeps hk22 (apart_of' lt_xg (fr11.mono (Nat.le_trans (Nat.le_trans (Nat.le_refl _) hb9.size) hb10.size)))
  clear F89_xq_21
  have F91_xq_23 := F90_xq_22.keeps hk23 (apart_of' lt_xp (fr11))
  clear F90_xq_22
  go_wp2_with (fail)
  refine (markI_law (1 + cntG (g) + (p).length) F91_xq_23 (by omega) (by have := okg.2.2; omega)).mono ?_
  rintro e w24 ⟨rfl, he24, hk24⟩
  have hB24 := below_keeps hB23 hk24 hB23.size (fun b hb => Nat.le_trans hB10.size (fr11 b hb))
  have F92_G0_14 := F21_G0_13.below hb14
  clear F21_G0_13
  have F93_G0_15 := F92_G0_14.below hb15
  clear F92_G0_14
  have F94_G0_16 := F93_G0_15.below hb16
  clear F93_G0_15
  have F95_G0_17 := F94_G0_16.below hb17
  clear F94_G0_16
  have F96_G0_18 := F95_G0_17.below hb18
  clear F95_G0_17
  have F97_G0_19 := F96_G0_18.below hb19
  clear F96_G0_18
  have F98_G0_20 := F97_G0_19.below hb20
  clear F97_G0_19
  have F99_G0_21 := F98_G0_20.below hb21
  clear F98_G0_20
  have F100_G0_22 := F99_G0_21.keeps hk22 (apart_of' lt_xg (fr12_0.mono (Nat.le_trans (Nat.le_trans (Nat.le_trans (Nat.le_refl _) hb9.size) hb10.size) hb11.size)))
  clear F99_G0_21
  have F101_G0_23 := F100_G0_22.keeps hk23 (apart_of' lt_xp (fr12_0.mono (Nat.le_trans (Nat.le_refl _) hb11.size)))
  clear F100_G0_22
  have F102_G0_24 := F101_G0_23.keeps hk24 (apart_of' lt_xq (fr12_0))
  clear F101_G0_23
  have F103_W0_14 := F28_W0_13.below hb14
  clear F28_W0_13
  have F104_W0_15 := F103_W0_14.below hb15
  clear F103_W0_14
  have F105_W0_16 := F104_W0_15.below hb16
  clear F104_W0_15
  have F106_W0_17 := F105_W0_16.below hb17
  clear F105_W0_16
  have F107_W0_18 := F106_W0_17.below hb18
  clear F106_W0_17
  have F108_W0_19 := F107_W0_18.below hb19
  clear F107_W0_18
  have F109_W0_20 := F108_W0_19.below hb20
  clear F108_W0_19
  have F110_W0_21 := F109_W0_20.below hb21
  clear F109_W0_20
  have F111_W0_22 := F110_W0_21.keeps hk22 (apart_of lt_W0 (fr8.mono (Nat.le_trans (Nat.le_refl _) hb7.size)))
  clear F110_W0_21
  have F112_W0_23 := F111_W0_22.keeps hk23 (apart_of lt_W0 (fr10.mono (Nat.le_trans (Nat.le_trans (Nat.le_trans (Nat.le_refl _) hb7.size) hb8.size) hb9.size)))
  clear F111_W0_22
  have F113_W0_24 := F112_W0_23.keeps hk24 (apart_of lt_W0 (fr11.mono (Nat.le_trans (Nat.le_trans (Nat.le_trans (Nat.le_trans (Nat.le_refl _) hb7.size) hb8.size) hb9.size) hb10.size)))
  clear F112_W0_23
  have F114_bG0_14 := Lib.hid (box_below BX_bG0_13.out hb14)
  clear BX_bG0_13
  have F115_bG0_15 := Lib.hid (box_below F114_bG0_14.out hb15)
  clear F114_bG0_14
  have F116_bG0_16 := Lib.hid (box_below F115_bG0_15.out hb16)
  clear F115_bG0_15
  have F117_bG0_17 := Lib.hid (box_below F116_bG0_16.out hb17)
  clear F116_bG0_16
  have F118_bG0_18 := Lib.hid (box_below F117_bG0_17.out hb18)
  clear F117_bG0_17
  have F119_bG0_19 := Lib.hid (box_below F118_bG0_18.out hb19)
  clear F118_bG0_18
  have F120_bG0_20 := Lib.hid (box_below F119_bG0_19.out hb20)
  clear F119_bG0_19
  have F121_bG0_21 := Lib.hid (box_below F120_bG0_20.out hb21)
  clear F120_bG0_20
  have F122_bG0_22 := Lib.hid (box_keeps F121_bG0_21.out hk22 (fun hh => (apart_of' lt_xg (fr_bG0.mono (Nat.le_trans (Nat.le_trans (Nat.le_trans (Nat.le_trans (Nat.le_refl _) hb9.size) hb10.size) hb11.size) hb12.size))) _ (List.mem_singleton.2 rfl) hh))
  clear F121_bG0_21
  have F123_bG0_23 := Lib.hid (box_keeps F122_bG0_22.out hk23 (fun hh => (apart_of' lt_xp (fr_bG0.mono (Nat.le_trans (Nat.le_trans (Nat.le_refl _) hb11.size) hb12.size))) _ (List.mem_singleton.2 rfl) hh))
  clear F122_bG0_22
  have F124_bG0_24 := Lib.hid (box_keeps F123_bG0_23.out hk24 (fun hh => (apart_of' lt_xq (fr_bG0.mono (Nat.le_trans (Nat.le_refl _) hb12.size))) _ (List.mem_singleton.2 rfl) hh))
  clear F123_bG0_23
  obtain ⟨⟨c125_0, c125_1, c125_2, c125_3⟩, f125_0, f125_1, f125_2, f125_3⟩ := box4 F124_bG0_24.out
  have F126_bW0_14 := Lib.hid (box_below F35_bW0_13.out hb14)
  clear F35_bW0_13
  have F127_bW0_15 := Lib.hid (box_below F126_bW0_14.out hb15)
  clear F126_bW0_14
  have F128_bW0_16 := Lib.hid (box_below F127_bW0_15.out hb16)
  clear F127_bW0_15
  have F129_bW0_17 := Lib.hid (box_below F128_bW0_16.out hb17)
  clear F128_bW0_16
  have F130_bW0_18 := Lib.hid (box_below F129_bW0_17.out hb18)
  clear F129_bW0_17
  have F131_bW0_19 := Lib.hid (box_below F130_bW0_18.out hb19)
  clear F130_bW0_18
  have F132_bW0_20 := Lib.hid (box_below F131_bW0_19.out hb20)
  clear F131_bW0_19
  have F133_bW0_21 := Lib.hid (box_below F132_bW0_20.out hb21)
  clear F132_bW0_20
  have F134_bW0_22 := Lib.hid (box_keeps F133_bW0_21.out hk22 (fun hh => (apart_of lt_bW0 (fr8)) _ (List.mem_singleton.2 rfl) hh))
  clear F133_bW0_21
  have F135_bW0_23 := Lib.hid (box_keeps F134_bW0_22.out hk23 (fun hh => (apart_of lt_bW0 (fr10.mono (Nat.le_trans (Nat.le_trans (Nat.le_refl _) hb8.size) hb9.size))) _ (List.mem_singleton.2 rfl) hh))
  clear F134_bW0_22
  have F136_bW0_24 := Lib.hid (box_keeps F135_bW0_23.out hk24 (fun hh => (apart_of lt_bW0 (fr11.mono (Nat.le_trans (Nat.le_trans (Nat.le_trans (Nat.le_refl _) hb8.size) hb9.size) hb10.size))) _ (List.mem_singleton.2 rfl) hh))
  clear F135_bW0_23
  obtain ⟨⟨c137_0, c137_1, c137_2, c137_3⟩, f137_0, f137_1, f137_2, f137_3⟩ := box4 F136_bW0_24.out
  go_wp2_with (fail)
  refine (eqGraph_law F102_G0_24.rd F113_W0_24.rd (renM_ok p q okg)).mono ?_
  rintro e w25 ⟨rfl, hb25⟩
  have hB25 := below_trans hB24 hb25 hB24.size
  clear c125_0 c125_1 c125_2 c125_3 f125_0 f125_1 f125_2 f125_3 c137_0 c137_1 c137_2 c137_3 f137_0 f137_1 f137_2 f137_3
  rw [decide_eq_true (rfl : (renM g p q).1 = (renM g p q).1)]
  have F138_G0_25 := F102_G0_24.below hb25
  clear F102_G0_24
  have F139_bG0_25 := Lib.hid (box_below F124_bG0_24.out hb25)
  clear F124_bG0_24
  obtain ⟨⟨c140_0, c140_1, c140_2, c140_3⟩, f140_0, f140_1, f140_2, f140_3⟩ := box4 F139_bG0_25.out
  go_wp2_with (fail)
  refine (markGraph_law (1) F138_G0_25 (by omega) (renM_ok p q okg) (by have := (renM_ok p q okg).2.2; constructor <;> omega)).mono ?_
  rintro e w26 ⟨rfl, he26, hk26⟩
  have hB26 := below_keeps hB25 hk26 hB25.size (fun b hb => Nat.le_trans hB11.size (fr12_0 b hb))
  clear c140_0 c140_1 c140_2 c140_3 f140_0 f140_1 f140_2 f140_3
  have F141_bG0_26 := Lib.hid (box_keeps F139_bG0_25.out hk26 (fun hh => (apart_of' lt_G0 (fr_bG0)) _ (List.mem_singleton.2 rfl) hh))
  clear F139_bG0_25
  obtain ⟨⟨c142_0, c142_1, c142_2, c142_3⟩, f142_0, f142_1, f142_2, f142_3⟩ := box4 F141_bG0_26.out
  go_wp2_with (fail)
  refine (heldGraph_law he26 (by omega) (renM_ok p q okg) (by have := (renM_ok p q okg).2.2; constructor <;> omega)).mono ?_
  rintro e w27 ⟨rfl, hb27⟩
  have hB27 := below_trans hB26 hb27 hB26.size
  clear c142_0 c142_1 c142_2 c142_3 f142_0 f142_1 f142_2 f142_3
  have F143_pg_18 := Lib.hid (box_below F58_pg_17.out hb18)
  clear F58_pg_17
  have F144_pg_19 := Lib.hid (box_below F143_pg_18.out hb19)
  clear F143_pg_18
  have F145_pg_20 := Lib.hid (box_below F144_pg_19.out hb20)
  clear F144_pg_19
  have F146_pg_21 := Lib.hid (box_below F145_pg_20.out hb21)
  clear F145_pg_20
  have F147_pg_22 := Lib.hid (box_keeps F146_pg_21.out hk22 (fun hh => (apart_of lt_pg (fr8.mono (Nat.le_trans (Nat.le_trans (Nat.le_trans (Nat.le_trans (Nat.le_trans (Nat.le_trans (Nat.le_refl _) hb2.size) hb3.size) hb4.size) hb5.size) hb6.size) hb7.size))) _ (List.mem_singleton.2 rfl) hh))
  clear F146_pg_21
  have F148_pg_23 := Lib.hid (box_keeps F147_pg_22.out hk23 (fun hh => (apart_of lt_pg (fr10.mono (Nat.le_trans (Nat.le_trans (Nat.le_trans (Nat.le_trans (Nat.le_trans (Nat.le_trans (Nat.le_trans (Nat.le_trans (Nat.le_refl _) hb2.size) hb3.size) hb4.size) hb5.size) hb6.size) hb7.size) hb8.size) hb9.size))) _ (List.mem_singleton.2 rfl) hh))
  clear F147_pg_22
  have F149_pg_24 := Lib.hid (box_keeps F148_pg_23.out hk24 (fun hh => (apart_of lt_pg (fr11.mono (Nat.le_trans (Nat.le_trans (Nat.le_trans (Nat.le_trans (Nat.le_trans (Nat.le_trans (Nat.le_trans (Nat.le_trans (Nat.le_trans (Nat.le_refl _) hb2.size) hb3.size) hb4.size) hb5.size) hb6.size) hb7.size) hb8.size) hb9.size) hb10.size))) _ (List.mem_singleton.2 rfl) hh))
  clear F148_pg_23
  have F150_pg_25 := Lib.hid (box_below F149_pg_24.out hb25)
  clear F149_pg_24
  have F151_pg_26 := Lib.hid (box_keeps F150_pg_25.out hk26 (fun hh => (apart_of lt_pg (fr12_0.mono (Nat.le_trans (Nat.le_trans (Nat.le_trans (Nat.le_trans (Nat.le_trans (Nat.le_trans (Nat.le_trans (Nat.le_trans (Nat.le_trans (Nat.le_trans (Nat.le_refl _) hb2.size) hb3.size) hb4.size) hb5.size) hb6.size) hb7.size) hb8.size) hb9.size) hb10.size) hb11.size))) _ (List.mem_singleton.2 rfl) hh))
  clear F150_pg_25
  have F152_pg_27 := Lib.hid (box_below F151_pg_26.out hb27)
  clear F151_pg_26
  obtain ⟨⟨c153_0, c153_1, c153_2, c153_3⟩, f153_0, f153_1, f153_2, f153_3⟩ := box4 F152_pg_27.out
  go_wp2_with (fail)
  refine (toGraph_law (hg.below hB27) okg).mono ?_
  rintro e w28 ⟨v28, fp28, rfl, o28, fr28, hb28⟩
  have hB28 := below_trans hB27 hb28 hB27.size
  clear c153_0 c153_1 c153_2 c153_3 f153_0 f153_1 f153_2 f153_3
  obtain ⟨A28, n28, c28, B28, m28, d28, C28, k28, e28, rfl⟩ := o28.shape
  have lt_yg := o28.lt
  go_wp2_with (fail)
  refine (toI_law (hp.below hB28) (by omega)).mono ?_
  rintro e w29 ⟨v29, fp29, rfl, o29, fr29, hb29⟩
  have hB29 := below_trans hB28 hb29 hB28.size
  have lt_yp := o29.lt
  go_wp2_with (fail)
  refine (toI_law (hq.below hB29) (by omega)).mono ?_
  rintro e w30 ⟨v30, fp30, rfl, o30, fr30, hb30⟩
  have hB30 := below_trans hB29 hb30 hB29.size
  have lt_yq := o30.lt
  have F154_yg_29 := o28.below hb29
  clear o28
  have F155_yg_30 := F154_yg_29.below hb30
  clear F154_yg_29
  have F156_yp_30 := o29.below hb30
  clear o29
  go_wp2_with (fail)
  refine (iRenumberGraph_law  F155_yg_30.rd F156_yp_30.rd o30.rd okg (by omega) (by omega)).mono ?_
  rintro e w31 ⟨v31_0, fp31_0, rfl, o31r0, fr31_0, hb31⟩
  have hB31 := below_trans hB30 hb31 hB30.size
  obtain ⟨A31_0, n31_0, c31_0, B31_0, m31_0, d31_0, C31_0, k31_0, e31_0, rfl⟩ := o31r0.shape
  have lt_H0 := o31r0.lt
  have hb32 := below_alloc (w31) (.cells #[.int .i64 ((renM g p q).1).1, .slice A31_0 n31_0 c31_0, .slice B31_0 m31_0 d31_0, .slice C31_0 k31_0 e31_0] 31)
  have hB32 := below_trans hB31 hb32 hB31.size
  have bx32 := heap_alloc_new (w31) (.cells #[.int .i64 ((renM g p q).1).1, .slice A31_0 n31_0 c31_0, .slice B31_0 m31_0 d31_0, .slice C31_0 k31_0 e31_0] 31)
  have lt_bH0 : LtL ((w31).alloc (.cells #[.int .i64 ((renM g p q).1).1, .slice A31_0 n31_0 c31_0, .slice B31_0 m31_0 d31_0, .slice C31_0 k31_0 e31_0] 31)).heap.size [(w31).heap.size] := fun b hb => by obtain rfl := List.mem_singleton.1 hb; exact box_lt bx32
  have fr_bH0 : FreshL (w31).heap.size [(w31).heap.size] := fun b hb => by obtain rfl := List.mem_singleton.1 hb; exact Nat.le_refl _
  have BX_bH0_32 := Lib.hid bx32
  clear bx32
  have F157_H0_32 := o31r0.below hb32
  clear o31r0
  have F158_W0_25 := F113_W0_24.below hb25
  clear F113_W0_24
  have F159_W0_26 := F158_W0_25.keeps hk26 (apart_of lt_W0 (fr12_0.mono (Nat.le_trans (Nat.le_trans (Nat.le_trans (Nat.le_trans (Nat.le_trans (Nat.le_refl _) hb7.size) hb8.size) hb9.size) hb10.size) hb11.size)))
  clear F158_W0_25
  have F160_W0_27 := F159_W0_26.below hb27
  clear F159_W0_26
  have F161_W0_28 := F160_W0_27.below hb28
  clear F160_W0_27
  have F162_W0_29 := F161_W0_28.below hb29
  clear F161_W0_28
  have F163_W0_30 := F162_W0_29.below hb30
  clear F162_W0_29
  have F164_W0_31 := F163_W0_30.below hb31
  clear F163_W0_30
  have F165_W0_32 := F164_W0_31.below hb32
  clear F164_W0_31
  obtain ⟨⟨c166_0, c166_1, c166_2, c166_3⟩, f166_0, f166_1, f166_2, f166_3⟩ := box4 BX_bH0_32.out
  have F167_bW0_25 := Lib.hid (box_below F136_bW0_24.out hb25)
  clear F136_bW0_24
  have F168_bW0_26 := Lib.hid (box_keeps F167_bW0_25.out hk26 (fun hh => (apart_of lt_bW0 (fr12_0.mono (Nat.le_trans (Nat.le_trans (Nat.le_trans (Nat.le_trans (Nat.le_refl _) hb8.size) hb9.size) hb10.size) hb11.size))) _ (List.mem_singleton.2 rfl) hh))
  clear F167_bW0_25
  have F169_bW0_27 := Lib.hid (box_below F168_bW0_26.out hb27)
  clear F168_bW0_26
  have F170_bW0_28 := Lib.hid (box_below F169_bW0_27.out hb28)
  clear F169_bW0_27
  have F171_bW0_29 := Lib.hid (box_below F170_bW0_28.out hb29)
  clear F170_bW0_28
  have F172_bW0_30 := Lib.hid (box_below F171_bW0_29.out hb30)
  clear F171_bW0_29
  have F173_bW0_31 := Lib.hid (box_below F172_bW0_30.out hb31)
  clear F172_bW0_30
  have F174_bW0_32 := Lib.hid (box_below F173_bW0_31.out hb32)
  clear F173_bW0_31
  obtain ⟨⟨c175_0, c175_1, c175_2, c175_3⟩, f175_0, f175_1, f175_2, f175_3⟩ := box4 F174_bW0_32.out
  go_wp2_with (fail)
  refine (eqGraph_law F157_H0_32.rd F165_W0_32.rd (renM_ok p q okg)).mono ?_
  rintro e w33 ⟨rfl, hb33⟩
  have hB33 := below_trans hB32 hb33 hB32.size
  clear c166_0 c166_1 c166_2 c166_3 f166_0 f166_1 f166_2 f166_3 c175_0 c175_1 c175_2 c175_3 f175_0 f175_1 f175_2 f175_3
  rw [decide_eq_true (rfl : (renM g p q).1 = (renM g p q).1)]
  have F176_G0_27 := he26.below hb27
  clear he26
  have F177_G0_28 := F176_G0_27.below hb28
  clear F176_G0_27
  have F178_G0_29 := F177_G0_28.below hb29
  clear F177_G0_28
  have F179_G0_30 := F178_G0_29.below hb30
  clear F178_G0_29
  have F180_G0_31 := F179_G0_30.below hb31
  clear F179_G0_30
  have F181_G0_32 := F180_G0_31.below hb32
  clear F180_G0_31
  have F182_G0_33 := F181_G0_32.below hb33
  clear F181_G0_32
  have F183_bG0_27 := Lib.hid (box_below F141_bG0_26.out hb27)
  clear F141_bG0_26
  have F184_bG0_28 := Lib.hid (box_below F183_bG0_27.out hb28)
  clear F183_bG0_27
  have F185_bG0_29 := Lib.hid (box_below F184_bG0_28.out hb29)
  clear F184_bG0_28
  have F186_bG0_30 := Lib.hid (box_below F185_bG0_29.out hb30)
  clear F185_bG0_29
  have F187_bG0_31 := Lib.hid (box_below F186_bG0_30.out hb31)
  clear F186_bG0_30
  have F188_bG0_32 := Lib.hid (box_below F187_bG0_31.out hb32)
  clear F187_bG0_31
  have F189_bG0_33 := Lib.hid (box_below F188_bG0_32.out hb33)
  clear F188_bG0_32
  obtain ⟨⟨c190_0, c190_1, c190_2, c190_3⟩, f190_0, f190_1, f190_2, f190_3⟩ := box4 F189_bG0_33.out
  go_wp2_with (fail)
  refine (heldGraph_law F182_G0_33 (by omega) (renM_ok p q okg) (by have := (renM_ok p q okg).2.2; constructor <;> omega)).mono ?_
  rintro e w34 ⟨rfl, hb34⟩
  have hB34 := below_trans hB33 hb34 hB33.size
  clear c190_0 c190_1 c190_2 c190_3 f190_0 f190_1 f190_2 f190_3
  go_wp2_with (fail)
  go_ret
  exact ⟨rfl, hB34⟩

theorem readRenumberGraph : ∀ t ∈ Try.f4.params.toList, Try.prog.readableRec t = true ∧ t < Try.prog.types.size := by
  rw [Try.params4]
  intro t ht
  have ht' : t ∈ ([25, 23, 23] : List TypeId) := ht
  rcases List.mem_cons.1 ht' with rfl | ht'
  · exact ⟨by kernel_rfl, of_decide_eq_true (by kernel_rfl)⟩
  rcases List.mem_cons.1 ht' with rfl | ht'
  · exact ⟨by kernel_rfl, of_decide_eq_true (by kernel_rfl)⟩
  rcases List.mem_cons.1 ht' with rfl | ht'
  · exact ⟨by kernel_rfl, of_decide_eq_true (by kernel_rfl)⟩
  cases ht'
set_option maxRecDepth 100000 in
theorem liftedRenumberGraph (os : Os) (started : os.Started) (H : Type) (enc : TypeId × Value → H) :
    ReturnsInHanded {} Try.checked os 4 .any (Rows.fnExactRenumberGraphSpec.pre6 enc Try.prog Try.f4 Rows.fnExactRenumberGraphRow.domain false) (Rows.fnExactRenumberGraphSpec.post enc Try.prog Try.f4 false true false false) := by
  refine returnsInHanded_of_change (C := Try.checked) own started (by kernel_rfl) Try.func4
    (ChangeSpec.witness6 (enc := enc) (C := Try.checked) false ⟨#[], #[.agg #[.int .i64 0, .slice none 0 0, .slice none 0 0, .slice none 0 0], .slice none 0 0, .slice none 0 0], []⟩ 8 (by kernel_rfl) (by kernel_rfl) (by kernel_rfl) (by kernel_rfl)) ?_
  intro W base args ds gs before hval0 hW hcnd _
  have hval : ∀ (j : Nat) t v, Try.f4.params[j]? = some t → args[j]? = some v → Value.okWide Try.prog W .any base t v := hval0
  have hW' := hW
  obtain ⟨p, q, hA0, hV, rfl, hfz, hnd⟩ := hW
  have hA : DataW.TrodAll enc Try.prog W 0 (fun _ => true) true Try.f4.params.toList args.toList ds p := hA0
  rw [Try.params4] at hA hval
  obtain ⟨v0, vs0, d0, ds0, p0, q0, hargs, rfl, rfl, t0, r0⟩ := trodAll_cons hA
  obtain ⟨v1, vs1, d1, ds1, p1, q1, rfl, rfl, rfl, t1, r1⟩ := trodAll_cons r0
  obtain ⟨v2, vs2, d2, ds2, p2, q2, rfl, rfl, rfl, t2, r2⟩ := trodAll_cons r1
  obtain ⟨rfl, rfl, rfl⟩ := trodAll_nil r2
  obtain rfl : args = #[v0, v1, v2] := by cases args; simp_all
  obtain ⟨rfl, rfl⟩ := trodVars_none hV
  obtain ⟨m0, hl0, hg0⟩ := in_Graph (hval 0 _ v0 rfl rfl) t0
  obtain ⟨A1, c1, l1, rfl, hl1⟩ := in_ints (hval 1 _ v1 rfl rfl) t1
  obtain ⟨A2, c2, l2, rfl, hl2⟩ := in_ints (hval 2 _ v2 rfl rfl) t2
  clear hA0 hval0
  refine (lawRenumberGraph_any v0 m0 A1 c1 l1 A2 c2 l2 W hl0 hg0 hl1 hl2 ).mono fun e W' ⟨he, hb⟩ => ?_
  subst he
  exact ⟨_, rfl, post_true laidOut hW' hb readRenumberGraph (fun n hn => by cases hn) rfl rfl Try.underlying4⟩
theorem provedRenumberGraph : Rows.FnExactRenumberGraphSaid :=
  OpenClaim.holds_of_wide 4 Try.f4 rfl rfl rfl rfl rfl rfl rfl ⟨rfl, rfl, rfl, rfl, rfl⟩ rfl rfl rfl rfl rfl (by kernel_rfl) Try.func4 (by kernel_rfl)
    (of_decide_eq_true (by kernel_rfl)) (by unfold Func.isWrapper; first | (rw [if_pos (by decide +kernel)]; kernel_rfl) | (rw [if_neg (by decide +kernel)]; exact ⟨rfl, rfl⟩))
    (fun os started H enc _ => liftedRenumberGraph os started H enc)
#print axioms provedRenumberGraph
end Go.Proofs.Ytanhmljgeiajoaa
