/-
  The program's IsMatch returns what the reference's returns, for all arguments (laws.FnExactIsMatch answers true). No condition.
-/
import Derived.Test.YtanhmljgeiajoaaGrNa
import Derived.Test.YtanhmljgeiajoaaRegT
import Derived.Test.YtanhmljgeiajoaaRegH
import Derived.Test.YtanhmljgeiajoaaFrameP
import Derived.Test.YtanhmljgeiajoaaGrSz
import Derived.Test.YtanhmljgeiajoaaGrLaw
import Derived.Test.YtanhmljgeiajoaaMa
import Derived.Test.YtanhmljgeiajoaaMaLaw
namespace Go.Proofs.Ytanhmljgeiajoaa
open Go.ChangeShapes Go.WideShapes Go.ChangeAt Go.RowKit

set_option maxHeartbeats 40000000 in
set_option maxRecDepth 100000 in
theorem lawIsMatch_any (vg : Value) (g : Gr) (vpt : Value) (pt : Gr) (vm : Value) (m : Ma) (w : World) (hg : RdGr w vg g) (hgg : BigGraph g) (hpt : RdGr w vpt pt) (hgpt : BigGraph pt) (hm : RdMa w vm m) (hgm : BigMatch m) :
    Calls Try.prog 5 #[vg, vpt, vm] w fun e w' => e = .returned (.bool true) ∧ Below w.heap.size w w' := by
  obtain ⟨Ag, ng, cg, Bg, mg, dg, Cg, kg, eg, rfl⟩ := hg.shape
  obtain ⟨Apt, npt, cpt, Bpt, mpt, dpt, Cpt, kpt, ept, rfl⟩ := hpt.shape
  obtain ⟨Am, nm, cm, Bm, mm, dm, rfl⟩ := hm.shape
  obtain ⟨Sg, hSg⟩ : ∃ S, S = szG (g) 1048576 := ⟨_, rfl⟩
  have HSg := Lib.hid hSg
  clear hSg
  obtain ⟨Spt, hSpt⟩ : ∃ S, S = szG (pt) Sg := ⟨_, rfl⟩
  have HSpt := Lib.hid hSpt
  clear hSpt
  obtain ⟨Sm, hSm⟩ : ∃ S, S = szMa (m) Spt := ⟨_, rfl⟩
  have HSm := Lib.hid hSm
  clear hSm
  have hB0 : Below w.heap.size w w := Below.refl _ _
  have hb1 := below_alloc (w) (.cells #[.int .i64 (g).1, .slice Ag ng cg, .slice Bg mg dg, .slice Cg kg eg] 25)
  have hB1 := below_trans hB0 hb1 hB0.size
  have bx1 := heap_alloc_new (w) (.cells #[.int .i64 (g).1, .slice Ag ng cg, .slice Bg mg dg, .slice Cg kg eg] 25)
  have lt_pg : LtL ((w).alloc (.cells #[.int .i64 (g).1, .slice Ag ng cg, .slice Bg mg dg, .slice Cg kg eg] 25)).heap.size [(w).heap.size] := fun b hb => by obtain rfl := List.mem_singleton.1 hb; exact box_lt bx1
  have fr_pg : FreshL (w).heap.size [(w).heap.size] := fun b hb => by obtain rfl := List.mem_singleton.1 hb; exact Nat.le_refl _
  have BX_pg_1 := Lib.hid bx1
  clear bx1
  have hb2 := below_alloc ((w).alloc (.cells #[.int .i64 (g).1, .slice Ag ng cg, .slice Bg mg dg, .slice Cg kg eg] 25)) (.cells #[.int .i64 (pt).1, .slice Apt npt cpt, .slice Bpt mpt dpt, .slice Cpt kpt ept] 25)
  have hB2 := below_trans hB1 hb2 hB1.size
  have bx2 : (((w).alloc (.cells #[.int .i64 (g).1, .slice Ag ng cg, .slice Bg mg dg, .slice Cg kg eg] 25)).alloc (.cells #[.int .i64 (pt).1, .slice Apt npt cpt, .slice Bpt mpt dpt, .slice Cpt kpt ept] 25)).heap[(w).heap.size + 1]? = some (.cells #[.int .i64 (pt).1, .slice Apt npt cpt, .slice Bpt mpt dpt, .slice Cpt kpt ept] 25) := by
    have := heap_alloc_new ((w).alloc (.cells #[.int .i64 (g).1, .slice Ag ng cg, .slice Bg mg dg, .slice Cg kg eg] 25)) (.cells #[.int .i64 (pt).1, .slice Apt npt cpt, .slice Bpt mpt dpt, .slice Cpt kpt ept] 25)
    simp only [World.size_alloc] at this; exact this
  have lt_ppt : LtL (((w).alloc (.cells #[.int .i64 (g).1, .slice Ag ng cg, .slice Bg mg dg, .slice Cg kg eg] 25)).alloc (.cells #[.int .i64 (pt).1, .slice Apt npt cpt, .slice Bpt mpt dpt, .slice Cpt kpt ept] 25)).heap.size [(w).heap.size + 1] := fun b hb => by obtain rfl := List.mem_singleton.1 hb; exact box_lt bx2
  have fr_ppt : FreshL ((w).alloc (.cells #[.int .i64 (g).1, .slice Ag ng cg, .slice Bg mg dg, .slice Cg kg eg] 25)).heap.size [(w).heap.size + 1] := fun b hb => by obtain rfl := List.mem_singleton.1 hb; simp only [World.size_alloc]; exact Nat.le_refl _
  have BX_ppt_2 := Lib.hid bx2
  clear bx2
  have hb3 := below_alloc (((w).alloc (.cells #[.int .i64 (g).1, .slice Ag ng cg, .slice Bg mg dg, .slice Cg kg eg] 25)).alloc (.cells #[.int .i64 (pt).1, .slice Apt npt cpt, .slice Bpt mpt dpt, .slice Cpt kpt ept] 25)) (.cells #[.slice Am nm cm, .slice Bm mm dm] 43)
  have hB3 := below_trans hB2 hb3 hB2.size
  have bx3 : ((((w).alloc (.cells #[.int .i64 (g).1, .slice Ag ng cg, .slice Bg mg dg, .slice Cg kg eg] 25)).alloc (.cells #[.int .i64 (pt).1, .slice Apt npt cpt, .slice Bpt mpt dpt, .slice Cpt kpt ept] 25)).alloc (.cells #[.slice Am nm cm, .slice Bm mm dm] 43)).heap[(w).heap.size + 1 + 1]? = some (.cells #[.slice Am nm cm, .slice Bm mm dm] 43) := by
    have := heap_alloc_new (((w).alloc (.cells #[.int .i64 (g).1, .slice Ag ng cg, .slice Bg mg dg, .slice Cg kg eg] 25)).alloc (.cells #[.int .i64 (pt).1, .slice Apt npt cpt, .slice Bpt mpt dpt, .slice Cpt kpt ept] 25)) (.cells #[.slice Am nm cm, .slice Bm mm dm] 43)
    simp only [World.size_alloc] at this; exact this
  have lt_pm : LtL ((((w).alloc (.cells #[.int .i64 (g).1, .slice Ag ng cg, .slice Bg mg dg, .slice Cg kg eg] 25)).alloc (.cells #[.int .i64 (pt).1, .slice Apt npt cpt, .slice Bpt mpt dpt, .slice Cpt kpt ept] 25)).alloc (.cells #[.slice Am nm cm, .slice Bm mm dm] 43)).heap.size [(w).heap.size + 1 + 1] := fun b hb => by obtain rfl := List.mem_singleton.1 hb; exact box_lt bx3
  have fr_pm : FreshL (((w).alloc (.cells #[.int .i64 (g).1, .slice Ag ng cg, .slice Bg mg dg, .slice Cg kg eg] 25)).alloc (.cells #[.int .i64 (pt).1, .slice Apt npt cpt, .slice Bpt mpt dpt, .slice Cpt kpt ept] 25)).heap.size [(w).heap.size + 1 + 1] := fun b hb => by obtain rfl := List.mem_singleton.1 hb; simp only [World.size_alloc]; exact Nat.le_refl _
  have BX_pm_3 := Lib.hid bx3
  clear bx3
  by_cases negg : Sg < 0
  case pos =>
    go_enter Try.func5, Try.ntmps5
    have F1_pg_2 := Lib.hid (box_below BX_pg_1.out hb2)
    clear BX_pg_1
    have F2_pg_3 := Lib.hid (box_below F1_pg_2.out hb3)
    clear F1_pg_2
    obtain ⟨⟨c3_0, c3_1, c3_2, c3_3⟩, f3_0, f3_1, f3_2, f3_3⟩ := box4 F2_pg_3.out
    go_wp2_with (fail)
    refine (szGraph_law 1048576 (hg.below hB3) hgg (by omega) (by omega)).mono ?_
    rintro e w4 ⟨he4, hb4⟩
    have hB4 := below_trans hB3 hb4 hB3.size
    clear c3_0 c3_1 c3_2 c3_3 f3_0 f3_1 f3_2 f3_3
    rw [← HSg.out] at he4
    subst he4
    go_wp2_with (fail)
    go_ret
    exact ⟨rfl, hB4⟩
  have sokg := szG_ok (by rw [← HSg.out]; omega : 0 ≤ szG (g) 1048576) (by omega)
  have okg := sokg.1
  have sleg : Sg ≤ 1048576 := by rw [HSg.out]; exact sokg.2
  clear sokg
  by_cases negpt : Spt < 0
  case pos =>
    go_enter Try.func5, Try.ntmps5
    have F4_pg_2 := Lib.hid (box_below BX_pg_1.out hb2)
    clear BX_pg_1
    have F5_pg_3 := Lib.hid (box_below F4_pg_2.out hb3)
    clear F4_pg_2
    obtain ⟨⟨c6_0, c6_1, c6_2, c6_3⟩, f6_0, f6_1, f6_2, f6_3⟩ := box4 F5_pg_3.out
    go_wp2_with (fail)
    refine (szGraph_law 1048576 (hg.below hB3) hgg (by omega) (by omega)).mono ?_
    rintro e w4 ⟨he4, hb4⟩
    have hB4 := below_trans hB3 hb4 hB3.size
    clear c6_0 c6_1 c6_2 c6_3 f6_0 f6_1 f6_2 f6_3
    rw [← HSg.out] at he4
    subst he4
    have F7_ppt_3 := Lib.hid (box_below BX_ppt_2.out hb3)
    clear BX_ppt_2
    have F8_ppt_4 := Lib.hid (box_below F7_ppt_3.out hb4)
    clear F7_ppt_3
    obtain ⟨⟨c9_0, c9_1, c9_2, c9_3⟩, f9_0, f9_1, f9_2, f9_3⟩ := box4 F8_ppt_4.out
    go_wp2_with (fail)
    refine (szGraph_law Sg (hpt.below hB4) hgpt (by omega) (by omega)).mono ?_
    rintro e w5 ⟨he5, hb5⟩
    have hB5 := below_trans hB4 hb5 hB4.size
    clear c9_0 c9_1 c9_2 c9_3 f9_0 f9_1 f9_2 f9_3
    rw [← HSpt.out] at he5
    subst he5
    go_wp2_with (fail)
    go_ret
    exact ⟨rfl, hB5⟩
  have sokpt := szG_ok (by rw [← HSpt.out]; omega : 0 ≤ szG (pt) Sg) (by omega)
  have okpt := sokpt.1
  have slept : Spt ≤ Sg := by rw [HSpt.out]; exact sokpt.2
  clear sokpt
  by_cases negm : Sm < 0
  case pos =>
    go_enter Try.func5, Try.ntmps5
    have F10_pg_2 := Lib.hid (box_below BX_pg_1.out hb2)
    clear BX_pg_1
    have F11_pg_3 := Lib.hid (box_below F10_pg_2.out hb3)
    clear F10_pg_2
    obtain ⟨⟨c12_0, c12_1, c12_2, c12_3⟩, f12_0, f12_1, f12_2, f12_3⟩ := box4 F11_pg_3.out
    go_wp2_with (fail)
    refine (szGraph_law 1048576 (hg.below hB3) hgg (by omega) (by omega)).mono ?_
    rintro e w4 ⟨he4, hb4⟩
    have hB4 := below_trans hB3 hb4 hB3.size
    clear c12_0 c12_1 c12_2 c12_3 f12_0 f12_1 f12_2 f12_3
    rw [← HSg.out] at he4
    subst he4
    have F13_ppt_3 := Lib.hid (box_below BX_ppt_2.out hb3)
    clear BX_ppt_2
    have F14_ppt_4 := Lib.hid (box_below F13_ppt_3.out hb4)
    clear F13_ppt_3
    obtain ⟨⟨c15_0, c15_1, c15_2, c15_3⟩, f15_0, f15_1, f15_2, f15_3⟩ := box4 F14_ppt_4.out
    go_wp2_with (fail)
    refine (szGraph_law Sg (hpt.below hB4) hgpt (by omega) (by omega)).mono ?_
    rintro e w5 ⟨he5, hb5⟩
    have hB5 := below_trans hB4 hb5 hB4.size
    clear c15_0 c15_1 c15_2 c15_3 f15_0 f15_1 f15_2 f15_3
    rw [← HSpt.out] at he5
    subst he5
    have F16_pm_4 := Lib.hid (box_below BX_pm_3.out hb4)
    clear BX_pm_3
    have F17_pm_5 := Lib.hid (box_below F16_pm_4.out hb5)
    clear F16_pm_4
    obtain ⟨⟨c18_0, c18_1⟩, f18_0, f18_1⟩ := box2 F17_pm_5.out
    go_wp2_with (fail)
    refine (szMatch_law Spt (hm.below hB5) hgm (by omega) (by omega)).mono ?_
    rintro e w6 ⟨he6, hb6⟩
    have hB6 := below_trans hB5 hb6 hB5.size
    clear c18_0 c18_1 f18_0 f18_1
    rw [← HSm.out] at he6
    subst he6
    go_wp2_with (fail)
    go_ret
    exact ⟨rfl, hB6⟩
  have sokm := szMa_ok (by rw [← HSm.out]; omega : 0 ≤ szMa (m) Spt) (by omega)
  have okm := sokm.1
  have slem : Sm ≤ Spt := by rw [HSm.out]; exact sokm.2
  clear sokm
  go_enter Try.func5, Try.ntmps5
  have F19_pg_2 := Lib.hid (box_below BX_pg_1.out hb2)
  clear BX_pg_1
  have F20_pg_3 := Lib.hid (box_below F19_pg_2.out hb3)
  clear F19_pg_2
  obtain ⟨⟨c21_0, c21_1, c21_2, c21_3⟩, f21_0, f21_1, f21_2, f21_3⟩ := box4 F20_pg_3.out
  go_wp2_with (fail)
  refine (szGraph_law 1048576 (hg.below hB3) hgg (by omega) (by omega)).mono ?_
  rintro e w4 ⟨he4, hb4⟩
  have hB4 := below_trans hB3 hb4 hB3.size
  clear c21_0 c21_1 c21_2 c21_3 f21_0 f21_1 f21_2 f21_3
  rw [← HSg.out] at he4
  subst he4
  have F22_ppt_3 := Lib.hid (box_below BX_ppt_2.out hb3)
  clear BX_ppt_2
  have F23_ppt_4 := Lib.hid (box_below F22_ppt_3.out hb4)
  clear F22_ppt_3
  obtain ⟨⟨c24_0, c24_1, c24_2, c24_3⟩, f24_0, f24_1, f24_2, f24_3⟩ := box4 F23_ppt_4.out
  go_wp2_with (fail)
  refine (szGraph_law Sg (hpt.below hB4) hgpt (by omega) (by omega)).mono ?_
  rintro e w5 ⟨he5, hb5⟩
  have hB5 := below_trans hB4 hb5 hB4.size
  clear c24_0 c24_1 c24_2 c24_3 f24_0 f24_1 f24_2 f24_3
  rw [← HSpt.out] at he5
  subst he5
  have F25_pm_4 := Lib.hid (box_below BX_pm_3.out hb4)
  clear BX_pm_3
  have F26_pm_5 := Lib.hid (box_below F25_pm_4.out hb5)
  clear F25_pm_4
  obtain ⟨⟨c27_0, c27_1⟩, f27_0, f27_1⟩ := box2 F26_pm_5.out
  go_wp2_with (fail)
  refine (szMatch_law Spt (hm.below hB5) hgm (by omega) (by omega)).mono ?_
  rintro e w6 ⟨he6, hb6⟩
  have hB6 := below_trans hB5 hb6 hB5.size
  clear c27_0 c27_1 f27_0 f27_1
  rw [← HSm.out] at he6
  subst he6
  have F28_pg_4 := Lib.hid (box_below F20_pg_3.out hb4)
  clear F20_pg_3
  have F29_pg_5 := Lib.hid (box_below F28_pg_4.out hb5)
  clear F28_pg_4
  have F30_pg_6 := Lib.hid (box_below F29_pg_5.out hb6)
  clear F29_pg_5
  have F31_ppt_5 := Lib.hid (box_below F23_ppt_4.out hb5)
  clear F23_ppt_4
  have F32_ppt_6 := Lib.hid (box_below F31_ppt_5.out hb6)
  clear F31_ppt_5
  have F33_pm_6 := Lib.hid (box_below F26_pm_5.out hb6)
  clear F26_pm_5
  go_wp2_with (fail)
  refine beginH (fun w' => w'.heap[(w).heap.size]? = some (.cells #[.int .i64 (g).1, .slice Ag ng cg, .slice Bg mg dg, .slice Cg kg eg] 25) ∧ w'.heap[(w).heap.size + 1]? = some (.cells #[.int .i64 (pt).1, .slice Apt npt cpt, .slice Bpt mpt dpt, .slice Cpt kpt ept] 25) ∧ w'.heap[(w).heap.size + 1 + 1]? = some (.cells #[.slice Am nm cm, .slice Bm mm dm] 43)) (by kernel_rfl) ?_
  have hb7 : Below (w6).heap.size (w6) (w6).drew := below_drewN (Below.refl _ _) 1
  have hB7 := below_trans hB6 hb7 hB6.size
  have F34_pg_7 := Lib.hid (box_below F30_pg_6.out hb7)
  clear F30_pg_6
  have F35_ppt_7 := Lib.hid (box_below F32_ppt_6.out hb7)
  clear F32_ppt_6
  have F36_pm_7 := Lib.hid (box_below F33_pm_6.out hb7)
  clear F33_pm_6
  refine takeH 0 (v := ?_) rfl (by kernel_rfl) (by kernel_rfl) (by kernel_rfl) (fun _ _ _ h => h) ⟨F34_pg_7.out, F35_ppt_7.out, F36_pm_7.out⟩ (by rfl) (fun W' hW' => ?_) ?_; rotate_left; · (obtain ⟨q0, q1, q2⟩ := hW'; obtain ⟨⟨ca0_0, ca0_1, ca0_2, ca0_3⟩, ga0_0, ga0_1, ga0_2, ga0_3⟩ := box4 q0; obtain ⟨⟨ca1_0, ca1_1, ca1_2, ca1_3⟩, ga1_0, ga1_1, ga1_2, ga1_3⟩ := box4 q1; obtain ⟨⟨ca2_0, ca2_1⟩, ga2_0, ga2_1⟩ := box2 q2; clear q0 q1 q2; go_simp; first | done | with_reducible rfl)
  simp only [Act.put, List.setIfInBounds_toArray, List.set_cons_zero, List.set_cons_succ]
  refine takeH 2 (v := ?_) rfl (by kernel_rfl) (by kernel_rfl) (by kernel_rfl) (fun _ _ _ h => h) ⟨F34_pg_7.out, F35_ppt_7.out, F36_pm_7.out⟩ (by rfl) (fun W' hW' => ?_) ?_; rotate_left; · (obtain ⟨q0, q1, q2⟩ := hW'; obtain ⟨⟨ca0_0, ca0_1, ca0_2, ca0_3⟩, ga0_0, ga0_1, ga0_2, ga0_3⟩ := box4 q0; obtain ⟨⟨ca1_0, ca1_1, ca1_2, ca1_3⟩, ga1_0, ga1_1, ga1_2, ga1_3⟩ := box4 q1; obtain ⟨⟨ca2_0, ca2_1⟩, ga2_0, ga2_1⟩ := box2 q2; clear q0 q1 q2; go_simp; first | done | with_reducible rfl)
  simp only [Act.put, List.setIfInBounds_toArray, List.set_cons_zero, List.set_cons_succ]
  refine takeH 4 (v := ?_) rfl (by kernel_rfl) (by kernel_rfl) (by kernel_rfl) (fun _ _ _ h => h) ⟨F34_pg_7.out, F35_ppt_7.out, F36_pm_7.out⟩ (by rfl) (fun W' hW' => ?_) ?_; rotate_left; · (obtain ⟨q0, q1, q2⟩ := hW'; obtain ⟨⟨ca0_0, ca0_1, ca0_2, ca0_3⟩, ga0_0, ga0_1, ga0_2, ga0_3⟩ := box4 q0; obtain ⟨⟨ca1_0, ca1_1, ca1_2, ca1_3⟩, ga1_0, ga1_1, ga1_2, ga1_3⟩ := box4 q1; obtain ⟨⟨ca2_0, ca2_1⟩, ga2_0, ga2_1⟩ := box2 q2; clear q0 q1 q2; go_simp; first | done | with_reducible rfl)
  simp only [Act.put, List.setIfInBounds_toArray, List.set_cons_zero, List.set_cons_succ]
  refine' callH 1 (f := _) (args := _) rfl (by kernel_rfl) (by rfl) ?_ ?_; rotate_left 2; · (go_simp; first | done | with_reducible rfl | (constructor <;> with_reducible rfl))
  refine (toGraph_law (hg.below hB7) okg).mono ?_
  rintro e w8 ⟨v8, fp8, rfl, o8, fr8, hb8⟩
  have hB8 := below_trans hB7 hb8 hB7.size
  have F37_pg_8 := Lib.hid (box_below F34_pg_7.out hb8)
  clear F34_pg_7
  have F38_ppt_8 := Lib.hid (box_below F35_ppt_7.out hb8)
  clear F35_ppt_7
  have F39_pm_8 := Lib.hid (box_below F36_pm_7.out hb8)
  clear F36_pm_7
  refine ⟨_, rfl, ⟨F37_pg_8.out, F38_ppt_8.out, F39_pm_8.out⟩, ?_⟩
  obtain ⟨A8, n8, c8, B8, m8, d8, C8, k8, e8, rfl⟩ := o8.shape
  have lt_ag := o8.lt
  simp only [Act.put, List.setIfInBounds_toArray, List.set_cons_zero, List.set_cons_succ]
  refine' callH 3 (f := _) (args := _) rfl (by kernel_rfl) (by rfl) ?_ ?_; rotate_left 2; · (go_simp; first | done | with_reducible rfl | (constructor <;> with_reducible rfl))
  refine (toGraph_law (hpt.below hB8) okpt).mono ?_
  rintro e w9 ⟨v9, fp9, rfl, o9, fr9, hb9⟩
  have hB9 := below_trans hB8 hb9 hB8.size
  have F40_pg_9 := Lib.hid (box_below F37_pg_8.out hb9)
  clear F37_pg_8
  have F41_ppt_9 := Lib.hid (box_below F38_ppt_8.out hb9)
  clear F38_ppt_8
  have F42_pm_9 := Lib.hid (box_below F39_pm_8.out hb9)
  clear F39_pm_8
  refine ⟨_, rfl, ⟨F40_pg_9.out, F41_ppt_9.out, F42_pm_9.out⟩, ?_⟩
  obtain ⟨A9, n9, c9, B9, m9, d9, C9, k9, e9, rfl⟩ := o9.shape
  have lt_apt := o9.lt
  simp only [Act.put, List.setIfInBounds_toArray, List.set_cons_zero, List.set_cons_succ]
  refine' callH 5 (f := _) (args := _) rfl (by kernel_rfl) (by rfl) ?_ ?_; rotate_left 2; · (go_simp; first | done | with_reducible rfl | (constructor <;> with_reducible rfl))
  refine (toMatch_law (hm.below hB9) okm).mono ?_
  rintro e w10 ⟨v10, fp10, rfl, o10, fr10, hb10⟩
  have hB10 := below_trans hB9 hb10 hB9.size
  have F43_pg_10 := Lib.hid (box_below F40_pg_9.out hb10)
  clear F40_pg_9
  have F44_ppt_10 := Lib.hid (box_below F41_ppt_9.out hb10)
  clear F41_ppt_9
  have F45_pm_10 := Lib.hid (box_below F42_pm_9.out hb10)
  clear F42_pm_9
  refine ⟨_, rfl, ⟨F43_pg_10.out, F44_ppt_10.out, F45_pm_10.out⟩, ?_⟩
  obtain ⟨A10, n10, c10, B10, m10, d10, rfl⟩ := o10.shape
  have lt_am := o10.lt
  simp only [Act.put, List.setIfInBounds_toArray, List.set_cons_zero, List.set_cons_succ]
  refine' callH 6 (f := _) (args := _) rfl (by kernel_rfl) (by rfl) ?_ ?_; rotate_left 2; · (go_simp; first | done | with_reducible rfl | (constructor <;> with_reducible rfl))
  have F46_ag_9 := o8.below hb9
  clear o8
  have F47_ag_10 := F46_ag_9.below hb10
  clear F46_ag_9
  have F48_apt_10 := o9.below hb10
  clear o9
  refine (sIsMatch_law  F47_ag_10 F48_apt_10 o10 okg okpt okm).mono ?_
  rintro e w11 ⟨rfl, hb11⟩
  have hB11 := below_trans hB10 hb11 hB10.size
  have F49_pg_11 := Lib.hid (box_below F43_pg_10.out hb11)
  clear F43_pg_10
  have F50_ppt_11 := Lib.hid (box_below F44_ppt_10.out hb11)
  clear F44_ppt_10
  have F51_pm_11 := Lib.hid (box_below F45_pm_10.out hb11)
  clear F45_pm_10
  refine ⟨_, rfl, ⟨F49_pg_11.out, F50_ppt_11.out, F51_pm_11.out⟩, ?_⟩
  simp only [Act.put, List.setIfInBounds_toArray, List.set_cons_zero, List.set_cons_succ]
  refine takeH 7 (v := ?_) rfl (by kernel_rfl) (by kernel_rfl) (by kernel_rfl) (fun _ _ _ h => h) ⟨F49_pg_11.out, F50_ppt_11.out, F51_pm_11.out⟩ (by rfl) (fun W' hW' => ?_) ?_; rotate_left; · (obtain ⟨q0, q1, q2⟩ := hW'; obtain ⟨⟨ca0_0, ca0_1, ca0_2, ca0_3⟩, ga0_0, ga0_1, ga0_2, ga0_3⟩ := box4 q0; obtain ⟨⟨ca1_0, ca1_1, ca1_2, ca1_3⟩, ga1_0, ga1_1, ga1_2, ga1_3⟩ := box4 q1; obtain ⟨⟨ca2_0, ca2_1⟩, ga2_0, ga2_1⟩ := box2 q2; clear q0 q1 q2; go_simp; first | done | with_reducible rfl)
  simp only [Act.put, List.setIfInBounds_toArray, List.set_cons_zero, List.set_cons_succ]
  refine takeH 8 (v := ?_) rfl (by kernel_rfl) (by kernel_rfl) (by kernel_rfl) (fun _ _ _ h => h) ⟨F49_pg_11.out, F50_ppt_11.out, F51_pm_11.out⟩ (by rfl) (fun W' hW' => ?_) ?_; rotate_left; · (obtain ⟨q0, q1, q2⟩ := hW'; obtain ⟨⟨ca0_0, ca0_1, ca0_2, ca0_3⟩, ga0_0, ga0_1, ga0_2, ga0_3⟩ := box4 q0; obtain ⟨⟨ca1_0, ca1_1, ca1_2, ca1_3⟩, ga1_0, ga1_1, ga1_2, ga1_3⟩ := box4 q1; obtain ⟨⟨ca2_0, ca2_1⟩, ga2_0, ga2_1⟩ := box2 q2; clear q0 q1 q2; go_simp; first | done | with_reducible rfl)
  simp only [Act.put, List.setIfInBounds_toArray, List.set_cons_zero, List.set_cons_succ]
  refine takeH 9 (v := ?_) rfl (by kernel_rfl) (by kernel_rfl) (by kernel_rfl) (fun _ _ _ h => h) ⟨F49_pg_11.out, F50_ppt_11.out, F51_pm_11.out⟩ (by rfl) (fun W' hW' => ?_) ?_; rotate_left; · (obtain ⟨q0, q1, q2⟩ := hW'; obtain ⟨⟨ca0_0, ca0_1, ca0_2, ca0_3⟩, ga0_0, ga0_1, ga0_2, ga0_3⟩ := box4 q0; obtain ⟨⟨ca1_0, ca1_1, ca1_2, ca1_3⟩, ga1_0, ga1_1, ga1_2, ga1_3⟩ := box4 q1; obtain ⟨⟨ca2_0, ca2_1⟩, ga2_0, ga2_1⟩ := box2 q2; clear q0 q1 q2; go_simp; first | done | with_reducible rfl)
  simp only [Act.put, List.setIfInBounds_toArray, List.set_cons_zero, List.set_cons_succ]
  refine takeH 10 (v := ?_) rfl (by kernel_rfl) (by kernel_rfl) (by kernel_rfl) (fun _ _ _ h => h) ⟨F49_pg_11.out, F50_ppt_11.out, F51_pm_11.out⟩ (by rfl) (fun W' hW' => ?_) ?_; rotate_left; · (obtain ⟨q0, q1, q2⟩ := hW'; obtain ⟨⟨ca0_0, ca0_1, ca0_2, ca0_3⟩, ga0_0, ga0_1, ga0_2, ga0_3⟩ := box4 q0; obtain ⟨⟨ca1_0, ca1_1, ca1_2, ca1_3⟩, ga1_0, ga1_1, ga1_2, ga1_3⟩ := box4 q1; obtain ⟨⟨ca2_0, ca2_1⟩, ga2_0, ga2_1⟩ := box2 q2; clear q0 q1 q2; go_simp; first | done | with_reducible rfl)
  simp only [Act.put, List.setIfInBounds_toArray, List.set_cons_zero, List.set_cons_succ]
  refine takeH 11 (v := ?_) rfl (by kernel_rfl) (by kernel_rfl) (by kernel_rfl) (fun _ _ _ h => h) ⟨F49_pg_11.out, F50_ppt_11.out, F51_pm_11.out⟩ (by rfl) (fun W' hW' => ?_) ?_; rotate_left; · (obtain ⟨q0, q1, q2⟩ := hW'; obtain ⟨⟨ca0_0, ca0_1, ca0_2, ca0_3⟩, ga0_0, ga0_1, ga0_2, ga0_3⟩ := box4 q0; obtain ⟨⟨ca1_0, ca1_1, ca1_2, ca1_3⟩, ga1_0, ga1_1, ga1_2, ga1_3⟩ := box4 q1; obtain ⟨⟨ca2_0, ca2_1⟩, ga2_0, ga2_1⟩ := box2 q2; clear q0 q1 q2; go_simp; first | done | with_reducible rfl)
  simp only [Act.put, List.setIfInBounds_toArray, List.set_cons_zero, List.set_cons_succ]
  refine doneH (by kernel_rfl) ?_
  obtain ⟨⟨c52_0, c52_1, c52_2, c52_3⟩, f52_0, f52_1, f52_2, f52_3⟩ := box4 F49_pg_11.out
  go_wp2_with (fail)
  refine (toGraph_law (hg.below hB11) okg).mono ?_
  rintro e w12 ⟨v12, fp12, rfl, o12, fr12, hb12⟩
  have hB12 := below_trans hB11 hb12 hB11.size
  clear c52_0 c52_1 c52_2 c52_3 f52_0 f52_1 f52_2 f52_3
  obtain ⟨A12, n12, c12, B12, m12, d12, C12, k12, e12, rfl⟩ := o12.shape
  have lt_xg := o12.lt
  have hb13 := below_alloc (w12) (.cells #[.int .i64 (g).1, .slice A12 n12 c12, .slice B12 m12 d12, .slice C12 k12 e12] 31)
  have hB13 := below_trans hB12 hb13 hB12.size
  have bx13 := heap_alloc_new (w12) (.cells #[.int .i64 (g).1, .slice A12 n12 c12, .slice B12 m12 d12, .slice C12 k12 e12] 31)
  have lt_bxg : LtL ((w12).alloc (.cells #[.int .i64 (g).1, .slice A12 n12 c12, .slice B12 m12 d12, .slice C12 k12 e12] 31)).heap.size [(w12).heap.size] := fun b hb => by obtain rfl := List.mem_singleton.1 hb; exact box_lt bx13
  have fr_bxg : FreshL (w12).heap.size [(w12).heap.size] := fun b hb => by obtain rfl := List.mem_singleton.1 hb; exact Nat.le_refl _
  have BX_bxg_13 := Lib.hid bx13
  clear bx13
  have F53_ppt_12 := Lib.hid (box_below F50_ppt_11.out hb12)
  clear F50_ppt_11
  have F54_ppt_13 := Lib.hid (box_below F53_ppt_12.out hb13)
  clear F53_ppt_12
  obtain ⟨⟨c55_0, c55_1, c55_2, c55_3⟩, f55_0, f55_1, f55_2, f55_3⟩ := box4 F54_ppt_13.out
  go_wp2_with (fail)
  refine (toGraph_law (hpt.below hB13) okpt).mono ?_
  rintro e w14 ⟨v14, fp14, rfl, o14, fr14, hb14⟩
  have hB14 := below_trans hB13 hb14 hB13.size
  clear c55_0 c55_1 c55_2 c55_3 f55_0 f55_1 f55_2 f55_3
  obtain ⟨A14, n14, c14, B14, m14, d14, C14, k14, e14, rfl⟩ := o14.shape
  have lt_xpt := o14.lt
  have hb15 := below_alloc (w14) (.cells #[.int .i64 (pt).1, .slice A14 n14 c14, .slice B14 m14 d14, .slice C14 k14 e14] 31)
  have hB15 := below_trans hB14 hb15 hB14.size
  have bx15 := heap_alloc_new (w14) (.cells #[.int .i64 (pt).1, .slice A14 n14 c14, .slice B14 m14 d14, .slice C14 k14 e14] 31)
  have lt_bxpt : LtL ((w14).alloc (.cells #[.int .i64 (pt).1, .slice A14 n14 c14, .slice B14 m14 d14, .slice C14 k14 e14] 31)).heap.size [(w14).heap.size] := fun b hb => by obtain rfl := List.mem_singleton.1 hb; exact box_lt bx15
  have fr_bxpt : FreshL (w14).heap.size [(w14).heap.size] := fun b hb => by obtain rfl := List.mem_singleton.1 hb; exact Nat.le_refl _
  have BX_bxpt_15 := Lib.hid bx15
  clear bx15
  have F56_pm_12 := Lib.hid (box_below F51_pm_11.out hb12)
  clear F51_pm_11
  have F57_pm_13 := Lib.hid (box_below F56_pm_12.out hb13)
  clear F56_pm_12
  have F58_pm_14 := Lib.hid (box_below F57_pm_13.out hb14)
  clear F57_pm_13
  have F59_pm_15 := Lib.hid (box_below F58_pm_14.out hb15)
  clear F58_pm_14
  obtain ⟨⟨c60_0, c60_1⟩, f60_0, f60_1⟩ := box2 F59_pm_15.out
  go_wp2_with (fail)
  refine (toMatch_law (hm.below hB15) okm).mono ?_
  rintro e w16 ⟨v16, fp16, rfl, o16, fr16, hb16⟩
  have hB16 := below_trans hB15 hb16 hB15.size
  clear c60_0 c60_1 f60_0 f60_1
  obtain ⟨A16, n16, c16, B16, m16, d16, rfl⟩ := o16.shape
  have lt_xm := o16.lt
  have hb17 := below_alloc (w16) (.cells #[.slice A16 n16 c16, .slice B16 m16 d16] 47)
  have hB17 := below_trans hB16 hb17 hB16.size
  have bx17 := heap_alloc_new (w16) (.cells #[.slice A16 n16 c16, .slice B16 m16 d16] 47)
  have lt_bxm : LtL ((w16).alloc (.cells #[.slice A16 n16 c16, .slice B16 m16 d16] 47)).heap.size [(w16).heap.size] := fun b hb => by obtain rfl := List.mem_singleton.1 hb; exact box_lt bx17
  have fr_bxm : FreshL (w16).heap.size [(w16).heap.size] := fun b hb => by obtain rfl := List.mem_singleton.1 hb; exact Nat.le_refl _
  have BX_bxm_17 := Lib.hid bx17
  clear bx17
  have F61_xg_13 := o12.below hb13
  clear o12
  have F62_xg_14 := F61_xg_13.below hb14
  clear F61_xg_13
  have F63_xg_15 := F62_xg_14.below hb15
  clear F62_xg_14
  have F64_xg_16 := F63_xg_15.below hb16
  clear F63_xg_15
  have F65_xg_17 := F64_xg_16.below hb17
  clear F64_xg_16
  have F66_xpt_15 := o14.below hb15
  clear o14
  have F67_xpt_16 := F66_xpt_15.below hb16
  clear F66_xpt_15
  have F68_xpt_17 := F67_xpt_16.below hb17
  clear F67_xpt_16
  have F69_xm_17 := o16.below hb17
  clear o16
  have F70_bxg_14 := Lib.hid (box_below BX_bxg_13.out hb14)
  clear BX_bxg_13
  have F71_bxg_15 := Lib.hid (box_below F70_bxg_14.out hb15)
  clear F70_bxg_14
  have F72_bxg_16 := Lib.hid (box_below F71_bxg_15.out hb16)
  clear F71_bxg_15
  have F73_bxg_17 := Lib.hid (box_below F72_bxg_16.out hb17)
  clear F72_bxg_16
  obtain ⟨⟨c74_0, c74_1, c74_2, c74_3⟩, f74_0, f74_1, f74_2, f74_3⟩ := box4 F73_bxg_17.out
  have F75_bxpt_16 := Lib.hid (box_below BX_bxpt_15.out hb16)
  clear BX_bxpt_15
  have F76_bxpt_17 := Lib.hid (box_below F75_bxpt_16.out hb17)
  clear F75_bxpt_16
  obtain ⟨⟨c77_0, c77_1, c77_2, c77_3⟩, f77_0, f77_1, f77_2, f77_3⟩ := box4 F76_bxpt_17.out
  obtain ⟨⟨c78_0, c78_1⟩, f78_0, f78_1⟩ := box2 BX_bxm_17.out
  go_wp2_with (fail)
  refine (iIsMatch_law  F65_xg_17 F68_xpt_17 F69_xm_17 okg okpt okm).mono ?_
  rintro e w18 ⟨rfl, hb18⟩
  have hB18 := below_trans hB17 hb18 hB17.size
  clear c74_0 c74_1 c74_2 c74_3 f74_0 f74_1 f74_2 f74_3 c77_0 c77_1 c77_2 c77_3 f77_0 f77_1 f77_2 f77_3 c78_0 c78_1 f78_0 f78_1
  have F79_bxg_18 := Lib.hid (box_below F73_bxg_17.out hb18)
  clear F73_bxg_17
  have F80_pg_12 := Lib.hid (box_below F49_pg_11.out hb12)
  clear F49_pg_11
  have F81_pg_13 := Lib.hid (box_below F80_pg_12.out hb13)
  clear F80_pg_12
  have F82_pg_14 := Lib.hid (box_below F81_pg_13.out hb14)
  clear F81_pg_13
  have F83_pg_15 := Lib.hid (box_below F82_pg_14.out hb15)
  clear F82_pg_14
  have F84_pg_16 := Lib.hid (box_below F83_pg_15.out hb16)
  clear F83_pg_15
  have F85_pg_17 := Lib.hid (box_below F84_pg_16.out hb17)
  clear F84_pg_16
  have F86_pg_18 := Lib.hid (box_below F85_pg_17.out hb18)
  clear F85_pg_17
  have F87_xg_18 := F65_xg_17.below hb18
  clear F65_xg_17
  go_wp2_with (fail)
  refine beginH (fun w' => w'.heap[(w12).heap.size]? = some (.cells #[.int .i64 (g).1, .slice A12 n12 c12, .slice B12 m12 d12, .slice C12 k12 e12] 31) ∧ w'.heap[(w).heap.size]? = some (.cells #[.int .i64 (g).1, .slice Ag ng cg, .slice Bg mg dg, .slice Cg kg eg] 25)) (by kernel_rfl) ?_
  have hb19 : Below (w18).heap.size (w18) (w18).drew := below_drewN (Below.refl _ _) 1
  have hB19 := below_trans hB18 hb19 hB18.size
  have F89_bxg_19 := Lib.hid (box_below F79_bxg_18.out hb19)
  clear F79_bxg_18
  have F90_pg_19 := Lib.hid (box_below F86_pg_18.out hb19)
  clear F86_pg_18
  have F91_xg_19 := F87_xg_18.below hb19
  clear F87_xg_18
  refine takeH 0 (v := ?_) rfl (by kernel_rfl) (by kernel_rfl) (by kernel_rfl) (fun _ _ _ h => h) ⟨F89_bxg_19.out, F90_pg_19.out⟩ (by rfl) (fun W' hW' => ?_) ?_; rotate_left; · (obtain ⟨q1, q2⟩ := hW'; obtain ⟨⟨ca0, ca1, ca2, ca3⟩, gca0, gca1, gca2, gca3⟩ := box4 q1; obtain ⟨⟨cb0, cb1, cb2, cb3⟩, gcb0, gcb1, gcb2, gcb3⟩ := box4 q2; clear q1 q2; go_simp; first | done | with_reducible rfl)
  simp only [Act.put, List.setIfInBounds_toArray, List.set_cons_zero, List.set_cons_succ]
  refine takeH 1 (v := ?_) rfl (by kernel_rfl) (by kernel_rfl) (by kernel_rfl) (fun _ _ _ h => h) ⟨F89_bxg_19.out, F90_pg_19.out⟩ (by rfl) (fun W' hW' => ?_) ?_; rotate_left; · (obtain ⟨q1, q2⟩ := hW'; obtain ⟨⟨ca0, ca1, ca2, ca3⟩, gca0, gca1, gca2, gca3⟩ := box4 q1; obtain ⟨⟨cb0, cb1, cb2, cb3⟩, gcb0, gcb1, gcb2, gcb3⟩ := box4 q2; clear q1 q2; go_simp; first | done | with_reducible rfl)
  simp only [Act.put, List.setIfInBounds_toArray, List.set_cons_zero, List.set_cons_succ]
  refine' callH 2 (f := _) (args := _) rfl (by kernel_rfl) (by rfl) ?_ ?_; rotate_left 2; · (go_simp; first | done | with_reducible rfl | (constructor <;> with_reducible rfl))
  refine (toGraph_law (hg.below hB19) okg).mono ?_
  rintro e w20 ⟨v20, fp20, rfl, o20, fr20, hb20⟩
  have hB20 := below_trans hB19 hb20 hB19.size
  have F92_bxg_20 := Lib.hid (box_below F89_bxg_19.out hb20)
  clear F89_bxg_19
  have F93_pg_20 := Lib.hid (box_below F90_pg_19.out hb20)
  clear F90_pg_19
  have F94_xg_20 := F91_xg_19.below hb20
  clear F91_xg_19
  refine ⟨_, rfl, ⟨F92_bxg_20.out, F93_pg_20.out⟩, ?_⟩
  simp only [Act.put, List.setIfInBounds_toArray, List.set_cons_zero, List.set_cons_succ]
  refine' callH 3 (f := _) (args := _) rfl (by kernel_rfl) (by rfl) ?_ ?_; rotate_left 2; · (go_simp; first | done | with_reducible rfl | (constructor <;> with_reducible rfl))
  refine (eqGraph_law F94_xg_20.rd o20.rd okg).mono ?_
  rintro e w21 ⟨rfl, hb21⟩
  have hB21 := below_trans hB20 hb21 hB20.size
  have F95_bxg_21 := Lib.hid (box_below F92_bxg_20.out hb21)
  clear F92_bxg_20
  have F96_pg_21 := Lib.hid (box_below F93_pg_20.out hb21)
  clear F93_pg_20
  have F97_xg_21 := F94_xg_20.below hb21
  clear F94_xg_20
  refine ⟨_, rfl, ⟨F95_bxg_21.out, F96_pg_21.out⟩, ?_⟩
  rw [decide_eq_true (rfl : g = g)]
  simp only [Act.put, List.setIfInBounds_toArray, List.set_cons_zero, List.set_cons_succ]
  refine takeH 4 (v := .bool false) rfl (by kernel_rfl) (by kernel_rfl) (by kernel_rfl) (fun _ _ _ h => h) ⟨F95_bxg_21.out, F96_pg_21.out⟩ (by rfl) (fun W' hW' => ?_) ?_; · (go_simp; first | done | with_reducible rfl)
  simp only [Act.put, List.setIfInBounds_toArray, List.set_cons_zero, List.set_cons_succ]
  refine doneH (by kernel_rfl) ?_
  have F98_bxpt_18 := Lib.hid (box_below F76_bxpt_17.out hb18)
  clear F76_bxpt_17
  have F99_bxpt_19 := Lib.hid (box_below F98_bxpt_18.out hb19)
  clear F98_bxpt_18
  have F100_bxpt_20 := Lib.hid (box_below F99_bxpt_19.out hb20)
  clear F99_bxpt_19
  have F101_bxpt_21 := Lib.hid (box_below F100_bxpt_20.out hb21)
  clear F100_bxpt_20
  have F102_ppt_14 := Lib.hid (box_below F54_ppt_13.out hb14)
  clear F54_ppt_13
  have F103_ppt_15 := Lib.hid (box_below F102_ppt_14.out hb15)
  clear F102_ppt_14
  have F104_ppt_16 := Lib.hid (box_below F103_ppt_15.out hb16)
  clear F103_ppt_15
  have F105_ppt_17 := Lib.hid (box_below F104_ppt_16.out hb17)
  clear F104_ppt_16
  have F106_ppt_18 := Lib.hid (box_below F105_ppt_17.out hb18)
  clear F105_ppt_17
  have F107_ppt_19 := Lib.hid (box_below F106_ppt_18.out hb19)
  clear F106_ppt_18
  have F108_ppt_20 := Lib.hid (box_below F107_ppt_19.out hb20)
  clear F107_ppt_19
  have F109_ppt_21 := Lib.hid (box_below F108_ppt_20.out hb21)
  clear F108_ppt_20
  have F110_xpt_18 := F68_xpt_17.below hb18
  clear F68_xpt_17
  have F111_xpt_19 := F110_xpt_18.below hb19
  clear F110_xpt_18
  have F112_xpt_20 := F111_xpt_19.below hb20
  clear F111_xpt_19
  have F113_xpt_21 := F112_xpt_20.below hb21
  clear F112_xpt_20
  go_wp2_with (fail)
  refine beginH (fun w' => w'.heap[(w14).heap.size]? = some (.cells #[.int .i64 (pt).1, .slice A14 n14 c14, .slice B14 m14 d14, .slice C14 k14 e14] 31) ∧ w'.heap[(w).heap.size + 1]? = some (.cells #[.int .i64 (pt).1, .slice Apt npt cpt, .slice Bpt mpt dpt, .slice Cpt kpt ept] 25)) (by kernel_rfl) ?_
  have hb22 : Below (w21).heap.size (w21) (w21).drew := below_drewN (Below.refl _ _) 1
  have hB22 := below_trans hB21 hb22 hB21.size
  have F115_bxpt_22 := Lib.hid (box_below F101_bxpt_21.out hb22)
  clear F101_bxpt_21
  have F116_ppt_22 := Lib.hid (box_below F109_ppt_21.out hb22)
  clear F109_ppt_21
  have F117_xpt_22 := F113_xpt_21.below hb22
  clear F113_xpt_21
  refine takeH 0 (v := ?_) rfl (by kernel_rfl) (by kernel_rfl) (by kernel_rfl) (fun _ _ _ h => h) ⟨F115_bxpt_22.out, F116_ppt_22.out⟩ (by rfl) (fun W' hW' => ?_) ?_; rotate_left; · (obtain ⟨q1, q2⟩ := hW'; obtain ⟨⟨ca0, ca1, ca2, ca3⟩, gca0, gca1, gca2, gca3⟩ := box4 q1; obtain ⟨⟨cb0, cb1, cb2, cb3⟩, gcb0, gcb1, gcb2, gcb3⟩ := box4 q2; clear q1 q2; go_simp; first | done | with_reducible rfl)
  simp only [Act.put, List.setIfInBounds_toArray, List.set_cons_zero, List.set_cons_succ]
  refine takeH 1 (v := ?_) rfl (by kernel_rfl) (by kernel_rfl) (by kernel_rfl) (fun _ _ _ h => h) ⟨F115_bxpt_22.out, F116_ppt_22.out⟩ (by rfl) (fun W' hW' => ?_) ?_; rotate_left; · (obtain ⟨q1, q2⟩ := hW'; obtain ⟨⟨ca0, ca1, ca2, ca3⟩, gca0, gca1, gca2, gca3⟩ := box4 q1; obtain ⟨⟨cb0, cb1, cb2, cb3⟩, gcb0, gcb1, gcb2, gcb3⟩ := box4 q2; clear q1 q2; go_simp; first | done | with_reducible rfl)
  simp only [Act.put, List.setIfInBounds_toArray, List.set_cons_zero, List.set_cons_succ]
  refine' callH 2 (f := _) (args := _) rfl (by kernel_rfl) (by rfl) ?_ ?_; rotate_left 2; · (go_simp; first | done | with_reducible rfl | (constructor <;> with_reducible rfl))
  refine (toGraph_law (hpt.below hB22) okpt).mono ?_
  rintro e w23 ⟨v23, fp23, rfl, o23, fr23, hb23⟩
  have hB23 := below_trans hB22 hb23 hB22.size
  have F118_bxpt_23 := Lib.hid (box_below F115_bxpt_22.out hb23)
  clear F115_bxpt_22
  have F119_ppt_23 := Lib.hid (box_below F116_ppt_22.out hb23)
  clear F116_ppt_22
  have F120_xpt_23 := F117_xpt_22.below hb23
  clear F117_xpt_22
  refine ⟨_, rfl, ⟨F118_bxpt_23.out, F119_ppt_23.out⟩, ?_⟩
  simp only [Act.put, List.setIfInBounds_toArray, List.set_cons_zero, List.set_cons_succ]
  refine' callH 3 (f := _) (args := _) rfl (by kernel_rfl) (by rfl) ?_ ?_; rotate_left 2; · (go_simp; first | done | with_reducible rfl | (constructor <;> with_reducible rfl))
  refine (eqGraph_law F120_xpt_23.rd o23.rd okpt).mono ?_
  rintro e w24 ⟨rfl, hb24⟩
  have hB24 := below_trans hB23 hb24 hB23.size
  have F121_bxpt_24 := Lib.hid (box_below F118_bxpt_23.out hb24)
  clear F118_bxpt_23
  have F122_ppt_24 := Lib.hid (box_below F119_ppt_23.out hb24)
  clear F119_ppt_23
  have F123_xpt_24 := F120_xpt_23.below hb24
  clear F120_xpt_23
  refine ⟨_, rfl, ⟨F121_bxpt_24.out, F122_ppt_24.out⟩, ?_⟩
  rw [decide_eq_true (rfl : pt = pt)]
  simp only [Act.put, List.setIfInBounds_toArray, List.set_cons_zero, List.set_cons_succ]
  refine takeH 4 (v := .bool false) rfl (by kernel_rfl) (by kernel_rfl) (by kernel_rfl) (fun _ _ _ h => h) ⟨F121_bxpt_24.out, F122_ppt_24.out⟩ (by rfl) (fun W' hW' => ?_) ?_; · (go_simp; first | done | with_reducible rfl)
  simp only [Act.put, List.setIfInBounds_toArray, List.set_cons_zero, List.set_cons_succ]
  refine doneH (by kernel_rfl) ?_
  have F124_bxm_18 := Lib.hid (box_below BX_bxm_17.out hb18)
  clear BX_bxm_17
  have F125_bxm_19 := Lib.hid (box_below F124_bxm_18.out hb19)
  clear F124_bxm_18
  have F126_bxm_20 := Lib.hid (box_below F125_bxm_19.out hb20)
  clear F125_bxm_19
  have F127_bxm_21 := Lib.hid (box_below F126_bxm_20.out hb21)
  clear F126_bxm_20
  have F128_bxm_22 := Lib.hid (box_below F127_bxm_21.out hb22)
  clear F127_bxm_21
  have F129_bxm_23 := Lib.hid (box_below F128_bxm_22.out hb23)
  clear F128_bxm_22
  have F130_bxm_24 := Lib.hid (box_below F129_bxm_23.out hb24)
  clear F129_bxm_23
  have F131_pm_16 := Lib.hid (box_below F59_pm_15.out hb16)
  clear F59_pm_15
  have F132_pm_17 := Lib.hid (box_below F131_pm_16.out hb17)
  clear F131_pm_16
  have F133_pm_18 := Lib.hid (box_below F132_pm_17.out hb18)
  clear F132_pm_17
  have F134_pm_19 := Lib.hid (box_below F133_pm_18.out hb19)
  clear F133_pm_18
  have F135_pm_20 := Lib.hid (box_below F134_pm_19.out hb20)
  clear F134_pm_19
  have F136_pm_21 := Lib.hid (box_below F135_pm_20.out hb21)
  clear F135_pm_20
  have F137_pm_22 := Lib.hid (box_below F136_pm_21.out hb22)
  clear F136_pm_21
  have F138_pm_23 := Lib.hid (box_below F137_pm_22.out hb23)
  clear F137_pm_22
  have F139_pm_24 := Lib.hid (box_below F138_pm_23.out hb24)
  clear F138_pm_23
  have F140_xm_18 := F69_xm_17.below hb18
  clear F69_xm_17
  have F141_xm_19 := F140_xm_18.below hb19
  clear F140_xm_18
  have F142_xm_20 := F141_xm_19.below hb20
  clear F141_xm_19
  have F143_xm_21 := F142_xm_20.below hb21
  clear F142_xm_20
  have F144_xm_22 := F143_xm_21.below hb22
  clear F143_xm_21
  have F145_xm_23 := F144_xm_22.below hb23
  clear F144_xm_22
  have F146_xm_24 := F145_xm_23.below hb24
  clear F145_xm_23
  go_wp2_with (fail)
  refine beginH (fun w' => w'.heap[(w16).heap.size]? = some (.cells #[.slice A16 n16 c16, .slice B16 m16 d16] 47) ∧ w'.heap[(w).heap.size + 1 + 1]? = some (.cells #[.slice Am nm cm, .slice Bm mm dm] 43)) (by kernel_rfl) ?_
  have hb25 : Below (w24).heap.size (w24) (w24).drew := below_drewN (Below.refl _ _) 1
  have hB25 := below_trans hB24 hb25 hB24.size
  have F148_bxm_25 := Lib.hid (box_below F130_bxm_24.out hb25)
  clear F130_bxm_24
  have F149_pm_25 := Lib.hid (box_below F139_pm_24.out hb25)
  clear F139_pm_24
  have F150_xm_25 := F146_xm_24.below hb25
  clear F146_xm_24
  refine takeH 0 (v := ?_) rfl (by kernel_rfl) (by kernel_rfl) (by kernel_rfl) (fun _ _ _ h => h) ⟨F148_bxm_25.out, F149_pm_25.out⟩ (by rfl) (fun W' hW' => ?_) ?_; rotate_left; · (obtain ⟨q1, q2⟩ := hW'; obtain ⟨⟨ca0, ca1⟩, gca0, gca1⟩ := box2 q1; obtain ⟨⟨cb0, cb1⟩, gcb0, gcb1⟩ := box2 q2; clear q1 q2; go_simp; first | done | with_reducible rfl)
  simp only [Act.put, List.setIfInBounds_toArray, List.set_cons_zero, List.set_cons_succ]
  refine takeH 1 (v := ?_) rfl (by kernel_rfl) (by kernel_rfl) (by kernel_rfl) (fun _ _ _ h => h) ⟨F148_bxm_25.out, F149_pm_25.out⟩ (by rfl) (fun W' hW' => ?_) ?_; rotate_left; · (obtain ⟨q1, q2⟩ := hW'; obtain ⟨⟨ca0, ca1⟩, gca0, gca1⟩ := box2 q1; obtain ⟨⟨cb0, cb1⟩, gcb0, gcb1⟩ := box2 q2; clear q1 q2; go_simp; first | done | with_reducible rfl)
  simp only [Act.put, List.setIfInBounds_toArray, List.set_cons_zero, List.set_cons_succ]
  refine' callH 2 (f := _) (args := _) rfl (by kernel_rfl) (by rfl) ?_ ?_; rotate_left 2; · (go_simp; first | done | with_reducible rfl | (constructor <;> with_reducible rfl))
  refine (toMatch_law (hm.below hB25) okm).mono ?_
  rintro e w26 ⟨v26, fp26, rfl, o26, fr26, hb26⟩
  have hB26 := below_trans hB25 hb26 hB25.size
  have F151_bxm_26 := Lib.hid (box_below F148_bxm_25.out hb26)
  clear F148_bxm_25
  have F152_pm_26 := Lib.hid (box_below F149_pm_25.out hb26)
  clear F149_pm_25
  have F153_xm_26 := F150_xm_25.below hb26
  clear F150_xm_25
  refine ⟨_, rfl, ⟨F151_bxm_26.out, F152_pm_26.out⟩, ?_⟩
  simp only [Act.put, List.setIfInBounds_toArray, List.set_cons_zero, List.set_cons_succ]
  refine' callH 3 (f := _) (args := _) rfl (by kernel_rfl) (by rfl) ?_ ?_; rotate_left 2; · (go_simp; first | done | with_reducible rfl | (constructor <;> with_reducible rfl))
  refine (eqMatch_law F153_xm_26.rd o26.rd okm).mono ?_
  rintro e w27 ⟨rfl, hb27⟩
  have hB27 := below_trans hB26 hb27 hB26.size
  have F154_bxm_27 := Lib.hid (box_below F151_bxm_26.out hb27)
  clear F151_bxm_26
  have F155_pm_27 := Lib.hid (box_below F152_pm_26.out hb27)
  clear F152_pm_26
  have F156_xm_27 := F153_xm_26.below hb27
  clear F153_xm_26
  refine ⟨_, rfl, ⟨F154_bxm_27.out, F155_pm_27.out⟩, ?_⟩
  rw [decide_eq_true (rfl : m = m)]
  simp only [Act.put, List.setIfInBounds_toArray, List.set_cons_zero, List.set_cons_succ]
  refine takeH 4 (v := .bool false) rfl (by kernel_rfl) (by kernel_rfl) (by kernel_rfl) (fun _ _ _ h => h) ⟨F154_bxm_27.out, F155_pm_27.out⟩ (by rfl) (fun W' hW' => ?_) ?_; · (go_simp; first | done | with_reducible rfl)
  simp only [Act.put, List.setIfInBounds_toArray, List.set_cons_zero, List.set_cons_succ]
  refine doneH (by kernel_rfl) ?_
  go_wp2_with (fail)
  go_ret
  exact ⟨rfl, hB27⟩

theorem readIsMatch : ∀ t ∈ Try.f5.params.toList, Try.prog.readableRec t = true ∧ t < Try.prog.types.size := by
  rw [Try.params5]
  intro t ht
  have ht' : t ∈ ([25, 25, 43] : List TypeId) := ht
  rcases List.mem_cons.1 ht' with rfl | ht'
  · exact ⟨by kernel_rfl, of_decide_eq_true (by kernel_rfl)⟩
  rcases List.mem_cons.1 ht' with rfl | ht'
  · exact ⟨by kernel_rfl, of_decide_eq_true (by kernel_rfl)⟩
  rcases List.mem_cons.1 ht' with rfl | ht'
  · exact ⟨by kernel_rfl, of_decide_eq_true (by kernel_rfl)⟩
  cases ht'
set_option maxRecDepth 100000 in
theorem liftedIsMatch (os : Os) (started : os.Started) (H : Type) (enc : TypeId × Value → H) :
    ReturnsInHanded {} Try.checked os 5 .any (Rows.fnExactIsMatchSpec.pre6 enc Try.prog Try.f5 Rows.fnExactIsMatchRow.domain false) (Rows.fnExactIsMatchSpec.post enc Try.prog Try.f5 false true false false) := by
  refine returnsInHanded_of_change (C := Try.checked) own started (by kernel_rfl) Try.func5
    (ChangeSpec.witness6 (enc := enc) (C := Try.checked) false ⟨#[], #[.agg #[.int .i64 0, .slice none 0 0, .slice none 0 0, .slice none 0 0], .agg #[.int .i64 0, .slice none 0 0, .slice none 0 0, .slice none 0 0], .agg #[.slice none 0 0, .slice none 0 0]], []⟩ 8 (by kernel_rfl) (by kernel_rfl) (by kernel_rfl) (by kernel_rfl)) ?_
  intro W base args ds gs before hval0 hW hcnd _
  have hval : ∀ (j : Nat) t v, Try.f5.params[j]? = some t → args[j]? = some v → Value.okWide Try.prog W .any base t v := hval0
  have hW' := hW
  obtain ⟨p, q, hA0, hV, rfl, hfz, hnd⟩ := hW
  have hA : DataW.TrodAll enc Try.prog W 0 (fun _ => true) true Try.f5.params.toList args.toList ds p := hA0
  rw [Try.params5] at hA hval
  obtain ⟨v0, vs0, d0, ds0, p0, q0, hargs, rfl, rfl, t0, r0⟩ := trodAll_cons hA
  obtain ⟨v1, vs1, d1, ds1, p1, q1, rfl, rfl, rfl, t1, r1⟩ := trodAll_cons r0
  obtain ⟨v2, vs2, d2, ds2, p2, q2, rfl, rfl, rfl, t2, r2⟩ := trodAll_cons r1
  obtain ⟨rfl, rfl, rfl⟩ := trodAll_nil r2
  obtain rfl : args = #[v0, v1, v2] := by cases args; simp_all
  obtain ⟨rfl, rfl⟩ := trodVars_none hV
  obtain ⟨m0, hl0, hg0⟩ := in_Graph (hval 0 _ v0 rfl rfl) t0
  obtain ⟨m1, hl1, hg1⟩ := in_Graph (hval 1 _ v1 rfl rfl) t1
  obtain ⟨m2, hl2, hg2⟩ := in_Match (hval 2 _ v2 rfl rfl) t2
  clear hA0 hval0
  refine (lawIsMatch_any v0 m0 v1 m1 v2 m2 W hl0 hg0 hl1 hg1 hl2 hg2 ).mono fun e W' ⟨he, hb⟩ => ?_
  subst he
  exact ⟨_, rfl, post_true laidOut hW' hb readIsMatch (fun n hn => by cases hn) rfl rfl Try.underlying4⟩
theorem provedIsMatch : Rows.FnExactIsMatchSaid :=
  OpenClaim.holds_of_wide 5 Try.f5 rfl rfl rfl rfl rfl rfl rfl ⟨rfl, rfl, rfl, rfl, rfl⟩ rfl rfl rfl rfl rfl (by kernel_rfl) Try.func5 (by kernel_rfl)
    (of_decide_eq_true (by kernel_rfl)) (by unfold Func.isWrapper; first | (rw [if_pos (by decide +kernel)]; kernel_rfl) | (rw [if_neg (by decide +kernel)]; exact ⟨rfl, rfl⟩))
    (fun os started H enc _ => liftedIsMatch os started H enc)
#print axioms provedIsMatch
end Go.Proofs.Ytanhmljgeiajoaa
