/-
  The program's IsIsomorphism returns what the reference's returns, for all arguments (laws.FnExactIsIsomorphism answers true). No condition.
-/
import Derived.Test.YtanhmljgeiajoaaGrNc
import Derived.Test.YtanhmljgeiajoaaRegT
import Derived.Test.YtanhmljgeiajoaaRegH
import Derived.Test.YtanhmljgeiajoaaFrameP
import Derived.Test.YtanhmljgeiajoaaGrSz
import Derived.Test.YtanhmljgeiajoaaGrLaw
import Derived.Test.YtanhmljgeiajoaaMa
import Derived.Test.YtanhmljgeiajoaaMaLaw
namespace Go.Proofs.Ytanhmljgeiajoaa
open Go.ChangeShapes Go.WideShapes Go.ChangeAt Go.RowKit

set_option maxHeartbeats 40000000 in
set_option maxRecDepth 100000 in
theorem lawIsIsomorphism_any (va : Value) (a : Gr) (vb : Value) (b : Gr) (vm : Value) (m : Ma) (w : World) (ha : RdGr w va a) (hga : BigGraph a) (hb : RdGr w vb b) (hgb : BigGraph b) (hm : RdMa w vm m) (hgm : BigMatch m) :
    Calls Try.prog 6 #[va, vb, vm] w fun e w' => e = .returned (.bool true) ∧ Below w.heap.size w w' := by
  obtain ⟨Aa, na, ca, Ba, ma, da, Ca, ka, ea, rfl⟩ := ha.shape
  obtain ⟨Ab, nb, cb, Bb, mb, db, Cb, kb, eb, rfl⟩ := hb.shape
  obtain ⟨Am, nm, cm, Bm, mm, dm, rfl⟩ := hm.shape
  obtain ⟨Sa, hSa⟩ : ∃ S, S = szG (a) 1048576 := ⟨_, rfl⟩
  have HSa := Lib.hid hSa
  clear hSa
  obtain ⟨Sb, hSb⟩ : ∃ S, S = szG (b) Sa := ⟨_, rfl⟩
  have HSb := Lib.hid hSb
  clear hSb
  obtain ⟨Sm, hSm⟩ : ∃ S, S = szMa (m) Sb := ⟨_, rfl⟩
  have HSm := Lib.hid hSm
  clear hSm
  have hB0 : Below w.heap.size w w := Below.refl _ _
  have hb1 := below_alloc (w) (.cells #[.int .i64 (a).1, .slice Aa na ca, .slice Ba ma da, .slice Ca ka ea] 25)
  have hB1 := below_trans hB0 hb1 hB0.size
  have bx1 := heap_alloc_new (w) (.cells #[.int .i64 (a).1, .slice Aa na ca, .slice Ba ma da, .slice Ca ka ea] 25)
  have lt_pa : LtL ((w).alloc (.cells #[.int .i64 (a).1, .slice Aa na ca, .slice Ba ma da, .slice Ca ka ea] 25)).heap.size [(w).heap.size] := fun b hb => by obtain rfl := List.mem_singleton.1 hb; exact box_lt bx1
  have fr_pa : FreshL (w).heap.size [(w).heap.size] := fun b hb => by obtain rfl := List.mem_singleton.1 hb; exact Nat.le_refl _
  have BX_pa_1 := Lib.hid bx1
  clear bx1
  have hb2 := below_alloc ((w).alloc (.cells #[.int .i64 (a).1, .slice Aa na ca, .slice Ba ma da, .slice Ca ka ea] 25)) (.cells #[.int .i64 (b).1, .slice Ab nb cb, .slice Bb mb db, .slice Cb kb eb] 25)
  have hB2 := below_trans hB1 hb2 hB1.size
  have bx2 : (((w).alloc (.cells #[.int .i64 (a).1, .slice Aa na ca, .slice Ba ma da, .slice Ca ka ea] 25)).alloc (.cells #[.int .i64 (b).1, .slice Ab nb cb, .slice Bb mb db, .slice Cb kb eb] 25)).heap[(w).heap.size + 1]? = some (.cells #[.int .i64 (b).1, .slice Ab nb cb, .slice Bb mb db, .slice Cb kb eb] 25) := by
    have := heap_alloc_new ((w).alloc (.cells #[.int .i64 (a).1, .slice Aa na ca, .slice Ba ma da, .slice Ca ka ea] 25)) (.cells #[.int .i64 (b).1, .slice Ab nb cb, .slice Bb mb db, .slice Cb kb eb] 25)
    simp only [World.size_alloc] at this; exact this
  have lt_pb : LtL (((w).alloc (.cells #[.int .i64 (a).1, .slice Aa na ca, .slice Ba ma da, .slice Ca ka ea] 25)).alloc (.cells #[.int .i64 (b).1, .slice Ab nb cb, .slice Bb mb db, .slice Cb kb eb] 25)).heap.size [(w).heap.size + 1] := fun b hb => by obtain rfl := List.mem_singleton.1 hb; exact box_lt bx2
  have fr_pb : FreshL ((w).alloc (.cells #[.int .i64 (a).1, .slice Aa na ca, .slice Ba ma da, .slice Ca ka ea] 25)).heap.size [(w).heap.size + 1] := fun b hb => by obtain rfl := List.mem_singleton.1 hb; simp only [World.size_alloc]; exact Nat.le_refl _
  have BX_pb_2 := Lib.hid bx2
  clear bx2
  have hb3 := below_alloc (((w).alloc (.cells #[.int .i64 (a).1, .slice Aa na ca, .slice Ba ma da, .slice Ca ka ea] 25)).alloc (.cells #[.int .i64 (b).1, .slice Ab nb cb, .slice Bb mb db, .slice Cb kb eb] 25)) (.cells #[.slice Am nm cm, .slice Bm mm dm] 43)
  have hB3 := below_trans hB2 hb3 hB2.size
  have bx3 : ((((w).alloc (.cells #[.int .i64 (a).1, .slice Aa na ca, .slice Ba ma da, .slice Ca ka ea] 25)).alloc (.cells #[.int .i64 (b).1, .slice Ab nb cb, .slice Bb mb db, .slice Cb kb eb] 25)).alloc (.cells #[.slice Am nm cm, .slice Bm mm dm] 43)).heap[(w).heap.size + 1 + 1]? = some (.cells #[.slice Am nm cm, .slice Bm mm dm] 43) := by
    have := heap_alloc_new (((w).alloc (.cells #[.int .i64 (a).1, .slice Aa na ca, .slice Ba ma da, .slice Ca ka ea] 25)).alloc (.cells #[.int .i64 (b).1, .slice Ab nb cb, .slice Bb mb db, .slice Cb kb eb] 25)) (.cells #[.slice Am nm cm, .slice Bm mm dm] 43)
    simp only [World.size_alloc] at this; exact this
  have lt_pm : LtL ((((w).alloc (.cells #[.int .i64 (a).1, .slice Aa na ca, .slice Ba ma da, .slice Ca ka ea] 25)).alloc (.cells #[.int .i64 (b).1, .slice Ab nb cb, .slice Bb mb db, .slice Cb kb eb] 25)).alloc (.cells #[.slice Am nm cm, .slice Bm mm dm] 43)).heap.size [(w).heap.size + 1 + 1] := fun b hb => by obtain rfl := List.mem_singleton.1 hb; exact box_lt bx3
  have fr_pm : FreshL (((w).alloc (.cells #[.int .i64 (a).1, .slice Aa na ca, .slice Ba ma da, .slice Ca ka ea] 25)).alloc (.cells #[.int .i64 (b).1, .slice Ab nb cb, .slice Bb mb db, .slice Cb kb eb] 25)).heap.size [(w).heap.size + 1 + 1] := fun b hb => by obtain rfl := List.mem_singleton.1 hb; simp only [World.size_alloc]; exact Nat.le_refl _
  have BX_pm_3 := Lib.hid bx3
  clear bx3
  by_cases nega : Sa < 0
  case pos =>
    go_enter Try.func6, Try.ntmps6
    have F1_pa_2 := Lib.hid (box_below BX_pa_1.out hb2)
    clear BX_pa_1
    have F2_pa_3 := Lib.hid (box_below F1_pa_2.out hb3)
    clear F1_pa_2
    obtain ⟨⟨c3_0, c3_1, c3_2, c3_3⟩, f3_0, f3_1, f3_2, f3_3⟩ := box4 F2_pa_3.out
    go_wp2_with (fail)
    refine (szGraph_law 1048576 (ha.below hB3) hga (by omega) (by omega)).mono ?_
    rintro e w4 ⟨he4, hb4⟩
    have hB4 := below_trans hB3 hb4 hB3.size
    clear c3_0 c3_1 c3_2 c3_3 f3_0 f3_1 f3_2 f3_3
    rw [← HSa.out] at he4
    subst he4
    go_wp2_with (fail)
    go_ret
    exact ⟨rfl, hB4⟩
  have soka := szG_ok (by rw [← HSa.out]; omega : 0 ≤ szG (a) 1048576) (by omega)
  have oka := soka.1
  have slea : Sa ≤ 1048576 := by rw [HSa.out]; exact soka.2
  clear soka
  by_cases negb : Sb < 0
  case pos =>
    go_enter Try.func6, Try.ntmps6
    have F4_pa_2 := Lib.hid (box_below BX_pa_1.out hb2)
    clear BX_pa_1
    have F5_pa_3 := Lib.hid (box_below F4_pa_2.out hb3)
    clear F4_pa_2
    obtain ⟨⟨c6_0, c6_1, c6_2, c6_3⟩, f6_0, f6_1, f6_2, f6_3⟩ := box4 F5_pa_3.out
    go_wp2_with (fail)
    refine (szGraph_law 1048576 (ha.below hB3) hga (by omega) (by omega)).mono ?_
    rintro e w4 ⟨he4, hb4⟩
    have hB4 := below_trans hB3 hb4 hB3.size
    clear c6_0 c6_1 c6_2 c6_3 f6_0 f6_1 f6_2 f6_3
    rw [← HSa.out] at he4
    subst he4
    have F7_pb_3 := Lib.hid (box_below BX_pb_2.out hb3)
    clear BX_pb_2
    have F8_pb_4 := Lib.hid (box_below F7_pb_3.out hb4)
    clear F7_pb_3
    obtain ⟨⟨c9_0, c9_1, c9_2, c9_3⟩, f9_0, f9_1, f9_2, f9_3⟩ := box4 F8_pb_4.out
    go_wp2_with (fail)
    refine (szGraph_law Sa (hb.below hB4) hgb (by omega) (by omega)).mono ?_
    rintro e w5 ⟨he5, hb5⟩
    have hB5 := below_trans hB4 hb5 hB4.size
    clear c9_0 c9_1 c9_2 c9_3 f9_0 f9_1 f9_2 f9_3
    rw [← HSb.out] at he5
    subst he5
    go_wp2_with (fail)
    go_ret
    exact ⟨rfl, hB5⟩
  have sokb := szG_ok (by rw [← HSb.out]; omega : 0 ≤ szG (b) Sa) (by omega)
  have okb := sokb.1
  have sleb : Sb ≤ Sa := by rw [HSb.out]; exact sokb.2
  clear sokb
  by_cases negm : Sm < 0
  case pos =>
    go_enter Try.func6, Try.ntmps6
    have F10_pa_2 := Lib.hid (box_below BX_pa_1.out hb2)
    clear BX_pa_1
    have F11_pa_3 := Lib.hid (box_below F10_pa_2.out hb3)
    clear F10_pa_2
    obtain ⟨⟨c12_0, c12_1, c12_2, c12_3⟩, f12_0, f12_1, f12_2, f12_3⟩ := box4 F11_pa_3.out
    go_wp2_with (fail)
    refine (szGraph_law 1048576 (ha.below hB3) hga (by omega) (by omega)).mono ?_
    rintro e w4 ⟨he4, hb4⟩
    have hB4 := below_trans hB3 hb4 hB3.size
    clear c12_0 c12_1 c12_2 c12_3 f12_0 f12_1 f12_2 f12_3
    rw [← HSa.out] at he4
    subst he4
    have F13_pb_3 := Lib.hid (box_below BX_pb_2.out hb3)
    clear BX_pb_2
    have F14_pb_4 := Lib.hid (box_below F13_pb_3.out hb4)
    clear F13_pb_3
    obtain ⟨⟨c15_0, c15_1, c15_2, c15_3⟩, f15_0, f15_1, f15_2, f15_3⟩ := box4 F14_pb_4.out
    go_wp2_with (fail)
    refine (szGraph_law Sa (hb.below hB4) hgb (by omega) (by omega)).mono ?_
    rintro e w5 ⟨he5, hb5⟩
    have hB5 := below_trans hB4 hb5 hB4.size
    clear c15_0 c15_1 c15_2 c15_3 f15_0 f15_1 f15_2 f15_3
    rw [← HSb.out] at he5
    subst he5
    have F16_pm_4 := Lib.hid (box_below BX_pm_3.out hb4)
    clear BX_pm_3
    have F17_pm_5 := Lib.hid (box_below F16_pm_4.out hb5)
    clear F16_pm_4
    obtain ⟨⟨c18_0, c18_1⟩, f18_0, f18_1⟩ := box2 F17_pm_5.out
    go_wp2_with (fail)
    refine (szMatch_law Sb (hm.below hB5) hgm (by omega) (by omega)).mono ?_
    rintro e w6 ⟨he6, hb6⟩
    have hB6 := below_trans hB5 hb6 hB5.size
    clear c18_0 c18_1 f18_0 f18_1
    rw [← HSm.out] at he6
    subst he6
    go_wp2_with (fail)
    go_ret
    exact ⟨rfl, hB6⟩
  have sokm := szMa_ok (by rw [← HSm.out]; omega : 0 ≤ szMa (m) Sb) (by omega)
  have okm := sokm.1
  have slem : Sm ≤ Sb := by rw [HSm.out]; exact sokm.2
  clear sokm
  go_enter Try.func6, Try.ntmps6
  have F19_pa_2 := Lib.hid (box_below BX_pa_1.out hb2)
  clear BX_pa_1
  have F20_pa_3 := Lib.hid (box_below F19_pa_2.out hb3)
  clear F19_pa_2
  obtain ⟨⟨c21_0, c21_1, c21_2, c21_3⟩, f21_0, f21_1, f21_2, f21_3⟩ := box4 F20_pa_3.out
  go_wp2_with (fail)
  refine (szGraph_law 1048576 (ha.below hB3) hga (by omega) (by omega)).mono ?_
  rintro e w4 ⟨he4, hb4⟩
  have hB4 := below_trans hB3 hb4 hB3.size
  clear c21_0 c21_1 c21_2 c21_3 f21_0 f21_1 f21_2 f21_3
  rw [← HSa.out] at he4
  subst he4
  have F22_pb_3 := Lib.hid (box_below BX_pb_2.out hb3)
  clear BX_pb_2
  have F23_pb_4 := Lib.hid (box_below F22_pb_3.out hb4)
  clear F22_pb_3
  obtain ⟨⟨c24_0, c24_1, c24_2, c24_3⟩, f24_0, f24_1, f24_2, f24_3⟩ := box4 F23_pb_4.out
  go_wp2_with (fail)
  refine (szGraph_law Sa (hb.below hB4) hgb (by omega) (by omega)).mono ?_
  rintro e w5 ⟨he5, hb5⟩
  have hB5 := below_trans hB4 hb5 hB4.size
  clear c24_0 c24_1 c24_2 c24_3 f24_0 f24_1 f24_2 f24_3
  rw [← HSb.out] at he5
  subst he5
  have F25_pm_4 := Lib.hid (box_below BX_pm_3.out hb4)
  clear BX_pm_3
  have F26_pm_5 := Lib.hid (box_below F25_pm_4.out hb5)
  clear F25_pm_4
  obtain ⟨⟨c27_0, c27_1⟩, f27_0, f27_1⟩ := box2 F26_pm_5.out
  go_wp2_with (fail)
  refine (szMatch_law Sb (hm.below hB5) hgm (by omega) (by omega)).mono ?_
  rintro e w6 ⟨he6, hb6⟩
  have hB6 := below_trans hB5 hb6 hB5.size
  clear c27_0 c27_1 f27_0 f27_1
  rw [← HSm.out] at he6
  subst he6
  have F28_pa_4 := Lib.hid (box_below F20_pa_3.out hb4)
  clear F20_pa_3
  have F29_pa_5 := Lib.hid (box_below F28_pa_4.out hb5)
  clear F28_pa_4
  have F30_pa_6 := Lib.hid (box_below F29_pa_5.out hb6)
  clear F29_pa_5
  have F31_pb_5 := Lib.hid (box_below F23_pb_4.out hb5)
  clear F23_pb_4
  have F32_pb_6 := Lib.hid (box_below F31_pb_5.out hb6)
  clear F31_pb_5
  have F33_pm_6 := Lib.hid (box_below F26_pm_5.out hb6)
  clear F26_pm_5
  go_wp2_with (fail)
  refine beginH (fun w' => w'.heap[(w).heap.size]? = some (.cells #[.int .i64 (a).1, .slice Aa na ca, .slice Ba ma da, .slice Ca ka ea] 25) ∧ w'.heap[(w).heap.size + 1]? = some (.cells #[.int .i64 (b).1, .slice Ab nb cb, .slice Bb mb db, .slice Cb kb eb] 25) ∧ w'.heap[(w).heap.size + 1 + 1]? = some (.cells #[.slice Am nm cm, .slice Bm mm dm] 43)) (by kernel_rfl) ?_
  have hb7 : Below (w6).heap.size (w6) (w6).drew := below_drewN (Below.refl _ _) 1
  have hB7 := below_trans hB6 hb7 hB6.size
  have F34_pa_7 := Lib.hid (box_below F30_pa_6.out hb7)
  clear F30_pa_6
  have F35_pb_7 := Lib.hid (box_below F32_pb_6.out hb7)
  clear F32_pb_6
  have F36_pm_7 := Lib.hid (box_below F33_pm_6.out hb7)
  clear F33_pm_6
  refine takeH 0 (v := ?_) rfl (by kernel_rfl) (by kernel_rfl) (by kernel_rfl) (fun _ _ _ h => h) ⟨F34_pa_7.out, F35_pb_7.out, F36_pm_7.out⟩ (by rfl) (fun W' hW' => ?_) ?_; rotate_left; · (obtain ⟨q0, q1, q2⟩ := hW'; obtain ⟨⟨ca0_0, ca0_1, ca0_2, ca0_3⟩, ga0_0, ga0_1, ga0_2, ga0_3⟩ := box4 q0; obtain ⟨⟨ca1_0, ca1_1, ca1_2, ca1_3⟩, ga1_0, ga1_1, ga1_2, ga1_3⟩ := box4 q1; obtain ⟨⟨ca2_0, ca2_1⟩, ga2_0, ga2_1⟩ := box2 q2; clear q0 q1 q2; go_simp; first | done | with_reducible rfl)
  simp only [Act.put, List.setIfInBounds_toArray, List.set_cons_zero, List.set_cons_succ]
  refine takeH 2 (v := ?_) rfl (by kernel_rfl) (by kernel_rfl) (by kernel_rfl) (fun _ _ _ h => h) ⟨F34_pa_7.out, F35_pb_7.out, F36_pm_7.out⟩ (by rfl) (fun W' hW' => ?_) ?_; rotate_left; · (obtain ⟨q0, q1, q2⟩ := hW'; obtain ⟨⟨ca0_0, ca0_1, ca0_2, ca0_3⟩, ga0_0, ga0_1, ga0_2, ga0_3⟩ := box4 q0; obtain ⟨⟨ca1_0, ca1_1, ca1_2, ca1_3⟩, ga1_0, ga1_1, ga1_2, ga1_3⟩ := box4 q1; obtain ⟨⟨ca2_0, ca2_1⟩, ga2_0, ga2_1⟩ := box2 q2; clear q0 q1 q2; go_simp; first | done | with_reducible rfl)
  simp only [Act.put, List.setIfInBounds_toArray, List.set_cons_zero, List.set_cons_succ]
  refine takeH 4 (v := ?_) rfl (by kernel_rfl) (by kernel_rfl) (by kernel_rfl) (fun _ _ _ h => h) ⟨F34_pa_7.out, F35_pb_7.out, F36_pm_7.out⟩ (by rfl) (fun W' hW' => ?_) ?_; rotate_left; · (obtain ⟨q0, q1, q2⟩ := hW'; obtain ⟨⟨ca0_0, ca0_1, ca0_2, ca0_3⟩, ga0_0, ga0_1, ga0_2, ga0_3⟩ := box4 q0; obtain ⟨⟨ca1_0, ca1_1, ca1_2, ca1_3⟩, ga1_0, ga1_1, ga1_2, ga1_3⟩ := box4 q1; obtain ⟨⟨ca2_0, ca2_1⟩, ga2_0, ga2_1⟩ := box2 q2; clear q0 q1 q2; go_simp; first | done | with_reducible rfl)
  simp only [Act.put, List.setIfInBounds_toArray, List.set_cons_zero, List.set_cons_succ]
  refine' callH 1 (f := _) (args := _) rfl (by kernel_rfl) (by rfl) ?_ ?_; rotate_left 2; · (go_simp; first | done | with_reducible rfl | (constructor <;> with_reducible rfl))
  refine (toGraph_law (ha.below hB7) oka).mono ?_
  rintro e w8 ⟨v8, fp8, rfl, o8, fr8, hb8⟩
  have hB8 := below_trans hB7 hb8 hB7.size
  have F37_pa_8 := Lib.hid (box_below F34_pa_7.out hb8)
  clear F34_pa_7
  have F38_pb_8 := Lib.hid (box_below F35_pb_7.out hb8)
  clear F35_pb_7
  have F39_pm_8 := Lib.hid (box_below F36_pm_7.out hb8)
  clear F36_pm_7
  refine ⟨_, rfl, ⟨F37_pa_8.out, F38_pb_8.out, F39_pm_8.out⟩, ?_⟩
  obtain ⟨A8, n8, c8, B8, m8, d8, C8, k8, e8, rfl⟩ := o8.shape
  have lt_aa := o8.lt
  simp only [Act.put, List.setIfInBounds_toArray, List.set_cons_zero, List.set_cons_succ]
  refine' callH 3 (f := _) (args := _) rfl (by kernel_rfl) (by rfl) ?_ ?_; rotate_left 2; · (go_simp; first | done | with_reducible rfl | (constructor <;> with_reducible rfl))
  refine (toGraph_law (hb.below hB8) okb).mono ?_
  rintro e w9 ⟨v9, fp9, rfl, o9, fr9, hb9⟩
  have hB9 := below_trans hB8 hb9 hB8.size
  have F40_pa_9 := Lib.hid (box_below F37_pa_8.out hb9)
  clear F37_pa_8
  have F41_pb_9 := Lib.hid (box_below F38_pb_8.out hb9)
  clear F38_pb_8
  have F42_pm_9 := Lib.hid (box_below F39_pm_8.out hb9)
  clear F39_pm_8
  refine ⟨_, rfl, ⟨F40_pa_9.out, F41_pb_9.out, F42_pm_9.out⟩, ?_⟩
  obtain ⟨A9, n9, c9, B9, m9, d9, C9, k9, e9, rfl⟩ := o9.shape
  have lt_ab := o9.lt
  simp only [Act.put, List.setIfInBounds_toArray, List.set_cons_zero, List.set_cons_succ]
  refine' callH 5 (f := _) (args := _) rfl (by kernel_rfl) (by rfl) ?_ ?_; rotate_left 2; · (go_simp; first | done | with_reducible rfl | (constructor <;> with_reducible rfl))
  refine (toMatch_law (hm.below hB9) okm).mono ?_
  rintro e w10 ⟨v10, fp10, rfl, o10, fr10, hb10⟩
  have hB10 := below_trans hB9 hb10 hB9.size
  have F43_pa_10 := Lib.hid (box_below F40_pa_9.out hb10)
  clear F40_pa_9
  have F44_pb_10 := Lib.hid (box_below F41_pb_9.out hb10)
  clear F41_pb_9
  have F45_pm_10 := Lib.hid (box_below F42_pm_9.out hb10)
  clear F42_pm_9
  refine ⟨_, rfl, ⟨F43_pa_10.out, F44_pb_10.out, F45_pm_10.out⟩, ?_⟩
  obtain ⟨A10, n10, c10, B10, m10, d10, rfl⟩ := o10.shape
  have lt_am := o10.lt
  simp only [Act.put, List.setIfInBounds_toArray, List.set_cons_zero, List.set_cons_succ]
  refine' callH 6 (f := _) (args := _) rfl (by kernel_rfl) (by rfl) ?_ ?_; rotate_left 2; · (go_simp; first | done | with_reducible rfl | (constructor <;> with_reducible rfl))
  have F46_aa_9 := o8.below hb9
  clear o8
  have F47_aa_10 := F46_aa_9.below hb10
  clear F46_aa_9
  have F48_ab_10 := o9.below hb10
  clear o9
  refine (sIsIsomorphism_law  F47_aa_10 F48_ab_10 o10 oka okb okm).mono ?_
  rintro e w11 ⟨rfl, hb11⟩
  have hB11 := below_trans hB10 hb11 hB10.size
  have F49_pa_11 := Lib.hid (box_below F43_pa_10.out hb11)
  clear F43_pa_10
  have F50_pb_11 := Lib.hid (box_below F44_pb_10.out hb11)
  clear F44_pb_10
  have F51_pm_11 := Lib.hid (box_below F45_pm_10.out hb11)
  clear F45_pm_10
  refine ⟨_, rfl, ⟨F49_pa_11.out, F50_pb_11.out, F51_pm_11.out⟩, ?_⟩
  simp only [Act.put, List.setIfInBounds_toArray, List.set_cons_zero, List.set_cons_succ]
  refine takeH 7 (v := ?_) rfl (by kernel_rfl) (by kernel_rfl) (by kernel_rfl) (fun _ _ _ h => h) ⟨F49_pa_11.out, F50_pb_11.out, F51_pm_11.out⟩ (by rfl) (fun W' hW' => ?_) ?_; rotate_left; · (obtain ⟨q0, q1, q2⟩ := hW'; obtain ⟨⟨ca0_0, ca0_1, ca0_2, ca0_3⟩, ga0_0, ga0_1, ga0_2, ga0_3⟩ := box4 q0; obtain ⟨⟨ca1_0, ca1_1, ca1_2, ca1_3⟩, ga1_0, ga1_1, ga1_2, ga1_3⟩ := box4 q1; obtain ⟨⟨ca2_0, ca2_1⟩, ga2_0, ga2_1⟩ := box2 q2; clear q0 q1 q2; go_simp; first | done | with_reducible rfl)
  simp only [Act.put, List.setIfInBounds_toArray, List.set_cons_zero, List.set_cons_succ]
  refine takeH 8 (v := ?_) rfl (by kernel_rfl) (by kernel_rfl) (by kernel_rfl) (fun _ _ _ h => h) ⟨F49_pa_11.out, F50_pb_11.out, F51_pm_11.out⟩ (by rfl) (fun W' hW' => ?_) ?_; rotate_left; · (obtain ⟨q0, q1, q2⟩ := hW'; obtain ⟨⟨ca0_0, ca0_1, ca0_2, ca0_3⟩, ga0_0, ga0_1, ga0_2, ga0_3⟩ := box4 q0; obtain ⟨⟨ca1_0, ca1_1, ca1_2, ca1_3⟩, ga1_0, ga1_1, ga1_2, ga1_3⟩ := box4 q1; obtain ⟨⟨ca2_0, ca2_1⟩, ga2_0, ga2_1⟩ := box2 q2; clear q0 q1 q2; go_simp; first | done | with_reducible rfl)
  simp only [Act.put, List.setIfInBounds_toArray, List.set_cons_zero, List.set_cons_succ]
  refine takeH 9 (v := ?_) rfl (by kernel_rfl) (by kernel_rfl) (by kernel_rfl) (fun _ _ _ h => h) ⟨F49_pa_11.out, F50_pb_11.out, F51_pm_11.out⟩ (by rfl) (fun W' hW' => ?_) ?_; rotate_left; · (obtain ⟨q0, q1, q2⟩ := hW'; obtain ⟨⟨ca0_0, ca0_1, ca0_2, ca0_3⟩, ga0_0, ga0_1, ga0_2, ga0_3⟩ := box4 q0; obtain ⟨⟨ca1_0, ca1_1, ca1_2, ca1_3⟩, ga1_0, ga1_1, ga1_2, ga1_3⟩ := box4 q1; obtain ⟨⟨ca2_0, ca2_1⟩, ga2_0, ga2_1⟩ := box2 q2; clear q0 q1 q2; go_simp; first | done | with_reducible rfl)
  simp only [Act.put, List.setIfInBounds_toArray, List.set_cons_zero, List.set_cons_succ]
  refine takeH 10 (v := ?_) rfl (by kernel_rfl) (by kernel_rfl) (by kernel_rfl) (fun _ _ _ h => h) ⟨F49_pa_11.out, F50_pb_11.out, F51_pm_11.out⟩ (by rfl) (fun W' hW' => ?_) ?_; rotate_left; · (obtain ⟨q0, q1, q2⟩ := hW'; obtain ⟨⟨ca0_0, ca0_1, ca0_2, ca0_3⟩, ga0_0, ga0_1, ga0_2, ga0_3⟩ := box4 q0; obtain ⟨⟨ca1_0, ca1_1, ca1_2, ca1_3⟩, ga1_0, ga1_1, ga1_2, ga1_3⟩ := box4 q1; obtain ⟨⟨ca2_0, ca2_1⟩, ga2_0, ga2_1⟩ := box2 q2; clear q0 q1 q2; go_simp; first | done | with_reducible rfl)
  simp only [Act.put, List.setIfInBounds_toArray, List.set_cons_zero, List.set_cons_succ]
  refine takeH 11 (v := ?_) rfl (by kernel_rfl) (by kernel_rfl) (by kernel_rfl) (fun _ _ _ h => h) ⟨F49_pa_11.out, F50_pb_11.out, F51_pm_11.out⟩ (by rfl) (fun W' hW' => ?_) ?_; rotate_left; · (obtain ⟨q0, q1, q2⟩ := hW'; obtain ⟨⟨ca0_0, ca0_1, ca0_2, ca0_3⟩, ga0_0, ga0_1, ga0_2, ga0_3⟩ := box4 q0; obtain ⟨⟨ca1_0, ca1_1, ca1_2, ca1_3⟩, ga1_0, ga1_1, ga1_2, ga1_3⟩ := box4 q1; obtain ⟨⟨ca2_0, ca2_1⟩, ga2_0, ga2_1⟩ := box2 q2; clear q0 q1 q2; go_simp; first | done | with_reducible rfl)
  simp only [Act.put, List.setIfInBounds_toArray, List.set_cons_zero, List.set_cons_succ]
  refine doneH (by kernel_rfl) ?_
  obtain ⟨⟨c52_0, c52_1, c52_2, c52_3⟩, f52_0, f52_1, f52_2, f52_3⟩ := box4 F49_pa_11.out
  go_wp2_with (fail)
  refine (toGraph_law (ha.below hB11) oka).mono ?_
  rintro e w12 ⟨v12, fp12, rfl, o12, fr12, hb12⟩
  have hB12 := below_trans hB11 hb12 hB11.size
  clear c52_0 c52_1 c52_2 c52_3 f52_0 f52_1 f52_2 f52_3
  obtain ⟨A12, n12, c12, B12, m12, d12, C12, k12, e12, rfl⟩ := o12.shape
  have lt_xa := o12.lt
  have hb13 := below_alloc (w12) (.cells #[.int .i64 (a).1, .slice A12 n12 c12, .slice B12 m12 d12, .slice C12 k12 e12] 31)
  have hB13 := below_trans hB12 hb13 hB12.size
  have bx13 := heap_alloc_new (w12) (.cells #[.int .i64 (a).1, .slice A12 n12 c12, .slice B12 m12 d12, .slice C12 k12 e12] 31)
  have lt_bxa : LtL ((w12).alloc (.cells #[.int .i64 (a).1, .slice A12 n12 c12, .slice B12 m12 d12, .slice C12 k12 e12] 31)).heap.size [(w12).heap.size] := fun b hb => by obtain rfl := List.mem_singleton.1 hb; exact box_lt bx13
  have fr_bxa : FreshL (w12).heap.size [(w12).heap.size] := fun b hb => by obtain rfl := List.mem_singleton.1 hb; exact Nat.le_refl _
  have BX_bxa_13 := Lib.hid bx13
  clear bx13
  have F53_pb_12 := Lib.hid (box_below F50_pb_11.out hb12)
  clear F50_pb_11
  have F54_pb_13 := Lib.hid (box_below F53_pb_12.out hb13)
  clear F53_pb_12
  obtain ⟨⟨c55_0, c55_1, c55_2, c55_3⟩, f55_0, f55_1, f55_2, f55_3⟩ := box4 F54_pb_13.out
  go_wp2_with (fail)
  refine (toGraph_law (hb.below hB13) okb).mono ?_
  rintro e w14 ⟨v14, fp14, rfl, o14, fr14, hb14⟩
  have hB14 := below_trans hB13 hb14 hB13.size
  clear c55_0 c55_1 c55_2 c55_3 f55_0 f55_1 f55_2 f55_3
  obtain ⟨A14, n14, c14, B14, m14, d14, C14, k14, e14, rfl⟩ := o14.shape
  have lt_xb := o14.lt
  have hb15 := below_alloc (w14) (.cells #[.int .i64 (b).1, .slice A14 n14 c14, .slice B14 m14 d14, .slice C14 k14 e14] 31)
  have hB15 := below_trans hB14 hb15 hB14.size
  have bx15 := heap_alloc_new (w14) (.cells #[.int .i64 (b).1, .slice A14 n14 c14, .slice B14 m14 d14, .slice C14 k14 e14] 31)
  have lt_bxb : LtL ((w14).alloc (.cells #[.int .i64 (b).1, .slice A14 n14 c14, .slice B14 m14 d14, .slice C14 k14 e14] 31)).heap.size [(w14).heap.size] := fun b hb => by obtain rfl := List.mem_singleton.1 hb; exact box_lt bx15
  have fr_bxb : FreshL (w14).heap.size [(w14).heap.size] := fun b hb => by obtain rfl := List.mem_singleton.1 hb; exact Nat.le_refl _
  have BX_bxb_15 := Lib.hid bx15
  clear bx15
  have F56_pm_12 := Lib.hid (box_below F51_pm_11.out hb12)
  clear F51_pm_11
  have F57_pm_13 := Lib.hid (box_below F56_pm_12.out hb13)
  clear F56_pm_12
  have F58_pm_14 := Lib.hid (box_below F57_pm_13.out hb14)
  clear F57_pm_13
  have F59_pm_15 := Lib.hid (box_below F58_pm_14.out hb15)
  clear F58_pm_14
  obtain ⟨⟨c60_0, c60_1⟩, f60_0, f60_1⟩ := box2 F59_pm_15.out
  go_wp2_with (fail)
  refine (toMatch_law (hm.below hB15) okm).mono ?_
  rintro e w16 ⟨v16, fp16, rfl, o16, fr16, hb16⟩
  have hB16 := below_trans hB15 hb16 hB15.size
  clear c60_0 c60_1 f60_0 f60_1
  obtain ⟨A16, n16, c16, B16, m16, d16, rfl⟩ := o16.shape
  have lt_xm := o16.lt
  have hb17 := below_alloc (w16) (.cells #[.slice A16 n16 c16, .slice B16 m16 d16] 47)
  have hB17 := below_trans hB16 hb17 hB16.size
  have bx17 := heap_alloc_new (w16) (.cells #[.slice A16 n16 c16, .slice B16 m16 d16] 47)
  have lt_bxm : LtL ((w16).alloc (.cells #[.slice A16 n16 c16, .slice B16 m16 d16] 47)).heap.size [(w16).heap.size] := fun b hb => by obtain rfl := List.mem_singleton.1 hb; exact box_lt bx17
  have fr_bxm : FreshL (w16).heap.size [(w16).heap.size] := fun b hb => by obtain rfl := List.mem_singleton.1 hb; exact Nat.le_refl _
  have BX_bxm_17 := Lib.hid bx17
  clear bx17
  have F61_xa_13 := o12.below hb13
  clear o12
  have F62_xa_14 := F61_xa_13.below hb14
  clear F61_xa_13
  have F63_xa_15 := F62_xa_14.below hb15
  clear F62_xa_14
  have F64_xa_16 := F63_xa_15.below hb16
  clear F63_xa_15
  have F65_xa_17 := F64_xa_16.below hb17
  clear F64_xa_16
  have F66_xb_15 := o14.below hb15
  clear o14
  have F67_xb_16 := F66_xb_15.below hb16
  clear F66_xb_15
  have F68_xb_17 := F67_xb_16.below hb17
  clear F67_xb_16
  have F69_xm_17 := o16.below hb17
  clear o16
  have F70_bxa_14 := Lib.hid (box_below BX_bxa_13.out hb14)
  clear BX_bxa_13
  have F71_bxa_15 := Lib.hid (box_below F70_bxa_14.out hb15)
  clear F70_bxa_14
  have F72_bxa_16 := Lib.hid (box_below F71_bxa_15.out hb16)
  clear F71_bxa_15
  have F73_bxa_17 := Lib.hid (box_below F72_bxa_16.out hb17)
  clear F72_bxa_16
  obtain ⟨⟨c74_0, c74_1, c74_2, c74_3⟩, f74_0, f74_1, f74_2, f74_3⟩ := box4 F73_bxa_17.out
  have F75_bxb_16 := Lib.hid (box_below BX_bxb_15.out hb16)
  clear BX_bxb_15
  have F76_bxb_17 := Lib.hid (box_below F75_bxb_16.out hb17)
  clear F75_bxb_16
  obtain ⟨⟨c77_0, c77_1, c77_2, c77_3⟩, f77_0, f77_1, f77_2, f77_3⟩ := box4 F76_bxb_17.out
  obtain ⟨⟨c78_0, c78_1⟩, f78_0, f78_1⟩ := box2 BX_bxm_17.out
  go_wp2_with (fail)
  refine (iIsIsomorphism_law  F65_xa_17 F68_xb_17 F69_xm_17 oka okb okm).mono ?_
  rintro e w18 ⟨rfl, hb18⟩
  have hB18 := below_trans hB17 hb18 hB17.size
  clear c74_0 c74_1 c74_2 c74_3 f74_0 f74_1 f74_2 f74_3 c77_0 c77_1 c77_2 c77_3 f77_0 f77_1 f77_2 f77_3 c78_0 c78_1 f78_0 f78_1
  have F79_bxa_18 := Lib.hid (box_below F73_bxa_17.out hb18)
  clear F73_bxa_17
  have F80_pa_12 := Lib.hid (box_below F49_pa_11.out hb12)
  clear F49_pa_11
  have F81_pa_13 := Lib.hid (box_below F80_pa_12.out hb13)
  clear F80_pa_12
  have F82_pa_14 := Lib.hid (box_below F81_pa_13.out hb14)
  clear F81_pa_13
  have F83_pa_15 := Lib.hid (box_below F82_pa_14.out hb15)
  clear F82_pa_14
  have F84_pa_16 := Lib.hid (box_below F83_pa_15.out hb16)
  clear F83_pa_15
  have F85_pa_17 := Lib.hid (box_below F84_pa_16.out hb17)
  clear F84_pa_16
  have F86_pa_18 := Lib.hid (box_below F85_pa_17.out hb18)
  clear F85_pa_17
  have F87_xa_18 := F65_xa_17.below hb18
  clear F65_xa_17
  go_wp2_with (fail)
  refine beginH (fun w' => w'.heap[(w12).heap.size]? = some (.cells #[.int .i64 (a).1, .slice A12 n12 c12, .slice B12 m12 d12, .slice C12 k12 e12] 31) ∧ w'.heap[(w).heap.size]? = some (.cells #[.int .i64 (a).1, .slice Aa na ca, .slice Ba ma da, .slice Ca ka ea] 25)) (by kernel_rfl) ?_
  have hb19 : Below (w18).heap.size (w18) (w18).drew := below_drewN (Below.refl _ _) 1
  have hB19 := below_trans hB18 hb19 hB18.size
  have F89_bxa_19 := Lib.hid (box_below F79_bxa_18.out hb19)
  clear F79_bxa_18
  have F90_pa_19 := Lib.hid (box_below F86_pa_18.out hb19)
  clear F86_pa_18
  have F91_xa_19 := F87_xa_18.below hb19
  clear F87_xa_18
  refine takeH 0 (v := ?_) rfl (by kernel_rfl) (by kernel_rfl) (by kernel_rfl) (fun _ _ _ h => h) ⟨F89_bxa_19.out, F90_pa_19.out⟩ (by rfl) (fun W' hW' => ?_) ?_; rotate_left; · (obtain ⟨q1, q2⟩ := hW'; obtain ⟨⟨ca0, ca1, ca2, ca3⟩, gca0, gca1, gca2, gca3⟩ := box4 q1; obtain ⟨⟨cb0, cb1, cb2, cb3⟩, gcb0, gcb1, gcb2, gcb3⟩ := box4 q2; clear q1 q2; go_simp; first | done | with_reducible rfl)
  simp only [Act.put, List.setIfInBounds_toArray, List.set_cons_zero, List.set_cons_succ]
  refine takeH 1 (v := ?_) rfl (by kernel_rfl) (by kernel_rfl) (by kernel_rfl) (fun _ _ _ h => h) ⟨F89_bxa_19.out, F90_pa_19.out⟩ (by rfl) (fun W' hW' => ?_) ?_; rotate_left; · (obtain ⟨q1, q2⟩ := hW'; obtain ⟨⟨ca0, ca1, ca2, ca3⟩, gca0, gca1, gca2, gca3⟩ := box4 q1; obtain ⟨⟨cb0, cb1, cb2, cb3⟩, gcb0, gcb1, gcb2, gcb3⟩ := box4 q2; clear q1 q2; go_simp; first | done | with_reducible rfl)
  simp only [Act.put, List.setIfInBounds_toArray, List.set_cons_zero, List.set_cons_succ]
  refine' callH 2 (f := _) (args := _) rfl (by kernel_rfl) (by rfl) ?_ ?_; rotate_left 2; · (go_simp; first | done | with_reducible rfl | (constructor <;> with_reducible rfl))
  refine (toGraph_law (ha.below hB19) oka).mono ?_
  rintro e w20 ⟨v20, fp20, rfl, o20, fr20, hb20⟩
  have hB20 := below_trans hB19 hb20 hB19.size
  have F92_bxa_20 := Lib.hid (box_below F89_bxa_19.out hb20)
  clear F89_bxa_19
  have F93_pa_20 := Lib.hid (box_below F90_pa_19.out hb20)
  clear F90_pa_19
  have F94_xa_20 := F91_xa_19.below hb20
  clear F91_xa_19
  refine ⟨_, rfl, ⟨F92_bxa_20.out, F93_pa_20.out⟩, ?_⟩
  simp only [Act.put, List.setIfInBounds_toArray, List.set_cons_zero, List.set_cons_succ]
  refine' callH 3 (f := _) (args := _) rfl (by kernel_rfl) (by rfl) ?_ ?_; rotate_left 2; · (go_simp; first | done | with_reducible rfl | (constructor <;> with_reducible rfl))
  refine (eqGraph_law F94_xa_20.rd o20.rd oka).mono ?_
  rintro e w21 ⟨rfl, hb21⟩
  have hB21 := below_trans hB20 hb21 hB20.size
  have F95_bxa_21 := Lib.hid (box_below F92_bxa_20.out hb21)
  clear F92_bxa_20
  have F96_pa_21 := Lib.hid (box_below F93_pa_20.out hb21)
  clear F93_pa_20
  have F97_xa_21 := F94_xa_20.below hb21
  clear F94_xa_20
  refine ⟨_, rfl, ⟨F95_bxa_21.out, F96_pa_21.out⟩, ?_⟩
  rw [decide_eq_true (rfl : a = a)]
  simp only [Act.put, List.setIfInBounds_toArray, List.set_cons_zero, List.set_cons_succ]
  refine takeH 4 (v := .bool false) rfl (by kernel_rfl) (by kernel_rfl) (by kernel_rfl) (fun _ _ _ h => h) ⟨F95_bxa_21.out, F96_pa_21.out⟩ (by rfl) (fun W' hW' => ?_) ?_; · (go_simp; first | done | with_reducible rfl)
  simp only [Act.put, List.setIfInBounds_toArray, List.set_cons_zero, List.set_cons_succ]
  refine doneH (by kernel_rfl) ?_
  have F98_bxb_18 := Lib.hid (box_below F76_bxb_17.out hb18)
  clear F76_bxb_17
  have F99_bxb_19 := Lib.hid (box_below F98_bxb_18.out hb19)
  clear F98_bxb_18
  have F100_bxb_20 := Lib.hid (box_below F99_bxb_19.out hb20)
  clear F99_bxb_19
  have F101_bxb_21 := Lib.hid (box_below F100_bxb_20.out hb21)
  clear F100_bxb_20
  have F102_pb_14 := Lib.hid (box_below F54_pb_13.out hb14)
  clear F54_pb_13
  have F103_pb_15 := Lib.hid (box_below F102_pb_14.out hb15)
  clear F102_pb_14
  have F104_pb_16 := Lib.hid (box_below F103_pb_15.out hb16)
  clear F103_pb_15
  have F105_pb_17 := Lib.hid (box_below F104_pb_16.out hb17)
  clear F104_pb_16
  have F106_pb_18 := Lib.hid (box_below F105_pb_17.out hb18)
  clear F105_pb_17
  have F107_pb_19 := Lib.hid (box_below F106_pb_18.out hb19)
  clear F106_pb_18
  have F108_pb_20 := Lib.hid (box_below F107_pb_19.out hb20)
  clear F107_pb_19
  have F109_pb_21 := Lib.hid (box_below F108_pb_20.out hb21)
  clear F108_pb_20
  have F110_xb_18 := F68_xb_17.below hb18
  clear F68_xb_17
  have F111_xb_19 := F110_xb_18.below hb19
  clear F110_xb_18
  have F112_xb_20 := F111_xb_19.below hb20
  clear F111_xb_19
  have F113_xb_21 := F112_xb_20.below hb21
  clear F112_xb_20
  go_wp2_with (fail)
  refine beginH (fun w' => w'.heap[(w14).heap.size]? = some (.cells #[.int .i64 (b).1, .slice A14 n14 c14, .slice B14 m14 d14, .slice C14 k14 e14] 31) ∧ w'.heap[(w).heap.size + 1]? = some (.cells #[.int .i64 (b).1, .slice Ab nb cb, .slice Bb mb db, .slice Cb kb eb] 25)) (by kernel_rfl) ?_
  have hb22 : Below (w21).heap.size (w21) (w21).drew := below_drewN (Below.refl _ _) 1
  have hB22 := below_trans hB21 hb22 hB21.size
  have F115_bxb_22 := Lib.hid (box_below F101_bxb_21.out hb22)
  clear F101_bxb_21
  have F116_pb_22 := Lib.hid (box_below F109_pb_21.out hb22)
  clear F109_pb_21
  have F117_xb_22 := F113_xb_21.below hb22
  clear F113_xb_21
  refine takeH 0 (v := ?_) rfl (by kernel_rfl) (by kernel_rfl) (by kernel_rfl) (fun _ _ _ h => h) ⟨F115_bxb_22.out, F116_pb_22.out⟩ (by rfl) (fun W' hW' => ?_) ?_; rotate_left; · (obtain ⟨q1, q2⟩ := hW'; obtain ⟨⟨ca0, ca1, ca2, ca3⟩, gca0, gca1, gca2, gca3⟩ := box4 q1; obtain ⟨⟨cb0, cb1, cb2, cb3⟩, gcb0, gcb1, gcb2, gcb3⟩ := box4 q2; clear q1 q2; go_simp; first | done | with_reducible rfl)
  simp only [Act.put, List.setIfInBounds_toArray, List.set_cons_zero, List.set_cons_succ]
  refine takeH 1 (v := ?_) rfl (by kernel_rfl) (by kernel_rfl) (by kernel_rfl) (fun _ _ _ h => h) ⟨F115_bxb_22.out, F116_pb_22.out⟩ (by rfl) (fun W' hW' => ?_) ?_; rotate_left; · (obtain ⟨q1, q2⟩ := hW'; obtain ⟨⟨ca0, ca1, ca2, ca3⟩, gca0, gca1, gca2, gca3⟩ := box4 q1; obtain ⟨⟨cb0, cb1, cb2, cb3⟩, gcb0, gcb1, gcb2, gcb3⟩ := box4 q2; clear q1 q2; go_simp; first | done | with_reducible rfl)
  simp only [Act.put, List.setIfInBounds_toArray, List.set_cons_zero, List.set_cons_succ]
  refine' callH 2 (f := _) (args := _) rfl (by kernel_rfl) (by rfl) ?_ ?_; rotate_left 2; · (go_simp; first | done | with_reducible rfl | (constructor <;> with_reducible rfl))
  refine (toGraph_law (hb.below hB22) okb).mono ?_
  rintro e w23 ⟨v23, fp23, rfl, o23, fr23, hb23⟩
  have hB23 := below_trans hB22 hb23 hB22.size
  have F118_bxb_23 := Lib.hid (box_below F115_bxb_22.out hb23)
  clear F115_bxb_22
  have F119_pb_23 := Lib.hid (box_below F116_pb_22.out hb23)
  clear F116_pb_22
  have F120_xb_23 := F117_xb_22.below hb23
  clear F117_xb_22
  refine ⟨_, rfl, ⟨F118_bxb_23.out, F119_pb_23.out⟩, ?_⟩
  simp only [Act.put, List.setIfInBounds_toArray, List.set_cons_zero, List.set_cons_succ]
  refine' callH 3 (f := _) (args := _) rfl (by kernel_rfl) (by rfl) ?_ ?_; rotate_left 2; · (go_simp; first | done | with_reducible rfl | (constructor <;> with_reducible rfl))
  refine (eqGraph_law F120_xb_23.rd o23.rd okb).mono ?_
  rintro e w24 ⟨rfl, hb24⟩
  have hB24 := below_trans hB23 hb24 hB23.size
  have F121_bxb_24 := Lib.hid (box_below F118_bxb_23.out hb24)
  clear F118_bxb_23
  have F122_pb_24 := Lib.hid (box_below F119_pb_23.out hb24)
  clear F119_pb_23
  have F123_xb_24 := F120_xb_23.below hb24
  clear F120_xb_23
  refine ⟨_, rfl, ⟨F121_bxb_24.out, F122_pb_24.out⟩, ?_⟩
  rw [decide_eq_true (rfl : b = b)]
  simp only [Act.put, List.setIfInBounds_toArray, List.set_cons_zero, List.set_cons_succ]
  refine takeH 4 (v := .bool false) rfl (by kernel_rfl) (by kernel_rfl) (by kernel_rfl) (fun _ _ _ h => h) ⟨F121_bxb_24.out, F122_pb_24.out⟩ (by rfl) (fun W' hW' => ?_) ?_; · (go_simp; first | done | with_reducible rfl)
  simp only [Act.put, List.setIfInBounds_toArray, List.set_cons_zero, List.set_cons_succ]
  refine doneH (by kernel_rfl) ?_
  have F124_bxm_18 := Lib.hid (box_below BX_bxm_17.out hb18)
  clear BX_bxm_17
  have F125_bxm_19 := Lib.hid (box_below F124_bxm_18.out hb19)
  clear F124_bxm_18
  have F126_bxm_20 := Lib.hid (box_below F125_bxm_19.out hb20)
  clear F125_bxm_19
  have F127_bxm_21 := Lib.hid (box_below F126_bxm_20.out hb21)
  clear F126_bxm_20
  have F128_bxm_22 := Lib.hid (box_below F127_bxm_21.out hb22)
  clear F127_bxm_21
  have F129_bxm_23 := Lib.hid (box_below F128_bxm_22.out hb23)
  clear F128_bxm_22
  have F130_bxm_24 := Lib.hid (box_below F129_bxm_23.out hb24)
  clear F129_bxm_23
  have F131_pm_16 := Lib.hid (box_below F59_pm_15.out hb16)
  clear F59_pm_15
  have F132_pm_17 := Lib.hid (box_below F131_pm_16.out hb17)
  clear F131_pm_16
  have F133_pm_18 := Lib.hid (box_below F132_pm_17.out hb18)
  clear F132_pm_17
  have F134_pm_19 := Lib.hid (box_below F133_pm_18.out hb19)
  clear F133_pm_18
  have F135_pm_20 := Lib.hid (box_below F134_pm_19.out hb20)
  clear F134_pm_19
  have F136_pm_21 := Lib.hid (box_below F135_pm_20.out hb21)
  clear F135_pm_20
  have F137_pm_22 := Lib.hid (box_below F136_pm_21.out hb22)
  clear F136_pm_21
  have F138_pm_23 := Lib.hid (box_below F137_pm_22.out hb23)
  clear F137_pm_22
  have F139_pm_24 := Lib.hid (box_below F138_pm_23.out hb24)
  clear F138_pm_23
  have F140_xm_18 := F69_xm_17.below hb18
  clear F69_xm_17
  have F141_xm_19 := F140_xm_18.below hb19
  clear F140_xm_18
  have F142_xm_20 := F141_xm_19.below hb20
  clear F141_xm_19
  have F143_xm_21 := F142_xm_20.below hb21
  clear F142_xm_20
  have F144_xm_22 := F143_xm_21.below hb22
  clear F143_xm_21
  have F145_xm_23 := F144_xm_22.below hb23
  clear F144_xm_22
  have F146_xm_24 := F145_xm_23.below hb24
  clear F145_xm_23
  go_wp2_with (fail)
  refine beginH (fun w' => w'.heap[(w16).heap.size]? = some (.cells #[.slice A16 n16 c16, .slice B16 m16 d16] 47) ∧ w'.heap[(w).heap.size + 1 + 1]? = some (.cells #[.slice Am nm cm, .slice Bm mm dm] 43)) (by kernel_rfl) ?_
  have hb25 : Below (w24).heap.size (w24) (w24).drew := below_drewN (Below.refl _ _) 1
  have hB25 := below_trans hB24 hb25 hB24.size
  have F148_bxm_25 := Lib.hid (box_below F130_bxm_24.out hb25)
  clear F130_bxm_24
  have F149_pm_25 := Lib.hid (box_below F139_pm_24.out hb25)
  clear F139_pm_24
  have F150_xm_25 := F146_xm_24.below hb25
  clear F146_xm_24
  refine takeH 0 (v := ?_) rfl (by kernel_rfl) (by kernel_rfl) (by kernel_rfl) (fun _ _ _ h => h) ⟨F148_bxm_25.out, F149_pm_25.out⟩ (by rfl) (fun W' hW' => ?_) ?_; rotate_left; · (obtain ⟨q1, q2⟩ := hW'; obtain ⟨⟨ca0, ca1⟩, gca0, gca1⟩ := box2 q1; obtain ⟨⟨cb0, cb1⟩, gcb0, gcb1⟩ := box2 q2; clear q1 q2; go_simp; first | done | with_reducible rfl)
  simp only [Act.put, List.setIfInBounds_toArray, List.set_cons_zero, List.set_cons_succ]
  refine takeH 1 (v := ?_) rfl (by kernel_rfl) (by kernel_rfl) (by kernel_rfl) (fun _ _ _ h => h) ⟨F148_bxm_25.out, F149_pm_25.out⟩ (by rfl) (fun W' hW' => ?_) ?_; rotate_left; · (obtain ⟨q1, q2⟩ := hW'; obtain ⟨⟨ca0, ca1⟩, gca0, gca1⟩ := box2 q1; obtain ⟨⟨cb0, cb1⟩, gcb0, gcb1⟩ := box2 q2; clear q1 q2; go_simp; first | done | with_reducible rfl)
  simp only [Act.put, List.setIfInBounds_toArray, List.set_cons_zero, List.set_cons_succ]
  refine' callH 2 (f := _) (args := _) rfl (by kernel_rfl) (by rfl) ?_ ?_; rotate_left 2; · (go_simp; first | done | with_reducible rfl | (constructor <;> with_reducible rfl))
  refine (toMatch_law (hm.below hB25) okm).mono ?_
  rintro e w26 ⟨v26, fp26, rfl, o26, fr26, hb26⟩
  have hB26 := below_trans hB25 hb26 hB25.size
  have F151_bxm_26 := Lib.hid (box_below F148_bxm_25.out hb26)
  clear F148_bxm_25
  have F152_pm_26 := Lib.hid (box_below F149_pm_25.out hb26)
  clear F149_pm_25
  have F153_xm_26 := F150_xm_25.below hb26
  clear F150_xm_25
  refine ⟨_, rfl, ⟨F151_bxm_26.out, F152_pm_26.out⟩, ?_⟩
  simp only [Act.put, List.setIfInBounds_toArray, List.set_cons_zero, List.set_cons_succ]
  refine' callH 3 (f := _) (args := _) rfl (by kernel_rfl) (by rfl) ?_ ?_; rotate_left 2; · (go_simp; first | done | with_reducible rfl | (constructor <;> with_reducible rfl))
  refine (eqMatch_law F153_xm_26.rd o26.rd okm).mono ?_
  rintro e w27 ⟨rfl, hb27⟩
  have hB27 := below_trans hB26 hb27 hB26.size
  have F154_bxm_27 := Lib.hid (box_below F151_bxm_26.out hb27)
  clear F151_bxm_26
  have F155_pm_27 := Lib.hid (box_below F152_pm_26.out hb27)
  clear F152_pm_26
  have F156_xm_27 := F153_xm_26.below hb27
  clear F153_xm_26
  refine ⟨_, rfl, ⟨F154_bxm_27.out, F155_pm_27.out⟩, ?_⟩
  rw [decide_eq_true (rfl : m = m)]
  simp only [Act.put, List.setIfInBounds_toArray, List.set_cons_zero, List.set_cons_succ]
  refine takeH 4 (v := .bool false) rfl (by kernel_rfl) (by kernel_rfl) (by kernel_rfl) (fun _ _ _ h => h) ⟨F154_bxm_27.out, F155_pm_27.out⟩ (by rfl) (fun W' hW' => ?_) ?_; · (go_simp; first | done | with_reducible rfl)
  simp only [Act.put, List.setIfInBounds_toArray, List.set_cons_zero, List.set_cons_succ]
  refine doneH (by kernel_rfl) ?_
  go_wp2_with (fail)
  go_ret
  exact ⟨rfl, hB27⟩

theorem readIsIsomorphism : ∀ t ∈ Try.f6.params.toList, Try.prog.readableRec t = true ∧ t < Try.prog.types.size := by
  rw [Try.params6]
  intro t ht
  have ht' : t ∈ ([25, 25, 43] : List TypeId) := ht
  rcases List.mem_cons.1 ht' with rfl | ht'
  · exact ⟨by kernel_rfl, of_decide_eq_true (by kernel_rfl)⟩
  rcases List.mem_cons.1 ht' with rfl | ht'
  · exact ⟨by kernel_rfl, of_decide_eq_true (by kernel_rfl)⟩
  rcases List.mem_cons.1 ht' with rfl | ht'
  · exact ⟨by kernel_rfl, of_decide_eq_true (by kernel_rfl)⟩
  cases ht'
set_option maxRecDepth 100000 in
theorem liftedIsIsomorphism (os : Os) (started : os.Started) (H : Type) (enc : TypeId × Value → H) :
    ReturnsInHanded {} Try.checked os 6 .any (Rows.fnExactIsIsomorphismSpec.pre6 enc Try.prog Try.f6 Rows.fnExactIsIsomorphismRow.domain false) (Rows.fnExactIsIsomorphismSpec.post enc Try.prog Try.f6 false true false false) := by
  refine returnsInHanded_of_change (C := Try.checked) own started (by kernel_rfl) Try.func6
    (ChangeSpec.witness6 (enc := enc) (C := Try.checked) false ⟨#[], #[.agg #[.int .i64 0, .slice none 0 0, .slice none 0 0, .slice none 0 0], .agg #[.int .i64 0, .slice none 0 0, .slice none 0 0, .slice none 0 0], .agg #[.slice none 0 0, .slice none 0 0]], []⟩ 8 (by kernel_rfl) (by kernel_rfl) (by kernel_rfl) (by kernel_rfl)) ?_
  intro W base args ds gs before hval0 hW hcnd _
  have hval : ∀ (j : Nat) t v, Try.f6.params[j]? = some t → args[j]? = some v → Value.okWide Try.prog W .any base t v := hval0
  have hW' := hW
  obtain ⟨p, q, hA0, hV, rfl, hfz, hnd⟩ := hW
  have hA : DataW.TrodAll enc Try.prog W 0 (fun _ => true) true Try.f6.params.toList args.toList ds p := hA0
  rw [Try.params6] at hA hval
  obtain ⟨v0, vs0, d0, ds0, p0, q0, hargs, rfl, rfl, t0, r0⟩ := trodAll_cons hA
  obtain ⟨v1, vs1, d1, ds1, p1, q1, rfl, rfl, rfl, t1, r1⟩ := trodAll_cons r0
  obtain ⟨v2, vs2, d2, ds2, p2, q2, rfl, rfl, rfl, t2, r2⟩ := trodAll_cons r1
  obtain ⟨rfl, rfl, rfl⟩ := trodAll_nil r2
  obtain rfl : args = #[v0, v1, v2] := by cases args; simp_all
  obtain ⟨rfl, rfl⟩ := trodVars_none hV
  obtain ⟨m0, hl0, hg0⟩ := in_Graph (hval 0 _ v0 rfl rfl) t0
  obtain ⟨m1, hl1, hg1⟩ := in_Graph (hval 1 _ v1 rfl rfl) t1
  obtain ⟨m2, hl2, hg2⟩ := in_Match (hval 2 _ v2 rfl rfl) t2
  clear hA0 hval0
  refine (lawIsIsomorphism_any v0 m0 v1 m1 v2 m2 W hl0 hg0 hl1 hg1 hl2 hg2 ).mono fun e W' ⟨he, hb⟩ => ?_
  subst he
  exact ⟨_, rfl, post_true laidOut hW' hb readIsIsomorphism (fun n hn => by cases hn) rfl rfl Try.underlying4⟩
theorem provedIsIsomorphism : Rows.FnExactIsIsomorphismSaid :=
  OpenClaim.holds_of_wide 6 Try.f6 rfl rfl rfl rfl rfl rfl rfl ⟨rfl, rfl, rfl, rfl, rfl⟩ rfl rfl rfl rfl rfl (by kernel_rfl) Try.func6 (by kernel_rfl)
    (of_decide_eq_true (by kernel_rfl)) (by unfold Func.isWrapper; first | (rw [if_pos (by decide +kernel)]; kernel_rfl) | (rw [if_neg (by decide +kernel)]; exact ⟨rfl, rfl⟩))
    (fun os started H enc _ => liftedIsIsomorphism os started H enc)
#print axioms provedIsIsomorphism
end Go.Proofs.Ytanhmljgeiajoaa
