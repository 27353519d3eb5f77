/-
  The program's AreApart returns what the reference's returns, for all arguments (laws.FnExactAreApart answers true). No condition.
-/
import Derived.Test.YtanhmljgeiajoaaGrNf
import Derived.Test.YtanhmljgeiajoaaRegT
import Derived.Test.YtanhmljgeiajoaaRegH
import Derived.Test.YtanhmljgeiajoaaFrameP
import Derived.Test.YtanhmljgeiajoaaGrSz
import Derived.Test.YtanhmljgeiajoaaGrLaw
import Derived.Test.YtanhmljgeiajoaaMa
import Derived.Test.YtanhmljgeiajoaaMaLaw
namespace Go.Proofs.Ytanhmljgeiajoaa
open Go.ChangeShapes Go.WideShapes Go.ChangeAt Go.RowKit

set_option maxHeartbeats 40000000 in
set_option maxRecDepth 100000 in
theorem lawAreApart_any (vg : Value) (g : Gr) (vpt : Value) (pt : Gr) (va : Value) (a : Ma) (vot : Value) (ot : Gr) (vb : Value) (b : Ma) (w : World) (hg : RdGr w vg g) (hgg : BigGraph g) (hpt : RdGr w vpt pt) (hgpt : BigGraph pt) (ha : RdMa w va a) (hga : BigMatch a) (hot : RdGr w vot ot) (hgot : BigGraph ot) (hb : RdMa w vb b) (hgb : BigMatch b) :
    Calls Try.prog 8 #[vg, vpt, va, vot, vb] w fun e w' => e = .returned (.bool true) ∧ Below w.heap.size w w' := by
  obtain ⟨Ag, ng, cg, Bg, mg, dg, Cg, kg, eg, rfl⟩ := hg.shape
  obtain ⟨Apt, npt, cpt, Bpt, mpt, dpt, Cpt, kpt, ept, rfl⟩ := hpt.shape
  obtain ⟨Aa, na, ca, Ba, ma, da, rfl⟩ := ha.shape
  obtain ⟨Aot, not, cot, Bot, mot, dot, Cot, kot, eot, rfl⟩ := hot.shape
  obtain ⟨Ab, nb, cb, Bb, mb, db, rfl⟩ := hb.shape
  obtain ⟨Sg, hSg⟩ : ∃ S, S = szG (g) 1048576 := ⟨_, rfl⟩
  have HSg := Lib.hid hSg
  clear hSg
  obtain ⟨Spt, hSpt⟩ : ∃ S, S = szG (pt) Sg := ⟨_, rfl⟩
  have HSpt := Lib.hid hSpt
  clear hSpt
  obtain ⟨Sa, hSa⟩ : ∃ S, S = szMa (a) Spt := ⟨_, rfl⟩
  have HSa := Lib.hid hSa
  clear hSa
  obtain ⟨Sot, hSot⟩ : ∃ S, S = szG (ot) Sa := ⟨_, rfl⟩
  have HSot := Lib.hid hSot
  clear hSot
  obtain ⟨Sb, hSb⟩ : ∃ S, S = szMa (b) Sot := ⟨_, rfl⟩
  have HSb := Lib.hid hSb
  clear hSb
  have hB0 : Below w.heap.size w w := Below.refl _ _
  have hb1 := below_alloc (w) (.cells #[.int .i64 (g).1, .slice Ag ng cg, .slice Bg mg dg, .slice Cg kg eg] 25)
  have hB1 := below_trans hB0 hb1 hB0.size
  have bx1 := heap_alloc_new (w) (.cells #[.int .i64 (g).1, .slice Ag ng cg, .slice Bg mg dg, .slice Cg kg eg] 25)
  have lt_pg : LtL ((w).alloc (.cells #[.int .i64 (g).1, .slice Ag ng cg, .slice Bg mg dg, .slice Cg kg eg] 25)).heap.size [(w).heap.size] := fun b hb => by obtain rfl := List.mem_singleton.1 hb; exact box_lt bx1
  have fr_pg : FreshL (w).heap.size [(w).heap.size] := fun b hb => by obtain rfl := List.mem_singleton.1 hb; exact Nat.le_refl _
  have BX_pg_1 := Lib.hid bx1
  clear bx1
  have hb2 := below_alloc ((w).alloc (.cells #[.int .i64 (g).1, .slice Ag ng cg, .slice Bg mg dg, .slice Cg kg eg] 25)) (.cells #[.int .i64 (pt).1, .slice Apt npt cpt, .slice Bpt mpt dpt, .slice Cpt kpt ept] 25)
  have hB2 := below_trans hB1 hb2 hB1.size
  have bx2 : (((w).alloc (.cells #[.int .i64 (g).1, .slice Ag ng cg, .slice Bg mg dg, .slice Cg kg eg] 25)).alloc (.cells #[.int .i64 (pt).1, .slice Apt npt cpt, .slice Bpt mpt dpt, .slice Cpt kpt ept] 25)).heap[(w).heap.size + 1]? = some (.cells #[.int .i64 (pt).1, .slice Apt npt cpt, .slice Bpt mpt dpt, .slice Cpt kpt ept] 25) := by
    have := heap_alloc_new ((w).alloc (.cells #[.int .i64 (g).1, .slice Ag ng cg, .slice Bg mg dg, .slice Cg kg eg] 25)) (.cells #[.int .i64 (pt).1, .slice Apt npt cpt, .slice Bpt mpt dpt, .slice Cpt kpt ept] 25)
    simp only [World.size_alloc] at this; exact this
  have lt_ppt : LtL (((w).alloc (.cells #[.int .i64 (g).1, .slice Ag ng cg, .slice Bg mg dg, .slice Cg kg eg] 25)).alloc (.cells #[.int .i64 (pt).1, .slice Apt npt cpt, .slice Bpt mpt dpt, .slice Cpt kpt ept] 25)).heap.size [(w).heap.size + 1] := fun b hb => by obtain rfl := List.mem_singleton.1 hb; exact box_lt bx2
  have fr_ppt : FreshL ((w).alloc (.cells #[.int .i64 (g).1, .slice Ag ng cg, .slice Bg mg dg, .slice Cg kg eg] 25)).heap.size [(w).heap.size + 1] := fun b hb => by obtain rfl := List.mem_singleton.1 hb; simp only [World.size_alloc]; exact Nat.le_refl _
  have BX_ppt_2 := Lib.hid bx2
  clear bx2
  have hb3 := below_alloc (((w).alloc (.cells #[.int .i64 (g).1, .slice Ag ng cg, .slice Bg mg dg, .slice Cg kg eg] 25)).alloc (.cells #[.int .i64 (pt).1, .slice Apt npt cpt, .slice Bpt mpt dpt, .slice Cpt kpt ept] 25)) (.cells #[.slice Aa na ca, .slice Ba ma da] 43)
  have hB3 := below_trans hB2 hb3 hB2.size
  have bx3 : ((((w).alloc (.cells #[.int .i64 (g).1, .slice Ag ng cg, .slice Bg mg dg, .slice Cg kg eg] 25)).alloc (.cells #[.int .i64 (pt).1, .slice Apt npt cpt, .slice Bpt mpt dpt, .slice Cpt kpt ept] 25)).alloc (.cells #[.slice Aa na ca, .slice Ba ma da] 43)).heap[(w).heap.size + 1 + 1]? = some (.cells #[.slice Aa na ca, .slice Ba ma da] 43) := by
    have := heap_alloc_new (((w).alloc (.cells #[.int .i64 (g).1, .slice Ag ng cg, .slice Bg mg dg, .slice Cg kg eg] 25)).alloc (.cells #[.int .i64 (pt).1, .slice Apt npt cpt, .slice Bpt mpt dpt, .slice Cpt kpt ept] 25)) (.cells #[.slice Aa na ca, .slice Ba ma da] 43)
    simp only [World.size_alloc] at this; exact this
  have lt_pa : LtL ((((w).alloc (.cells #[.int .i64 (g).1, .slice Ag ng cg, .slice Bg mg dg, .slice Cg kg eg] 25)).alloc (.cells #[.int .i64 (pt).1, .slice Apt npt cpt, .slice Bpt mpt dpt, .slice Cpt kpt ept] 25)).alloc (.cells #[.slice Aa na ca, .slice Ba ma da] 43)).heap.size [(w).heap.size + 1 + 1] := fun b hb => by obtain rfl := List.mem_singleton.1 hb; exact box_lt bx3
  have fr_pa : FreshL (((w).alloc (.cells #[.int .i64 (g).1, .slice Ag ng cg, .slice Bg mg dg, .slice Cg kg eg] 25)).alloc (.cells #[.int .i64 (pt).1, .slice Apt npt cpt, .slice Bpt mpt dpt, .slice Cpt kpt ept] 25)).heap.size [(w).heap.size + 1 + 1] := fun b hb => by obtain rfl := List.mem_singleton.1 hb; simp only [World.size_alloc]; exact Nat.le_refl _
  have BX_pa_3 := Lib.hid bx3
  clear bx3
  have hb4 := below_alloc ((((w).alloc (.cells #[.int .i64 (g).1, .slice Ag ng cg, .slice Bg mg dg, .slice Cg kg eg] 25)).alloc (.cells #[.int .i64 (pt).1, .slice Apt npt cpt, .slice Bpt mpt dpt, .slice Cpt kpt ept] 25)).alloc (.cells #[.slice Aa na ca, .slice Ba ma da] 43)) (.cells #[.int .i64 (ot).1, .slice Aot not cot, .slice Bot mot dot, .slice Cot kot eot] 25)
  have hB4 := below_trans hB3 hb4 hB3.size
  have bx4 : (((((w).alloc (.cells #[.int .i64 (g).1, .slice Ag ng cg, .slice Bg mg dg, .slice Cg kg eg] 25)).alloc (.cells #[.int .i64 (pt).1, .slice Apt npt cpt, .slice Bpt mpt dpt, .slice Cpt kpt ept] 25)).alloc (.cells #[.slice Aa na ca, .slice Ba ma da] 43)).alloc (.cells #[.int .i64 (ot).1, .slice Aot not cot, .slice Bot mot dot, .slice Cot kot eot] 25)).heap[(w).heap.size + 1 + 1 + 1]? = some (.cells #[.int .i64 (ot).1, .slice Aot not cot, .slice Bot mot dot, .slice Cot kot eot] 25) := by
    have := heap_alloc_new ((((w).alloc (.cells #[.int .i64 (g).1, .slice Ag ng cg, .slice Bg mg dg, .slice Cg kg eg] 25)).alloc (.cells #[.int .i64 (pt).1, .slice Apt npt cpt, .slice Bpt mpt dpt, .slice Cpt kpt ept] 25)).alloc (.cells #[.slice Aa na ca, .slice Ba ma da] 43)) (.cells #[.int .i64 (ot).1, .slice Aot not cot, .slice Bot mot dot, .slice Cot kot eot] 25)
    simp only [World.size_alloc] at this; exact this
  have lt_pot : LtL (((((w).alloc (.cells #[.int .i64 (g).1, .slice Ag ng cg, .slice Bg mg dg, .slice Cg kg eg] 25)).alloc (.cells #[.int .i64 (pt).1, .slice Apt npt cpt, .slice Bpt mpt dpt, .slice Cpt kpt ept] 25)).alloc (.cells #[.slice Aa na ca, .slice Ba ma da] 43)).alloc (.cells #[.int .i64 (ot).1, .slice Aot not cot, .slice Bot mot dot, .slice Cot kot eot] 25)).heap.size [(w).heap.size + 1 + 1 + 1] := fun b hb => by obtain rfl := List.mem_singleton.1 hb; exact box_lt bx4
  have fr_pot : FreshL ((((w).alloc (.cells #[.int .i64 (g).1, .slice Ag ng cg, .slice Bg mg dg, .slice Cg kg eg] 25)).alloc (.cells #[.int .i64 (pt).1, .slice Apt npt cpt, .slice Bpt mpt dpt, .slice Cpt kpt ept] 25)).alloc (.cells #[.slice Aa na ca, .slice Ba ma da] 43)).heap.size [(w).heap.size + 1 + 1 + 1] := fun b hb => by obtain rfl := List.mem_singleton.1 hb; simp only [World.size_alloc]; exact Nat.le_refl _
  have BX_pot_4 := Lib.hid bx4
  clear bx4
  have hb5 := below_alloc (((((w).alloc (.cells #[.int .i64 (g).1, .slice Ag ng cg, .slice Bg mg dg, .slice Cg kg eg] 25)).alloc (.cells #[.int .i64 (pt).1, .slice Apt npt cpt, .slice Bpt mpt dpt, .slice Cpt kpt ept] 25)).alloc (.cells #[.slice Aa na ca, .slice Ba ma da] 43)).alloc (.cells #[.int .i64 (ot).1, .slice Aot not cot, .slice Bot mot dot, .slice Cot kot eot] 25)) (.cells #[.slice Ab nb cb, .slice Bb mb db] 43)
  have hB5 := below_trans hB4 hb5 hB4.size
  have bx5 : ((((((w).alloc (.cells #[.int .i64 (g).1, .slice Ag ng cg, .slice Bg mg dg, .slice Cg kg eg] 25)).alloc (.cells #[.int .i64 (pt).1, .slice Apt npt cpt, .slice Bpt mpt dpt, .slice Cpt kpt ept] 25)).alloc (.cells #[.slice Aa na ca, .slice Ba ma da] 43)).alloc (.cells #[.int .i64 (ot).1, .slice Aot not cot, .slice Bot mot dot, .slice Cot kot eot] 25)).alloc (.cells #[.slice Ab nb cb, .slice Bb mb db] 43)).heap[(w).heap.size + 1 + 1 + 1 + 1]? = some (.cells #[.slice Ab nb cb, .slice Bb mb db] 43) := by
    have := heap_alloc_new (((((w).alloc (.cells #[.int .i64 (g).1, .slice Ag ng cg, .slice Bg mg dg, .slice Cg kg eg] 25)).alloc (.cells #[.int .i64 (pt).1, .slice Apt npt cpt, .slice Bpt mpt dpt, .slice Cpt kpt ept] 25)).alloc (.cells #[.slice Aa na ca, .slice Ba ma da] 43)).alloc (.cells #[.int .i64 (ot).1, .slice Aot not cot, .slice Bot mot dot, .slice Cot kot eot] 25)) (.cells #[.slice Ab nb cb, .slice Bb mb db] 43)
    simp only [World.size_alloc] at this; exact this
  have lt_pb : LtL ((((((w).alloc (.cells #[.int .i64 (g).1, .slice Ag ng cg, .slice Bg mg dg, .slice Cg kg eg] 25)).alloc (.cells #[.int .i64 (pt).1, .slice Apt npt cpt, .slice Bpt mpt dpt, .slice Cpt kpt ept] 25)).alloc (.cells #[.slice Aa na ca, .slice Ba ma da] 43)).alloc (.cells #[.int .i64 (ot).1, .slice Aot not cot, .slice Bot mot dot, .slice Cot kot eot] 25)).alloc (.cells #[.slice Ab nb cb, .slice Bb mb db] 43)).heap.size [(w).heap.size + 1 + 1 + 1 + 1] := fun b hb => by obtain rfl := List.mem_singleton.1 hb; exact box_lt bx5
  have fr_pb : FreshL (((((w).alloc (.cells #[.int .i64 (g).1, .slice Ag ng cg, .slice Bg mg dg, .slice Cg kg eg] 25)).alloc (.cells #[.int .i64 (pt).1, .slice Apt npt cpt, .slice Bpt mpt dpt, .slice Cpt kpt ept] 25)).alloc (.cells #[.slice Aa na ca, .slice Ba ma da] 43)).alloc (.cells #[.int .i64 (ot).1, .slice Aot not cot, .slice Bot mot dot, .slice Cot kot eot] 25)).heap.size [(w).heap.size + 1 + 1 + 1 + 1] := fun b hb => by obtain rfl := List.mem_singleton.1 hb; simp only [World.size_alloc]; exact Nat.le_refl _
  have BX_pb_5 := Lib.hid bx5
  clear bx5
  by_cases negg : Sg < 0
  case pos =>
    go_enter Try.func8, Try.ntmps8
    have F1_pg_2 := Lib.hid (box_below BX_pg_1.out hb2)
    clear BX_pg_1
    have F2_pg_3 := Lib.hid (box_below F1_pg_2.out hb3)
    clear F1_pg_2
    have F3_pg_4 := Lib.hid (box_below F2_pg_3.out hb4)
    clear F2_pg_3
    have F4_pg_5 := Lib.hid (box_below F3_pg_4.out hb5)
    clear F3_pg_4
    obtain ⟨⟨c5_0, c5_1, c5_2, c5_3⟩, f5_0, f5_1, f5_2, f5_3⟩ := box4 F4_pg_5.out
    go_wp2_with (fail)
    refine (szGraph_law 1048576 (hg.below hB5) hgg (by omega) (by omega)).mono ?_
    rintro e w6 ⟨he6, hb6⟩
    have hB6 := below_trans hB5 hb6 hB5.size
    clear c5_0 c5_1 c5_2 c5_3 f5_0 f5_1 f5_2 f5_3
    rw [← HSg.out] at he6
    subst he6
    go_wp2_with (fail)
    go_ret
    exact ⟨rfl, hB6⟩
  have sokg := szG_ok (by rw [← HSg.out]; omega : 0 ≤ szG (g) 1048576) (by omega)
  have okg := sokg.1
  have sleg : Sg ≤ 1048576 := by rw [HSg.out]; exact sokg.2
  clear sokg
  by_cases negpt : Spt < 0
  case pos =>
    go_enter Try.func8, Try.ntmps8
    have F6_pg_2 := Lib.hid (box_below BX_pg_1.out hb2)
    clear BX_pg_1
    have F7_pg_3 := Lib.hid (box_below F6_pg_2.out hb3)
    clear F6_pg_2
    have F8_pg_4 := Lib.hid (box_below F7_pg_3.out hb4)
    clear F7_pg_3
    have F9_pg_5 := Lib.hid (box_below F8_pg_4.out hb5)
    clear F8_pg_4
    obtain ⟨⟨c10_0, c10_1, c10_2, c10_3⟩, f10_0, f10_1, f10_2, f10_3⟩ := box4 F9_pg_5.out
    go_wp2_with (fail)
    refine (szGraph_law 1048576 (hg.below hB5) hgg (by omega) (by omega)).mono ?_
    rintro e w6 ⟨he6, hb6⟩
    have hB6 := below_trans hB5 hb6 hB5.size
    clear c10_0 c10_1 c10_2 c10_3 f10_0 f10_1 f10_2 f10_3
    rw [← HSg.out] at he6
    subst he6
    have F11_ppt_3 := Lib.hid (box_below BX_ppt_2.out hb3)
    clear BX_ppt_2
    have F12_ppt_4 := Lib.hid (box_below F11_ppt_3.out hb4)
    clear F11_ppt_3
    have F13_ppt_5 := Lib.hid (box_below F12_ppt_4.out hb5)
    clear F12_ppt_4
    have F14_ppt_6 := Lib.hid (box_below F13_ppt_5.out hb6)
    clear F13_ppt_5
    obtain ⟨⟨c15_0, c15_1, c15_2, c15_3⟩, f15_0, f15_1, f15_2, f15_3⟩ := box4 F14_ppt_6.out
    go_wp2_with (fail)
    refine (szGraph_law Sg (hpt.below hB6) hgpt (by omega) (by omega)).mono ?_
    rintro e w7 ⟨he7, hb7⟩
    have hB7 := below_trans hB6 hb7 hB6.size
    clear c15_0 c15_1 c15_2 c15_3 f15_0 f15_1 f15_2 f15_3
    rw [← HSpt.out] at he7
    subst he7
    go_wp2_with (fail)
    go_ret
    exact ⟨rfl, hB7⟩
  have sokpt := szG_ok (by rw [← HSpt.out]; omega : 0 ≤ szG (pt) Sg) (by omega)
  have okpt := sokpt.1
  have slept : Spt ≤ Sg := by rw [HSpt.out]; exact sokpt.2
  clear sokpt
  by_cases nega : Sa < 0
  case pos =>
    go_enter Try.func8, Try.ntmps8
    have F16_pg_2 := Lib.hid (box_below BX_pg_1.out hb2)
    clear BX_pg_1
    have F17_pg_3 := Lib.hid (box_below F16_pg_2.out hb3)
    clear F16_pg_2
    have F18_pg_4 := Lib.hid (box_below F17_pg_3.out hb4)
    clear F17_pg_3
    have F19_pg_5 := Lib.hid (box_below F18_pg_4.out hb5)
    clear F18_pg_4
    obtain ⟨⟨c20_0, c20_1, c20_2, c20_3⟩, f20_0, f20_1, f20_2, f20_3⟩ := box4 F19_pg_5.out
    go_wp2_with (fail)
    refine (szGraph_law 1048576 (hg.below hB5) hgg (by omega) (by omega)).mono ?_
    rintro e w6 ⟨he6, hb6⟩
    have hB6 := below_trans hB5 hb6 hB5.size
    clear c20_0 c20_1 c20_2 c20_3 f20_0 f20_1 f20_2 f20_3
    rw [← HSg.out] at he6
    subst he6
    have F21_ppt_3 := Lib.hid (box_below BX_ppt_2.out hb3)
    clear BX_ppt_2
    have F22_ppt_4 := Lib.hid (box_below F21_ppt_3.out hb4)
    clear F21_ppt_3
    have F23_ppt_5 := Lib.hid (box_below F22_ppt_4.out hb5)
    clear F22_ppt_4
    have F24_ppt_6 := Lib.hid (box_below F23_ppt_5.out hb6)
    clear F23_ppt_5
    obtain ⟨⟨c25_0, c25_1, c25_2, c25_3⟩, f25_0, f25_1, f25_2, f25_3⟩ := box4 F24_ppt_6.out
    go_wp2_with (fail)
    refine (szGraph_law Sg (hpt.below hB6) hgpt (by omega) (by omega)).mono ?_
    rintro e w7 ⟨he7, hb7⟩
    have hB7 := below_trans hB6 hb7 hB6.size
    clear c25_0 c25_1 c25_2 c25_3 f25_0 f25_1 f25_2 f25_3
    rw [← HSpt.out] at he7
    subst he7
    have F26_pa_4 := Lib.hid (box_below BX_pa_3.out hb4)
    clear BX_pa_3
    have F27_pa_5 := Lib.hid (box_below F26_pa_4.out hb5)
    clear F26_pa_4
    have F28_pa_6 := Lib.hid (box_below F27_pa_5.out hb6)
    clear F27_pa_5
    have F29_pa_7 := Lib.hid (box_below F28_pa_6.out hb7)
    clear F28_pa_6
    obtain ⟨⟨c30_0, c30_1⟩, f30_0, f30_1⟩ := box2 F29_pa_7.out
    go_wp2_with (fail)
    refine (szMatch_law Spt (ha.below hB7) hga (by omega) (by omega)).mono ?_
    rintro e w8 ⟨he8, hb8⟩
    have hB8 := below_trans hB7 hb8 hB7.size
    clear c30_0 c30_1 f30_0 f30_1
    rw [← HSa.out] at he8
    subst he8
    go_wp2_with (fail)
    go_ret
    exact ⟨rfl, hB8⟩
  have soka := szMa_ok (by rw [← HSa.out]; omega : 0 ≤ szMa (a) Spt) (by omega)
  have oka := soka.1
  have slea : Sa ≤ Spt := by rw [HSa.out]; exact soka.2
  clear soka
  by_cases negot : Sot < 0
  case pos =>
    go_enter Try.func8, Try.ntmps8
    have F31_pg_2 := Lib.hid (box_below BX_pg_1.out hb2)
    clear BX_pg_1
    have F32_pg_3 := Lib.hid (box_below F31_pg_2.out hb3)
    clear F31_pg_2
    have F33_pg_4 := Lib.hid (box_below F32_pg_3.out hb4)
    clear F32_pg_3
    have F34_pg_5 := Lib.hid (box_below F33_pg_4.out hb5)
    clear F33_pg_4
    obtain ⟨⟨c35_0, c35_1, c35_2, c35_3⟩, f35_0, f35_1, f35_2, f35_3⟩ := box4 F34_pg_5.out
    go_wp2_with (fail)
    refine (szGraph_law 1048576 (hg.below hB5) hgg (by omega) (by omega)).mono ?_
    rintro e w6 ⟨he6, hb6⟩
    have hB6 := below_trans hB5 hb6 hB5.size
    clear c35_0 c35_1 c35_2 c35_3 f35_0 f35_1 f35_2 f35_3
    rw [← HSg.out] at he6
    subst he6
    have F36_ppt_3 := Lib.hid (box_below BX_ppt_2.out hb3)
    clear BX_ppt_2
    have F37_ppt_4 := Lib.hid (box_below F36_ppt_3.out hb4)
    clear F36_ppt_3
    have F38_ppt_5 := Lib.hid (box_below F37_ppt_4.out hb5)
    clear F37_ppt_4
    have F39_ppt_6 := Lib.hid (box_below F38_ppt_5.out hb6)
    clear F38_ppt_5
    obtain ⟨⟨c40_0, c40_1, c40_2, c40_3⟩, f40_0, f40_1, f40_2, f40_3⟩ := box4 F39_ppt_6.out
    go_wp2_with (fail)
    refine (szGraph_law Sg (hpt.below hB6) hgpt (by omega) (by omega)).mono ?_
    rintro e w7 ⟨he7, hb7⟩
    have hB7 := below_trans hB6 hb7 hB6.size
    clear c40_0 c40_1 c40_2 c40_3 f40_0 f40_1 f40_2 f40_3
    rw [← HSpt.out] at he7
    subst he7
    have F41_pa_4 := Lib.hid (box_below BX_pa_3.out hb4)
    clear BX_pa_3
    have F42_pa_5 := Lib.hid (box_below F41_pa_4.out hb5)
    clear F41_pa_4
    have F43_pa_6 := Lib.hid (box_below F42_pa_5.out hb6)
    clear F42_pa_5
    have F44_pa_7 := Lib.hid (box_below F43_pa_6.out hb7)
    clear F43_pa_6
    obtain ⟨⟨c45_0, c45_1⟩, f45_0, f45_1⟩ := box2 F44_pa_7.out
    go_wp2_with (fail)
    refine (szMatch_law Spt (ha.below hB7) hga (by omega) (by omega)).mono ?_
    rintro e w8 ⟨he8, hb8⟩
    have hB8 := below_trans hB7 hb8 hB7.size
    clear c45_0 c45_1 f45_0 f45_1
    rw [← HSa.out] at he8
    subst he8
    have F46_pot_5 := Lib.hid (box_below BX_pot_4.out hb5)
    clear BX_pot_4
    have F47_pot_6 := Lib.hid (box_below F46_pot_5.out hb6)
    clear F46_pot_5
    have F48_pot_7 := Lib.hid (box_below F47_pot_6.out hb7)
    clear F47_pot_6
    have F49_pot_8 := Lib.hid (box_below F48_pot_7.out hb8)
    clear F48_pot_7
    obtain ⟨⟨c50_0, c50_1, c50_2, c50_3⟩, f50_0, f50_1, f50_2, f50_3⟩ := box4 F49_pot_8.out
    go_wp2_with (fail)
    refine (szGraph_law Sa (hot.below hB8) hgot (by omega) (by omega)).mono ?_
    rintro e w9 ⟨he9, hb9⟩
    have hB9 := below_trans hB8 hb9 hB8.size
    clear c50_0 c50_1 c50_2 c50_3 f50_0 f50_1 f50_2 f50_3
    rw [← HSot.out] at he9
    subst he9
    go_wp2_with (fail)
    go_ret
    exact ⟨rfl, hB9⟩
  have sokot := szG_ok (by rw [← HSot.out]; omega : 0 ≤ szG (ot) Sa) (by omega)
  have okot := sokot.1
  have sleot : Sot ≤ Sa := by rw [HSot.out]; exact sokot.2
  clear sokot
  by_cases negb : Sb < 0
  case pos =>
    go_enter Try.func8, Try.ntmps8
    have F51_pg_2 := Lib.hid (box_below BX_pg_1.out hb2)
    clear BX_pg_1
    have F52_pg_3 := Lib.hid (box_below F51_pg_2.out hb3)
    clear F51_pg_2
    have F53_pg_4 := Lib.hid (box_below F52_pg_3.out hb4)
    clear F52_pg_3
    have F54_pg_5 := Lib.hid (box_below F53_pg_4.out hb5)
    clear F53_pg_4
    obtain ⟨⟨c55_0, c55_1, c55_2, c55_3⟩, f55_0, f55_1, f55_2, f55_3⟩ := box4 F54_pg_5.out
    go_wp2_with (fail)
    refine (szGraph_law 1048576 (hg.below hB5) hgg (by omega) (by omega)).mono ?_
    rintro e w6 ⟨he6, hb6⟩
    have hB6 := below_trans hB5 hb6 hB5.size
    clear c55_0 c55_1 c55_2 c55_3 f55_0 f55_1 f55_2 f55_3
    rw [← HSg.out] at he6
    subst he6
    have F56_ppt_3 := Lib.hid (box_below BX_ppt_2.out hb3)
    clear BX_ppt_2
    have F57_ppt_4 := Lib.hid (box_below F56_ppt_3.out hb4)
    clear F56_ppt_3
    have F58_ppt_5 := Lib.hid (box_below F57_ppt_4.out hb5)
    clear F57_ppt_4
    have F59_ppt_6 := Lib.hid (box_below F58_ppt_5.out hb6)
    clear F58_ppt_5
    obtain ⟨⟨c60_0, c60_1, c60_2, c60_3⟩, f60_0, f60_1, f60_2, f60_3⟩ := box4 F59_ppt_6.out
    go_wp2_with (fail)
    refine (szGraph_law Sg (hpt.below hB6) hgpt (by omega) (by omega)).mono ?_
    rintro e w7 ⟨he7, hb7⟩
    have hB7 := below_trans hB6 hb7 hB6.size
    clear c60_0 c60_1 c60_2 c60_3 f60_0 f60_1 f60_2 f60_3
    rw [← HSpt.out] at he7
    subst he7
    have F61_pa_4 := Lib.hid (box_below BX_pa_3.out hb4)
    clear BX_pa_3
    have F62_pa_5 := Lib.hid (box_below F61_pa_4.out hb5)
    clear F61_pa_4
    have F63_pa_6 := Lib.hid (box_below F62_pa_5.out hb6)
    clear F62_pa_5
    have F64_pa_7 := Lib.hid (box_below F63_pa_6.out hb7)
    clear F63_pa_6
    obtain ⟨⟨c65_0, c65_1⟩, f65_0, f65_1⟩ := box2 F64_pa_7.out
    go_wp2_with (fail)
    refine (szMatch_law Spt (ha.below hB7) hga (by omega) (by omega)).mono ?_
    rintro e w8 ⟨he8, hb8⟩
    have hB8 := below_trans hB7 hb8 hB7.size
    clear c65_0 c65_1 f65_0 f65_1
    rw [← HSa.out] at he8
    subst he8
    have F66_pot_5 := Lib.hid (box_below BX_pot_4.out hb5)
    clear BX_pot_4
    have F67_pot_6 := Lib.hid (box_below F66_pot_5.out hb6)
    clear F66_pot_5
    have F68_pot_7 := Lib.hid (box_below F67_pot_6.out hb7)
    clear F67_pot_6
    have F69_pot_8 := Lib.hid (box_below F68_pot_7.out hb8)
    clear F68_pot_7
    obtain ⟨⟨c70_0, c70_1, c70_2, c70_3⟩, f70_0, f70_1, f70_2, f70_3⟩ := box4 F69_pot_8.out
    go_wp2_with (fail)
    refine (szGraph_law Sa (hot.below hB8) hgot (by omega) (by omega)).mono ?_
    rintro e w9 ⟨he9, hb9⟩
    have hB9 := below_trans hB8 hb9 hB8.size
    clear c70_0 c70_1 c70_2 c70_3 f70_0 f70_1 f70_2 f70_3
    rw [← HSot.out] at he9
    subst he9
    have F71_pb_6 := Lib.hid (box_below BX_pb_5.out hb6)
    clear BX_pb_5
    have F72_pb_7 := Lib.hid (box_below F71_pb_6.out hb7)
    clear F71_pb_6
    have F73_pb_8 := Lib.hid (box_below F72_pb_7.out hb8)
    clear F72_pb_7
    have F74_pb_9 := Lib.hid (box_below F73_pb_8.out hb9)
    clear F73_pb_8
    obtain ⟨⟨c75_0, c75_1⟩, f75_0, f75_1⟩ := box2 F74_pb_9.out
    go_wp2_with (fail)
    refine (szMatch_law Sot (hb.below hB9) hgb (by omega) (by omega)).mono ?_
    rintro e w10 ⟨he10, hb10⟩
    have hB10 := below_trans hB9 hb10 hB9.size
    clear c75_0 c75_1 f75_0 f75_1
    rw [← HSb.out] at he10
    subst he10
    go_wp2_with (fail)
    go_ret
    exact ⟨rfl, hB10⟩
  have sokb := szMa_ok (by rw [← HSb.out]; omega : 0 ≤ szMa (b) Sot) (by omega)
  have okb := sokb.1
  have sleb : Sb ≤ Sot := by rw [HSb.out]; exact sokb.2
  clear sokb
  go_enter Try.func8, Try.ntmps8
  have F76_pg_2 := Lib.hid (box_below BX_pg_1.out hb2)
  clear BX_pg_1
  have F77_pg_3 := Lib.hid (box_below F76_pg_2.out hb3)
  clear F76_pg_2
  have F78_pg_4 := Lib.hid (box_below F77_pg_3.out hb4)
  clear F77_pg_3
  have F79_pg_5 := Lib.hid (box_below F78_pg_4.out hb5)
  clear F78_pg_4
  obtain ⟨⟨c80_0, c80_1, c80_2, c80_3⟩, f80_0, f80_1, f80_2, f80_3⟩ := box4 F79_pg_5.out
  go_wp2_with (fail)
  refine (szGraph_law 1048576 (hg.below hB5) hgg (by omega) (by omega)).mono ?_
  rintro e w6 ⟨he6, hb6⟩
  have hB6 := below_trans hB5 hb6 hB5.size
  clear c80_0 c80_1 c80_2 c80_3 f80_0 f80_1 f80_2 f80_3
  rw [← HSg.out] at he6
  subst he6
  have F81_ppt_3 := Lib.hid (box_below BX_ppt_2.out hb3)
  clear BX_ppt_2
  have F82_ppt_4 := Lib.hid (box_below F81_ppt_3.out hb4)
  clear F81_ppt_3
  have F83_ppt_5 := Lib.hid (box_below F82_ppt_4.out hb5)
  clear F82_ppt_4
  have F84_ppt_6 := Lib.hid (box_below F83_ppt_5.out hb6)
  clear F83_ppt_5
  obtain ⟨⟨c85_0, c85_1, c85_2, c85_3⟩, f85_0, f85_1, f85_2, f85_3⟩ := box4 F84_ppt_6.out
  go_wp2_with (fail)
  refine (szGraph_law Sg (hpt.below hB6) hgpt (by omega) (by omega)).mono ?_
  rintro e w7 ⟨he7, hb7⟩
  have hB7 := below_trans hB6 hb7 hB6.size
  clear c85_0 c85_1 c85_2 c85_3 f85_0 f85_1 f85_2 f85_3
  rw [← HSpt.out] at he7
  subst he7
  have F86_pa_4 := Lib.hid (box_below BX_pa_3.out hb4)
  clear BX_pa_3
  have F87_pa_5 := Lib.hid (box_below F86_pa_4.out hb5)
  clear F86_pa_4
  have F88_pa_6 := Lib.hid (box_below F87_pa_5.out hb6)
  clear F87_pa_5
  have F89_pa_7 := Lib.hid (box_below F88_pa_6.out hb7)
  clear F88_pa_6
  obtain ⟨⟨c90_0, c90_1⟩, f90_0, f90_1⟩ := box2 F89_pa_7.out
  go_wp2_with (fail)
  refine (szMatch_law Spt (ha.below hB7) hga (by omega) (by omega)).mono ?_
  rintro e w8 ⟨he8, hb8⟩
  have hB8 := below_trans hB7 hb8 hB7.size
  clear c90_0 c90_1 f90_0 f90_1
  rw [← HSa.out] at he8
  subst he8
  have F91_pot_5 := Lib.hid (box_below BX_pot_4.out hb5)
  clear BX_pot_4
  have F92_pot_6 := Lib.hid (box_below F91_pot_5.out hb6)
  clear F91_pot_5
  have F93_pot_7 := Lib.hid (box_below F92_pot_6.out hb7)
  clear F92_pot_6
  have F94_pot_8 := Lib.hid (box_below F93_pot_7.out hb8)
  clear F93_pot_7
  obtain ⟨⟨c95_0, c95_1, c95_2, c95_3⟩, f95_0, f95_1, f95_2, f95_3⟩ := box4 F94_pot_8.out
  go_wp2_with (fail)
  refine (szGraph_law Sa (hot.below hB8) hgot (by omega) (by omega)).mono ?_
  rintro e w9 ⟨he9, hb9⟩
  have hB9 := below_trans hB8 hb9 hB8.size
  clear c95_0 c95_1 c95_2 c95_3 f95_0 f95_1 f95_2 f95_3
  rw [← HSot.out] at he9
  subst he9
  have F96_pb_6 := Lib.hid (box_below BX_pb_5.out hb6)
  clear BX_pb_5
  have F97_pb_7 := Lib.hid (box_below F96_pb_6.out hb7)
  clear F96_pb_6
  have F98_pb_8 := Lib.hid (box_below F97_pb_7.out hb8)
  clear F97_pb_7
  have F99_pb_9 := Lib.hid (box_below F98_pb_8.out hb9)
  clear F98_pb_8
  obtain ⟨⟨c100_0, c100_1⟩, f100_0, f100_1⟩ := box2 F99_pb_9.out
  go_wp2_with (fail)
  refine (szMatch_law Sot (hb.below hB9) hgb (by omega) (by omega)).mono ?_
  rintro e w10 ⟨he10, hb10⟩
  have hB10 := below_trans hB9 hb10 hB9.size
  clear c100_0 c100_1 f100_0 f100_1
  rw [← HSb.out] at he10
  subst he10
  have F101_pg_6 := Lib.hid (box_below F79_pg_5.out hb6)
  clear F79_pg_5
  have F102_pg_7 := Lib.hid (box_below F101_pg_6.out hb7)
  clear F101_pg_6
  have F103_pg_8 := Lib.hid (box_below F102_pg_7.out hb8)
  clear F102_pg_7
  have F104_pg_9 := Lib.hid (box_below F103_pg_8.out hb9)
  clear F103_pg_8
  have F105_pg_10 := Lib.hid (box_below F104_pg_9.out hb10)
  clear F104_pg_9
  have F106_ppt_7 := Lib.hid (box_below F84_ppt_6.out hb7)
  clear F84_ppt_6
  have F107_ppt_8 := Lib.hid (box_below F106_ppt_7.out hb8)
  clear F106_ppt_7
  have F108_ppt_9 := Lib.hid (box_below F107_ppt_8.out hb9)
  clear F107_ppt_8
  have F109_ppt_10 := Lib.hid (box_below F108_ppt_9.out hb10)
  clear F108_ppt_9
  have F110_pa_8 := Lib.hid (box_below F89_pa_7.out hb8)
  clear F89_pa_7
  have F111_pa_9 := Lib.hid (box_below F110_pa_8.out hb9)
  clear F110_pa_8
  have F112_pa_10 := Lib.hid (box_below F111_pa_9.out hb10)
  clear F111_pa_9
  have F113_pot_9 := Lib.hid (box_below F94_pot_8.out hb9)
  clear F94_pot_8
  have F114_pot_10 := Lib.hid (box_below F113_pot_9.out hb10)
  clear F113_pot_9
  have F115_pb_10 := Lib.hid (box_below F99_pb_9.out hb10)
  clear F99_pb_9
  go_wp2_with (fail)
  refine beginH (fun w' => w'.heap[(w).heap.size]? = some (.cells #[.int .i64 (g).1, .slice Ag ng cg, .slice Bg mg dg, .slice Cg kg eg] 25) ∧ w'.heap[(w).heap.size + 1]? = some (.cells #[.int .i64 (pt).1, .slice Apt npt cpt, .slice Bpt mpt dpt, .slice Cpt kpt ept] 25) ∧ w'.heap[(w).heap.size + 1 + 1]? = some (.cells #[.slice Aa na ca, .slice Ba ma da] 43) ∧ w'.heap[(w).heap.size + 1 + 1 + 1]? = some (.cells #[.int .i64 (ot).1, .slice Aot not cot, .slice Bot mot dot, .slice Cot kot eot] 25) ∧ w'.heap[(w).heap.size + 1 + 1 + 1 + 1]? = some (.cells #[.slice Ab nb cb, .slice Bb mb db] 43)) (by kernel_rfl) ?_
  have hb11 : Below (w10).heap.size (w10) (w10).drew := below_drewN (Below.refl _ _) 1
  have hB11 := below_trans hB10 hb11 hB10.size
  have F116_pg_11 := Lib.hid (box_below F105_pg_10.out hb11)
  clear F105_pg_10
  have F117_ppt_11 := Lib.hid (box_below F109_ppt_10.out hb11)
  clear F109_ppt_10
  have F118_pa_11 := Lib.hid (box_below F112_pa_10.out hb11)
  clear F112_pa_10
  have F119_pot_11 := Lib.hid (box_below F114_pot_10.out hb11)
  clear F114_pot_10
  have F120_pb_11 := Lib.hid (box_below F115_pb_10.out hb11)
  clear F115_pb_10
  refine takeH 0 (v := ?_) rfl (by kernel_rfl) (by kernel_rfl) (by kernel_rfl) (fun _ _ _ h => h) ⟨F116_pg_11.out, F117_ppt_11.out, F118_pa_11.out, F119_pot_11.out, F120_pb_11.out⟩ (by rfl) (fun W' hW' => ?_) ?_; rotate_left; · (obtain ⟨q0, q1, q2, q3, q4⟩ := hW'; obtain ⟨⟨ca0_0, ca0_1, ca0_2, ca0_3⟩, ga0_0, ga0_1, ga0_2, ga0_3⟩ := box4 q0; obtain ⟨⟨ca1_0, ca1_1, ca1_2, ca1_3⟩, ga1_0, ga1_1, ga1_2, ga1_3⟩ := box4 q1; obtain ⟨⟨ca2_0, ca2_1⟩, ga2_0, ga2_1⟩ := box2 q2; obtain ⟨⟨ca3_0, ca3_1, ca3_2, ca3_3⟩, ga3_0, ga3_1, ga3_2, ga3_3⟩ := box4 q3; obtain ⟨⟨ca4_0, ca4_1⟩, ga4_0, ga4_1⟩ := box2 q4; clear q0 q1 q2 q3 q4; go_simp; first | done | with_reducible rfl)
  simp only [Act.put, List.setIfInBounds_toArray, List.set_cons_zero, List.set_cons_succ]
  refine takeH 2 (v := ?_) rfl (by kernel_rfl) (by kernel_rfl) (by kernel_rfl) (fun _ _ _ h => h) ⟨F116_pg_11.out, F117_ppt_11.out, F118_pa_11.out, F119_pot_11.out, F120_pb_11.out⟩ (by rfl) (fun W' hW' => ?_) ?_; rotate_left; · (obtain ⟨q0, q1, q2, q3, q4⟩ := hW'; obtain ⟨⟨ca0_0, ca0_1, ca0_2, ca0_3⟩, ga0_0, ga0_1, ga0_2, ga0_3⟩ := box4 q0; obtain ⟨⟨ca1_0, ca1_1, ca1_2, ca1_3⟩, ga1_0, ga1_1, ga1_2, ga1_3⟩ := box4 q1; obtain ⟨⟨ca2_0, ca2_1⟩, ga2_0, ga2_1⟩ := box2 q2; obtain ⟨⟨ca3_0, ca3_1, ca3_2, ca3_3⟩, ga3_0, ga3_1, ga3_2, ga3_3⟩ := box4 q3; obtain ⟨⟨ca4_0, ca4_1⟩, ga4_0, ga4_1⟩ := box2 q4; clear q0 q1 q2 q3 q4; go_simp; first | done | with_reducible rfl)
  simp only [Act.put, List.setIfInBounds_toArray, List.set_cons_zero, List.set_cons_succ]
  refine takeH 4 (v := ?_) rfl (by kernel_rfl) (by kernel_rfl) (by kernel_rfl) (fun _ _ _ h => h) ⟨F116_pg_11.out, F117_ppt_11.out, F118_pa_11.out, F119_pot_11.out, F120_pb_11.out⟩ (by rfl) (fun W' hW' => ?_) ?_; rotate_left; · (obtain ⟨q0, q1, q2, q3, q4⟩ := hW'; obtain ⟨⟨ca0_0, ca0_1, ca0_2, ca0_3⟩, ga0_0, ga0_1, ga0_2, ga0_3⟩ := box4 q0; obtain ⟨⟨ca1_0, ca1_1, ca1_2, ca1_3⟩, ga1_0, ga1_1, ga1_2, ga1_3⟩ := box4 q1; obtain ⟨⟨ca2_0, ca2_1⟩, ga2_0, ga2_1⟩ := box2 q2; obtain ⟨⟨ca3_0, ca3_1, ca3_2, ca3_3⟩, ga3_0, ga3_1, ga3_2, ga3_3⟩ := box4 q3; obtain ⟨⟨ca4_0, ca4_1⟩, ga4_0, ga4_1⟩ := box2 q4; clear q0 q1 q2 q3 q4; go_simp; first | done | with_reducible rfl)
  simp only [Act.put, List.setIfInBounds_toArray, List.set_cons_zero, List.set_cons_succ]
  refine takeH 6 (v := ?_) rfl (by kernel_rfl) (by kernel_rfl) (by kernel_rfl) (fun _ _ _ h => h) ⟨F116_pg_11.out, F117_ppt_11.out, F118_pa_11.out, F119_pot_11.out, F120_pb_11.out⟩ (by rfl) (fun W' hW' => ?_) ?_; rotate_left; · (obtain ⟨q0, q1, q2, q3, q4⟩ := hW'; obtain ⟨⟨ca0_0, ca0_1, ca0_2, ca0_3⟩, ga0_0, ga0_1, ga0_2, ga0_3⟩ := box4 q0; obtain ⟨⟨ca1_0, ca1_1, ca1_2, ca1_3⟩, ga1_0, ga1_1, ga1_2, ga1_3⟩ := box4 q1; obtain ⟨⟨ca2_0, ca2_1⟩, ga2_0, ga2_1⟩ := box2 q2; obtain ⟨⟨ca3_0, ca3_1, ca3_2, ca3_3⟩, ga3_0, ga3_1, ga3_2, ga3_3⟩ := box4 q3; obtain ⟨⟨ca4_0, ca4_1⟩, ga4_0, ga4_1⟩ := box2 q4; clear q0 q1 q2 q3 q4; go_simp; first | done | with_reducible rfl)
  simp only [Act.put, List.setIfInBounds_toArray, List.set_cons_zero, List.set_cons_succ]
  refine takeH 8 (v := ?_) rfl (by kernel_rfl) (by kernel_rfl) (by kernel_rfl) (fun _ _ _ h => h) ⟨F116_pg_11.out, F117_ppt_11.out, F118_pa_11.out, F119_pot_11.out, F120_pb_11.out⟩ (by rfl) (fun W' hW' => ?_) ?_; rotate_left; · (obtain ⟨q0, q1, q2, q3, q4⟩ := hW'; obtain ⟨⟨ca0_0, ca0_1, ca0_2, ca0_3⟩, ga0_0, ga0_1, ga0_2, ga0_3⟩ := box4 q0; obtain ⟨⟨ca1_0, ca1_1, ca1_2, ca1_3⟩, ga1_0, ga1_1, ga1_2, ga1_3⟩ := box4 q1; obtain ⟨⟨ca2_0, ca2_1⟩, ga2_0, ga2_1⟩ := box2 q2; obtain ⟨⟨ca3_0, ca3_1, ca3_2, ca3_3⟩, ga3_0, ga3_1, ga3_2, ga3_3⟩ := box4 q3; obtain ⟨⟨ca4_0, ca4_1⟩, ga4_0, ga4_1⟩ := box2 q4; clear q0 q1 q2 q3 q4; go_simp; first | done | with_reducible rfl)
  simp only [Act.put, List.setIfInBounds_toArray, List.set_cons_zero, List.set_cons_succ]
  refine' callH 1 (f := _) (args := _) rfl (by kernel_rfl) (by rfl) ?_ ?_; rotate_left 2; · (go_simp; first | done | with_reducible rfl | (constructor <;> with_reducible rfl))
  refine (toGraph_law (hg.below hB11) okg).mono ?_
  rintro e w12 ⟨v12, fp12, rfl, o12, fr12, hb12⟩
  have hB12 := below_trans hB11 hb12 hB11.size
  have F121_pg_12 := Lib.hid (box_below F116_pg_11.out hb12)
  clear F116_pg_11
  have F122_ppt_12 := Lib.hid (box_below F117_ppt_11.out hb12)
  clear F117_ppt_11
  have F123_pa_12 := Lib.hid (box_below F118_pa_11.out hb12)
  clear F118_pa_11
  have F124_pot_12 := Lib.hid (box_below F119_pot_11.out hb12)
  clear F119_pot_11
  have F125_pb_12 := Lib.hid (box_below F120_pb_11.out hb12)
  clear F120_pb_11
  refine ⟨_, rfl, ⟨F121_pg_12.out, F122_ppt_12.out, F123_pa_12.out, F124_pot_12.out, F125_pb_12.out⟩, ?_⟩
  obtain ⟨A12, n12, c12, B12, m12, d12, C12, k12, e12, rfl⟩ := o12.shape
  have lt_ag := o12.lt
  simp only [Act.put, List.setIfInBounds_toArray, List.set_cons_zero, List.set_cons_succ]
  refine' callH 3 (f := _) (args := _) rfl (by kernel_rfl) (by rfl) ?_ ?_; rotate_left 2; · (go_simp; first | done | with_reducible rfl | (constructor <;> with_reducible rfl))
  refine (toGraph_law (hpt.below hB12) okpt).mono ?_
  rintro e w13 ⟨v13, fp13, rfl, o13, fr13, hb13⟩
  have hB13 := below_trans hB12 hb13 hB12.size
  have F126_pg_13 := Lib.hid (box_below F121_pg_12.out hb13)
  clear F121_pg_12
  have F127_ppt_13 := Lib.hid (box_below F122_ppt_12.out hb13)
  clear F122_ppt_12
  have F128_pa_13 := Lib.hid (box_below F123_pa_12.out hb13)
  clear F123_pa_12
  have F129_pot_13 := Lib.hid (box_below F124_pot_12.out hb13)
  clear F124_pot_12
  have F130_pb_13 := Lib.hid (box_below F125_pb_12.out hb13)
  clear F125_pb_12
  refine ⟨_, rfl, ⟨F126_pg_13.out, F127_ppt_13.out, F128_pa_13.out, F129_pot_13.out, F130_pb_13.out⟩, ?_⟩
  obtain ⟨A13, n13, c13, B13, m13, d13, C13, k13, e13, rfl⟩ := o13.shape
  have lt_apt := o13.lt
  simp only [Act.put, List.setIfInBounds_toArray, List.set_cons_zero, List.set_cons_succ]
  refine' callH 5 (f := _) (args := _) rfl (by kernel_rfl) (by rfl) ?_ ?_; rotate_left 2; · (go_simp; first | done | with_reducible rfl | (constructor <;> with_reducible rfl))
  refine (toMatch_law (ha.below hB13) oka).mono ?_
  rintro e w14 ⟨v14, fp14, rfl, o14, fr14, hb14⟩
  have hB14 := below_trans hB13 hb14 hB13.size
  have F131_pg_14 := Lib.hid (box_below F126_pg_13.out hb14)
  clear F126_pg_13
  have F132_ppt_14 := Lib.hid (box_below F127_ppt_13.out hb14)
  clear F127_ppt_13
  have F133_pa_14 := Lib.hid (box_below F128_pa_13.out hb14)
  clear F128_pa_13
  have F134_pot_14 := Lib.hid (box_below F129_pot_13.out hb14)
  clear F129_pot_13
  have F135_pb_14 := Lib.hid (box_below F130_pb_13.out hb14)
  clear F130_pb_13
  refine ⟨_, rfl, ⟨F131_pg_14.out, F132_ppt_14.out, F133_pa_14.out, F134_pot_14.out, F135_pb_14.out⟩, ?_⟩
  obtain ⟨A14, n14, c14, B14, m14, d14, rfl⟩ := o14.shape
  have lt_aa := o14.lt
  simp only [Act.put, List.setIfInBounds_toArray, List.set_cons_zero, List.set_cons_succ]
  refine' callH 7 (f := _) (args := _) rfl (by kernel_rfl) (by rfl) ?_ ?_; rotate_left 2; · (go_simp; first | done | with_reducible rfl | (constructor <;> with_reducible rfl))
  refine (toGraph_law (hot.below hB14) okot).mono ?_
  rintro e w15 ⟨v15, fp15, rfl, o15, fr15, hb15⟩
  have hB15 := below_trans hB14 hb15 hB14.size
  have F136_pg_15 := Lib.hid (box_below F131_pg_14.out hb15)
  clear F131_pg_14
  have F137_ppt_15 := Lib.hid (box_below F132_ppt_14.out hb15)
  clear F132_ppt_14
  have F138_pa_15 := Lib.hid (box_below F133_pa_14.out hb15)
  clear F133_pa_14
  have F139_pot_15 := Lib.hid (box_below F134_pot_14.out hb15)
  clear F134_pot_14
  have F140_pb_15 := Lib.hid (box_below F135_pb_14.out hb15)
  clear F135_pb_14
  refine ⟨_, rfl, ⟨F136_pg_15.out, F137_ppt_15.out, F138_pa_15.out, F139_pot_15.out, F140_pb_15.out⟩, ?_⟩
  obtain ⟨A15, n15, c15, B15, m15, d15, C15, k15, e15, rfl⟩ := o15.shape
  have lt_aot := o15.lt
  simp only [Act.put, List.setIfInBounds_toArray, List.set_cons_zero, List.set_cons_succ]
  refine' callH 9 (f := _) (args := _) rfl (by kernel_rfl) (by rfl) ?_ ?_; rotate_left 2; · (go_simp; first | done | with_reducible rfl | (constructor <;> with_reducible rfl))
  refine (toMatch_law (hb.below hB15) okb).mono ?_
  rintro e w16 ⟨v16, fp16, rfl, o16, fr16, hb16⟩
  have hB16 := below_trans hB15 hb16 hB15.size
  have F141_pg_16 := Lib.hid (box_below F136_pg_15.out hb16)
  clear F136_pg_15
  have F142_ppt_16 := Lib.hid (box_below F137_ppt_15.out hb16)
  clear F137_ppt_15
  have F143_pa_16 := Lib.hid (box_below F138_pa_15.out hb16)
  clear F138_pa_15
  have F144_pot_16 := Lib.hid (box_below F139_pot_15.out hb16)
  clear F139_pot_15
  have F145_pb_16 := Lib.hid (box_below F140_pb_15.out hb16)
  clear F140_pb_15
  refine ⟨_, rfl, ⟨F141_pg_16.out, F142_ppt_16.out, F143_pa_16.out, F144_pot_16.out, F145_pb_16.out⟩, ?_⟩
  obtain ⟨A16, n16, c16, B16, m16, d16, rfl⟩ := o16.shape
  have lt_ab := o16.lt
  simp only [Act.put, List.setIfInBounds_toArray, List.set_cons_zero, List.set_cons_succ]
  refine' callH 10 (f := _) (args := _) rfl (by kernel_rfl) (by rfl) ?_ ?_; rotate_left 2; · (go_simp; first | done | with_reducible rfl | (constructor <;> with_reducible rfl))
  have F146_ag_13 := o12.below hb13
  clear o12
  have F147_ag_14 := F146_ag_13.below hb14
  clear F146_ag_13
  have F148_ag_15 := F147_ag_14.below hb15
  clear F147_ag_14
  have F149_ag_16 := F148_ag_15.below hb16
  clear F148_ag_15
  have F150_apt_14 := o13.below hb14
  clear o13
  have F151_apt_15 := F150_apt_14.below hb15
  clear F150_apt_14
  have F152_apt_16 := F151_apt_15.below hb16
  clear F151_apt_15
  have F153_aa_15 := o14.below hb15
  clear o14
  have F154_aa_16 := F153_aa_15.below hb16
  clear F153_aa_15
  have F155_aot_16 := o15.below hb16
  clear o15
  refine (sAreApart_law  F149_ag_16 F152_apt_16 F154_aa_16 F155_aot_16 o16 okg okpt oka okot okb).mono ?_
  rintro e w17 ⟨rfl, hb17⟩
  have hB17 := below_trans hB16 hb17 hB16.size
  have F156_pg_17 := Lib.hid (box_below F141_pg_16.out hb17)
  clear F141_pg_16
  have F157_ppt_17 := Lib.hid (box_below F142_ppt_16.out hb17)
  clear F142_ppt_16
  have F158_pa_17 := Lib.hid (box_below F143_pa_16.out hb17)
  clear F143_pa_16
  have F159_pot_17 := Lib.hid (box_below F144_pot_16.out hb17)
  clear F144_pot_16
  have F160_pb_17 := Lib.hid (box_below F145_pb_16.out hb17)
  clear F145_pb_16
  refine ⟨_, rfl, ⟨F156_pg_17.out, F157_ppt_17.out, F158_pa_17.out, F159_pot_17.out, F160_pb_17.out⟩, ?_⟩
  simp only [Act.put, List.setIfInBounds_toArray, List.set_cons_zero, List.set_cons_succ]
  refine takeH 11 (v := ?_) rfl (by kernel_rfl) (by kernel_rfl) (by kernel_rfl) (fun _ _ _ h => h) ⟨F156_pg_17.out, F157_ppt_17.out, F158_pa_17.out, F159_pot_17.out, F160_pb_17.out⟩ (by rfl) (fun W' hW' => ?_) ?_; rotate_left; · (obtain ⟨q0, q1, q2, q3, q4⟩ := hW'; obtain ⟨⟨ca0_0, ca0_1, ca0_2, ca0_3⟩, ga0_0, ga0_1, ga0_2, ga0_3⟩ := box4 q0; obtain ⟨⟨ca1_0, ca1_1, ca1_2, ca1_3⟩, ga1_0, ga1_1, ga1_2, ga1_3⟩ := box4 q1; obtain ⟨⟨ca2_0, ca2_1⟩, ga2_0, ga2_1⟩ := box2 q2; obtain ⟨⟨ca3_0, ca3_1, ca3_2, ca3_3⟩, ga3_0, ga3_1, ga3_2, ga3_3⟩ := box4 q3; obtain ⟨⟨ca4_0, ca4_1⟩, ga4_0, ga4_1⟩ := box2 q4; clear q0 q1 q2 q3 q4; go_simp; first | done | with_reducible rfl)
  simp only [Act.put, List.setIfInBounds_toArray, List.set_cons_zero, List.set_cons_succ]
  refine takeH 12 (v := ?_) rfl (by kernel_rfl) (by kernel_rfl) (by kernel_rfl) (fun _ _ _ h => h) ⟨F156_pg_17.out, F157_ppt_17.out, F158_pa_17.out, F159_pot_17.out, F160_pb_17.out⟩ (by rfl) (fun W' hW' => ?_) ?_; rotate_left; · (obtain ⟨q0, q1, q2, q3, q4⟩ := hW'; obtain ⟨⟨ca0_0, ca0_1, ca0_2, ca0_3⟩, ga0_0, ga0_1, ga0_2, ga0_3⟩ := box4 q0; obtain ⟨⟨ca1_0, ca1_1, ca1_2, ca1_3⟩, ga1_0, ga1_1, ga1_2, ga1_3⟩ := box4 q1; obtain ⟨⟨ca2_0, ca2_1⟩, ga2_0, ga2_1⟩ := box2 q2; obtain ⟨⟨ca3_0, ca3_1, ca3_2, ca3_3⟩, ga3_0, ga3_1, ga3_2, ga3_3⟩ := box4 q3; obtain ⟨⟨ca4_0, ca4_1⟩, ga4_0, ga4_1⟩ := box2 q4; clear q0 q1 q2 q3 q4; go_simp; first | done | with_reducible rfl)
  simp only [Act.put, List.setIfInBounds_toArray, List.set_cons_zero, List.set_cons_succ]
  refine takeH 13 (v := ?_) rfl (by kernel_rfl) (by kernel_rfl) (by kernel_rfl) (fun _ _ _ h => h) ⟨F156_pg_17.out, F157_ppt_17.out, F158_pa_17.out, F159_pot_17.out, F160_pb_17.out⟩ (by rfl) (fun W' hW' => ?_) ?_; rotate_left; · (obtain ⟨q0, q1, q2, q3, q4⟩ := hW'; obtain ⟨⟨ca0_0, ca0_1, ca0_2, ca0_3⟩, ga0_0, ga0_1, ga0_2, ga0_3⟩ := box4 q0; obtain ⟨⟨ca1_0, ca1_1, ca1_2, ca1_3⟩, ga1_0, ga1_1, ga1_2, ga1_3⟩ := box4 q1; obtain ⟨⟨ca2_0, ca2_1⟩, ga2_0, ga2_1⟩ := box2 q2; obtain ⟨⟨ca3_0, ca3_1, ca3_2, ca3_3⟩, ga3_0, ga3_1, ga3_2, ga3_3⟩ := box4 q3; obtain ⟨⟨ca4_0, ca4_1⟩, ga4_0, ga4_1⟩ := box2 q4; clear q0 q1 q2 q3 q4; go_simp; first | done | with_reducible rfl)
  simp only [Act.put, List.setIfInBounds_toArray, List.set_cons_zero, List.set_cons_succ]
  refine takeH 14 (v := ?_) rfl (by kernel_rfl) (by kernel_rfl) (by kernel_rfl) (fun _ _ _ h => h) ⟨F156_pg_17.out, F157_ppt_17.out, F158_pa_17.out, F159_pot_17.out, F160_pb_17.out⟩ (by rfl) (fun W' hW' => ?_) ?_; rotate_left; · (obtain ⟨q0, q1, q2, q3, q4⟩ := hW'; obtain ⟨⟨ca0_0, ca0_1, ca0_2, ca0_3⟩, ga0_0, ga0_1, ga0_2, ga0_3⟩ := box4 q0; obtain ⟨⟨ca1_0, ca1_1, ca1_2, ca1_3⟩, ga1_0, ga1_1, ga1_2, ga1_3⟩ := box4 q1; obtain ⟨⟨ca2_0, ca2_1⟩, ga2_0, ga2_1⟩ := box2 q2; obtain ⟨⟨ca3_0, ca3_1, ca3_2, ca3_3⟩, ga3_0, ga3_1, ga3_2, ga3_3⟩ := box4 q3; obtain ⟨⟨ca4_0, ca4_1⟩, ga4_0, ga4_1⟩ := box2 q4; clear q0 q1 q2 q3 q4; go_simp; first | done | with_reducible rfl)
  simp only [Act.put, List.setIfInBounds_toArray, List.set_cons_zero, List.set_cons_succ]
  refine takeH 15 (v := ?_) rfl (by kernel_rfl) (by kernel_rfl) (by kernel_rfl) (fun _ _ _ h => h) ⟨F156_pg_17.out, F157_ppt_17.out, F158_pa_17.out, F159_pot_17.out, F160_pb_17.out⟩ (by rfl) (fun W' hW' => ?_) ?_; rotate_left; · (obtain ⟨q0, q1, q2, q3, q4⟩ := hW'; obtain ⟨⟨ca0_0, ca0_1, ca0_2, ca0_3⟩, ga0_0, ga0_1, ga0_2, ga0_3⟩ := box4 q0; obtain ⟨⟨ca1_0, ca1_1, ca1_2, ca1_3⟩, ga1_0, ga1_1, ga1_2, ga1_3⟩ := box4 q1; obtain ⟨⟨ca2_0, ca2_1⟩, ga2_0, ga2_1⟩ := box2 q2; obtain ⟨⟨ca3_0, ca3_1, ca3_2, ca3_3⟩, ga3_0, ga3_1, ga3_2, ga3_3⟩ := box4 q3; obtain ⟨⟨ca4_0, ca4_1⟩, ga4_0, ga4_1⟩ := box2 q4; clear q0 q1 q2 q3 q4; go_simp; first | done | with_reducible rfl)
  simp only [Act.put, List.setIfInBounds_toArray, List.set_cons_zero, List.set_cons_succ]
  refine doneH (by kernel_rfl) ?_
  obtain ⟨⟨c161_0, c161_1, c161_2, c161_3⟩, f161_0, f161_1, f161_2, f161_3⟩ := box4 F156_pg_17.out
  go_wp2_with (fail)
  refine (toGraph_law (hg.below hB17) okg).mono ?_
  rintro e w18 ⟨v18, fp18, rfl, o18, fr18, hb18⟩
  have hB18 := below_trans hB17 hb18 hB17.size
  clear c161_0 c161_1 c161_2 c161_3 f161_0 f161_1 f161_2 f161_3
  obtain ⟨A18, n18, c18, B18, m18, d18, C18, k18, e18, rfl⟩ := o18.shape
  have lt_xg := o18.lt
  have hb19 := below_alloc (w18) (.cells #[.int .i64 (g).1, .slice A18 n18 c18, .slice B18 m18 d18, .slice C18 k18 e18] 31)
  have hB19 := below_trans hB18 hb19 hB18.size
  have bx19 := heap_alloc_new (w18) (.cells #[.int .i64 (g).1, .slice A18 n18 c18, .slice B18 m18 d18, .slice C18 k18 e18] 31)
  have lt_bxg : LtL ((w18).alloc (.cells #[.int .i64 (g).1, .slice A18 n18 c18, .slice B18 m18 d18, .slice C18 k18 e18] 31)).heap.size [(w18).heap.size] := fun b hb => by obtain rfl := List.mem_singleton.1 hb; exact box_lt bx19
  have fr_bxg : FreshL (w18).heap.size [(w18).heap.size] := fun b hb => by obtain rfl := List.mem_singleton.1 hb; exact Nat.le_refl _
  have BX_bxg_19 := Lib.hid bx19
  clear bx19
  have F162_ppt_18 := Lib.hid (box_below F157_ppt_17.out hb18)
  clear F157_ppt_17
  have F163_ppt_19 := Lib.hid (box_below F162_ppt_18.out hb19)
  clear F162_ppt_18
  obtain ⟨⟨c164_0, c164_1, c164_2, c164_3⟩, f164_0, f164_1, f164_2, f164_3⟩ := box4 F163_ppt_19.out
  go_wp2_with (fail)
  refine (toGraph_law (hpt.below hB19) okpt).mono ?_
  rintro e w20 ⟨v20, fp20, rfl, o20, fr20, hb20⟩
  have hB20 := below_trans hB19 hb20 hB19.size
  clear c164_0 c164_1 c164_2 c164_3 f164_0 f164_1 f164_2 f164_3
  obtain ⟨A20, n20, c20, B20, m20, d20, C20, k20, e20, rfl⟩ := o20.shape
  have lt_xpt := o20.lt
  have hb21 := below_alloc (w20) (.cells #[.int .i64 (pt).1, .slice A20 n20 c20, .slice B20 m20 d20, .slice C20 k20 e20] 31)
  have hB21 := below_trans hB20 hb21 hB20.size
  have bx21 := heap_alloc_new (w20) (.cells #[.int .i64 (pt).1, .slice A20 n20 c20, .slice B20 m20 d20, .slice C20 k20 e20] 31)
  have lt_bxpt : LtL ((w20).alloc (.cells #[.int .i64 (pt).1, .slice A20 n20 c20, .slice B20 m20 d20, .slice C20 k20 e20] 31)).heap.size [(w20).heap.size] := fun b hb => by obtain rfl := List.mem_singleton.1 hb; exact box_lt bx21
  have fr_bxpt : FreshL (w20).heap.size [(w20).heap.size] := fun b hb => by obtain rfl := List.mem_singleton.1 hb; exact Nat.le_refl _
  have BX_bxpt_21 := Lib.hid bx21
  clear bx21
  have F165_pa_18 := Lib.hid (box_below F158_pa_17.out hb18)
  clear F158_pa_17
  have F166_pa_19 := Lib.hid (box_below F165_pa_18.out hb19)
  clear F165_pa_18
  have F167_pa_20 := Lib.hid (box_below F166_pa_19.out hb20)
  clear F166_pa_19
  have F168_pa_21 := Lib.hid (box_below F167_pa_20.out hb21)
  clear F167_pa_20
  obtain ⟨⟨c169_0, c169_1⟩, f169_0, f169_1⟩ := box2 F168_pa_21.out
  go_wp2_with (fail)
  refine (toMatch_law (ha.below hB21) oka).mono ?_
  rintro e w22 ⟨v22, fp22, rfl, o22, fr22, hb22⟩
  have hB22 := below_trans hB21 hb22 hB21.size
  clear c169_0 c169_1 f169_0 f169_1
  obtain ⟨A22, n22, c22, B22, m22, d22, rfl⟩ := o22.shape
  have lt_xa := o22.lt
  have hb23 := below_alloc (w22) (.cells #[.slice A22 n22 c22, .slice B22 m22 d22] 47)
  have hB23 := below_trans hB22 hb23 hB22.size
  have bx23 := heap_alloc_new (w22) (.cells #[.slice A22 n22 c22, .slice B22 m22 d22] 47)
  have lt_bxa : LtL ((w22).alloc (.cells #[.slice A22 n22 c22, .slice B22 m22 d22] 47)).heap.size [(w22).heap.size] := fun b hb => by obtain rfl := List.mem_singleton.1 hb; exact box_lt bx23
  have fr_bxa : FreshL (w22).heap.size [(w22).heap.size] := fun b hb => by obtain rfl := List.mem_singleton.1 hb; exact Nat.le_refl _
  have BX_bxa_23 := Lib.hid bx23
  clear bx23
  have F170_pot_18 := Lib.hid (box_below F159_pot_17.out hb18)
  clear F159_pot_17
  have F171_pot_19 := Lib.hid (box_below F170_pot_18.out hb19)
  clear F170_pot_18
  have F172_pot_20 := Lib.hid (box_below F171_pot_19.out hb20)
  clear F171_pot_19
  have F173_pot_21 := Lib.hid (box_below F172_pot_20.out hb21)
  clear F172_pot_20
  have F174_pot_22 := Lib.hid (box_below F173_pot_21.out hb22)
  clear F173_pot_21
  have F175_pot_23 := Lib.hid (box_below F174_pot_22.out hb23)
  clear F174_pot_22
  obtain ⟨⟨c176_0, c176_1, c176_2, c176_3⟩, f176_0, f176_1, f176_2, f176_3⟩ := box4 F175_pot_23.out
  go_wp2_with (fail)
  refine (toGraph_law (hot.below hB23) okot).mono ?_
  rintro e w24 ⟨v24, fp24, rfl, o24, fr24, hb24⟩
  have hB24 := below_trans hB23 hb24 hB23.size
  clear c176_0 c176_1 c176_2 c176_3 f176_0 f176_1 f176_2 f176_3
  obtain ⟨A24, n24, c24, B24, m24, d24, C24, k24, e24, rfl⟩ := o24.shape
  have lt_xot := o24.lt
  have hb25 := below_alloc (w24) (.cells #[.int .i64 (ot).1, .slice A24 n24 c24, .slice B24 m24 d24, .slice C24 k24 e24] 31)
  have hB25 := below_trans hB24 hb25 hB24.size
  have bx25 := heap_alloc_new (w24) (.cells #[.int .i64 (ot).1, .slice A24 n24 c24, .slice B24 m24 d24, .slice C24 k24 e24] 31)
  have lt_bxot : LtL ((w24).alloc (.cells #[.int .i64 (ot).1, .slice A24 n24 c24, .slice B24 m24 d24, .slice C24 k24 e24] 31)).heap.size [(w24).heap.size] := fun b hb => by obtain rfl := List.mem_singleton.1 hb; exact box_lt bx25
  have fr_bxot : FreshL (w24).heap.size [(w24).heap.size] := fun b hb => by obtain rfl := List.mem_singleton.1 hb; exact Nat.le_refl _
  have BX_bxot_25 := Lib.hid bx25
  clear bx25
  have F177_pb_18 := Lib.hid (box_below F160_pb_17.out hb18)
  clear F160_pb_17
  have F178_pb_19 := Lib.hid (box_below F177_pb_18.out hb19)
  clear F177_pb_18
  have F179_pb_20 := Lib.hid (box_below F178_pb_19.out hb20)
  clear F178_pb_19
  have F180_pb_21 := Lib.hid (box_below F179_pb_20.out hb21)
  clear F179_pb_20
  have F181_pb_22 := Lib.hid (box_below F180_pb_21.out hb22)
  clear F180_pb_21
  have F182_pb_23 := Lib.hid (box_below F181_pb_22.out hb23)
  clear F181_pb_22
  have F183_pb_24 := Lib.hid (box_below F182_pb_23.out hb24)
  clear F182_pb_23
  have F184_pb_25 := Lib.hid (box_below F183_pb_24.out hb25)
  clear F183_pb_24
  obtain ⟨⟨c185_0, c185_1⟩, f185_0, f185_1⟩ := box2 F184_pb_25.out
  go_wp2_with (fail)
  refine (toMatch_law (hb.below hB25) okb).mono ?_
  rintro e w26 ⟨v26, fp26, rfl, o26, fr26, hb26⟩
  have hB26 := below_trans hB25 hb26 hB25.size
  clear c185_0 c185_1 f185_0 f185_1
  obtain ⟨A26, n26, c26, B26, m26, d26, rfl⟩ := o26.shape
  have lt_xb := o26.lt
  have hb27 := below_alloc (w26) (.cells #[.slice A26 n26 c26, .slice B26 m26 d26] 47)
  have hB27 := below_trans hB26 hb27 hB26.size
  have bx27 := heap_alloc_new (w26) (.cells #[.slice A26 n26 c26, .slice B26 m26 d26] 47)
  have lt_bxb : LtL ((w26).alloc (.cells #[.slice A26 n26 c26, .slice B26 m26 d26] 47)).heap.size [(w26).heap.size] := fun b hb => by obtain rfl := List.mem_singleton.1 hb; exact box_lt bx27
  have fr_bxb : FreshL (w26).heap.size [(w26).heap.size] := fun b hb => by obtain rfl := List.mem_singleton.1 hb; exact Nat.le_refl _
  have BX_bxb_27 := Lib.hid bx27
  clear bx27
  have F186_xg_19 := o18.below hb19
  clear o18
  have F187_xg_20 := F186_xg_19.below hb20
  clear F186_xg_19
  have F188_xg_21 := F187_xg_20.below hb21
  clear F187_xg_20
  have F189_xg_22 := F188_xg_21.below hb22
  clear F188_xg_21
  have F190_xg_23 := F189_xg_22.below hb23
  clear F189_xg_22
  have F191_xg_24 := F190_xg_23.below hb24
  clear F190_xg_23
  have F192_xg_25 := F191_xg_24.below hb25
  clear F191_xg_24
  have F193_xg_26 := F192_xg_25.below hb26
  clear F192_xg_25
  have F194_xg_27 := F193_xg_26.below hb27
  clear F193_xg_26
  have F195_xpt_21 := o20.below hb21
  clear o20
  have F196_xpt_22 := F195_xpt_21.below hb22
  clear F195_xpt_21
  have F197_xpt_23 := F196_xpt_22.below hb23
  clear F196_xpt_22
  have F198_xpt_24 := F197_xpt_23.below hb24
  clear F197_xpt_23
  have F199_xpt_25 := F198_xpt_24.below hb25
  clear F198_xpt_24
  have F200_xpt_26 := F199_xpt_25.below hb26
  clear F199_xpt_25
  have F201_xpt_27 := F200_xpt_26.below hb27
  clear F200_xpt_26
  have F202_xa_23 := o22.below hb23
  clear o22
  have F203_xa_24 := F202_xa_23.below hb24
  clear F202_xa_23
  have F204_xa_25 := F203_xa_24.below hb25
  clear F203_xa_24
  have F205_xa_26 := F204_xa_25.below hb26
  clear F204_xa_25
  have F206_xa_27 := F205_xa_26.below hb27
  clear F205_xa_26
  have F207_xot_25 := o24.below hb25
  clear o24
  have F208_xot_26 := F207_xot_25.below hb26
  clear F207_xot_25
  have F209_xot_27 := F208_xot_26.below hb27
  clear F208_xot_26
  have F210_xb_27 := o26.below hb27
  clear o26
  have F211_bxg_20 := Lib.hid (box_below BX_bxg_19.out hb20)
  clear BX_bxg_19
  have F212_bxg_21 := Lib.hid (box_below F211_bxg_20.out hb21)
  clear F211_bxg_20
  have F213_bxg_22 := Lib.hid (box_below F212_bxg_21.out hb22)
  clear F212_bxg_21
  have F214_bxg_23 := Lib.hid (box_below F213_bxg_22.out hb23)
  clear F213_bxg_22
  have F215_bxg_24 := Lib.hid (box_below F214_bxg_23.out hb24)
  clear F214_bxg_23
  have F216_bxg_25 := Lib.hid (box_below F215_bxg_24.out hb25)
  clear F215_bxg_24
  have F217_bxg_26 := Lib.hid (box_below F216_bxg_25.out hb26)
  clear F216_bxg_25
  have F218_bxg_27 := Lib.hid (box_below F217_bxg_26.out hb27)
  clear F217_bxg_26
  obtain ⟨⟨c219_0, c219_1, c219_2, c219_3⟩, f219_0, f219_1, f219_2, f219_3⟩ := box4 F218_bxg_27.out
  have F220_bxpt_22 := Lib.hid (box_below BX_bxpt_21.out hb22)
  clear BX_bxpt_21
  have F221_bxpt_23 := Lib.hid (box_below F220_bxpt_22.out hb23)
  clear F220_bxpt_22
  have F222_bxpt_24 := Lib.hid (box_below F221_bxpt_23.out hb24)
  clear F221_bxpt_23
  have F223_bxpt_25 := Lib.hid (box_below F222_bxpt_24.out hb25)
  clear F222_bxpt_24
  have F224_bxpt_26 := Lib.hid (box_below F223_bxpt_25.out hb26)
  clear F223_bxpt_25
  have F225_bxpt_27 := Lib.hid (box_below F224_bxpt_26.out hb27)
  clear F224_bxpt_26
  obtain ⟨⟨c226_0, c226_1, c226_2, c226_3⟩, f226_0, f226_1, f226_2, f226_3⟩ := box4 F225_bxpt_27.out
  have F227_bxa_24 := Lib.hid (box_below BX_bxa_23.out hb24)
  clear BX_bxa_23
  have F228_bxa_25 := Lib.hid (box_below F227_bxa_24.out hb25)
  clear F227_bxa_24
  have F229_bxa_26 := Lib.hid (box_below F228_bxa_25.out hb26)
  clear F228_bxa_25
  have F230_bxa_27 := Lib.hid (box_below F229_bxa_26.out hb27)
  clear F229_bxa_26
  obtain ⟨⟨c231_0, c231_1⟩, f231_0, f231_1⟩ := box2 F230_bxa_27.out
  have F232_bxot_26 := Lib.hid (box_below BX_bxot_25.out hb26)
  clear BX_bxot_25
  have F233_bxot_27 := Lib.hid (box_below F232_bxot_26.out hb27)
  clear F232_bxot_26
  obtain ⟨⟨c234_0, c234_1, c234_2, c234_3⟩, f234_0, f234_1, f234_2, f234_3⟩ := box4 F233_bxot_27.out
  obtain ⟨⟨c235_0, c235_1⟩, f235_0, f235_1⟩ := box2 BX_bxb_27.out
  go_wp2_with (fail)
  refine (iAreApart_law  F194_xg_27 F201_xpt_27 F206_xa_27 F209_xot_27 F210_xb_27 okg okpt oka okot okb).mono ?_
  rintro e w28 ⟨rfl, hb28⟩
  have hB28 := below_trans hB27 hb28 hB27.size
  clear c219_0 c219_1 c219_2 c219_3 f219_0 f219_1 f219_2 f219_3 c226_0 c226_1 c226_2 c226_3 f226_0 f226_1 f226_2 f226_3 c231_0 c231_1 f231_0 f231_1 c234_0 c234_1 c234_2 c234_3 f234_0 f234_1 f234_2 f234_3 c235_0 c235_1 f235_0 f235_1
  have F236_bxg_28 := Lib.hid (box_below F218_bxg_27.out hb28)
  clear F218_bxg_27
  have F237_pg_18 := Lib.hid (box_below F156_pg_17.out hb18)
  clear F156_pg_17
  have F238_pg_19 := Lib.hid (box_below F237_pg_18.out hb19)
  clear F237_pg_18
  have F239_pg_20 := Lib.hid (box_below F238_pg_19.out hb20)
  clear F238_pg_19
  have F240_pg_21 := Lib.hid (box_below F239_pg_20.out hb21)
  clear F239_pg_20
  have F241_pg_22 := Lib.hid (box_below F240_pg_21.out hb22)
  clear F240_pg_21
  have F242_pg_23 := Lib.hid (box_below F241_pg_22.out hb23)
  clear F241_pg_22
  have F243_pg_24 := Lib.hid (box_below F242_pg_23.out hb24)
  clear F242_pg_23
  have F244_pg_25 := Lib.hid (box_below F243_pg_24.out hb25)
  clear F243_pg_24
  have F245_pg_26 := Lib.hid (box_below F244_pg_25.out hb26)
  clear F244_pg_25
  have F246_pg_27 := Lib.hid (box_below F245_pg_26.out hb27)
  clear F245_pg_26
  have F247_pg_28 := Lib.hid (box_below F246_pg_27.out hb28)
  clear F246_pg_27
  have F248_xg_28 := F194_xg_27.below hb28
  clear F194_xg_27
  go_wp2_with (fail)
  refine beginH (fun w' => w'.heap[(w18).heap.size]? = some (.cells #[.int .i64 (g).1, .slice A18 n18 c18, .slice B18 m18 d18, .slice C18 k18 e18] 31) ∧ w'.heap[(w).heap.size]? = some (.cells #[.int .i64 (g).1, .slice Ag ng cg, .slice Bg mg dg, .slice Cg kg eg] 25)) (by kernel_rfl) ?_
  have hb29 : Below (w28).heap.size (w28) (w28).drew := below_drewN (Below.refl _ _) 1
  have hB29 := below_trans hB28 hb29 hB28.size
  have F250_bxg_29 := Lib.hid (box_below F236_bxg_28.out hb29)
  clear F236_bxg_28
  have F251_pg_29 := Lib.hid (box_below F247_pg_28.out hb29)
  clear F247_pg_28
  have F252_xg_29 := F248_xg_28.below hb29
  clear F248_xg_28
  refine takeH 0 (v := ?_) rfl (by kernel_rfl) (by kernel_rfl) (by kernel_rfl) (fun _ _ _ h => h) ⟨F250_bxg_29.out, F251_pg_29.out⟩ (by rfl) (fun W' hW' => ?_) ?_; rotate_left; · (obtain ⟨q1, q2⟩ := hW'; obtain ⟨⟨ca0, ca1, ca2, ca3⟩, gca0, gca1, gca2, gca3⟩ := box4 q1; obtain ⟨⟨cb0, cb1, cb2, cb3⟩, gcb0, gcb1, gcb2, gcb3⟩ := box4 q2; clear q1 q2; go_simp; first | done | with_reducible rfl)
  simp only [Act.put, List.setIfInBounds_toArray, List.set_cons_zero, List.set_cons_succ]
  refine takeH 1 (v := ?_) rfl (by kernel_rfl) (by kernel_rfl) (by kernel_rfl) (fun _ _ _ h => h) ⟨F250_bxg_29.out, F251_pg_29.out⟩ (by rfl) (fun W' hW' => ?_) ?_; rotate_left; · (obtain ⟨q1, q2⟩ := hW'; obtain ⟨⟨ca0, ca1, ca2, ca3⟩, gca0, gca1, gca2, gca3⟩ := box4 q1; obtain ⟨⟨cb0, cb1, cb2, cb3⟩, gcb0, gcb1, gcb2, gcb3⟩ := box4 q2; clear q1 q2; go_simp; first | done | with_reducible rfl)
  simp only [Act.put, List.setIfInBounds_toArray, List.set_cons_zero, List.set_cons_succ]
  refine' callH 2 (f := _) (args := _) rfl (by kernel_rfl) (by rfl) ?_ ?_; rotate_left 2; · (go_simp; first | done | with_reducible rfl | (constructor <;> with_reducible rfl))
  refine (toGraph_law (hg.below hB29) okg).mono ?_
  rintro e w30 ⟨v30, fp30, rfl, o30, fr30, hb30⟩
  have hB30 := below_trans hB29 hb30 hB29.size
  have F253_bxg_30 := Lib.hid (box_below F250_bxg_29.out hb30)
  clear F250_bxg_29
  have F254_pg_30 := Lib.hid (box_below F251_pg_29.out hb30)
  clear F251_pg_29
  have F255_xg_30 := F252_xg_29.below hb30
  clear F252_xg_29
  refine ⟨_, rfl, ⟨F253_bxg_30.out, F254_pg_30.out⟩, ?_⟩
  simp only [Act.put, List.setIfInBounds_toArray, List.set_cons_zero, List.set_cons_succ]
  refine' callH 3 (f := _) (args := _) rfl (by kernel_rfl) (by rfl) ?_ ?_; rotate_left 2; · (go_simp; first | done | with_reducible rfl | (constructor <;> with_reducible rfl))
  refine (eqGraph_law F255_xg_30.rd o30.rd okg).mono ?_
  rintro e w31 ⟨rfl, hb31⟩
  have hB31 := below_trans hB30 hb31 hB30.size
  have F256_bxg_31 := Lib.hid (box_below F253_bxg_30.out hb31)
  clear F253_bxg_30
  have F257_pg_31 := Lib.hid (box_below F254_pg_30.out hb31)
  clear F254_pg_30
  have F258_xg_31 := F255_xg_30.below hb31
  clear F255_xg_30
  refine ⟨_, rfl, ⟨F256_bxg_31.out, F257_pg_31.out⟩, ?_⟩
  rw [decide_eq_true (rfl : g = g)]
  simp only [Act.put, List.setIfInBounds_toArray, List.set_cons_zero, List.set_cons_succ]
  refine takeH 4 (v := .bool false) rfl (by kernel_rfl) (by kernel_rfl) (by kernel_rfl) (fun _ _ _ h => h) ⟨F256_bxg_31.out, F257_pg_31.out⟩ (by rfl) (fun W' hW' => ?_) ?_; · (go_simp; first | done | with_reducible rfl)
  simp only [Act.put, List.setIfInBounds_toArray, List.set_cons_zero, List.set_cons_succ]
  refine doneH (by kernel_rfl) ?_
  have F259_bxpt_28 := Lib.hid (box_below F225_bxpt_27.out hb28)
  clear F225_bxpt_27
  have F260_bxpt_29 := Lib.hid (box_below F259_bxpt_28.out hb29)
  clear F259_bxpt_28
  have F261_bxpt_30 := Lib.hid (box_below F260_bxpt_29.out hb30)
  clear F260_bxpt_29
  have F262_bxpt_31 := Lib.hid (box_below F261_bxpt_30.out hb31)
  clear F261_bxpt_30
  have F263_ppt_20 := Lib.hid (box_below F163_ppt_19.out hb20)
  clear F163_ppt_19
  have F264_ppt_21 := Lib.hid (box_below F263_ppt_20.out hb21)
  clear F263_ppt_20
  have F265_ppt_22 := Lib.hid (box_below F264_ppt_21.out hb22)
  clear F264_ppt_21
  have F266_ppt_23 := Lib.hid (box_below F265_ppt_22.out hb23)
  clear F265_ppt_22
  have F267_ppt_24 := Lib.hid (box_below F266_ppt_23.out hb24)
  clear F266_ppt_23
  have F268_ppt_25 := Lib.hid (box_below F267_ppt_24.out hb25)
  clear F267_ppt_24
  have F269_ppt_26 := Lib.hid (box_below F268_ppt_25.out hb26)
  clear F268_ppt_25
  have F270_ppt_27 := Lib.hid (box_below F269_ppt_26.out hb27)
  clear F269_ppt_26
  have F271_ppt_28 := Lib.hid (box_below F270_ppt_27.out hb28)
  clear F270_ppt_27
  have F272_ppt_29 := Lib.hid (box_below F271_ppt_28.out hb29)
  clear F271_ppt_28
  have F273_ppt_30 := Lib.hid (box_below F272_ppt_29.out hb30)
  clear F272_ppt_29
  have F274_ppt_31 := Lib.hid (box_below F273_ppt_30.out hb31)
  clear F273_ppt_30
  have F275_xpt_28 := F201_xpt_27.below hb28
  clear F201_xpt_27
  have F276_xpt_29 := F275_xpt_28.below hb29
  clear F275_xpt_28
  have F277_xpt_30 := F276_xpt_29.below hb30
  clear F276_xpt_29
  have F278_xpt_31 := F277_xpt_30.below hb31
  clear F277_xpt_30
  go_wp2_with (fail)
  refine beginH (fun w' => w'.heap[(w20).heap.size]? = some (.cells #[.int .i64 (pt).1, .slice A20 n20 c20, .slice B20 m20 d20, .slice C20 k20 e20] 31) ∧ w'.heap[(w).heap.size + 1]? = some (.cells #[.int .i64 (pt).1, .slice Apt npt cpt, .slice Bpt mpt dpt, .slice Cpt kpt ept] 25)) (by kernel_rfl) ?_
  have hb32 : Below (w31).heap.size (w31) (w31).drew := below_drewN (Below.refl _ _) 1
  have hB32 := below_trans hB31 hb32 hB31.size
  have F280_bxpt_32 := Lib.hid (box_below F262_bxpt_31.out hb32)
  clear F262_bxpt_31
  have F281_ppt_32 := Lib.hid (box_below F274_ppt_31.out hb32)
  clear F274_ppt_31
  have F282_xpt_32 := F278_xpt_31.below hb32
  clear F278_xpt_31
  refine takeH 0 (v := ?_) rfl (by kernel_rfl) (by kernel_rfl) (by kernel_rfl) (fun _ _ _ h => h) ⟨F280_bxpt_32.out, F281_ppt_32.out⟩ (by rfl) (fun W' hW' => ?_) ?_; rotate_left; · (obtain ⟨q1, q2⟩ := hW'; obtain ⟨⟨ca0, ca1, ca2, ca3⟩, gca0, gca1, gca2, gca3⟩ := box4 q1; obtain ⟨⟨cb0, cb1, cb2, cb3⟩, gcb0, gcb1, gcb2, gcb3⟩ := box4 q2; clear q1 q2; go_simp; first | done | with_reducible rfl)
  simp only [Act.put, List.setIfInBounds_toArray, List.set_cons_zero, List.set_cons_succ]
  refine takeH 1 (v := ?_) rfl (by kernel_rfl) (by kernel_rfl) (by kernel_rfl) (fun _ _ _ h => h) ⟨F280_bxpt_32.out, F281_ppt_32.out⟩ (by rfl) (fun W' hW' => ?_) ?_; rotate_left; · (obtain ⟨q1, q2⟩ := hW'; obtain ⟨⟨ca0, ca1, ca2, ca3⟩, gca0, gca1, gca2, gca3⟩ := box4 q1; obtain ⟨⟨cb0, cb1, cb2, cb3⟩, gcb0, gcb1, gcb2, gcb3⟩ := box4 q2; clear q1 q2; go_simp; first | done | with_reducible rfl)
  simp only [Act.put, List.setIfInBounds_toArray, List.set_cons_zero, List.set_cons_succ]
  refine' callH 2 (f := _) (args := _) rfl (by kernel_rfl) (by rfl) ?_ ?_; rotate_left 2; · (go_simp; first | done | with_reducible rfl | (constructor <;> with_reducible rfl))
  refine (toGraph_law (hpt.below hB32) okpt).mono ?_
  rintro e w33 ⟨v33, fp33, rfl, o33, fr33, hb33⟩
  have hB33 := below_trans hB32 hb33 hB32.size
  have F283_bxpt_33 := Lib.hid (box_below F280_bxpt_32.out hb33)
  clear F280_bxpt_32
  have F284_ppt_33 := Lib.hid (box_below F281_ppt_32.out hb33)
  clear F281_ppt_32
  have F285_xpt_33 := F282_xpt_32.below hb33
  clear F282_xpt_32
  refine ⟨_, rfl, ⟨F283_bxpt_33.out, F284_ppt_33.out⟩, ?_⟩
  simp only [Act.put, List.setIfInBounds_toArray, List.set_cons_zero, List.set_cons_succ]
  refine' callH 3 (f := _) (args := _) rfl (by kernel_rfl) (by rfl) ?_ ?_; rotate_left 2; · (go_simp; first | done | with_reducible rfl | (constructor <;> with_reducible rfl))
  refine (eqGraph_law F285_xpt_33.rd o33.rd okpt).mono ?_
  rintro e w34 ⟨rfl, hb34⟩
  have hB34 := below_trans hB33 hb34 hB33.size
  have F286_bxpt_34 := Lib.hid (box_below F283_bxpt_33.out hb34)
  clear F283_bxpt_33
  have F287_ppt_34 := Lib.hid (box_below F284_ppt_33.out hb34)
  clear F284_ppt_33
  have F288_xpt_34 := F285_xpt_33.below hb34
  clear F285_xpt_33
  refine ⟨_, rfl, ⟨F286_bxpt_34.out, F287_ppt_34.out⟩, ?_⟩
  rw [decide_eq_true (rfl : pt = pt)]
  simp only [Act.put, List.setIfInBounds_toArray, List.set_cons_zero, List.set_cons_succ]
  refine takeH 4 (v := .bool false) rfl (by kernel_rfl) (by kernel_rfl) (by kernel_rfl) (fun _ _ _ h => h) ⟨F286_bxpt_34.out, F287_ppt_34.out⟩ (by rfl) (fun W' hW' => ?_) ?_; · (go_simp; first | done | with_reducible rfl)
  simp only [Act.put, List.setIfInBounds_toArray, List.set_cons_zero, List.set_cons_succ]
  refine doneH (by kernel_rfl) ?_
  have F289_bxa_28 := Lib.hid (box_below F230_bxa_27.out hb28)
  clear F230_bxa_27
  have F290_bxa_29 := Lib.hid (box_below F289_bxa_28.out hb29)
  clear F289_bxa_28
  have F291_bxa_30 := Lib.hid (box_below F290_bxa_29.out hb30)
  clear F290_bxa_29
  have F292_bxa_31 := Lib.hid (box_below F291_bxa_30.out hb31)
  clear F291_bxa_30
  have F293_bxa_32 := Lib.hid (box_below F292_bxa_31.out hb32)
  clear F292_bxa_31
  have F294_bxa_33 := Lib.hid (box_below F293_bxa_32.out hb33)
  clear F293_bxa_32
  have F295_bxa_34 := Lib.hid (box_below F294_bxa_33.out hb34)
  clear F294_bxa_33
  have F296_pa_22 := Lib.hid (box_below F168_pa_21.out hb22)
  clear F168_pa_21
  have F297_pa_23 := Lib.hid (box_below F296_pa_22.out hb23)
  clear F296_pa_22
  have F298_pa_24 := Lib.hid (box_below F297_pa_23.out hb24)
  clear F297_pa_23
  have F299_pa_25 := Lib.hid (box_below F298_pa_24.out hb25)
  clear F298_pa_24
  have F300_pa_26 := Lib.hid (box_below F299_pa_25.out hb26)
  clear F299_pa_25
  have F301_pa_27 := Lib.hid (box_below F300_pa_26.out hb27)
  clear F300_pa_26
  have F302_pa_28 := Lib.hid (box_below F301_pa_27.out hb28)
  clear F301_pa_27
  have F303_pa_29 := Lib.hid (box_below F302_pa_28.out hb29)
  clear F302_pa_28
  have F304_pa_30 := Lib.hid (box_below F303_pa_29.out hb30)
  clear F303_pa_29
  have F305_pa_31 := Lib.hid (box_below F304_pa_30.out hb31)
  clear F304_pa_30
  have F306_pa_32 := Lib.hid (box_below F305_pa_31.out hb32)
  clear F305_pa_31
  have F307_pa_33 := Lib.hid (box_below F306_pa_32.out hb33)
  clear F306_pa_32
  have F308_pa_34 := Lib.hid (box_below F307_pa_33.out hb34)
  clear F307_pa_33
  have F309_xa_28 := F206_xa_27.below hb28
  clear F206_xa_27
  have F310_xa_29 := F309_xa_28.below hb29
  clear F309_xa_28
  have F311_xa_30 := F310_xa_29.below hb30
  clear F310_xa_29
  have F312_xa_31 := F311_xa_30.below hb31
  clear F311_xa_30
  have F313_xa_32 := F312_xa_31.below hb32
  clear F312_xa_31
  have F314_xa_33 := F313_xa_32.below hb33
  clear F313_xa_32
  have F315_xa_34 := F314_xa_33.below hb34
  clear F314_xa_33
  go_wp2_with (fail)
  refine beginH (fun w' => w'.heap[(w22).heap.size]? = some (.cells #[.slice A22 n22 c22, .slice B22 m22 d22] 47) ∧ w'.heap[(w).heap.size + 1 + 1]? = some (.cells #[.slice Aa na ca, .slice Ba ma da] 43)) (by kernel_rfl) ?_
  have hb35 : Below (w34).heap.size (w34) (w34).drew := below_drewN (Below.refl _ _) 1
  have hB35 := below_trans hB34 hb35 hB34.size
  have F317_bxa_35 := Lib.hid (box_below F295_bxa_34.out hb35)
  clear F295_bxa_34
  have F318_pa_35 := Lib.hid (box_below F308_pa_34.out hb35)
  clear F308_pa_34
  have F319_xa_35 := F315_xa_34.below hb35
  clear F315_xa_34
  refine takeH 0 (v := ?_) rfl (by kernel_rfl) (by kernel_rfl) (by kernel_rfl) (fun _ _ _ h => h) ⟨F317_bxa_35.out, F318_pa_35.out⟩ (by rfl) (fun W' hW' => ?_) ?_; rotate_left; · (obtain ⟨q1, q2⟩ := hW'; obtain ⟨⟨ca0, ca1⟩, gca0, gca1⟩ := box2 q1; obtain ⟨⟨cb0, cb1⟩, gcb0, gcb1⟩ := box2 q2; clear q1 q2; go_simp; first | done | with_reducible rfl)
  simp only [Act.put, List.setIfInBounds_toArray, List.set_cons_zero, List.set_cons_succ]
  refine takeH 1 (v := ?_) rfl (by kernel_rfl) (by kernel_rfl) (by kernel_rfl) (fun _ _ _ h => h) ⟨F317_bxa_35.out, F318_pa_35.out⟩ (by rfl) (fun W' hW' => ?_) ?_; rotate_left; · (obtain ⟨q1, q2⟩ := hW'; obtain ⟨⟨ca0, ca1⟩, gca0, gca1⟩ := box2 q1; obtain ⟨⟨cb0, cb1⟩, gcb0, gcb1⟩ := box2 q2; clear q1 q2; go_simp; first | done | with_reducible rfl)
  simp only [Act.put, List.setIfInBounds_toArray, List.set_cons_zero, List.set_cons_succ]
  refine' callH 2 (f := _) (args := _) rfl (by kernel_rfl) (by rfl) ?_ ?_; rotate_left 2; · (go_simp; first | done | with_reducible rfl | (constructor <;> with_reducible rfl))
  refine (toMatch_law (ha.below hB35) oka).mono ?_
  rintro e w36 ⟨v36, fp36, rfl, o36, fr36, hb36⟩
  have hB36 := below_trans hB35 hb36 hB35.size
  have F320_bxa_36 := Lib.hid (box_below F317_bxa_35.out hb36)
  clear F317_bxa_35
  have F321_pa_36 := Lib.hid (box_below F318_pa_35.out hb36)
  clear F318_pa_35
  have F322_xa_36 := F319_xa_35.below hb36
  clear F319_xa_35
  refine ⟨_, rfl, ⟨F320_bxa_36.out, F321_pa_36.out⟩, ?_⟩
  simp only [Act.put, List.setIfInBounds_toArray, List.set_cons_zero, List.set_cons_succ]
  refine' callH 3 (f := _) (args := _) rfl (by kernel_rfl) (by rfl) ?_ ?_; rotate_left 2; · (go_simp; first | done | with_reducible rfl | (constructor <;> with_reducible rfl))
  refine (eqMatch_law F322_xa_36.rd o36.rd oka).mono ?_
  rintro e w37 ⟨rfl, hb37⟩
  have hB37 := below_trans hB36 hb37 hB36.size
  have F323_bxa_37 := Lib.hid (box_below F320_bxa_36.out hb37)
  clear F320_bxa_36
  have F324_pa_37 := Lib.hid (box_below F321_pa_36.out hb37)
  clear F321_pa_36
  have F325_xa_37 := F322_xa_36.below hb37
  clear F322_xa_36
  refine ⟨_, rfl, ⟨F323_bxa_37.out, F324_pa_37.out⟩, ?_⟩
  rw [decide_eq_true (rfl : a = a)]
  simp only [Act.put, List.setIfInBounds_toArray, List.set_cons_zero, List.set_cons_succ]
  refine takeH 4 (v := .bool false) rfl (by kernel_rfl) (by kernel_rfl) (by kernel_rfl) (fun _ _ _ h => h) ⟨F323_bxa_37.out, F324_pa_37.out⟩ (by rfl) (fun W' hW' => ?_) ?_; · (go_simp; first | done | with_reducible rfl)
  simp only [Act.put, List.setIfInBounds_toArray, List.set_cons_zero, List.set_cons_succ]
  refine doneH (by kernel_rfl) ?_
  have F326_bxot_28 := Lib.hid (box_below F233_bxot_27.out hb28)
  clear F233_bxot_27
  have F327_bxot_29 := Lib.hid (box_below F326_bxot_28.out hb29)
  clear F326_bxot_28
  have F328_bxot_30 := Lib.hid (box_below F327_bxot_29.out hb30)
  clear F327_bxot_29
  have F329_bxot_31 := Lib.hid (box_below F328_bxot_30.out hb31)
  clear F328_bxot_30
  have F330_bxot_32 := Lib.hid (box_below F329_bxot_31.out hb32)
  clear F329_bxot_31
  have F331_bxot_33 := Lib.hid (box_below F330_bxot_32.out hb33)
  clear F330_bxot_32
  have F332_bxot_34 := Lib.hid (box_below F331_bxot_33.out hb34)
  clear F331_bxot_33
  have F333_bxot_35 := Lib.hid (box_below F332_bxot_34.out hb35)
  clear F332_bxot_34
  have F334_bxot_36 := Lib.hid (box_below F333_bxot_35.out hb36)
  clear F333_bxot_35
  have F335_bxot_37 := Lib.hid (box_below F334_bxot_36.out hb37)
  clear F334_bxot_36
  have F336_pot_24 := Lib.hid (box_below F175_pot_23.out hb24)
  clear F175_pot_23
  have F337_pot_25 := Lib.hid (box_below F336_pot_24.out hb25)
  clear F336_pot_24
  have F338_pot_26 := Lib.hid (box_below F337_pot_25.out hb26)
  clear F337_pot_25
  have F339_pot_27 := Lib.hid (box_below F338_pot_26.out hb27)
  clear F338_pot_26
  have F340_pot_28 := Lib.hid (box_below F339_pot_27.out hb28)
  clear F339_pot_27
  have F341_pot_29 := Lib.hid (box_below F340_pot_28.out hb29)
  clear F340_pot_28
  have F342_pot_30 := Lib.hid (box_below F341_pot_29.out hb30)
  clear F341_pot_29
  have F343_pot_31 := Lib.hid (box_below F342_pot_30.out hb31)
  clear F342_pot_30
  have F344_pot_32 := Lib.hid (box_below F343_pot_31.out hb32)
  clear F343_pot_31
  have F345_pot_33 := Lib.hid (box_below F344_pot_32.out hb33)
  clear F344_pot_32
  have F346_pot_34 := Lib.hid (box_below F345_pot_33.out hb34)
  clear F345_pot_33
  have F347_pot_35 := Lib.hid (box_below F346_pot_34.out hb35)
  clear F346_pot_34
  have F348_pot_36 := Lib.hid (box_below F347_pot_35.out hb36)
  clear F347_pot_35
  have F349_pot_37 := Lib.hid (box_below F348_pot_36.out hb37)
  clear F348_pot_36
  have F350_xot_28 := F209_xot_27.below hb28
  clear F209_xot_27
  have F351_xot_29 := F350_xot_28.below hb29
  clear F350_xot_28
  have F352_xot_30 := F351_xot_29.below hb30
  clear F351_xot_29
  have F353_xot_31 := F352_xot_30.below hb31
  clear F352_xot_30
  have F354_xot_32 := F353_xot_31.below hb32
  clear F353_xot_31
  have F355_xot_33 := F354_xot_32.below hb33
  clear F354_xot_32
  have F356_xot_34 := F355_xot_33.below hb34
  clear F355_xot_33
  have F357_xot_35 := F356_xot_34.below hb35
  clear F356_xot_34
  have F358_xot_36 := F357_xot_35.below hb36
  clear F357_xot_35
  have F359_xot_37 := F358_xot_36.below hb37
  clear F358_xot_36
  go_wp2_with (fail)
  refine beginH (fun w' => w'.heap[(w24).heap.size]? = some (.cells #[.int .i64 (ot).1, .slice A24 n24 c24, .slice B24 m24 d24, .slice C24 k24 e24] 31) ∧ w'.heap[(w).heap.size + 1 + 1 + 1]? = some (.cells #[.int .i64 (ot).1, .slice Aot not cot, .slice Bot mot dot, .slice Cot kot eot] 25)) (by kernel_rfl) ?_
  have hb38 : Below (w37).heap.size (w37) (w37).drew := below_drewN (Below.refl _ _) 1
  have hB38 := below_trans hB37 hb38 hB37.size
  have F361_bxot_38 := Lib.hid (box_below F335_bxot_37.out hb38)
  clear F335_bxot_37
  have F362_pot_38 := Lib.hid (box_below F349_pot_37.out hb38)
  clear F349_pot_37
  have F363_xot_38 := F359_xot_37.below hb38
  clear F359_xot_37
  refine takeH 0 (v := ?_) rfl (by kernel_rfl) (by kernel_rfl) (by kernel_rfl) (fun _ _ _ h => h) ⟨F361_bxot_38.out, F362_pot_38.out⟩ (by rfl) (fun W' hW' => ?_) ?_; rotate_left; · (obtain ⟨q1, q2⟩ := hW'; obtain ⟨⟨ca0, ca1, ca2, ca3⟩, gca0, gca1, gca2, gca3⟩ := box4 q1; obtain ⟨⟨cb0, cb1, cb2, cb3⟩, gcb0, gcb1, gcb2, gcb3⟩ := box4 q2; clear q1 q2; go_simp; first | done | with_reducible rfl)
  simp only [Act.put, List.setIfInBounds_toArray, List.set_cons_zero, List.set_cons_succ]
  refine takeH 1 (v := ?_) rfl (by kernel_rfl) (by kernel_rfl) (by kernel_rfl) (fun _ _ _ h => h) ⟨F361_bxot_38.out, F362_pot_38.out⟩ (by rfl) (fun W' hW' => ?_) ?_; rotate_left; · (obtain ⟨q1, q2⟩ := hW'; obtain ⟨⟨ca0, ca1, ca2, ca3⟩, gca0, gca1, gca2, gca3⟩ := box4 q1; obtain ⟨⟨cb0, cb1, cb2, cb3⟩, gcb0, gcb1, gcb2, gcb3⟩ := box4 q2; clear q1 q2; go_simp; first | done | with_reducible rfl)
  simp only [Act.put, List.setIfInBounds_toArray, List.set_cons_zero, List.set_cons_succ]
  refine' callH 2 (f := _) (args := _) rfl (by kernel_rfl) (by rfl) ?_ ?_; rotate_left 2; · (go_simp; first | done | with_reducible rfl | (constructor <;> with_reducible rfl))
  refine (toGraph_law (hot.below hB38) okot).mono ?_
  rintro e w39 ⟨v39, fp39, rfl, o39, fr39, hb39⟩
  have hB39 := below_trans hB38 hb39 hB38.size
  have F364_bxot_39 := Lib.hid (box_below F361_bxot_38.out hb39)
  clear F361_bxot_38
  have F365_pot_39 := Lib.hid (box_below F362_pot_38.out hb39)
  clear F362_pot_38
  have F366_xot_39 := F363_xot_38.below hb39
  clear F363_xot_38
  refine ⟨_, rfl, ⟨F364_bxot_39.out, F365_pot_39.out⟩, ?_⟩
  simp only [Act.put, List.setIfInBounds_toArray, List.set_cons_zero, List.set_cons_succ]
  refine' callH 3 (f := _) (args := _) rfl (by kernel_rfl) (by rfl) ?_ ?_; rotate_left 2; · (go_simp; first | done | with_reducible rfl | (constructor <;> with_reducible rfl))
  refine (eqGraph_law F366_xot_39.rd o39.rd okot).mono ?_
  rintro e w40 ⟨rfl, hb40⟩
  have hB40 := below_trans hB39 hb40 hB39.size
  have F367_bxot_40 := Lib.hid (box_below F364_bxot_39.out hb40)
  clear F364_bxot_39
  have F368_pot_40 := Lib.hid (box_below F365_pot_39.out hb40)
  clear F365_pot_39
  have F369_xot_40 := F366_xot_39.below hb40
  clear F366_xot_39
  refine ⟨_, rfl, ⟨F367_bxot_40.out, F368_pot_40.out⟩, ?_⟩
  rw [decide_eq_true (rfl : ot = ot)]
  simp only [Act.put, List.setIfInBounds_toArray, List.set_cons_zero, List.set_cons_succ]
  refine takeH 4 (v := .bool false) rfl (by kernel_rfl) (by kernel_rfl) (by kernel_rfl) (fun _ _ _ h => h) ⟨F367_bxot_40.out, F368_pot_40.out⟩ (by rfl) (fun W' hW' => ?_) ?_; · (go_simp; first | done | with_reducible rfl)
  simp only [Act.put, List.setIfInBounds_toArray, List.set_cons_zero, List.set_cons_succ]
  refine doneH (by kernel_rfl) ?_
  have F370_bxb_28 := Lib.hid (box_below BX_bxb_27.out hb28)
  clear BX_bxb_27
  have F371_bxb_29 := Lib.hid (box_below F370_bxb_28.out hb29)
  clear F370_bxb_28
  have F372_bxb_30 := Lib.hid (box_below F371_bxb_29.out hb30)
  clear F371_bxb_29
  have F373_bxb_31 := Lib.hid (box_below F372_bxb_30.out hb31)
  clear F372_bxb_30
  have F374_bxb_32 := Lib.hid (box_below F373_bxb_31.out hb32)
  clear F373_bxb_31
  have F375_bxb_33 := Lib.hid (box_below F374_bxb_32.out hb33)
  clear F374_bxb_32
  have F376_bxb_34 := Lib.hid (box_below F375_bxb_33.out hb34)
  clear F375_bxb_33
  have F377_bxb_35 := Lib.hid (box_below F376_bxb_34.out hb35)
  clear F376_bxb_34
  have F378_bxb_36 := Lib.hid (box_below F377_bxb_35.out hb36)
  clear F377_bxb_35
  have F379_bxb_37 := Lib.hid (box_below F378_bxb_36.out hb37)
  clear F378_bxb_36
  have F380_bxb_38 := Lib.hid (box_below F379_bxb_37.out hb38)
  clear F379_bxb_37
  have F381_bxb_39 := Lib.hid (box_below F380_bxb_38.out hb39)
  clear F380_bxb_38
  have F382_bxb_40 := Lib.hid (box_below F381_bxb_39.out hb40)
  clear F381_bxb_39
  have F383_pb_26 := Lib.hid (box_below F184_pb_25.out hb26)
  clear F184_pb_25
  have F384_pb_27 := Lib.hid (box_below F383_pb_26.out hb27)
  clear F383_pb_26
  have F385_pb_28 := Lib.hid (box_below F384_pb_27.out hb28)
  clear F384_pb_27
  have F386_pb_29 := Lib.hid (box_below F385_pb_28.out hb29)
  clear F385_pb_28
  have F387_pb_30 := Lib.hid (box_below F386_pb_29.out hb30)
  clear F386_pb_29
  have F388_pb_31 := Lib.hid (box_below F387_pb_30.out hb31)
  clear F387_pb_30
  have F389_pb_32 := Lib.hid (box_below F388_pb_31.out hb32)
  clear F388_pb_31
  have F390_pb_33 := Lib.hid (box_below F389_pb_32.out hb33)
  clear F389_pb_32
  have F391_pb_34 := Lib.hid (box_below F390_pb_33.out hb34)
  clear F390_pb_33
  have F392_pb_35 := Lib.hid (box_below F391_pb_34.out hb35)
  clear F391_pb_34
  have F393_pb_36 := Lib.hid (box_below F392_pb_35.out hb36)
  clear F392_pb_35
  have F394_pb_37 := Lib.hid (box_below F393_pb_36.out hb37)
  clear F393_pb_36
  have F395_pb_38 := Lib.hid (box_below F394_pb_37.out hb38)
  clear F394_pb_37
  have F396_pb_39 := Lib.hid (box_below F395_pb_38.out hb39)
  clear F395_pb_38
  have F397_pb_40 := Lib.hid (box_below F396_pb_39.out hb40)
  clear F396_pb_39
  have F398_xb_28 := F210_xb_27.below hb28
  clear F210_xb_27
  have F399_xb_29 := F398_xb_28.below hb29
  clear F398_xb_28
  have F400_xb_30 := F399_xb_29.below hb30
  clear F399_xb_29
  have F401_xb_31 := F400_xb_30.below hb31
  clear F400_xb_30
  have F402_xb_32 := F401_xb_31.below hb32
  clear F401_xb_31
  have F403_xb_33 := F402_xb_32.below hb33
  clear F402_xb_32
  have F404_xb_34 := F403_xb_33.below hb34
  clear F403_xb_33
  have F405_xb_35 := F404_xb_34.below hb35
  clear F404_xb_34
  have F406_xb_36 := F405_xb_35.below hb36
  clear F405_xb_35
  have F407_xb_37 := F406_xb_36.below hb37
  clear F406_xb_36
  have F408_xb_38 := F407_xb_37.below hb38
  clear F407_xb_37
  have F409_xb_39 := F408_xb_38.below hb39
  clear F408_xb_38
  have F410_xb_40 := F409_xb_39.below hb40
  clear F409_xb_39
  go_wp2_with (fail)
  refine beginH (fun w' => w'.heap[(w26).heap.size]? = some (.cells #[.slice A26 n26 c26, .slice B26 m26 d26] 47) ∧ w'.heap[(w).heap.size + 1 + 1 + 1 + 1]? = some (.cells #[.slice Ab nb cb, .slice Bb mb db] 43)) (by kernel_rfl) ?_
  have hb41 : Below (w40).heap.size (w40) (w40).drew := below_drewN (Below.refl _ _) 1
  have hB41 := below_trans hB40 hb41 hB40.size
  have F412_bxb_41 := Lib.hid (box_below F382_bxb_40.out hb41)
  clear F382_bxb_40
  have F413_pb_41 := Lib.hid (box_below F397_pb_40.out hb41)
  clear F397_pb_40
  have F414_xb_41 := F410_xb_40.below hb41
  clear F410_xb_40
  refine takeH 0 (v := ?_) rfl (by kernel_rfl) (by kernel_rfl) (by kernel_rfl) (fun _ _ _ h => h) ⟨F412_bxb_41.out, F413_pb_41.out⟩ (by rfl) (fun W' hW' => ?_) ?_; rotate_left; · (obtain ⟨q1, q2⟩ := hW'; obtain ⟨⟨ca0, ca1⟩, gca0, gca1⟩ := box2 q1; obtain ⟨⟨cb0, cb1⟩, gcb0, gcb1⟩ := box2 q2; clear q1 q2; go_simp; first | done | with_reducible rfl)
  simp only [Act.put, List.setIfInBounds_toArray, List.set_cons_zero, List.set_cons_succ]
  refine takeH 1 (v := ?_) rfl (by kernel_rfl) (by kernel_rfl) (by kernel_rfl) (fun _ _ _ h => h) ⟨F412_bxb_41.out, F413_pb_41.out⟩ (by rfl) (fun W' hW' => ?_) ?_; rotate_left; · (obtain ⟨q1, q2⟩ := hW'; obtain ⟨⟨ca0, ca1⟩, gca0, gca1⟩ := box2 q1; obtain ⟨⟨cb0, cb1⟩, gcb0, gcb1⟩ := box2 q2; clear q1 q2; go_simp; first | done | with_reducible rfl)
  simp only [Act.put, List.setIfInBounds_toArray, List.set_cons_zero, List.set_cons_succ]
  refine' callH 2 (f := _) (args := _) rfl (by kernel_rfl) (by rfl) ?_ ?_; rotate_left 2; · (go_simp; first | done | with_reducible rfl | (constructor <;> with_reducible rfl))
  refine (toMatch_law (hb.below hB41) okb).mono ?_
  rintro e w42 ⟨v42, fp42, rfl, o42, fr42, hb42⟩
  have hB42 := below_trans hB41 hb42 hB41.size
  have F415_bxb_42 := Lib.hid (box_below F412_bxb_41.out hb42)
  clear F412_bxb_41
  have F416_pb_42 := Lib.hid (box_below F413_pb_41.out hb42)
  clear F413_pb_41
  have F417_xb_42 := F414_xb_41.below hb42
  clear F414_xb_41
  refine ⟨_, rfl, ⟨F415_bxb_42.out, F416_pb_42.out⟩, ?_⟩
  simp only [Act.put, List.setIfInBounds_toArray, List.set_cons_zero, List.set_cons_succ]
  refine' callH 3 (f := _) (args := _) rfl (by kernel_rfl) (by rfl) ?_ ?_; rotate_left 2; · (go_simp; first | done | with_reducible rfl | (constructor <;> with_reducible rfl))
  refine (eqMatch_law F417_xb_42.rd o42.rd okb).mono ?_
  rintro e w43 ⟨rfl, hb43⟩
  have hB43 := below_trans hB42 hb43 hB42.size
  have F418_bxb_43 := Lib.hid (box_below F415_bxb_42.out hb43)
  clear F415_bxb_42
  have F419_pb_43 := Lib.hid (box_below F416_pb_42.out hb43)
  clear F416_pb_42
  have F420_xb_43 := F417_xb_42.below hb43
  clear F417_xb_42
  refine ⟨_, rfl, ⟨F418_bxb_43.out, F419_pb_43.out⟩, ?_⟩
  rw [decide_eq_true (rfl : b = b)]
  simp only [Act.put, List.setIfInBounds_toArray, List.set_cons_zero, List.set_cons_succ]
  refine takeH 4 (v := .bool false) rfl (by kernel_rfl) (by kernel_rfl) (by kernel_rfl) (fun _ _ _ h => h) ⟨F418_bxb_43.out, F419_pb_43.out⟩ (by rfl) (fun W' hW' => ?_) ?_; · (go_simp; first | done | with_reducible rfl)
  simp only [Act.put, List.setIfInBounds_toArray, List.set_cons_zero, List.set_cons_succ]
  refine doneH (by kernel_rfl) ?_
  go_wp2_with (fail)
  go_ret
  exact ⟨rfl, hB43⟩

theorem readAreApart : ∀ t ∈ Try.f8.params.toList, Try.prog.readableRec t = true ∧ t < Try.prog.types.size := by
  rw [Try.params8]
  intro t ht
  have ht' : t ∈ ([25, 25, 43, 25, 43] : List TypeId) := ht
  rcases List.mem_cons.1 ht' with rfl | ht'
  · exact ⟨by kernel_rfl, of_decide_eq_true (by kernel_rfl)⟩
  rcases List.mem_cons.1 ht' with rfl | ht'
  · exact ⟨by kernel_rfl, of_decide_eq_true (by kernel_rfl)⟩
  rcases List.mem_cons.1 ht' with rfl | ht'
  · exact ⟨by kernel_rfl, of_decide_eq_true (by kernel_rfl)⟩
  rcases List.mem_cons.1 ht' with rfl | ht'
  · exact ⟨by kernel_rfl, of_decide_eq_true (by kernel_rfl)⟩
  rcases List.mem_cons.1 ht' with rfl | ht'
  · exact ⟨by kernel_rfl, of_decide_eq_true (by kernel_rfl)⟩
  cases ht'
set_option maxRecDepth 100000 in
theorem liftedAreApart (os : Os) (started : os.Started) (H : Type) (enc : TypeId × Value → H) :
    ReturnsInHanded {} Try.checked os 8 .any (Rows.fnExactAreApartSpec.pre6 enc Try.prog Try.f8 Rows.fnExactAreApartRow.domain false) (Rows.fnExactAreApartSpec.post enc Try.prog Try.f8 false true false false) := by
  refine returnsInHanded_of_change (C := Try.checked) own started (by kernel_rfl) Try.func8
    (ChangeSpec.witness6 (enc := enc) (C := Try.checked) false ⟨#[], #[.agg #[.int .i64 0, .slice none 0 0, .slice none 0 0, .slice none 0 0], .agg #[.int .i64 0, .slice none 0 0, .slice none 0 0, .slice none 0 0], .agg #[.slice none 0 0, .slice none 0 0], .agg #[.int .i64 0, .slice none 0 0, .slice none 0 0, .slice none 0 0], .agg #[.slice none 0 0, .slice none 0 0]], []⟩ 8 (by kernel_rfl) (by kernel_rfl) (by kernel_rfl) (by kernel_rfl)) ?_
  intro W base args ds gs before hval0 hW hcnd _
  have hval : ∀ (j : Nat) t v, Try.f8.params[j]? = some t → args[j]? = some v → Value.okWide Try.prog W .any base t v := hval0
  have hW' := hW
  obtain ⟨p, q, hA0, hV, rfl, hfz, hnd⟩ := hW
  have hA : DataW.TrodAll enc Try.prog W 0 (fun _ => true) true Try.f8.params.toList args.toList ds p := hA0
  rw [Try.params8] at hA hval
  obtain ⟨v0, vs0, d0, ds0, p0, q0, hargs, rfl, rfl, t0, r0⟩ := trodAll_cons hA
  obtain ⟨v1, vs1, d1, ds1, p1, q1, rfl, rfl, rfl, t1, r1⟩ := trodAll_cons r0
  obtain ⟨v2, vs2, d2, ds2, p2, q2, rfl, rfl, rfl, t2, r2⟩ := trodAll_cons r1
  obtain ⟨v3, vs3, d3, ds3, p3, q3, rfl, rfl, rfl, t3, r3⟩ := trodAll_cons r2
  obtain ⟨v4, vs4, d4, ds4, p4, q4, rfl, rfl, rfl, t4, r4⟩ := trodAll_cons r3
  obtain ⟨rfl, rfl, rfl⟩ := trodAll_nil r4
  obtain rfl : args = #[v0, v1, v2, v3, v4] := by cases args; simp_all
  obtain ⟨rfl, rfl⟩ := trodVars_none hV
  obtain ⟨m0, hl0, hg0⟩ := in_Graph (hval 0 _ v0 rfl rfl) t0
  obtain ⟨m1, hl1, hg1⟩ := in_Graph (hval 1 _ v1 rfl rfl) t1
  obtain ⟨m2, hl2, hg2⟩ := in_Match (hval 2 _ v2 rfl rfl) t2
  obtain ⟨m3, hl3, hg3⟩ := in_Graph (hval 3 _ v3 rfl rfl) t3
  obtain ⟨m4, hl4, hg4⟩ := in_Match (hval 4 _ v4 rfl rfl) t4
  clear hA0 hval0
  refine (lawAreApart_any v0 m0 v1 m1 v2 m2 v3 m3 v4 m4 W hl0 hg0 hl1 hg1 hl2 hg2 hl3 hg3 hl4 hg4 ).mono fun e W' ⟨he, hb⟩ => ?_
  subst he
  exact ⟨_, rfl, post_true laidOut hW' hb readAreApart (fun n hn => by cases hn) rfl rfl Try.underlying4⟩
theorem provedAreApart : Rows.FnExactAreApartSaid :=
  OpenClaim.holds_of_wide 8 Try.f8 rfl rfl rfl rfl rfl rfl rfl ⟨rfl, rfl, rfl, rfl, rfl⟩ rfl rfl rfl rfl rfl (by kernel_rfl) Try.func8 (by kernel_rfl)
    (of_decide_eq_true (by kernel_rfl)) (by unfold Func.isWrapper; first | (rw [if_pos (by decide +kernel)]; kernel_rfl) | (rw [if_neg (by decide +kernel)]; exact ⟨rfl, rfl⟩))
    (fun os started H enc _ => liftedAreApart os started H enc)
#print axioms provedAreApart
end Go.Proofs.Ytanhmljgeiajoaa
