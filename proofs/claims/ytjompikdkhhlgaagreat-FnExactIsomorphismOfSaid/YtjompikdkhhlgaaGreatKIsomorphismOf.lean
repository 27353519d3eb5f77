/-
  The program's IsomorphismOf returns what the reference's returns, for all arguments (laws.FnExactIsomorphismOf answers true). No condition.
-/
import Derived.Test.YtjompikdkhhlgaaGreatKIsomorphismOf6
namespace Go.Proofs.YtjompikdkhhlgaaGreat
open Go.ChangeShapes Go.WideShapes Go.ChangeAt Go.RowKit
set_option maxHeartbeats 40000000 in
set_option maxRecDepth 100000 in
theorem lawIsomorphismOf_any (va : Value) (a : Gr) (vb : Value) (b : Gr) (w : World) (ha : RdGr w va a) (hga : BigGraph a) (hb : RdGr w vb b) (hgb : BigGraph b) :
  Calls Tryz.prog 5 #[va, vb] w fun e w' => e = .returned (.bool true) ∧ Below w.heap.size w w' := by
 obtain ⟨Aa, na, ca, Ba, ma, da, Ca, ka, ea, rfl⟩ := ha.shape
 obtain ⟨Ab, nb, cb, Bb, mb, db, Cb, kb, eb, rfl⟩ := hb.shape
 obtain ⟨Sa, hSa⟩ : ∃ S, S = szG (a) 1048576 := ⟨_, rfl⟩
 have HSa := lH hSa; clear hSa
 obtain ⟨Sb, hSb⟩ : ∃ S, S = szG (b) Sa := ⟨_, rfl⟩
 have HSb := lH hSb; clear hSb
 have hB0 : Below w.heap.size w w := Below.refl _ _
 have hb1 := t_below_alloc (w) (.cells #[.int .i64 (a).1, .slice Aa na ca, .slice Ba ma da, .slice Ca ka ea] 25)
 have hB1 := below_trans hB0 hb1 hB0.size
 have bx1 := heap_alloc_new (w) (.cells #[.int .i64 (a).1, .slice Aa na ca, .slice Ba ma da, .slice Ca ka ea] 25)
 have lt_pa : LtL ((w).alloc (.cells #[.int .i64 (a).1, .slice Aa na ca, .slice Ba ma da, .slice Ca ka ea] 25)).heap.size [(w).heap.size] := fun b hb => by obtain rfl := List.mem_singleton.1 hb; exact t_box_lt bx1
 have fr_pa : FreshL (w).heap.size [(w).heap.size] := fun b hb => by obtain rfl := List.mem_singleton.1 hb; exact Nat.le_refl _
 have BX_pa_1 := lH bx1; clear bx1
 have hb2 := t_below_alloc ((w).alloc (.cells #[.int .i64 (a).1, .slice Aa na ca, .slice Ba ma da, .slice Ca ka ea] 25)) (.cells #[.int .i64 (b).1, .slice Ab nb cb, .slice Bb mb db, .slice Cb kb eb] 25)
 have hB2 := below_trans hB1 hb2 hB1.size
 have bx2 : (((w).alloc (.cells #[.int .i64 (a).1, .slice Aa na ca, .slice Ba ma da, .slice Ca ka ea] 25)).alloc (.cells #[.int .i64 (b).1, .slice Ab nb cb, .slice Bb mb db, .slice Cb kb eb] 25)).heap[(w).heap.size + 1]? = some (.cells #[.int .i64 (b).1, .slice Ab nb cb, .slice Bb mb db, .slice Cb kb eb] 25) := by
  have := heap_alloc_new ((w).alloc (.cells #[.int .i64 (a).1, .slice Aa na ca, .slice Ba ma da, .slice Ca ka ea] 25)) (.cells #[.int .i64 (b).1, .slice Ab nb cb, .slice Bb mb db, .slice Cb kb eb] 25)
  simp only [World.size_alloc] at this; exact this
 have lt_pb : LtL (((w).alloc (.cells #[.int .i64 (a).1, .slice Aa na ca, .slice Ba ma da, .slice Ca ka ea] 25)).alloc (.cells #[.int .i64 (b).1, .slice Ab nb cb, .slice Bb mb db, .slice Cb kb eb] 25)).heap.size [(w).heap.size + 1] := fun b hb => by obtain rfl := List.mem_singleton.1 hb; exact t_box_lt bx2
 have fr_pb : FreshL ((w).alloc (.cells #[.int .i64 (a).1, .slice Aa na ca, .slice Ba ma da, .slice Ca ka ea] 25)).heap.size [(w).heap.size + 1] := fun b hb => by obtain rfl := List.mem_singleton.1 hb; simp only [World.size_alloc]; exact Nat.le_refl _
 have BX_pb_2 := lH bx2; clear bx2
 by_cases nega : Sa < 0
 case pos =>
  go_enter Tryz.func5, Tryz.ntmps5
  have F1_pa_2 := lH (t_box_below BX_pa_1.out hb2)
  clear BX_pa_1
  obtain ⟨⟨c2_0, c2_1, c2_2, c2_3⟩, f2_0, f2_1, f2_2, f2_3⟩ := t_box4 F1_pa_2.out
  go_wp2_with (fail)
  refine (szGraph_law 1048576 (ha.below hB2) hga (by omega) (by omega)).mono ?_
  rintro e w3 ⟨he3, hb3⟩
  have hB3 := below_trans hB2 hb3 hB2.size
  clear c2_0 c2_1 c2_2 c2_3 f2_0 f2_1 f2_2 f2_3
  rw [← HSa.out] at he3
  subst he3
  go_wp2_with (fail)
  go_ret
  exact ⟨rfl, hB3⟩
 have soka := szG_ok (by rw [← HSa.out]; omega : 0 ≤ szG (a) 1048576) (by omega)
 have oka := soka.1
 have slea : Sa ≤ 1048576 := by rw [HSa.out]; exact soka.2
 clear soka
 by_cases negb : Sb < 0
 case pos =>
  go_enter Tryz.func5, Tryz.ntmps5
  have F3_pa_2 := lH (t_box_below BX_pa_1.out hb2)
  clear BX_pa_1
  obtain ⟨⟨c4_0, c4_1, c4_2, c4_3⟩, f4_0, f4_1, f4_2, f4_3⟩ := t_box4 F3_pa_2.out
  go_wp2_with (fail)
  refine (szGraph_law 1048576 (ha.below hB2) hga (by omega) (by omega)).mono ?_
  rintro e w3 ⟨he3, hb3⟩
  have hB3 := below_trans hB2 hb3 hB2.size
  clear c4_0 c4_1 c4_2 c4_3 f4_0 f4_1 f4_2 f4_3
  rw [← HSa.out] at he3
  subst he3
  have F5_pb_3 := lH (t_box_below BX_pb_2.out hb3)
  clear BX_pb_2
  obtain ⟨⟨c6_0, c6_1, c6_2, c6_3⟩, f6_0, f6_1, f6_2, f6_3⟩ := t_box4 F5_pb_3.out
  go_wp2_with (fail)
  refine (szGraph_law Sa (hb.below hB3) hgb (by omega) (by omega)).mono ?_
  rintro e w4 ⟨he4, hb4⟩
  have hB4 := below_trans hB3 hb4 hB3.size
  clear c6_0 c6_1 c6_2 c6_3 f6_0 f6_1 f6_2 f6_3
  rw [← HSb.out] at he4
  subst he4
  go_wp2_with (fail)
  go_ret
  exact ⟨rfl, hB4⟩
 have sokb := szG_ok (by rw [← HSb.out]; omega : 0 ≤ szG (b) Sa) (by omega)
 have okb := sokb.1
 have sleb : Sb ≤ Sa := by rw [HSb.out]; exact sokb.2
 clear sokb
 go_enter Tryz.func5, Tryz.ntmps5
 have F7_pa_2 := lH (t_box_below BX_pa_1.out hb2)
 clear BX_pa_1
 obtain ⟨⟨c8_0, c8_1, c8_2, c8_3⟩, f8_0, f8_1, f8_2, f8_3⟩ := t_box4 F7_pa_2.out
 go_wp2_with (fail)
 refine (szGraph_law 1048576 (ha.below hB2) hga (by omega) (by omega)).mono ?_
 rintro e w3 ⟨he3, hb3⟩
 have hB3 := below_trans hB2 hb3 hB2.size
 clear c8_0 c8_1 c8_2 c8_3 f8_0 f8_1 f8_2 f8_3
 rw [← HSa.out] at he3
 subst he3
 have F9_pb_3 := lH (t_box_below BX_pb_2.out hb3)
 clear BX_pb_2
 obtain ⟨⟨c10_0, c10_1, c10_2, c10_3⟩, f10_0, f10_1, f10_2, f10_3⟩ := t_box4 F9_pb_3.out
 go_wp2_with (fail)
 refine (szGraph_law Sa (hb.below hB3) hgb (by omega) (by omega)).mono ?_
 rintro e w4 ⟨he4, hb4⟩
 have hB4 := below_trans hB3 hb4 hB3.size
 clear c10_0 c10_1 c10_2 c10_3 f10_0 f10_1 f10_2 f10_3
 rw [← HSb.out] at he4
 subst he4
 have F11_pa_3 := lH (t_box_below F7_pa_2.out hb3)
 clear F7_pa_2
 have F12_pa_4 := lH (t_box_below F11_pa_3.out hb4)
 clear F11_pa_3
 have F13_pb_4 := lH (t_box_below F9_pb_3.out hb4)
 clear F9_pb_3
 go_wp2_with (fail)
 go_cut [6, 7] (fun sb sf wx => ∃ (B14 nX14 cX14 mX14 dX14 : Nat) (AX14 BX14 : Option Addr) (fpx14 : List Nat), sb = .pointer (some ⟨B14, 0, none⟩) ∧ sf = .bool (ioR a b).2 ∧ wx.heap[B14]? = some (.cells #[.slice AX14 nX14 cX14, .slice BX14 mX14 dX14] 40) ∧ OwMa wx (.agg #[.slice AX14 nX14 cX14, .slice BX14 mX14 dX14]) ((ioR a b).1) fpx14 ∧ FreshL (w4).heap.size fpx14 ∧ (w4).heap.size ≤ B14 ∧ Below (w4).heap.size (w4) wx)
 case first =>
  refine beginH (fun w' => w'.heap[(w).heap.size]? = some (.cells #[.int .i64 (a).1, .slice Aa na ca, .slice Ba ma da, .slice Ca ka ea] 25) ∧ w'.heap[(w).heap.size + 1]? = some (.cells #[.int .i64 (b).1, .slice Ab nb cb, .slice Bb mb db, .slice Cb kb eb] 25)) (by kernel_rfl) ?_
  have hb5 : Below (w4).heap.size (w4) (w4).drew := below_drewN (Below.refl _ _) 1
  have hB5 := below_trans hB4 hb5 hB4.size
  have F15_pa_5 := lH (t_box_below F12_pa_4.out hb5)
  clear F12_pa_4
  have F16_pb_5 := lH (t_box_below F13_pb_4.out hb5)
  clear F13_pb_4
  refine tkH 0 ?_ rfl ⟨F15_pa_5.out, F16_pb_5.out⟩ (fun W' hW' => ?_) ?_; rotate_left; · (obtain ⟨q0, q1⟩ := hW'; obtain ⟨⟨ca0_0, ca0_1, ca0_2, ca0_3⟩, ga0_0, ga0_1, ga0_2, ga0_3⟩ := t_box4 q0; obtain ⟨⟨ca1_0, ca1_1, ca1_2, ca1_3⟩, ga1_0, ga1_1, ga1_2, ga1_3⟩ := t_box4 q1; clear q0 q1; go_simp; first | done | with_reducible rfl)
  simp only [Act.put, nS]
  refine tkH 2 ?_ rfl ⟨F15_pa_5.out, F16_pb_5.out⟩ (fun W' hW' => ?_) ?_; rotate_left; · (obtain ⟨q0, q1⟩ := hW'; obtain ⟨⟨ca0_0, ca0_1, ca0_2, ca0_3⟩, ga0_0, ga0_1, ga0_2, ga0_3⟩ := t_box4 q0; obtain ⟨⟨ca1_0, ca1_1, ca1_2, ca1_3⟩, ga1_0, ga1_1, ga1_2, ga1_3⟩ := t_box4 q1; clear q0 q1; go_simp; first | done | with_reducible rfl)
  simp only [Act.put, nS]
  refine callOrH 1 8 (f := ?f17) (args := ?args17) (vj := ?vj17) (wj := ?wj17) rfl rfl (by kernel_rfl) (by rfl) (by rfl) ?hrun17 ?hrunj17 ?h117 ?hSj17 ?h217
  case hrun17 => (go_simp; first | done | with_reducible rfl | (constructor <;> with_reducible rfl))
  case hrunj17 => (go_simp; first | done | with_reducible rfl | (constructor <;> with_reducible rfl))
  case hSj17 => exact ⟨(t_box_below F15_pa_5.out (t_below_alloc _ _)), (t_box_below F16_pb_5.out (t_below_alloc _ _))⟩
  case h117 =>
   refine (toGraph_law (ha.below hB5) oka).mono ?_
   rintro e w6 ⟨v6, fp6, rfl, o6, fr6, hb6⟩
   have hB6 := below_trans hB5 hb6 hB5.size
   have F18_pa_6 := lH (t_box_below F15_pa_5.out hb6)
   clear F15_pa_5
   have F19_pb_6 := lH (t_box_below F16_pb_5.out hb6)
   clear F16_pb_5
   refine ⟨_, rfl, ⟨F18_pa_6.out, F19_pb_6.out⟩, ?_⟩
   obtain ⟨A6, n6, c6, B6, m6, d6, C6, k6, e6, rfl⟩ := o6.shape
   have lt_aa := o6.lt
   simp only [Act.put, nS]
   refine callOrH 3 8 (f := ?f20) (args := ?args20) (vj := ?vj20) (wj := ?wj20) rfl rfl (by kernel_rfl) (by rfl) (by rfl) ?hrun20 ?hrunj20 ?h120 ?hSj20 ?h220
   case hrun20 => (go_simp; first | done | with_reducible rfl | (constructor <;> with_reducible rfl))
   case hrunj20 => (go_simp; first | done | with_reducible rfl | (constructor <;> with_reducible rfl))
   case hSj20 => exact ⟨(t_box_below F18_pa_6.out (t_below_alloc _ _)), (t_box_below F19_pb_6.out (t_below_alloc _ _))⟩
   case h120 =>
    refine (toGraph_law (hb.below hB6) okb).mono ?_
    rintro e w7 ⟨v7, fp7, rfl, o7, fr7, hb7⟩
    have hB7 := below_trans hB6 hb7 hB6.size
    have F21_pa_7 := lH (t_box_below F18_pa_6.out hb7)
    clear F18_pa_6
    have F22_pb_7 := lH (t_box_below F19_pb_6.out hb7)
    clear F19_pb_6
    refine ⟨_, rfl, ⟨F21_pa_7.out, F22_pb_7.out⟩, ?_⟩
    obtain ⟨A7, n7, c7, B7, m7, d7, C7, k7, e7, rfl⟩ := o7.shape
    have lt_ab := o7.lt
    simp only [Act.put, nS]
    refine callOrH 4 8 (f := ?f23) (args := ?args23) (vj := ?vj23) (wj := ?wj23) rfl rfl (by kernel_rfl) (by rfl) (by rfl) ?hrun23 ?hrunj23 ?h123 ?hSj23 ?h223
    case hrun23 => (go_simp; first | done | with_reducible rfl | (constructor <;> with_reducible rfl))
    case hrunj23 => (go_simp; first | done | with_reducible rfl | (constructor <;> with_reducible rfl))
    case hSj23 => exact ⟨(t_box_below F21_pa_7.out (t_below_alloc _ _)), (t_box_below F22_pb_7.out (t_below_alloc _ _))⟩
    case h123 =>
     have F24_aa_7 := o6.below hb7
     clear o6
     refine (sIsomorphismOf_law  F24_aa_7.rd o7.rd oka okb).mono ?_
     rintro e w8 ⟨v8_0, fp8_0, rfl, o8r0, fr8_0, hb8⟩
     have hB8 := below_trans hB7 hb8 hB7.size
     have F25_pa_8 := lH (t_box_below F21_pa_7.out hb8)
     clear F21_pa_7
     have F26_pb_8 := lH (t_box_below F22_pb_7.out hb8)
     clear F22_pb_7
     refine ⟨_, rfl, ⟨F25_pa_8.out, F26_pb_8.out⟩, ?_⟩
     obtain ⟨A8_0, n8_0, c8_0, B8_0, m8_0, d8_0, rfl⟩ := o8r0.shape
     simp only [Act.put, nS]
     refine tkH 5 ?_ rfl ⟨F25_pa_8.out, F26_pb_8.out⟩ (fun W' hW' => ?_) ?_; rotate_left; · (obtain ⟨q0, q1⟩ := hW'; obtain ⟨⟨ca0_0, ca0_1, ca0_2, ca0_3⟩, ga0_0, ga0_1, ga0_2, ga0_3⟩ := t_box4 q0; obtain ⟨⟨ca1_0, ca1_1, ca1_2, ca1_3⟩, ga1_0, ga1_1, ga1_2, ga1_3⟩ := t_box4 q1; clear q0 q1; go_simp; first | done | with_reducible rfl)
     simp only [Act.put, nS]
     refine tkH 6 ?_ rfl ⟨F25_pa_8.out, F26_pb_8.out⟩ (fun W' hW' => ?_) ?_; rotate_left; · (obtain ⟨q0, q1⟩ := hW'; obtain ⟨⟨ca0_0, ca0_1, ca0_2, ca0_3⟩, ga0_0, ga0_1, ga0_2, ga0_3⟩ := t_box4 q0; obtain ⟨⟨ca1_0, ca1_1, ca1_2, ca1_3⟩, ga1_0, ga1_1, ga1_2, ga1_3⟩ := t_box4 q1; clear q0 q1; go_simp; first | done | with_reducible rfl)
     simp only [Act.put, nS]
     refine tkH 7 ?_ rfl ⟨F25_pa_8.out, F26_pb_8.out⟩ (fun W' hW' => ?_) ?_; rotate_left; · (obtain ⟨q0, q1⟩ := hW'; obtain ⟨⟨ca0_0, ca0_1, ca0_2, ca0_3⟩, ga0_0, ga0_1, ga0_2, ga0_3⟩ := t_box4 q0; obtain ⟨⟨ca1_0, ca1_1, ca1_2, ca1_3⟩, ga1_0, ga1_1, ga1_2, ga1_3⟩ := t_box4 q1; clear q0 q1; go_simp; first | done | with_reducible rfl)
     simp only [Act.put, nS]
     have hd4 : Below (w4).heap.size (w4) (w4) := Below.refl _ _
     have hd5 := below_trans hd4 hb5 hd4.size
     have hd6 := below_trans hd5 hb6 hd5.size
     have hd7 := below_trans hd6 hb7 hd6.size
     have hd8 := below_trans hd7 hb8 hd7.size
     refine oneH 8 rfl (by kernel_rfl) (by rfl) (fun K hK => ?_)
     go_simp
     refine hK _ _ ⟨(t_box_below F25_pa_8.out (t_below_alloc _ _)), (t_box_below F26_pb_8.out (t_below_alloc _ _))⟩ ?_
     clear hK K
     refine oneH 9 rfl (by kernel_rfl) (by rfl) (fun K hK => ?_)
     go_simp
     refine hK _ _ ⟨(t_box_below F25_pa_8.out (t_below_alloc _ _)), (t_box_below F26_pb_8.out (t_below_alloc _ _))⟩ ?_
     clear hK K
     refine tkH 10 ?_ rfl ⟨(t_box_below F25_pa_8.out (t_below_alloc _ _)), (t_box_below F26_pb_8.out (t_below_alloc _ _))⟩ (fun W' hW' => ?_) ?_; rotate_left; · (obtain ⟨q0, q1⟩ := hW'; obtain ⟨⟨ca0_0, ca0_1, ca0_2, ca0_3⟩, ga0_0, ga0_1, ga0_2, ga0_3⟩ := t_box4 q0; obtain ⟨⟨ca1_0, ca1_1, ca1_2, ca1_3⟩, ga1_0, ga1_1, ga1_2, ga1_3⟩ := t_box4 q1; clear q0 q1; go_simp; first | done | with_reducible rfl)
     simp only [Act.put, nS]
     refine doneH (by kernel_rfl) ?_
     go_wp2_with (fail)
     go_meet
     exact ⟨_, _, _, _, _, _, _, _, rfl, rfl, heap_alloc_new _ _, o8r0.below (t_below_alloc _ _), (fr8_0.mono (Nat.le_trans (Nat.le_trans (Nat.le_trans (Nat.le_refl _) hb5.size) hb6.size) hb7.size)), hd8.size, below_trans hd8 (t_below_alloc _ _) hd8.size⟩
    case h223 =>
     have lp27_pa := t_box_lt F21_pa_7.out
     have lp28_pb := t_box_lt F22_pb_7.out
     have hb8 := t_below_alloc (w7) (.cells #[.slice none 0 0, .slice none 0 0] 40)
     have bz8 := lH (show ((w7).alloc (.cells #[.slice none 0 0, .slice none 0 0] 40)).heap[(w7).heap.size]? = some (.cells #[.slice none 0 0, .slice none 0 0] 40) from heap_alloc_new (w7) (.cells #[.slice none 0 0, .slice none 0 0] 40))
     have hB8 := below_trans hB7 hb8 hB7.size
     simp only [Act.put, nS]
     refine' callH 4 (f := _) (args := _) rfl (by kernel_rfl) (by rfl) ?_ ?_; rotate_left 2; · (go_simp; first | done | with_reducible rfl | (constructor <;> with_reducible rfl))
     have lB29 := t_box_lt bz8.out
     have F30_aa_7 := o6.below hb7
     clear o6
     have F31_aa_8 := F30_aa_7.below hb8
     clear F30_aa_7
     have F32_ab_8 := o7.below hb8
     clear o7
     refine (sIsomorphismOf_law  F31_aa_8.rd F32_ab_8.rd oka okb).mono ?_
     rintro e w9 ⟨v9_0, fp9_0, rfl, o9r0, fr9_0, hb9⟩
     have hB9 := below_trans hB8 hb9 hB8.size
     have F33_pa_8 := lH (t_box_below F21_pa_7.out hb8)
     clear F21_pa_7
     have F34_pa_9 := lH (t_box_below F33_pa_8.out hb9)
     clear F33_pa_8
     have F35_pb_8 := lH (t_box_below F22_pb_7.out hb8)
     clear F22_pb_7
     have F36_pb_9 := lH (t_box_below F35_pb_8.out hb9)
     clear F35_pb_8
     refine ⟨_, rfl, ⟨F34_pa_9.out, F36_pb_9.out⟩, ?_⟩
     obtain ⟨A9_0, n9_0, c9_0, B9_0, m9_0, d9_0, rfl⟩ := o9r0.shape
     simp only [Act.put, nS]
     refine tkH 5 ?_ rfl ⟨F34_pa_9.out, F36_pb_9.out⟩ (fun W' hW' => ?_) ?_; rotate_left; · (obtain ⟨q0, q1⟩ := hW'; obtain ⟨⟨ca0_0, ca0_1, ca0_2, ca0_3⟩, ga0_0, ga0_1, ga0_2, ga0_3⟩ := t_box4 q0; obtain ⟨⟨ca1_0, ca1_1, ca1_2, ca1_3⟩, ga1_0, ga1_1, ga1_2, ga1_3⟩ := t_box4 q1; clear q0 q1; go_simp; first | done | with_reducible rfl)
     simp only [Act.put, nS]
     refine tkH 6 ?_ rfl ⟨F34_pa_9.out, F36_pb_9.out⟩ (fun W' hW' => ?_) ?_; rotate_left; · (obtain ⟨q0, q1⟩ := hW'; obtain ⟨⟨ca0_0, ca0_1, ca0_2, ca0_3⟩, ga0_0, ga0_1, ga0_2, ga0_3⟩ := t_box4 q0; obtain ⟨⟨ca1_0, ca1_1, ca1_2, ca1_3⟩, ga1_0, ga1_1, ga1_2, ga1_3⟩ := t_box4 q1; clear q0 q1; go_simp; first | done | with_reducible rfl)
     simp only [Act.put, nS]
     refine tkH 7 ?_ rfl ⟨F34_pa_9.out, F36_pb_9.out⟩ (fun W' hW' => ?_) ?_; rotate_left; · (obtain ⟨q0, q1⟩ := hW'; obtain ⟨⟨ca0_0, ca0_1, ca0_2, ca0_3⟩, ga0_0, ga0_1, ga0_2, ga0_3⟩ := t_box4 q0; obtain ⟨⟨ca1_0, ca1_1, ca1_2, ca1_3⟩, ga1_0, ga1_1, ga1_2, ga1_3⟩ := t_box4 q1; clear q0 q1; go_simp; first | done | with_reducible rfl)
     simp only [Act.put, nS]
     have hd4 : Below (w4).heap.size (w4) (w4) := Below.refl _ _
     have hd5 := below_trans hd4 hb5 hd4.size
     have hd6 := below_trans hd5 hb6 hd5.size
     have hd7 := below_trans hd6 hb7 hd6.size
     have hd8 := below_trans hd7 hb8 hd7.size
     have hd9 := below_trans hd8 hb9 hd8.size
     have F37_zbox_9 := lH (t_box_below bz8.out hb9)
     clear bz8
     obtain ⟨s1, s2⟩ := t_set2 (a := .slice A9_0 n9_0 c9_0) (b := .slice B9_0 m9_0 d9_0) F37_zbox_9.out
     obtain ⟨⟨z0, z1⟩, z2, z3⟩ := t_box2 F37_zbox_9.out
     have o2 := o9r0.keeps s2 (fun b hb e => by have := fr9_0 b hb; have := lB29; omega)
     have hdf := below_keeps hd9 s2 hd9.size (fun k hk => by rw [hk]; exact hd7.size)
     refine oneH 9 rfl (by kernel_rfl) (by rfl) (fun K hK => ?_)
     go_simp
     refine hK _ _ ⟨(t_box_keeps F34_pa_9.out s2 (fun e => Nat.ne_of_lt lp27_pa e)), (t_box_keeps F36_pb_9.out s2 (fun e => Nat.ne_of_lt lp28_pb e))⟩ ?_
     clear hK K
     refine tkH 10 ?_ rfl ⟨(t_box_keeps F34_pa_9.out s2 (fun e => Nat.ne_of_lt lp27_pa e)), (t_box_keeps F36_pb_9.out s2 (fun e => Nat.ne_of_lt lp28_pb e))⟩ (fun W' hW' => ?_) ?_; rotate_left; · (obtain ⟨q0, q1⟩ := hW'; obtain ⟨⟨ca0_0, ca0_1, ca0_2, ca0_3⟩, ga0_0, ga0_1, ga0_2, ga0_3⟩ := t_box4 q0; obtain ⟨⟨ca1_0, ca1_1, ca1_2, ca1_3⟩, ga1_0, ga1_1, ga1_2, ga1_3⟩ := t_box4 q1; clear q0 q1; go_simp; first | done | with_reducible rfl)
     simp only [Act.put, nS]
     refine doneH (by kernel_rfl) ?_
     go_wp2_with (fail)
     go_meet
     exact ⟨_, _, _, _, _, _, _, _, rfl, rfl, s1, o2, (fr9_0.mono (Nat.le_trans (Nat.le_trans (Nat.le_trans (Nat.le_trans (Nat.le_refl _) hb5.size) hb6.size) hb7.size) hb8.size)), hd7.size, hdf⟩
   case h220 =>
    have lp38_pa := t_box_lt F18_pa_6.out
    have lp39_pb := t_box_lt F19_pb_6.out
    have hb7 := t_below_alloc (w6) (.cells #[.slice none 0 0, .slice none 0 0] 40)
    have bz7 := lH (show ((w6).alloc (.cells #[.slice none 0 0, .slice none 0 0] 40)).heap[(w6).heap.size]? = some (.cells #[.slice none 0 0, .slice none 0 0] 40) from heap_alloc_new (w6) (.cells #[.slice none 0 0, .slice none 0 0] 40))
    have hB7 := below_trans hB6 hb7 hB6.size
    simp only [Act.put, nS]
    refine' callH 3 (f := _) (args := _) rfl (by kernel_rfl) (by rfl) ?_ ?_; rotate_left 2; · (go_simp; first | done | with_reducible rfl | (constructor <;> with_reducible rfl))
    refine (toGraph_law (hb.below hB7) okb).mono ?_
    rintro e w8 ⟨v8, fp8, rfl, o8, fr8, hb8⟩
    have hB8 := below_trans hB7 hb8 hB7.size
    have F40_pa_7 := lH (t_box_below F18_pa_6.out hb7)
    clear F18_pa_6
    have F41_pa_8 := lH (t_box_below F40_pa_7.out hb8)
    clear F40_pa_7
    have F42_pb_7 := lH (t_box_below F19_pb_6.out hb7)
    clear F19_pb_6
    have F43_pb_8 := lH (t_box_below F42_pb_7.out hb8)
    clear F42_pb_7
    refine ⟨_, rfl, ⟨F41_pa_8.out, F43_pb_8.out⟩, ?_⟩
    obtain ⟨A8, n8, c8, B8, m8, d8, C8, k8, e8, rfl⟩ := o8.shape
    have lt_ab := o8.lt
    simp only [Act.put, nS]
    refine' callH 4 (f := _) (args := _) rfl (by kernel_rfl) (by rfl) ?_ ?_; rotate_left 2; · (go_simp; first | done | with_reducible rfl | (constructor <;> with_reducible rfl))
    have F45_zbox_8 := lH (t_box_below bz7.out hb8)
    clear bz7
    have lB44 := t_box_lt F45_zbox_8.out
    have F46_aa_7 := o6.below hb7
    clear o6
    have F47_aa_8 := F46_aa_7.below hb8
    clear F46_aa_7
    refine (sIsomorphismOf_law  F47_aa_8.rd o8.rd oka okb).mono ?_
    rintro e w9 ⟨v9_0, fp9_0, rfl, o9r0, fr9_0, hb9⟩
    have hB9 := below_trans hB8 hb9 hB8.size
    have F48_pa_9 := lH (t_box_below F41_pa_8.out hb9)
    clear F41_pa_8
    have F49_pb_9 := lH (t_box_below F43_pb_8.out hb9)
    clear F43_pb_8
    refine ⟨_, rfl, ⟨F48_pa_9.out, F49_pb_9.out⟩, ?_⟩
    obtain ⟨A9_0, n9_0, c9_0, B9_0, m9_0, d9_0, rfl⟩ := o9r0.shape
    simp only [Act.put, nS]
    refine tkH 5 ?_ rfl ⟨F48_pa_9.out, F49_pb_9.out⟩ (fun W' hW' => ?_) ?_; rotate_left; · (obtain ⟨q0, q1⟩ := hW'; obtain ⟨⟨ca0_0, ca0_1, ca0_2, ca0_3⟩, ga0_0, ga0_1, ga0_2, ga0_3⟩ := t_box4 q0; obtain ⟨⟨ca1_0, ca1_1, ca1_2, ca1_3⟩, ga1_0, ga1_1, ga1_2, ga1_3⟩ := t_box4 q1; clear q0 q1; go_simp; first | done | with_reducible rfl)
    simp only [Act.put, nS]
    refine tkH 6 ?_ rfl ⟨F48_pa_9.out, F49_pb_9.out⟩ (fun W' hW' => ?_) ?_; rotate_left; · (obtain ⟨q0, q1⟩ := hW'; obtain ⟨⟨ca0_0, ca0_1, ca0_2, ca0_3⟩, ga0_0, ga0_1, ga0_2, ga0_3⟩ := t_box4 q0; obtain ⟨⟨ca1_0, ca1_1, ca1_2, ca1_3⟩, ga1_0, ga1_1, ga1_2, ga1_3⟩ := t_box4 q1; clear q0 q1; go_simp; first | done | with_reducible rfl)
    simp only [Act.put, nS]
    refine tkH 7 ?_ rfl ⟨F48_pa_9.out, F49_pb_9.out⟩ (fun W' hW' => ?_) ?_; rotate_left; · (obtain ⟨q0, q1⟩ := hW'; obtain ⟨⟨ca0_0, ca0_1, ca0_2, ca0_3⟩, ga0_0, ga0_1, ga0_2, ga0_3⟩ := t_box4 q0; obtain ⟨⟨ca1_0, ca1_1, ca1_2, ca1_3⟩, ga1_0, ga1_1, ga1_2, ga1_3⟩ := t_box4 q1; clear q0 q1; go_simp; first | done | with_reducible rfl)
    simp only [Act.put, nS]
    have hd4 : Below (w4).heap.size (w4) (w4) := Below.refl _ _
    have hd5 := below_trans hd4 hb5 hd4.size
    have hd6 := below_trans hd5 hb6 hd5.size
    have hd7 := below_trans hd6 hb7 hd6.size
    have hd8 := below_trans hd7 hb8 hd7.size
    have hd9 := below_trans hd8 hb9 hd8.size
    have F50_zbox_9 := lH (t_box_below F45_zbox_8.out hb9)
    clear F45_zbox_8
    obtain ⟨s1, s2⟩ := t_set2 (a := .slice A9_0 n9_0 c9_0) (b := .slice B9_0 m9_0 d9_0) F50_zbox_9.out
    obtain ⟨⟨z0, z1⟩, z2, z3⟩ := t_box2 F50_zbox_9.out
    have o2 := o9r0.keeps s2 (fun b hb e => by have := fr9_0 b hb; have := lB44; omega)
    have hdf := below_keeps hd9 s2 hd9.size (fun k hk => by rw [hk]; exact hd6.size)
    refine oneH 9 rfl (by kernel_rfl) (by rfl) (fun K hK => ?_)
    go_simp
    refine hK _ _ ⟨(t_box_keeps F48_pa_9.out s2 (fun e => Nat.ne_of_lt lp38_pa e)), (t_box_keeps F49_pb_9.out s2 (fun e => Nat.ne_of_lt lp39_pb e))⟩ ?_
    clear hK K
    refine tkH 10 ?_ rfl ⟨(t_box_keeps F48_pa_9.out s2 (fun e => Nat.ne_of_lt lp38_pa e)), (t_box_keeps F49_pb_9.out s2 (fun e => Nat.ne_of_lt lp39_pb e))⟩ (fun W' hW' => ?_) ?_; rotate_left; · (obtain ⟨q0, q1⟩ := hW'; obtain ⟨⟨ca0_0, ca0_1, ca0_2, ca0_3⟩, ga0_0, ga0_1, ga0_2, ga0_3⟩ := t_box4 q0; obtain ⟨⟨ca1_0, ca1_1, ca1_2, ca1_3⟩, ga1_0, ga1_1, ga1_2, ga1_3⟩ := t_box4 q1; clear q0 q1; go_simp; first | done | with_reducible rfl)
    simp only [Act.put, nS]
    refine doneH (by kernel_rfl) ?_
    go_wp2_with (fail)
    go_meet
    exact ⟨_, _, _, _, _, _, _, _, rfl, rfl, s1, o2, (fr9_0.mono (Nat.le_trans (Nat.le_trans (Nat.le_trans (Nat.le_trans (Nat.le_refl _) hb5.size) hb6.size) hb7.size) hb8.size)), hd6.size, hdf⟩
  case h217 =>
   have lp51_pa := t_box_lt F15_pa_5.out
   have lp52_pb := t_box_lt F16_pb_5.out
   have hb6 := t_below_alloc ((w4).drew) (.cells #[.slice none 0 0, .slice none 0 0] 40)
   have bz6 := lH (show (((w4).drew).alloc (.cells #[.slice none 0 0, .slice none 0 0] 40)).heap[((w4)).heap.size]? = some (.cells #[.slice none 0 0, .slice none 0 0] 40) from heap_alloc_new ((w4).drew) (.cells #[.slice none 0 0, .slice none 0 0] 40))
   have hB6 := below_trans hB5 hb6 hB5.size
   simp only [Act.put, nS]
   refine' callH 1 (f := _) (args := _) rfl (by kernel_rfl) (by rfl) ?_ ?_; rotate_left 2; · (go_simp; first | done | with_reducible rfl | (constructor <;> with_reducible rfl))
   refine (toGraph_law (ha.below hB6) oka).mono ?_
   rintro e w7 ⟨v7, fp7, rfl, o7, fr7, hb7⟩
   have hB7 := below_trans hB6 hb7 hB6.size
   have F53_pa_6 := lH (t_box_below F15_pa_5.out hb6)
   clear F15_pa_5
   have F54_pa_7 := lH (t_box_below F53_pa_6.out hb7)
   clear F53_pa_6
   have F55_pb_6 := lH (t_box_below F16_pb_5.out hb6)
   clear F16_pb_5
   have F56_pb_7 := lH (t_box_below F55_pb_6.out hb7)
   clear F55_pb_6
   refine ⟨_, rfl, ⟨F54_pa_7.out, F56_pb_7.out⟩, ?_⟩
   obtain ⟨A7, n7, c7, B7, m7, d7, C7, k7, e7, rfl⟩ := o7.shape
   have lt_aa := o7.lt
   simp only [Act.put, nS]
   refine' callH 3 (f := _) (args := _) rfl (by kernel_rfl) (by rfl) ?_ ?_; rotate_left 2; · (go_simp; first | done | with_reducible rfl | (constructor <;> with_reducible rfl))
   refine (toGraph_law (hb.below hB7) okb).mono ?_
   rintro e w8 ⟨v8, fp8, rfl, o8, fr8, hb8⟩
   have hB8 := below_trans hB7 hb8 hB7.size
   have F57_pa_8 := lH (t_box_below F54_pa_7.out hb8)
   clear F54_pa_7
   have F58_pb_8 := lH (t_box_below F56_pb_7.out hb8)
   clear F56_pb_7
   refine ⟨_, rfl, ⟨F57_pa_8.out, F58_pb_8.out⟩, ?_⟩
   obtain ⟨A8, n8, c8, B8, m8, d8, C8, k8, e8, rfl⟩ := o8.shape
   have lt_ab := o8.lt
   simp only [Act.put, nS]
   refine' callH 4 (f := _) (args := _) rfl (by kernel_rfl) (by rfl) ?_ ?_; rotate_left 2; · (go_simp; first | done | with_reducible rfl | (constructor <;> with_reducible rfl))
   have F60_zbox_7 := lH (t_box_below bz6.out hb7)
   clear bz6
   have F61_zbox_8 := lH (t_box_below F60_zbox_7.out hb8)
   clear F60_zbox_7
   have lB59 := t_box_lt F61_zbox_8.out
   have F62_aa_8 := o7.below hb8
   clear o7
   refine (sIsomorphismOf_law  F62_aa_8.rd o8.rd oka okb).mono ?_
   rintro e w9 ⟨v9_0, fp9_0, rfl, o9r0, fr9_0, hb9⟩
   have hB9 := below_trans hB8 hb9 hB8.size
   have F63_pa_9 := lH (t_box_below F57_pa_8.out hb9)
   clear F57_pa_8
   have F64_pb_9 := lH (t_box_below F58_pb_8.out hb9)
   clear F58_pb_8
   refine ⟨_, rfl, ⟨F63_pa_9.out, F64_pb_9.out⟩, ?_⟩
   obtain ⟨A9_0, n9_0, c9_0, B9_0, m9_0, d9_0, rfl⟩ := o9r0.shape
   simp only [Act.put, nS]
   refine tkH 5 ?_ rfl ⟨F63_pa_9.out, F64_pb_9.out⟩ (fun W' hW' => ?_) ?_; rotate_left; · (obtain ⟨q0, q1⟩ := hW'; obtain ⟨⟨ca0_0, ca0_1, ca0_2, ca0_3⟩, ga0_0, ga0_1, ga0_2, ga0_3⟩ := t_box4 q0; obtain ⟨⟨ca1_0, ca1_1, ca1_2, ca1_3⟩, ga1_0, ga1_1, ga1_2, ga1_3⟩ := t_box4 q1; clear q0 q1; go_simp; first | done | with_reducible rfl)
   simp only [Act.put, nS]
   refine tkH 6 ?_ rfl ⟨F63_pa_9.out, F64_pb_9.out⟩ (fun W' hW' => ?_) ?_; rotate_left; · (obtain ⟨q0, q1⟩ := hW'; obtain ⟨⟨ca0_0, ca0_1, ca0_2, ca0_3⟩, ga0_0, ga0_1, ga0_2, ga0_3⟩ := t_box4 q0; obtain ⟨⟨ca1_0, ca1_1, ca1_2, ca1_3⟩, ga1_0, ga1_1, ga1_2, ga1_3⟩ := t_box4 q1; clear q0 q1; go_simp; first | done | with_reducible rfl)
   simp only [Act.put, nS]
   refine tkH 7 ?_ rfl ⟨F63_pa_9.out, F64_pb_9.out⟩ (fun W' hW' => ?_) ?_; rotate_left; · (obtain ⟨q0, q1⟩ := hW'; obtain ⟨⟨ca0_0, ca0_1, ca0_2, ca0_3⟩, ga0_0, ga0_1, ga0_2, ga0_3⟩ := t_box4 q0; obtain ⟨⟨ca1_0, ca1_1, ca1_2, ca1_3⟩, ga1_0, ga1_1, ga1_2, ga1_3⟩ := t_box4 q1; clear q0 q1; go_simp; first | done | with_reducible rfl)
   simp only [Act.put, nS]
   have hd4 : Below (w4).heap.size (w4) (w4) := Below.refl _ _
   have hd5 := below_trans hd4 hb5 hd4.size
   have hd6 := below_trans hd5 hb6 hd5.size
   have hd7 := below_trans hd6 hb7 hd6.size
   have hd8 := below_trans hd7 hb8 hd7.size
   have hd9 := below_trans hd8 hb9 hd8.size
   have F65_zbox_9 := lH (t_box_below F61_zbox_8.out hb9)
   clear F61_zbox_8
   obtain ⟨s1, s2⟩ := t_set2 (a := .slice A9_0 n9_0 c9_0) (b := .slice B9_0 m9_0 d9_0) F65_zbox_9.out
   obtain ⟨⟨z0, z1⟩, z2, z3⟩ := t_box2 F65_zbox_9.out
   have o2 := o9r0.keeps s2 (fun b hb e => by have := fr9_0 b hb; have := lB59; omega)
   have hdf := below_keeps hd9 s2 hd9.size (fun k hk => by rw [hk]; exact hd5.size)
   refine oneH 9 rfl (by kernel_rfl) (by rfl) (fun K hK => ?_)
   go_simp
   refine hK _ _ ⟨(t_box_keeps F63_pa_9.out s2 (fun e => Nat.ne_of_lt lp51_pa e)), (t_box_keeps F64_pb_9.out s2 (fun e => Nat.ne_of_lt lp52_pb e))⟩ ?_
   clear hK K
   refine tkH 10 ?_ rfl ⟨(t_box_keeps F63_pa_9.out s2 (fun e => Nat.ne_of_lt lp51_pa e)), (t_box_keeps F64_pb_9.out s2 (fun e => Nat.ne_of_lt lp52_pb e))⟩ (fun W' hW' => ?_) ?_; rotate_left; · (obtain ⟨q0, q1⟩ := hW'; obtain ⟨⟨ca0_0, ca0_1, ca0_2, ca0_3⟩, ga0_0, ga0_1, ga0_2, ga0_3⟩ := t_box4 q0; obtain ⟨⟨ca1_0, ca1_1, ca1_2, ca1_3⟩, ga1_0, ga1_1, ga1_2, ga1_3⟩ := t_box4 q1; clear q0 q1; go_simp; first | done | with_reducible rfl)
   simp only [Act.put, nS]
   refine doneH (by kernel_rfl) ?_
   go_wp2_with (fail)
   go_meet
   exact ⟨_, _, _, _, _, _, _, _, rfl, rfl, s1, o2, (fr9_0.mono (Nat.le_trans (Nat.le_trans (Nat.le_trans (Nat.le_trans (Nat.le_refl _) hb5.size) hb6.size) hb7.size) hb8.size)), hd5.size, hdf⟩
 case rest =>
  obtain ⟨B14, nX14, cX14, mX14, dX14, AX14, BX14, fpx14, rfl, rfl, bx14c, o14c, fr14c, hge14, hb14c⟩ := hcut
  obtain ⟨w5c, rfl⟩ : ∃ x, x = wc := ⟨_, rfl⟩
  have hB5 := below_trans hB4 hb14c hB4.size
  have lt_W0 := o14c.lt
  have lt_bW0 : LtL (w5c).heap.size [B14] := fun b hb => by obtain rfl := List.mem_singleton.1 hb; exact t_box_lt bx14c
  have fr_bW0 : FreshL (w4).heap.size [B14] := fun b hb => by obtain rfl := List.mem_singleton.1 hb; exact hge14
  have BX_bW0_14 := lH bx14c; clear bx14c
  have F66_pa_5 := lH (t_box_below F12_pa_4.out hb14c)
  clear F12_pa_4
  obtain ⟨⟨c67_0, c67_1, c67_2, c67_3⟩, f67_0, f67_1, f67_2, f67_3⟩ := t_box4 F66_pa_5.out
  go_wp2_with (fail)
  refine (toGraph_law (ha.below hB5) oka).mono ?_
  rintro e w6 ⟨v6, fp6, rfl, o6, fr6, hb6⟩
  have hB6 := below_trans hB5 hb6 hB5.size
  clear c67_0 c67_1 c67_2 c67_3 f67_0 f67_1 f67_2 f67_3
  obtain ⟨A6, n6, c6, B6, m6, d6, C6, k6, e6, rfl⟩ := o6.shape
  have lt_xa := o6.lt
  have hb7 := t_below_alloc (w6) (.cells #[.int .i64 (a).1, .slice A6 n6 c6, .slice B6 m6 d6, .slice C6 k6 e6] 29)
  have hB7 := below_trans hB6 hb7 hB6.size
  have bx7 := heap_alloc_new (w6) (.cells #[.int .i64 (a).1, .slice A6 n6 c6, .slice B6 m6 d6, .slice C6 k6 e6] 29)
  have lt_bxa : LtL ((w6).alloc (.cells #[.int .i64 (a).1, .slice A6 n6 c6, .slice B6 m6 d6, .slice C6 k6 e6] 29)).heap.size [(w6).heap.size] := fun b hb => by obtain rfl := List.mem_singleton.1 hb; exact t_box_lt bx7
  have fr_bxa : FreshL (w6).heap.size [(w6).heap.size] := fun b hb => by obtain rfl := List.mem_singleton.1 hb; exact Nat.le_refl _
  have BX_bxa_7 := lH bx7; clear bx7
  have F68_pb_5 := lH (t_box_below F13_pb_4.out hb14c)
  clear F13_pb_4
  have F69_pb_6 := lH (t_box_below F68_pb_5.out hb6)
  clear F68_pb_5
  have F70_pb_7 := lH (t_box_below F69_pb_6.out hb7)
  clear F69_pb_6
  obtain ⟨⟨c71_0, c71_1, c71_2, c71_3⟩, f71_0, f71_1, f71_2, f71_3⟩ := t_box4 F70_pb_7.out
  go_wp2_with (fail)
  refine (toGraph_law (hb.below hB7) okb).mono ?_
  rintro e w8 ⟨v8, fp8, rfl, o8, fr8, hb8⟩
  have hB8 := below_trans hB7 hb8 hB7.size
  clear c71_0 c71_1 c71_2 c71_3 f71_0 f71_1 f71_2 f71_3
  obtain ⟨A8, n8, c8, B8, m8, d8, C8, k8, e8, rfl⟩ := o8.shape
  have lt_xb := o8.lt
  have hb9 := t_below_alloc (w8) (.cells #[.int .i64 (b).1, .slice A8 n8 c8, .slice B8 m8 d8, .slice C8 k8 e8] 29)
  have hB9 := below_trans hB8 hb9 hB8.size
  have bx9 := heap_alloc_new (w8) (.cells #[.int .i64 (b).1, .slice A8 n8 c8, .slice B8 m8 d8, .slice C8 k8 e8] 29)
  have lt_bxb : LtL ((w8).alloc (.cells #[.int .i64 (b).1, .slice A8 n8 c8, .slice B8 m8 d8, .slice C8 k8 e8] 29)).heap.size [(w8).heap.size] := fun b hb => by obtain rfl := List.mem_singleton.1 hb; exact t_box_lt bx9
  have fr_bxb : FreshL (w8).heap.size [(w8).heap.size] := fun b hb => by obtain rfl := List.mem_singleton.1 hb; exact Nat.le_refl _
  have BX_bxb_9 := lH bx9; clear bx9
  have F72_xa_7 := o6.below hb7
  clear o6
  have F73_xa_8 := F72_xa_7.below hb8
  clear F72_xa_7
  have F74_xa_9 := F73_xa_8.below hb9
  clear F73_xa_8
  have F75_xb_9 := o8.below hb9
  clear o8
  have F76_bxa_8 := lH (t_box_below BX_bxa_7.out hb8)
  clear BX_bxa_7
  have F77_bxa_9 := lH (t_box_below F76_bxa_8.out hb9)
  clear F76_bxa_8
  obtain ⟨⟨c78_0, c78_1, c78_2, c78_3⟩, f78_0, f78_1, f78_2, f78_3⟩ := t_box4 F77_bxa_9.out
  obtain ⟨⟨c79_0, c79_1, c79_2, c79_3⟩, f79_0, f79_1, f79_2, f79_3⟩ := t_box4 BX_bxb_9.out
  go_wp2_with (fail)
  refine (iIsomorphismOf_law  F74_xa_9.rd F75_xb_9.rd oka okb).mono ?_
  rintro e w10 ⟨v10_0, fp10_0, rfl, o10r0, fr10_0, hb10⟩
  have hB10 := below_trans hB9 hb10 hB9.size
  clear c78_0 c78_1 c78_2 c78_3 f78_0 f78_1 f78_2 f78_3 c79_0 c79_1 c79_2 c79_3 f79_0 f79_1 f79_2 f79_3
  obtain ⟨A10_0, n10_0, c10_0, B10_0, m10_0, d10_0, rfl⟩ := o10r0.shape
  have lt_G0 := o10r0.lt
  have hb11 := t_below_alloc (w10) (.cells #[.slice A10_0 n10_0 c10_0, .slice B10_0 m10_0 d10_0] 40)
  have hB11 := below_trans hB10 hb11 hB10.size
  have bx11 := heap_alloc_new (w10) (.cells #[.slice A10_0 n10_0 c10_0, .slice B10_0 m10_0 d10_0] 40)
  have lt_bG0 : LtL ((w10).alloc (.cells #[.slice A10_0 n10_0 c10_0, .slice B10_0 m10_0 d10_0] 40)).heap.size [(w10).heap.size] := fun b hb => by obtain rfl := List.mem_singleton.1 hb; exact t_box_lt bx11
  have fr_bG0 : FreshL (w10).heap.size [(w10).heap.size] := fun b hb => by obtain rfl := List.mem_singleton.1 hb; exact Nat.le_refl _
  have BX_bG0_11 := lH bx11; clear bx11
  have F80_G0_11 := o10r0.below hb11
  clear o10r0
  have F81_W0_6 := o14c.below hb6
  clear o14c
  have F82_W0_7 := F81_W0_6.below hb7
  clear F81_W0_6
  have F83_W0_8 := F82_W0_7.below hb8
  clear F82_W0_7
  have F84_W0_9 := F83_W0_8.below hb9
  clear F83_W0_8
  have F85_W0_10 := F84_W0_9.below hb10
  clear F84_W0_9
  have F86_W0_11 := F85_W0_10.below hb11
  clear F85_W0_10
  obtain ⟨⟨c87_0, c87_1⟩, f87_0, f87_1⟩ := t_box2 BX_bG0_11.out
  have F88_bW0_6 := lH (t_box_below BX_bW0_14.out hb6)
  clear BX_bW0_14
  have F89_bW0_7 := lH (t_box_below F88_bW0_6.out hb7)
  clear F88_bW0_6
  have F90_bW0_8 := lH (t_box_below F89_bW0_7.out hb8)
  clear F89_bW0_7
  have F91_bW0_9 := lH (t_box_below F90_bW0_8.out hb9)
  clear F90_bW0_8
  have F92_bW0_10 := lH (t_box_below F91_bW0_9.out hb10)
  clear F91_bW0_9
  have F93_bW0_11 := lH (t_box_below F92_bW0_10.out hb11)
  clear F92_bW0_10
  obtain ⟨⟨c94_0, c94_1⟩, f94_0, f94_1⟩ := t_box2 F93_bW0_11.out
  go_wp2_with (fail)
  refine (eqMatch_law F80_G0_11.rd F86_W0_11.rd (ioR_ok a b)).mono ?_
  rintro e w12 ⟨rfl, hb12⟩
  have hB12 := below_trans hB11 hb12 hB11.size
  clear c87_0 c87_1 f87_0 f87_1 c94_0 c94_1 f94_0 f94_1
  rw [decide_eq_true (rfl : (ioR a b).1 = (ioR a b).1)]
  have F95_bxa_10 := lH (t_box_below F77_bxa_9.out hb10)
  clear F77_bxa_9
  have F96_bxa_11 := lH (t_box_below F95_bxa_10.out hb11)
  clear F95_bxa_10
  have F97_bxa_12 := lH (t_box_below F96_bxa_11.out hb12)
  clear F96_bxa_11
  have F98_pa_6 := lH (t_box_below F66_pa_5.out hb6)
  clear F66_pa_5
  have F99_pa_7 := lH (t_box_below F98_pa_6.out hb7)
  clear F98_pa_6
  have F100_pa_8 := lH (t_box_below F99_pa_7.out hb8)
  clear F99_pa_7
  have F101_pa_9 := lH (t_box_below F100_pa_8.out hb9)
  clear F100_pa_8
  have F102_pa_10 := lH (t_box_below F101_pa_9.out hb10)
  clear F101_pa_9
  have F103_pa_11 := lH (t_box_below F102_pa_10.out hb11)
  clear F102_pa_10
  have F104_pa_12 := lH (t_box_below F103_pa_11.out hb12)
  clear F103_pa_11
  have F105_xa_10 := F74_xa_9.below hb10
  clear F74_xa_9
  have F106_xa_11 := F105_xa_10.below hb11
  clear F105_xa_10
  have F107_xa_12 := F106_xa_11.below hb12
  clear F106_xa_11
  go_wp2_with (fail)
  refine beginH (fun w' => w'.heap[(w6).heap.size]? = some (.cells #[.int .i64 (a).1, .slice A6 n6 c6, .slice B6 m6 d6, .slice C6 k6 e6] 29) ∧ w'.heap[(w).heap.size]? = some (.cells #[.int .i64 (a).1, .slice Aa na ca, .slice Ba ma da, .slice Ca ka ea] 25)) (by kernel_rfl) ?_
  have hb13 : Below (w12).heap.size (w12) (w12).drew := below_drewN (Below.refl _ _) 1
  have hB13 := below_trans hB12 hb13 hB12.size
  have F109_bxa_13 := lH (t_box_below F97_bxa_12.out hb13)
  clear F97_bxa_12
  have F110_pa_13 := lH (t_box_below F104_pa_12.out hb13)
  clear F104_pa_12
  have F111_xa_13 := F107_xa_12.below hb13
  clear F107_xa_12
  refine tkH 0 ?_ rfl ⟨F109_bxa_13.out, F110_pa_13.out⟩ (fun W' hW' => ?_) ?_; rotate_left; · (obtain ⟨q1, q2⟩ := hW'; obtain ⟨⟨ca0, ca1, ca2, ca3⟩, gca0, gca1, gca2, gca3⟩ := t_box4 q1; obtain ⟨⟨cb0, cb1, cb2, cb3⟩, gcb0, gcb1, gcb2, gcb3⟩ := t_box4 q2; clear q1 q2; go_simp; first | done | with_reducible rfl)
  simp only [Act.put, nS]
  refine tkH 1 ?_ rfl ⟨F109_bxa_13.out, F110_pa_13.out⟩ (fun W' hW' => ?_) ?_; rotate_left; · (obtain ⟨q1, q2⟩ := hW'; obtain ⟨⟨ca0, ca1, ca2, ca3⟩, gca0, gca1, gca2, gca3⟩ := t_box4 q1; obtain ⟨⟨cb0, cb1, cb2, cb3⟩, gcb0, gcb1, gcb2, gcb3⟩ := t_box4 q2; clear q1 q2; go_simp; first | done | with_reducible rfl)
  simp only [Act.put, nS]
  refine' callH 2 (f := _) (args := _) rfl (by kernel_rfl) (by rfl) ?_ ?_; rotate_left 2; · (go_simp; first | done | with_reducible rfl | (constructor <;> with_reducible rfl))
  refine (toGraph_law (ha.below hB13) oka).mono ?_
  rintro e w14 ⟨v14, fp14, rfl, o14, fr14, hb14⟩
  have hB14 := below_trans hB13 hb14 hB13.size
  have F112_bxa_14 := lH (t_box_below F109_bxa_13.out hb14)
  clear F109_bxa_13
  have F113_pa_14 := lH (t_box_below F110_pa_13.out hb14)
  clear F110_pa_13
  have F114_xa_14 := F111_xa_13.below hb14
  clear F111_xa_13
  refine ⟨_, rfl, ⟨F112_bxa_14.out, F113_pa_14.out⟩, ?_⟩
  simp only [Act.put, nS]
  refine' callH 3 (f := _) (args := _) rfl (by kernel_rfl) (by rfl) ?_ ?_; rotate_left 2; · (go_simp; first | done | with_reducible rfl | (constructor <;> with_reducible rfl))
  refine (eqGraph_law F114_xa_14.rd o14.rd oka).mono ?_
  rintro e w15 ⟨rfl, hb15⟩
  have hB15 := below_trans hB14 hb15 hB14.size
  have F115_bxa_15 := lH (t_box_below F112_bxa_14.out hb15)
  clear F112_bxa_14
  have F116_pa_15 := lH (t_box_below F113_pa_14.out hb15)
  clear F113_pa_14
  have F117_xa_15 := F114_xa_14.below hb15
  clear F114_xa_14
  refine ⟨_, rfl, ⟨F115_bxa_15.out, F116_pa_15.out⟩, ?_⟩
  rw [decide_eq_true (rfl : a = a)]
  simp only [Act.put, nS]
  refine takeH 4 (v := .bool false) rfl (by kernel_rfl) (by kernel_rfl) (by kernel_rfl) (fun _ _ _ h => h) ⟨F115_bxa_15.out, F116_pa_15.out⟩ (by rfl) (fun W' hW' => ?_) ?_; · (go_simp; first | done | with_reducible rfl)
  simp only [Act.put, nS]
  refine doneH (by kernel_rfl) ?_
  have F118_bxb_10 := lH (t_box_below BX_bxb_9.out hb10)
  clear BX_bxb_9
  have F119_bxb_11 := lH (t_box_below F118_bxb_10.out hb11)
  clear F118_bxb_10
  have F120_bxb_12 := lH (t_box_below F119_bxb_11.out hb12)
  clear F119_bxb_11
  have F121_bxb_13 := lH (t_box_below F120_bxb_12.out hb13)
  clear F120_bxb_12
  have F122_bxb_14 := lH (t_box_below F121_bxb_13.out hb14)
  clear F121_bxb_13
  have F123_bxb_15 := lH (t_box_below F122_bxb_14.out hb15)
  clear F122_bxb_14
  have F124_pb_8 := lH (t_box_below F70_pb_7.out hb8)
  clear F70_pb_7
  have F125_pb_9 := lH (t_box_below F124_pb_8.out hb9)
  clear F124_pb_8
  have F126_pb_10 := lH (t_box_below F125_pb_9.out hb10)
  clear F125_pb_9
  have F127_pb_11 := lH (t_box_below F126_pb_10.out hb11)
  clear F126_pb_10
  have F128_pb_12 := lH (t_box_below F127_pb_11.out hb12)
  clear F127_pb_11
  have F129_pb_13 := lH (t_box_below F128_pb_12.out hb13)
  clear F128_pb_12
  have F130_pb_14 := lH (t_box_below F129_pb_13.out hb14)
  clear F129_pb_13
  have F131_pb_15 := lH (t_box_below F130_pb_14.out hb15)
  clear F130_pb_14
  have F132_xb_10 := F75_xb_9.below hb10
  clear F75_xb_9
  have F133_xb_11 := F132_xb_10.below hb11
  clear F132_xb_10
  have F134_xb_12 := F133_xb_11.below hb12
  clear F133_xb_11
  have F135_xb_13 := F134_xb_12.below hb13
  clear F134_xb_12
  have F136_xb_14 := F135_xb_13.below hb14
  clear F135_xb_13
  have F137_xb_15 := F136_xb_14.below hb15
  clear F136_xb_14
  go_wp2_with (fail)
  refine beginH (fun w' => w'.heap[(w8).heap.size]? = some (.cells #[.int .i64 (b).1, .slice A8 n8 c8, .slice B8 m8 d8, .slice C8 k8 e8] 29) ∧ w'.heap[(w).heap.size + 1]? = some (.cells #[.int .i64 (b).1, .slice Ab nb cb, .slice Bb mb db, .slice Cb kb eb] 25)) (by kernel_rfl) ?_
  have hb16 : Below (w15).heap.size (w15) (w15).drew := below_drewN (Below.refl _ _) 1
  have hB16 := below_trans hB15 hb16 hB15.size
  have F139_bxb_16 := lH (t_box_below F123_bxb_15.out hb16)
  clear F123_bxb_15
  have F140_pb_16 := lH (t_box_below F131_pb_15.out hb16)
  clear F131_pb_15
  have F141_xb_16 := F137_xb_15.below hb16
  clear F137_xb_15
  refine tkH 0 ?_ rfl ⟨F139_bxb_16.out, F140_pb_16.out⟩ (fun W' hW' => ?_) ?_; rotate_left; · (obtain ⟨q1, q2⟩ := hW'; obtain ⟨⟨ca0, ca1, ca2, ca3⟩, gca0, gca1, gca2, gca3⟩ := t_box4 q1; obtain ⟨⟨cb0, cb1, cb2, cb3⟩, gcb0, gcb1, gcb2, gcb3⟩ := t_box4 q2; clear q1 q2; go_simp; first | done | with_reducible rfl)
  simp only [Act.put, nS]
  refine tkH 1 ?_ rfl ⟨F139_bxb_16.out, F140_pb_16.out⟩ (fun W' hW' => ?_) ?_; rotate_left; · (obtain ⟨q1, q2⟩ := hW'; obtain ⟨⟨ca0, ca1, ca2, ca3⟩, gca0, gca1, gca2, gca3⟩ := t_box4 q1; obtain ⟨⟨cb0, cb1, cb2, cb3⟩, gcb0, gcb1, gcb2, gcb3⟩ := t_box4 q2; clear q1 q2; go_simp; first | done | with_reducible rfl)
  simp only [Act.put, nS]
  refine' callH 2 (f := _) (args := _) rfl (by kernel_rfl) (by rfl) ?_ ?_; rotate_left 2; · (go_simp; first | done | with_reducible rfl | (constructor <;> with_reducible rfl))
  refine (toGraph_law (hb.below hB16) okb).mono ?_
  rintro e w17 ⟨v17, fp17, rfl, o17, fr17, hb17⟩
  have hB17 := below_trans hB16 hb17 hB16.size
  have F142_bxb_17 := lH (t_box_below F139_bxb_16.out hb17)
  clear F139_bxb_16
  have F143_pb_17 := lH (t_box_below F140_pb_16.out hb17)
  clear F140_pb_16
  have F144_xb_17 := F141_xb_16.below hb17
  clear F141_xb_16
  refine ⟨_, rfl, ⟨F142_bxb_17.out, F143_pb_17.out⟩, ?_⟩
  simp only [Act.put, nS]
  refine' callH 3 (f := _) (args := _) rfl (by kernel_rfl) (by rfl) ?_ ?_; rotate_left 2; · (go_simp; first | done | with_reducible rfl | (constructor <;> with_reducible rfl))
  refine (eqGraph_law F144_xb_17.rd o17.rd okb).mono ?_
  rintro e w18 ⟨rfl, hb18⟩
  have hB18 := below_trans hB17 hb18 hB17.size
  have F145_bxb_18 := lH (t_box_below F142_bxb_17.out hb18)
  clear F142_bxb_17
  have F146_pb_18 := lH (t_box_below F143_pb_17.out hb18)
  clear F143_pb_17
  have F147_xb_18 := F144_xb_17.below hb18
  clear F144_xb_17
  refine ⟨_, rfl, ⟨F145_bxb_18.out, F146_pb_18.out⟩, ?_⟩
  rw [decide_eq_true (rfl : b = b)]
  simp only [Act.put, nS]
  refine takeH 4 (v := .bool false) rfl (by kernel_rfl) (by kernel_rfl) (by kernel_rfl) (fun _ _ _ h => h) ⟨F145_bxb_18.out, F146_pb_18.out⟩ (by rfl) (fun W' hW' => ?_) ?_; · (go_simp; first | done | with_reducible rfl)
  simp only [Act.put, nS]
  refine doneH (by kernel_rfl) ?_
  have F148_xa_16 := F117_xa_15.below hb16
  clear F117_xa_15
  have F149_xa_17 := F148_xa_16.below hb17
  clear F148_xa_16
  have F150_xa_18 := F149_xa_17.below hb18
  clear F149_xa_17
  have F151_bxa_16 := lH (t_box_below F115_bxa_15.out hb16)
  clear F115_bxa_15
  have F152_bxa_17 := lH (t_box_below F151_bxa_16.out hb17)
  clear F151_bxa_16
  have F153_bxa_18 := lH (t_box_below F152_bxa_17.out hb18)
  clear F152_bxa_17
  obtain ⟨⟨c154_0, c154_1, c154_2, c154_3⟩, f154_0, f154_1, f154_2, f154_3⟩ := t_box4 F153_bxa_18.out
  go_wp2_with (fail)
  refine (markGraph_law (1) F150_xa_18 (by omega) oka (by have := oka.2.2; have := okb.2.2; constructor <;> omega)).mono ?_
  rintro e w19 ⟨rfl, he19, hk19⟩
  have hB19 := below_keeps hB18 hk19 hB18.size (fun b hb => Nat.le_trans hB5.size (fr6 b hb))
  clear c154_0 c154_1 c154_2 c154_3 f154_0 f154_1 f154_2 f154_3
  have F155_xb_19 := F147_xb_18.keeps hk19 (apart_of' lt_xa (fr8.mono (Nat.le_trans (Nat.le_refl _) hb7.size)))
  clear F147_xb_18
  have F156_bxb_19 := lH (t_box_keeps F145_bxb_18.out hk19 (fun hh => (apart_of' lt_xa (fr_bxb.mono (Nat.le_trans (Nat.le_trans (Nat.le_refl _) hb7.size) hb8.size))) _ (List.mem_singleton.2 rfl) hh))
  clear F145_bxb_18
  obtain ⟨⟨c157_0, c157_1, c157_2, c157_3⟩, f157_0, f157_1, f157_2, f157_3⟩ := t_box4 F156_bxb_19.out
  go_wp2_with (fail)
  refine (markGraph_law (1 + cntG (a)) F155_xb_19 (by omega) okb (by have := oka.2.2; have := okb.2.2; constructor <;> omega)).mono ?_
  rintro e w20 ⟨rfl, he20, hk20⟩
  have hB20 := below_keeps hB19 hk20 hB19.size (fun b hb => Nat.le_trans hB7.size (fr8 b hb))
  clear c157_0 c157_1 c157_2 c157_3 f157_0 f157_1 f157_2 f157_3
  have F158_G0_12 := F80_G0_11.below hb12
  clear F80_G0_11
  have F159_G0_13 := F158_G0_12.below hb13
  clear F158_G0_12
  have F160_G0_14 := F159_G0_13.below hb14
  clear F159_G0_13
  have F161_G0_15 := F160_G0_14.below hb15
  clear F160_G0_14
  have F162_G0_16 := F161_G0_15.below hb16
  clear F161_G0_15
  have F163_G0_17 := F162_G0_16.below hb17
  clear F162_G0_16
  have F164_G0_18 := F163_G0_17.below hb18
  clear F163_G0_17
  have F165_G0_19 := F164_G0_18.keeps hk19 (apart_of' lt_xa (fr10_0.mono (Nat.le_trans (Nat.le_trans (Nat.le_trans (Nat.le_refl _) hb7.size) hb8.size) hb9.size)))
  clear F164_G0_18
  have F166_G0_20 := F165_G0_19.keeps hk20 (apart_of' lt_xb (fr10_0.mono (Nat.le_trans (Nat.le_refl _) hb9.size)))
  clear F165_G0_19
  have F167_W0_12 := F86_W0_11.below hb12
  clear F86_W0_11
  have F168_W0_13 := F167_W0_12.below hb13
  clear F167_W0_12
  have F169_W0_14 := F168_W0_13.below hb14
  clear F168_W0_13
  have F170_W0_15 := F169_W0_14.below hb15
  clear F169_W0_14
  have F171_W0_16 := F170_W0_15.below hb16
  clear F170_W0_15
  have F172_W0_17 := F171_W0_16.below hb17
  clear F171_W0_16
  have F173_W0_18 := F172_W0_17.below hb18
  clear F172_W0_17
  have F174_W0_19 := F173_W0_18.keeps hk19 (apart_of lt_W0 (fr6))
  clear F173_W0_18
  have F175_W0_20 := F174_W0_19.keeps hk20 (apart_of lt_W0 (fr8.mono (Nat.le_trans (Nat.le_trans (Nat.le_refl _) hb6.size) hb7.size)))
  clear F174_W0_19
  have F176_bG0_12 := lH (t_box_below BX_bG0_11.out hb12)
  clear BX_bG0_11
  have F177_bG0_13 := lH (t_box_below F176_bG0_12.out hb13)
  clear F176_bG0_12
  have F178_bG0_14 := lH (t_box_below F177_bG0_13.out hb14)
  clear F177_bG0_13
  have F179_bG0_15 := lH (t_box_below F178_bG0_14.out hb15)
  clear F178_bG0_14
  have F180_bG0_16 := lH (t_box_below F179_bG0_15.out hb16)
  clear F179_bG0_15
  have F181_bG0_17 := lH (t_box_below F180_bG0_16.out hb17)
  clear F180_bG0_16
  have F182_bG0_18 := lH (t_box_below F181_bG0_17.out hb18)
  clear F181_bG0_17
  have F183_bG0_19 := lH (t_box_keeps F182_bG0_18.out hk19 (fun hh => (apart_of' lt_xa (fr_bG0.mono (Nat.le_trans (Nat.le_trans (Nat.le_trans (Nat.le_trans (Nat.le_refl _) hb7.size) hb8.size) hb9.size) hb10.size))) _ (List.mem_singleton.2 rfl) hh))
  clear F182_bG0_18
  have F184_bG0_20 := lH (t_box_keeps F183_bG0_19.out hk20 (fun hh => (apart_of' lt_xb (fr_bG0.mono (Nat.le_trans (Nat.le_trans (Nat.le_refl _) hb9.size) hb10.size))) _ (List.mem_singleton.2 rfl) hh))
  clear F183_bG0_19
  obtain ⟨⟨c185_0, c185_1⟩, f185_0, f185_1⟩ := t_box2 F184_bG0_20.out
  have F186_bW0_12 := lH (t_box_below F93_bW0_11.out hb12)
  clear F93_bW0_11
  have F187_bW0_13 := lH (t_box_below F186_bW0_12.out hb13)
  clear F186_bW0_12
  have F188_bW0_14 := lH (t_box_below F187_bW0_13.out hb14)
  clear F187_bW0_13
  have F189_bW0_15 := lH (t_box_below F188_bW0_14.out hb15)
  clear F188_bW0_14
  have F190_bW0_16 := lH (t_box_below F189_bW0_15.out hb16)
  clear F189_bW0_15
  have F191_bW0_17 := lH (t_box_below F190_bW0_16.out hb17)
  clear F190_bW0_16
  have F192_bW0_18 := lH (t_box_below F191_bW0_17.out hb18)
  clear F191_bW0_17
  have F193_bW0_19 := lH (t_box_keeps F192_bW0_18.out hk19 (fun hh => (apart_of lt_bW0 (fr6)) _ (List.mem_singleton.2 rfl) hh))
  clear F192_bW0_18
  have F194_bW0_20 := lH (t_box_keeps F193_bW0_19.out hk20 (fun hh => (apart_of lt_bW0 (fr8.mono (Nat.le_trans (Nat.le_trans (Nat.le_refl _) hb6.size) hb7.size))) _ (List.mem_singleton.2 rfl) hh))
  clear F193_bW0_19
  obtain ⟨⟨c195_0, c195_1⟩, f195_0, f195_1⟩ := t_box2 F194_bW0_20.out
  go_wp2_with (fail)
  refine (eqMatch_law F166_G0_20.rd F175_W0_20.rd (ioR_ok a b)).mono ?_
  rintro e w21 ⟨rfl, hb21⟩
  have hB21 := below_trans hB20 hb21 hB20.size
  clear c185_0 c185_1 f185_0 f185_1 c195_0 c195_1 f195_0 f195_1
  rw [decide_eq_true (rfl : (ioR a b).1 = (ioR a b).1)]
  have F196_G0_21 := F166_G0_20.below hb21
  clear F166_G0_20
  have F197_bG0_21 := lH (t_box_below F184_bG0_20.out hb21)
  clear F184_bG0_20
  obtain ⟨⟨c198_0, c198_1⟩, f198_0, f198_1⟩ := t_box2 F197_bG0_21.out
  go_wp2_with (fail)
  refine (markMatch_law (1) F196_G0_21 (by omega) (ioR_ok a b) (by have := (ioR_ok a b).2.2; constructor <;> omega)).mono ?_
  rintro e w22 ⟨rfl, he22, hk22⟩
  have hB22 := below_keeps hB21 hk22 hB21.size (fun b hb => Nat.le_trans hB9.size (fr10_0 b hb))
  clear c198_0 c198_1 f198_0 f198_1
  have F199_bG0_22 := lH (t_box_keeps F197_bG0_21.out hk22 (fun hh => (apart_of' lt_G0 (fr_bG0)) _ (List.mem_singleton.2 rfl) hh))
  clear F197_bG0_21
  obtain ⟨⟨c200_0, c200_1⟩, f200_0, f200_1⟩ := t_box2 F199_bG0_22.out
  go_wp2_with (fail)
  refine (heldMatch_law he22 (by omega) (ioR_ok a b) (by have := (ioR_ok a b).2.2; constructor <;> omega)).mono ?_
  rintro e w23 ⟨rfl, hb23⟩
  have hB23 := below_trans hB22 hb23 hB22.size
  clear c200_0 c200_1 f200_0 f200_1
  have F201_pa_16 := lH (t_box_below F116_pa_15.out hb16)
  clear F116_pa_15
  have F202_pa_17 := lH (t_box_below F201_pa_16.out hb17)
  clear F201_pa_16
  have F203_pa_18 := lH (t_box_below F202_pa_17.out hb18)
  clear F202_pa_17
  have F204_pa_19 := lH (t_box_keeps F203_pa_18.out hk19 (fun hh => (apart_of lt_pa (fr6.mono (Nat.le_trans (Nat.le_trans (Nat.le_trans (Nat.le_trans (Nat.le_refl _) hb2.size) hb3.size) hb4.size) hb14c.size))) _ (List.mem_singleton.2 rfl) hh))
  clear F203_pa_18
  have F205_pa_20 := lH (t_box_keeps F204_pa_19.out hk20 (fun hh => (apart_of lt_pa (fr8.mono (Nat.le_trans (Nat.le_trans (Nat.le_trans (Nat.le_trans (Nat.le_trans (Nat.le_trans (Nat.le_refl _) hb2.size) hb3.size) hb4.size) hb14c.size) hb6.size) hb7.size))) _ (List.mem_singleton.2 rfl) hh))
  clear F204_pa_19
  have F206_pa_21 := lH (t_box_below F205_pa_20.out hb21)
  clear F205_pa_20
  have F207_pa_22 := lH (t_box_keeps F206_pa_21.out hk22 (fun hh => (apart_of lt_pa (fr10_0.mono (Nat.le_trans (Nat.le_trans (Nat.le_trans (Nat.le_trans (Nat.le_trans (Nat.le_trans (Nat.le_trans (Nat.le_trans (Nat.le_refl _) hb2.size) hb3.size) hb4.size) hb14c.size) hb6.size) hb7.size) hb8.size) hb9.size))) _ (List.mem_singleton.2 rfl) hh))
  clear F206_pa_21
  have F208_pa_23 := lH (t_box_below F207_pa_22.out hb23)
  clear F207_pa_22
  have F209_pb_19 := lH (t_box_keeps F146_pb_18.out hk19 (fun hh => (apart_of lt_pb (fr6.mono (Nat.le_trans (Nat.le_trans (Nat.le_trans (Nat.le_refl _) hb3.size) hb4.size) hb14c.size))) _ (List.mem_singleton.2 rfl) hh))
  clear F146_pb_18
  have F210_pb_20 := lH (t_box_keeps F209_pb_19.out hk20 (fun hh => (apart_of lt_pb (fr8.mono (Nat.le_trans (Nat.le_trans (Nat.le_trans (Nat.le_trans (Nat.le_trans (Nat.le_refl _) hb3.size) hb4.size) hb14c.size) hb6.size) hb7.size))) _ (List.mem_singleton.2 rfl) hh))
  clear F209_pb_19
  have F211_pb_21 := lH (t_box_below F210_pb_20.out hb21)
  clear F210_pb_20
  have F212_pb_22 := lH (t_box_keeps F211_pb_21.out hk22 (fun hh => (apart_of lt_pb (fr10_0.mono (Nat.le_trans (Nat.le_trans (Nat.le_trans (Nat.le_trans (Nat.le_trans (Nat.le_trans (Nat.le_trans (Nat.le_refl _) hb3.size) hb4.size) hb14c.size) hb6.size) hb7.size) hb8.size) hb9.size))) _ (List.mem_singleton.2 rfl) hh))
  clear F211_pb_21
  have F213_pb_23 := lH (t_box_below F212_pb_22.out hb23)
  clear F212_pb_22
  go_wp2_with (fail)
  go_cut [15, 16] (fun sb sf wx => ∃ (B214 nX214 cX214 mX214 dX214 : Nat) (AX214 BX214 : Option Addr) (fpx214 : List Nat), sb = .pointer (some ⟨B214, 0, none⟩) ∧ sf = .bool (ioR a b).2 ∧ wx.heap[B214]? = some (.cells #[.slice AX214 nX214 cX214, .slice BX214 mX214 dX214] 40) ∧ OwMa wx (.agg #[.slice AX214 nX214 cX214, .slice BX214 mX214 dX214]) ((ioR a b).1) fpx214 ∧ FreshL (w23).heap.size fpx214 ∧ (w23).heap.size ≤ B214 ∧ Below (w23).heap.size (w23) wx)
  case first =>
   refine beginH (fun w' => w'.heap[(w).heap.size]? = some (.cells #[.int .i64 (a).1, .slice Aa na ca, .slice Ba ma da, .slice Ca ka ea] 25) ∧ w'.heap[(w).heap.size + 1]? = some (.cells #[.int .i64 (b).1, .slice Ab nb cb, .slice Bb mb db, .slice Cb kb eb] 25)) (by kernel_rfl) ?_
   have hb24 : Below (w23).heap.size (w23) (w23).drew := below_drewN (Below.refl _ _) 1
   have hB24 := below_trans hB23 hb24 hB23.size
   have F215_pa_24 := lH (t_box_below F208_pa_23.out hb24)
   clear F208_pa_23
   have F216_pb_24 := lH (t_box_below F213_pb_23.out hb24)
   clear F213_pb_23
   refine tkH 0 ?_ rfl ⟨F215_pa_24.out, F216_pb_24.out⟩ (fun W' hW' => ?_) ?_; rotate_left; · (obtain ⟨q0, q1⟩ := hW'; obtain ⟨⟨ca0_0, ca0_1, ca0_2, ca0_3⟩, ga0_0, ga0_1, ga0_2, ga0_3⟩ := t_box4 q0; obtain ⟨⟨ca1_0, ca1_1, ca1_2, ca1_3⟩, ga1_0, ga1_1, ga1_2, ga1_3⟩ := t_box4 q1; clear q0 q1; go_simp; first | done | with_reducible rfl)
   simp only [Act.put, nS]
   refine tkH 2 ?_ rfl ⟨F215_pa_24.out, F216_pb_24.out⟩ (fun W' hW' => ?_) ?_; rotate_left; · (obtain ⟨q0, q1⟩ := hW'; obtain ⟨⟨ca0_0, ca0_1, ca0_2, ca0_3⟩, ga0_0, ga0_1, ga0_2, ga0_3⟩ := t_box4 q0; obtain ⟨⟨ca1_0, ca1_1, ca1_2, ca1_3⟩, ga1_0, ga1_1, ga1_2, ga1_3⟩ := t_box4 q1; clear q0 q1; go_simp; first | done | with_reducible rfl)
   simp only [Act.put, nS]
   refine callOrH 1 8 (f := ?f217) (args := ?args217) (vj := ?vj217) (wj := ?wj217) rfl rfl (by kernel_rfl) (by rfl) (by rfl) ?hrun217 ?hrunj217 ?h1217 ?hSj217 ?h2217
   case hrun217 => (go_simp; first | done | with_reducible rfl | (constructor <;> with_reducible rfl))
   case hrunj217 => (go_simp; first | done | with_reducible rfl | (constructor <;> with_reducible rfl))
   case hSj217 => exact ⟨(t_box_below F215_pa_24.out (t_below_alloc _ _)), (t_box_below F216_pb_24.out (t_below_alloc _ _))⟩
   case h1217 =>
    refine (toGraph_law (ha.below hB24) oka).mono ?_
    rintro e w25 ⟨v25, fp25, rfl, o25, fr25, hb25⟩
    have hB25 := below_trans hB24 hb25 hB24.size
    have F218_pa_25 := lH (t_box_below F215_pa_24.out hb25)
    clear F215_pa_24
    have F219_pb_25 := lH (t_box_below F216_pb_24.out hb25)
    clear F216_pb_24
    refine ⟨_, rfl, ⟨F218_pa_25.out, F219_pb_25.out⟩, ?_⟩
    obtain ⟨A25, n25, c25, B25, m25, d25, C25, k25, e25, rfl⟩ := o25.shape
    have lt_ya := o25.lt
    simp only [Act.put, nS]
    refine callOrH 3 8 (f := ?f220) (args := ?args220) (vj := ?vj220) (wj := ?wj220) rfl rfl (by kernel_rfl) (by rfl) (by rfl) ?hrun220 ?hrunj220 ?h1220 ?hSj220 ?h2220
    case hrun220 => (go_simp; first | done | with_reducible rfl | (constructor <;> with_reducible rfl))
    case hrunj220 => (go_simp; first | done | with_reducible rfl | (constructor <;> with_reducible rfl))
    case hSj220 => exact ⟨(t_box_below F218_pa_25.out (t_below_alloc _ _)), (t_box_below F219_pb_25.out (t_below_alloc _ _))⟩
    case h1220 =>
     refine (toGraph_law (hb.below hB25) okb).mono ?_
     rintro e w26 ⟨v26, fp26, rfl, o26, fr26, hb26⟩
     have hB26 := below_trans hB25 hb26 hB25.size
     have F221_pa_26 := lH (t_box_below F218_pa_25.out hb26)
     clear F218_pa_25
     have F222_pb_26 := lH (t_box_below F219_pb_25.out hb26)
     clear F219_pb_25
     refine ⟨_, rfl, ⟨F221_pa_26.out, F222_pb_26.out⟩, ?_⟩
     obtain ⟨A26, n26, c26, B26, m26, d26, C26, k26, e26, rfl⟩ := o26.shape
     have lt_yb := o26.lt
     simp only [Act.put, nS]
     refine callOrH 4 8 (f := ?f223) (args := ?args223) (vj := ?vj223) (wj := ?wj223) rfl rfl (by kernel_rfl) (by rfl) (by rfl) ?hrun223 ?hrunj223 ?h1223 ?hSj223 ?h2223
     case hrun223 => (go_simp; first | done | with_reducible rfl | (constructor <;> with_reducible rfl))
     case hrunj223 => (go_simp; first | done | with_reducible rfl | (constructor <;> with_reducible rfl))
     case hSj223 => exact ⟨(t_box_below F221_pa_26.out (t_below_alloc _ _)), (t_box_below F222_pb_26.out (t_below_alloc _ _))⟩
     case h1223 =>
      have F224_ya_26 := o25.below hb26
      clear o25
      refine (iIsomorphismOf_law  F224_ya_26.rd o26.rd oka okb).mono ?_
      rintro e w27 ⟨v27_0, fp27_0, rfl, o27r0, fr27_0, hb27⟩
      have hB27 := below_trans hB26 hb27 hB26.size
      have F225_pa_27 := lH (t_box_below F221_pa_26.out hb27)
      clear F221_pa_26
      have F226_pb_27 := lH (t_box_below F222_pb_26.out hb27)
      clear F222_pb_26
      refine ⟨_, rfl, ⟨F225_pa_27.out, F226_pb_27.out⟩, ?_⟩
      obtain ⟨A27_0, n27_0, c27_0, B27_0, m27_0, d27_0, rfl⟩ := o27r0.shape
      simp only [Act.put, nS]
      refine tkH 5 ?_ rfl ⟨F225_pa_27.out, F226_pb_27.out⟩ (fun W' hW' => ?_) ?_; rotate_left; · (obtain ⟨q0, q1⟩ := hW'; obtain ⟨⟨ca0_0, ca0_1, ca0_2, ca0_3⟩, ga0_0, ga0_1, ga0_2, ga0_3⟩ := t_box4 q0; obtain ⟨⟨ca1_0, ca1_1, ca1_2, ca1_3⟩, ga1_0, ga1_1, ga1_2, ga1_3⟩ := t_box4 q1; clear q0 q1; go_simp; first | done | with_reducible rfl)
      simp only [Act.put, nS]
      refine tkH 6 ?_ rfl ⟨F225_pa_27.out, F226_pb_27.out⟩ (fun W' hW' => ?_) ?_; rotate_left; · (obtain ⟨q0, q1⟩ := hW'; obtain ⟨⟨ca0_0, ca0_1, ca0_2, ca0_3⟩, ga0_0, ga0_1, ga0_2, ga0_3⟩ := t_box4 q0; obtain ⟨⟨ca1_0, ca1_1, ca1_2, ca1_3⟩, ga1_0, ga1_1, ga1_2, ga1_3⟩ := t_box4 q1; clear q0 q1; go_simp; first | done | with_reducible rfl)
      simp only [Act.put, nS]
      refine tkH 7 ?_ rfl ⟨F225_pa_27.out, F226_pb_27.out⟩ (fun W' hW' => ?_) ?_; rotate_left; · (obtain ⟨q0, q1⟩ := hW'; obtain ⟨⟨ca0_0, ca0_1, ca0_2, ca0_3⟩, ga0_0, ga0_1, ga0_2, ga0_3⟩ := t_box4 q0; obtain ⟨⟨ca1_0, ca1_1, ca1_2, ca1_3⟩, ga1_0, ga1_1, ga1_2, ga1_3⟩ := t_box4 q1; clear q0 q1; go_simp; first | done | with_reducible rfl)
      simp only [Act.put, nS]
      have hd23 : Below (w23).heap.size (w23) (w23) := Below.refl _ _
      have hd24 := below_trans hd23 hb24 hd23.size
      have hd25 := below_trans hd24 hb25 hd24.size
      have hd26 := below_trans hd25 hb26 hd25.size
      have hd27 := below_trans hd26 hb27 hd26.size
      refine oneH 8 rfl (by kernel_rfl) (by rfl) (fun K hK => ?_)
      go_simp
      refine hK _ _ ⟨(t_box_below F225_pa_27.out (t_below_alloc _ _)), (t_box_below F226_pb_27.out (t_below_alloc _ _))⟩ ?_
      clear hK K
      refine oneH 9 rfl (by kernel_rfl) (by rfl) (fun K hK => ?_)
      go_simp
      refine hK _ _ ⟨(t_box_below F225_pa_27.out (t_below_alloc _ _)), (t_box_below F226_pb_27.out (t_below_alloc _ _))⟩ ?_
      clear hK K
      refine tkH 10 ?_ rfl ⟨(t_box_below F225_pa_27.out (t_below_alloc _ _)), (t_box_below F226_pb_27.out (t_below_alloc _ _))⟩ (fun W' hW' => ?_) ?_; rotate_left; · (obtain ⟨q0, q1⟩ := hW'; obtain ⟨⟨ca0_0, ca0_1, ca0_2, ca0_3⟩, ga0_0, ga0_1, ga0_2, ga0_3⟩ := t_box4 q0; obtain ⟨⟨ca1_0, ca1_1, ca1_2, ca1_3⟩, ga1_0, ga1_1, ga1_2, ga1_3⟩ := t_box4 q1; clear q0 q1; go_simp; first | done | with_reducible rfl)
      simp only [Act.put, nS]
      refine doneH (by kernel_rfl) ?_
      go_wp2_with (fail)
      go_meet
      exact ⟨_, _, _, _, _, _, _, _, rfl, rfl, heap_alloc_new _ _, o27r0.below (t_below_alloc _ _), (fr27_0.mono (Nat.le_trans (Nat.le_trans (Nat.le_trans (Nat.le_refl _) hb24.size) hb25.size) hb26.size)), hd27.size, below_trans hd27 (t_below_alloc _ _) hd27.size⟩
     case h2223 =>
      have lp227_pa := t_box_lt F221_pa_26.out
      have lp228_pb := t_box_lt F222_pb_26.out
      have hb27 := t_below_alloc (w26) (.cells #[.slice none 0 0, .slice none 0 0] 40)
      have bz27 := lH (show ((w26).alloc (.cells #[.slice none 0 0, .slice none 0 0] 40)).heap[(w26).heap.size]? = some (.cells #[.slice none 0 0, .slice none 0 0] 40) from heap_alloc_new (w26) (.cells #[.slice none 0 0, .slice none 0 0] 40))
      have hB27 := below_trans hB26 hb27 hB26.size
      simp only [Act.put, nS]
      refine' callH 4 (f := _) (args := _) rfl (by kernel_rfl) (by rfl) ?_ ?_; rotate_left 2; · (go_simp; first | done | with_reducible rfl | (constructor <;> with_reducible rfl))
      have lB229 := t_box_lt bz27.out
      have F230_ya_26 := o25.below hb26
      clear o25
      have F231_ya_27 := F230_ya_26.below hb27
      clear F230_ya_26
      have F232_yb_27 := o26.below hb27
      clear o26
      refine (iIsomorphismOf_law  F231_ya_27.rd F232_yb_27.rd oka okb).mono ?_
      rintro e w28 ⟨v28_0, fp28_0, rfl, o28r0, fr28_0, hb28⟩
      have hB28 := below_trans hB27 hb28 hB27.size
      have F233_pa_27 := lH (t_box_below F221_pa_26.out hb27)
      clear F221_pa_26
      have F234_pa_28 := lH (t_box_below F233_pa_27.out hb28)
      clear F233_pa_27
      have F235_pb_27 := lH (t_box_below F222_pb_26.out hb27)
      clear F222_pb_26
      have F236_pb_28 := lH (t_box_below F235_pb_27.out hb28)
      clear F235_pb_27
      refine ⟨_, rfl, ⟨F234_pa_28.out, F236_pb_28.out⟩, ?_⟩
      obtain ⟨A28_0, n28_0, c28_0, B28_0, m28_0, d28_0, rfl⟩ := o28r0.shape
      simp only [Act.put, nS]
      refine tkH 5 ?_ rfl ⟨F234_pa_28.out, F236_pb_28.out⟩ (fun W' hW' => ?_) ?_; rotate_left; · (obtain ⟨q0, q1⟩ := hW'; obtain ⟨⟨ca0_0, ca0_1, ca0_2, ca0_3⟩, ga0_0, ga0_1, ga0_2, ga0_3⟩ := t_box4 q0; obtain ⟨⟨ca1_0, ca1_1, ca1_2, ca1_3⟩, ga1_0, ga1_1, ga1_2, ga1_3⟩ := t_box4 q1; clear q0 q1; go_simp; first | done | with_reducible rfl)
      simp only [Act.put, nS]
      refine tkH 6 ?_ rfl ⟨F234_pa_28.out, F236_pb_28.out⟩ (fun W' hW' => ?_) ?_; rotate_left; · (obtain ⟨q0, q1⟩ := hW'; obtain ⟨⟨ca0_0, ca0_1, ca0_2, ca0_3⟩, ga0_0, ga0_1, ga0_2, ga0_3⟩ := t_box4 q0; obtain ⟨⟨ca1_0, ca1_1, ca1_2, ca1_3⟩, ga1_0, ga1_1, ga1_2, ga1_3⟩ := t_box4 q1; clear q0 q1; go_simp; first | done | with_reducible rfl)
      simp only [Act.put, nS]
      refine tkH 7 ?_ rfl ⟨F234_pa_28.out, F236_pb_28.out⟩ (fun W' hW' => ?_) ?_; rotate_left; · (obtain ⟨q0, q1⟩ := hW'; obtain ⟨⟨ca0_0, ca0_1, ca0_2, ca0_3⟩, ga0_0, ga0_1, ga0_2, ga0_3⟩ := t_box4 q0; obtain ⟨⟨ca1_0, ca1_1, ca1_2, ca1_3⟩, ga1_0, ga1_1, ga1_2, ga1_3⟩ := t_box4 q1; clear q0 q1; go_simp; first | done | with_reducible rfl)
      simp only [Act.put, nS]
      have hd23 : Below (w23).heap.size (w23) (w23) := Below.refl _ _
      have hd24 := below_trans hd23 hb24 hd23.size
      have hd25 := below_trans hd24 hb25 hd24.size
      have hd26 := below_trans hd25 hb26 hd25.size
      have hd27 := below_trans hd26 hb27 hd26.size
      have hd28 := below_trans hd27 hb28 hd27.size
      have F237_zbox_28 := lH (t_box_below bz27.out hb28)
      clear bz27
      obtain ⟨s1, s2⟩ := t_set2 (a := .slice A28_0 n28_0 c28_0) (b := .slice B28_0 m28_0 d28_0) F237_zbox_28.out
      obtain ⟨⟨z0, z1⟩, z2, z3⟩ := t_box2 F237_zbox_28.out
      have o2 := o28r0.keeps s2 (fun b hb e => by have := fr28_0 b hb; have := lB229; omega)
      have hdf := below_keeps hd28 s2 hd28.size (fun k hk => by rw [hk]; exact hd26.size)
      refine oneH 9 rfl (by kernel_rfl) (by rfl) (fun K hK => ?_)
      go_simp
      refine hK _ _ ⟨(t_box_keeps F234_pa_28.out s2 (fun e => Nat.ne_of_lt lp227_pa e)), (t_box_keeps F236_pb_28.out s2 (fun e => Nat.ne_of_lt lp228_pb e))⟩ ?_
      clear hK K
      refine tkH 10 ?_ rfl ⟨(t_box_keeps F234_pa_28.out s2 (fun e => Nat.ne_of_lt lp227_pa e)), (t_box_keeps F236_pb_28.out s2 (fun e => Nat.ne_of_lt lp228_pb e))⟩ (fun W' hW' => ?_) ?_; rotate_left; · (obtain ⟨q0, q1⟩ := hW'; obtain ⟨⟨ca0_0, ca0_1, ca0_2, ca0_3⟩, ga0_0, ga0_1, ga0_2, ga0_3⟩ := t_box4 q0; obtain ⟨⟨ca1_0, ca1_1, ca1_2, ca1_3⟩, ga1_0, ga1_1, ga1_2, ga1_3⟩ := t_box4 q1; clear q0 q1; go_simp; first | done | with_reducible rfl)
      simp only [Act.put, nS]
      refine doneH (by kernel_rfl) ?_
      go_wp2_with (fail)
      go_meet
      exact ⟨_, _, _, _, _, _, _, _, rfl, rfl, s1, o2, (fr28_0.mono (Nat.le_trans (Nat.le_trans (Nat.le_trans (Nat.le_trans (Nat.le_refl _) hb24.size) hb25.size) hb26.size) hb27.size)), hd26.size, hdf⟩
    case h2220 =>
     have lp238_pa := t_box_lt F218_pa_25.out
     have lp239_pb := t_box_lt F219_pb_25.out
     have hb26 := t_below_alloc (w25) (.cells #[.slice none 0 0, .slice none 0 0] 40)
     have bz26 := lH (show ((w25).alloc (.cells #[.slice none 0 0, .slice none 0 0] 40)).heap[(w25).heap.size]? = some (.cells #[.slice none 0 0, .slice none 0 0] 40) from heap_alloc_new (w25) (.cells #[.slice none 0 0, .slice none 0 0] 40))
     have hB26 := below_trans hB25 hb26 hB25.size
     simp only [Act.put, nS]
     refine' callH 3 (f := _) (args := _) rfl (by kernel_rfl) (by rfl) ?_ ?_; rotate_left 2; · (go_simp; first | done | with_reducible rfl | (constructor <;> with_reducible rfl))
     refine (toGraph_law (hb.below hB26) okb).mono ?_
     rintro e w27 ⟨v27, fp27, rfl, o27, fr27, hb27⟩
     have hB27 := below_trans hB26 hb27 hB26.size
     have F240_pa_26 := lH (t_box_below F218_pa_25.out hb26)
     clear F218_pa_25
     have F241_pa_27 := lH (t_box_below F240_pa_26.out hb27)
     clear F240_pa_26
     have F242_pb_26 := lH (t_box_below F219_pb_25.out hb26)
     clear F219_pb_25
     have F243_pb_27 := lH (t_box_below F242_pb_26.out hb27)
     clear F242_pb_26
     refine ⟨_, rfl, ⟨F241_pa_27.out, F243_pb_27.out⟩, ?_⟩
     obtain ⟨A27, n27, c27, B27, m27, d27, C27, k27, e27, rfl⟩ := o27.shape
     have lt_yb := o27.lt
     simp only [Act.put, nS]
     refine' callH 4 (f := _) (args := _) rfl (by kernel_rfl) (by rfl) ?_ ?_; rotate_left 2; · (go_simp; first | done | with_reducible rfl | (constructor <;> with_reducible rfl))
     have F245_zbox_27 := lH (t_box_below bz26.out hb27)
     clear bz26
     have lB244 := t_box_lt F245_zbox_27.out
     have F246_ya_26 := o25.below hb26
     clear o25
     have F247_ya_27 := F246_ya_26.below hb27
     clear F246_ya_26
     refine (iIsomorphismOf_law  F247_ya_27.rd o27.rd oka okb).mono ?_
     rintro e w28 ⟨v28_0, fp28_0, rfl, o28r0, fr28_0, hb28⟩
     have hB28 := below_trans hB27 hb28 hB27.size
     have F248_pa_28 := lH (t_box_below F241_pa_27.out hb28)
     clear F241_pa_27
     have F249_pb_28 := lH (t_box_below F243_pb_27.out hb28)
     clear F243_pb_27
     refine ⟨_, rfl, ⟨F248_pa_28.out, F249_pb_28.out⟩, ?_⟩
     obtain ⟨A28_0, n28_0, c28_0, B28_0, m28_0, d28_0, rfl⟩ := o28r0.shape
     simp only [Act.put, nS]
     refine tkH 5 ?_ rfl ⟨F248_pa_28.out, F249_pb_28.out⟩ (fun W' hW' => ?_) ?_; rotate_left; · (obtain ⟨q0, q1⟩ := hW'; obtain ⟨⟨ca0_0, ca0_1, ca0_2, ca0_3⟩, ga0_0, ga0_1, ga0_2, ga0_3⟩ := t_box4 q0; obtain ⟨⟨ca1_0, ca1_1, ca1_2, ca1_3⟩, ga1_0, ga1_1, ga1_2, ga1_3⟩ := t_box4 q1; clear q0 q1; go_simp; first | done | with_reducible rfl)
     simp only [Act.put, nS]
     refine tkH 6 ?_ rfl ⟨F248_pa_28.out, F249_pb_28.out⟩ (fun W' hW' => ?_) ?_; rotate_left; · (obtain ⟨q0, q1⟩ := hW'; obtain ⟨⟨ca0_0, ca0_1, ca0_2, ca0_3⟩, ga0_0, ga0_1, ga0_2, ga0_3⟩ := t_box4 q0; obtain ⟨⟨ca1_0, ca1_1, ca1_2, ca1_3⟩, ga1_0, ga1_1, ga1_2, ga1_3⟩ := t_box4 q1; clear q0 q1; go_simp; first | done | with_reducible rfl)
     simp only [Act.put, nS]
     refine tkH 7 ?_ rfl ⟨F248_pa_28.out, F249_pb_28.out⟩ (fun W' hW' => ?_) ?_; rotate_left; · (obtain ⟨q0, q1⟩ := hW'; obtain ⟨⟨ca0_0, ca0_1, ca0_2, ca0_3⟩, ga0_0, ga0_1, ga0_2, ga0_3⟩ := t_box4 q0; obtain ⟨⟨ca1_0, ca1_1, ca1_2, ca1_3⟩, ga1_0, ga1_1, ga1_2, ga1_3⟩ := t_box4 q1; clear q0 q1; go_simp; first | done | with_reducible rfl)
     simp only [Act.put, nS]
     have hd23 : Below (w23).heap.size (w23) (w23) := Below.refl _ _
     have hd24 := below_trans hd23 hb24 hd23.size
     have hd25 := below_trans hd24 hb25 hd24.size
     have hd26 := below_trans hd25 hb26 hd25.size
     have hd27 := below_trans hd26 hb27 hd26.size
     have hd28 := below_trans hd27 hb28 hd27.size
     have F250_zbox_28 := lH (t_box_below F245_zbox_27.out hb28)
     clear F245_zbox_27
     obtain ⟨s1, s2⟩ := t_set2 (a := .slice A28_0 n28_0 c28_0) (b := .slice B28_0 m28_0 d28_0) F250_zbox_28.out
     obtain ⟨⟨z0, z1⟩, z2, z3⟩ := t_box2 F250_zbox_28.out
     have o2 := o28r0.keeps s2 (fun b hb e => by have := fr28_0 b hb; have := lB244; omega)
     have hdf := below_keeps hd28 s2 hd28.size (fun k hk => by rw [hk]; exact hd25.size)
     refine oneH 9 rfl (by kernel_rfl) (by rfl) (fun K hK => ?_)
     go_simp
     refine hK _ _ ⟨(t_box_keeps F248_pa_28.out s2 (fun e => Nat.ne_of_lt lp238_pa e)), (t_box_keeps F249_pb_28.out s2 (fun e => Nat.ne_of_lt lp239_pb e))⟩ ?_
     clear hK K
     refine tkH 10 ?_ rfl ⟨(t_box_keeps F248_pa_28.out s2 (fun e => Nat.ne_of_lt lp238_pa e)), (t_box_keeps F249_pb_28.out s2 (fun e => Nat.ne_of_lt lp239_pb e))⟩ (fun W' hW' => ?_) ?_; rotate_left; · (obtain ⟨q0, q1⟩ := hW'; obtain ⟨⟨ca0_0, ca0_1, ca0_2, ca0_3⟩, ga0_0, ga0_1, ga0_2, ga0_3⟩ := t_box4 q0; obtain ⟨⟨ca1_0, ca1_1, ca1_2, ca1_3⟩, ga1_0, ga1_1, ga1_2, ga1_3⟩ := t_box4 q1; clear q0 q1; go_simp; first | done | with_reducible rfl)
     simp only [Act.put, nS]
     refine doneH (by kernel_rfl) ?_
     go_wp2_with (fail)
     go_meet
     exact ⟨_, _, _, _, _, _, _, _, rfl, rfl, s1, o2, (fr28_0.mono (Nat.le_trans (Nat.le_trans (Nat.le_trans (Nat.le_trans (Nat.le_refl _) hb24.size) hb25.size) hb26.size) hb27.size)), hd25.size, hdf⟩
   case h2217 =>
    have lp251_pa := t_box_lt F215_pa_24.out
    have lp252_pb := t_box_lt F216_pb_24.out
    have hb25 := t_below_alloc ((w23).drew) (.cells #[.slice none 0 0, .slice none 0 0] 40)
    have bz25 := lH (show (((w23).drew).alloc (.cells #[.slice none 0 0, .slice none 0 0] 40)).heap[((w23)).heap.size]? = some (.cells #[.slice none 0 0, .slice none 0 0] 40) from heap_alloc_new ((w23).drew) (.cells #[.slice none 0 0, .slice none 0 0] 40))
    have hB25 := below_trans hB24 hb25 hB24.size
    simp only [Act.put, nS]
    refine' callH 1 (f := _) (args := _) rfl (by kernel_rfl) (by rfl) ?_ ?_; rotate_left 2; · (go_simp; first | done | with_reducible rfl | (constructor <;> with_reducible rfl))
    refine (toGraph_law (ha.below hB25) oka).mono ?_
    rintro e w26 ⟨v26, fp26, rfl, o26, fr26, hb26⟩
    have hB26 := below_trans hB25 hb26 hB25.size
    have F253_pa_25 := lH (t_box_below F215_pa_24.out hb25)
    clear F215_pa_24
    have F254_pa_26 := lH (t_box_below F253_pa_25.out hb26)
    clear F253_pa_25
    have F255_pb_25 := lH (t_box_below F216_pb_24.out hb25)
    clear F216_pb_24
    have F256_pb_26 := lH (t_box_below F255_pb_25.out hb26)
    clear F255_pb_25
    refine ⟨_, rfl, ⟨F254_pa_26.out, F256_pb_26.out⟩, ?_⟩
    obtain ⟨A26, n26, c26, B26, m26, d26, C26, k26, e26, rfl⟩ := o26.shape
    have lt_ya := o26.lt
    simp only [Act.put, nS]
    refine' callH 3 (f := _) (args := _) rfl (by kernel_rfl) (by rfl) ?_ ?_; rotate_left 2; · (go_simp; first | done | with_reducible rfl | (constructor <;> with_reducible rfl))
    refine (toGraph_law (hb.below hB26) okb).mono ?_
    rintro e w27 ⟨v27, fp27, rfl, o27, fr27, hb27⟩
    have hB27 := below_trans hB26 hb27 hB26.size
    have F257_pa_27 := lH (t_box_below F254_pa_26.out hb27)
    clear F254_pa_26
    have F258_pb_27 := lH (t_box_below F256_pb_26.out hb27)
    clear F256_pb_26
    refine ⟨_, rfl, ⟨F257_pa_27.out, F258_pb_27.out⟩, ?_⟩
    obtain ⟨A27, n27, c27, B27, m27, d27, C27, k27, e27, rfl⟩ := o27.shape
    have lt_yb := o27.lt
    simp only [Act.put, nS]
    refine' callH 4 (f := _) (args := _) rfl (by kernel_rfl) (by rfl) ?_ ?_; rotate_left 2; · (go_simp; first | done | with_reducible rfl | (constructor <;> with_reducible rfl))
    have F260_zbox_26 := lH (t_box_below bz25.out hb26)
    clear bz25
    have F261_zbox_27 := lH (t_box_below F260_zbox_26.out hb27)
    clear F260_zbox_26
    have lB259 := t_box_lt F261_zbox_27.out
    have F262_ya_27 := o26.below hb27
    clear o26
    refine (iIsomorphismOf_law  F262_ya_27.rd o27.rd oka okb).mono ?_
    rintro e w28 ⟨v28_0, fp28_0, rfl, o28r0, fr28_0, hb28⟩
    have hB28 := below_trans hB27 hb28 hB27.size
    have F263_pa_28 := lH (t_box_below F257_pa_27.out hb28)
    clear F257_pa_27
    have F264_pb_28 := lH (t_box_below F258_pb_27.out hb28)
    clear F258_pb_27
    refine ⟨_, rfl, ⟨F263_pa_28.out, F264_pb_28.out⟩, ?_⟩
    obtain ⟨A28_0, n28_0, c28_0, B28_0, m28_0, d28_0, rfl⟩ := o28r0.shape
    simp only [Act.put, nS]
    refine tkH 5 ?_ rfl ⟨F263_pa_28.out, F264_pb_28.out⟩ (fun W' hW' => ?_) ?_; rotate_left; · (obtain ⟨q0, q1⟩ := hW'; obtain ⟨⟨ca0_0, ca0_1, ca0_2, ca0_3⟩, ga0_0, ga0_1, ga0_2, ga0_3⟩ := t_box4 q0; obtain ⟨⟨ca1_0, ca1_1, ca1_2, ca1_3⟩, ga1_0, ga1_1, ga1_2, ga1_3⟩ := t_box4 q1; clear q0 q1; go_simp; first | done | with_reducible rfl)
    simp only [Act.put, nS]
    refine tkH 6 ?_ rfl ⟨F263_pa_28.out, F264_pb_28.out⟩ (fun W' hW' => ?_) ?_; rotate_left; · (obtain ⟨q0, q1⟩ := hW'; obtain ⟨⟨ca0_0, ca0_1, ca0_2, ca0_3⟩, ga0_0, ga0_1, ga0_2, ga0_3⟩ := t_box4 q0; obtain ⟨⟨ca1_0, ca1_1, ca1_2, ca1_3⟩, ga1_0, ga1_1, ga1_2, ga1_3⟩ := t_box4 q1; clear q0 q1; go_simp; first | done | with_reducible rfl)
    simp only [Act.put, nS]
    refine tkH 7 ?_ rfl ⟨F263_pa_28.out, F264_pb_28.out⟩ (fun W' hW' => ?_) ?_; rotate_left; · (obtain ⟨q0, q1⟩ := hW'; obtain ⟨⟨ca0_0, ca0_1, ca0_2, ca0_3⟩, ga0_0, ga0_1, ga0_2, ga0_3⟩ := t_box4 q0; obtain ⟨⟨ca1_0, ca1_1, ca1_2, ca1_3⟩, ga1_0, ga1_1, ga1_2, ga1_3⟩ := t_box4 q1; clear q0 q1; go_simp; first | done | with_reducible rfl)
    simp only [Act.put, nS]
    have hd23 : Below (w23).heap.size (w23) (w23) := Below.refl _ _
    have hd24 := below_trans hd23 hb24 hd23.size
    have hd25 := below_trans hd24 hb25 hd24.size
    have hd26 := below_trans hd25 hb26 hd25.size
    have hd27 := below_trans hd26 hb27 hd26.size
    have hd28 := below_trans hd27 hb28 hd27.size
    have F265_zbox_28 := lH (t_box_below F261_zbox_27.out hb28)
    clear F261_zbox_27
    obtain ⟨s1, s2⟩ := t_set2 (a := .slice A28_0 n28_0 c28_0) (b := .slice B28_0 m28_0 d28_0) F265_zbox_28.out
    obtain ⟨⟨z0, z1⟩, z2, z3⟩ := t_box2 F265_zbox_28.out
    have o2 := o28r0.keeps s2 (fun b hb e => by have := fr28_0 b hb; have := lB259; omega)
    have hdf := below_keeps hd28 s2 hd28.size (fun k hk => by rw [hk]; exact hd24.size)
    refine oneH 9 rfl (by kernel_rfl) (by rfl) (fun K hK => ?_)
    go_simp
    refine hK _ _ ⟨(t_box_keeps F263_pa_28.out s2 (fun e => Nat.ne_of_lt lp251_pa e)), (t_box_keeps F264_pb_28.out s2 (fun e => Nat.ne_of_lt lp252_pb e))⟩ ?_
    clear hK K
    refine tkH 10 ?_ rfl ⟨(t_box_keeps F263_pa_28.out s2 (fun e => Nat.ne_of_lt lp251_pa e)), (t_box_keeps F264_pb_28.out s2 (fun e => Nat.ne_of_lt lp252_pb e))⟩ (fun W' hW' => ?_) ?_; rotate_left; · (obtain ⟨q0, q1⟩ := hW'; obtain ⟨⟨ca0_0, ca0_1, ca0_2, ca0_3⟩, ga0_0, ga0_1, ga0_2, ga0_3⟩ := t_box4 q0; obtain ⟨⟨ca1_0, ca1_1, ca1_2, ca1_3⟩, ga1_0, ga1_1, ga1_2, ga1_3⟩ := t_box4 q1; clear q0 q1; go_simp; first | done | with_reducible rfl)
    simp only [Act.put, nS]
    refine doneH (by kernel_rfl) ?_
    go_wp2_with (fail)
    go_meet
    exact ⟨_, _, _, _, _, _, _, _, rfl, rfl, s1, o2, (fr28_0.mono (Nat.le_trans (Nat.le_trans (Nat.le_trans (Nat.le_trans (Nat.le_refl _) hb24.size) hb25.size) hb26.size) hb27.size)), hd24.size, hdf⟩
  case rest =>
   obtain ⟨B214, nX214, cX214, mX214, dX214, AX214, BX214, fpx214, rfl, rfl, bx214c, o214c, fr214c, hge214, hb214c⟩ := hcut
   obtain ⟨w24c, rfl⟩ : ∃ x, x = wc := ⟨_, rfl⟩
   have hB24 := below_trans hB23 hb214c hB23.size
   have lt_H0 := o214c.lt
   have lt_bH0 : LtL (w24c).heap.size [B214] := fun b hb => by obtain rfl := List.mem_singleton.1 hb; exact t_box_lt bx214c
   have fr_bH0 : FreshL (w23).heap.size [B214] := fun b hb => by obtain rfl := List.mem_singleton.1 hb; exact hge214
   have BX_bH0_214 := lH bx214c; clear bx214c
   have F266_W0_21 := F175_W0_20.below hb21
   clear F175_W0_20
   have F267_W0_22 := F266_W0_21.keeps hk22 (apart_of lt_W0 (fr10_0.mono (Nat.le_trans (Nat.le_trans (Nat.le_trans (Nat.le_trans (Nat.le_refl _) hb6.size) hb7.size) hb8.size) hb9.size)))
   clear F266_W0_21
   have F268_W0_23 := F267_W0_22.below hb23
   clear F267_W0_22
   have F269_W0_24 := F268_W0_23.below hb214c
   clear F268_W0_23
   obtain ⟨⟨c270_0, c270_1⟩, f270_0, f270_1⟩ := t_box2 BX_bH0_214.out
   have F271_bW0_21 := lH (t_box_below F194_bW0_20.out hb21)
   clear F194_bW0_20
   have F272_bW0_22 := lH (t_box_keeps F271_bW0_21.out hk22 (fun hh => (apart_of lt_bW0 (fr10_0.mono (Nat.le_trans (Nat.le_trans (Nat.le_trans (Nat.le_trans (Nat.le_refl _) hb6.size) hb7.size) hb8.size) hb9.size))) _ (List.mem_singleton.2 rfl) hh))
   clear F271_bW0_21
   have F273_bW0_23 := lH (t_box_below F272_bW0_22.out hb23)
   clear F272_bW0_22
   have F274_bW0_24 := lH (t_box_below F273_bW0_23.out hb214c)
   clear F273_bW0_23
   obtain ⟨⟨c275_0, c275_1⟩, f275_0, f275_1⟩ := t_box2 F274_bW0_24.out
   go_wp2_with (fail)
   refine (eqMatch_law o214c.rd F269_W0_24.rd (ioR_ok a b)).mono ?_
   rintro e w25 ⟨rfl, hb25⟩
   have hB25 := below_trans hB24 hb25 hB24.size
   clear c270_0 c270_1 f270_0 f270_1 c275_0 c275_1 f275_0 f275_1
   rw [decide_eq_true (rfl : (ioR a b).1 = (ioR a b).1)]
   have F276_G0_23 := he22.below hb23
   clear he22
   have F277_G0_24 := F276_G0_23.below hb214c
   clear F276_G0_23
   have F278_G0_25 := F277_G0_24.below hb25
   clear F277_G0_24
   have F279_bG0_23 := lH (t_box_below F199_bG0_22.out hb23)
   clear F199_bG0_22
   have F280_bG0_24 := lH (t_box_below F279_bG0_23.out hb214c)
   clear F279_bG0_23
   have F281_bG0_25 := lH (t_box_below F280_bG0_24.out hb25)
   clear F280_bG0_24
   obtain ⟨⟨c282_0, c282_1⟩, f282_0, f282_1⟩ := t_box2 F281_bG0_25.out
   go_wp2_with (fail)
   refine (heldMatch_law F278_G0_25 (by omega) (ioR_ok a b) (by have := (ioR_ok a b).2.2; constructor <;> omega)).mono ?_
   rintro e w26 ⟨rfl, hb26⟩
   have hB26 := below_trans hB25 hb26 hB25.size
   clear c282_0 c282_1 f282_0 f282_1
   go_wp2_with (fail)
   go_ret
   exact ⟨rfl, hB26⟩
theorem readIsomorphismOf : ∀ t ∈ Tryz.f5.params.toList, Tryz.prog.readableRec t = true ∧ t < Tryz.prog.types.size := by
 rw [Tryz.params5]
 intro t ht
 have ht' : t ∈ ([25, 25] : List TypeId) := ht
 rcases List.mem_cons.1 ht' with rfl | ht'
 · exact ⟨by kernel_rfl, of_decide_eq_true (by kernel_rfl)⟩
 rcases List.mem_cons.1 ht' with rfl | ht'
 · exact ⟨by kernel_rfl, of_decide_eq_true (by kernel_rfl)⟩
 cases ht'
set_option maxRecDepth 100000 in
theorem liftedIsomorphismOf (os : Os) (started : os.Started) (H : Type) (enc : TypeId × Value → H) :
  ReturnsInHanded {} Tryz.checked os 5 .any (Rows.fnExactIsomorphismOfSpec.pre6 enc Tryz.prog Tryz.f5 Rows.fnExactIsomorphismOfRow.domain false) (Rows.fnExactIsomorphismOfSpec.post enc Tryz.prog Tryz.f5 false true false false) := by
 refine returnsInHanded_of_change (C := Tryz.checked) own started (by kernel_rfl) Tryz.func5
  (ChangeSpec.witness6 (enc := enc) (C := Tryz.checked) false ⟨#[], #[.agg #[.int .i64 0, .slice none 0 0, .slice none 0 0, .slice none 0 0], .agg #[.int .i64 0, .slice none 0 0, .slice none 0 0, .slice none 0 0]], []⟩ 8 (by kernel_rfl) (by kernel_rfl) (by kernel_rfl) (by kernel_rfl)) ?_
 intro W base args ds gs before hval0 hW hcnd _
 have hval : ∀ (j : Nat) t v, Tryz.f5.params[j]? = some t → args[j]? = some v → Value.okWide Tryz.prog W .any base t v := hval0
 have hW' := hW
 obtain ⟨p, q, hA0, hV, rfl, hfz, hnd⟩ := hW
 have hA : DataW.TrodAll enc Tryz.prog W 0 (fun _ => true) true Tryz.f5.params.toList args.toList ds p := hA0
 rw [Tryz.params5] at hA hval
 obtain ⟨v0, vs0, d0, ds0, p0, q0, hargs, rfl, rfl, t0, r0⟩ := trodAll_cons hA
 obtain ⟨v1, vs1, d1, ds1, p1, q1, rfl, rfl, rfl, t1, r1⟩ := trodAll_cons r0
 obtain ⟨rfl, rfl, rfl⟩ := trodAll_nil r1
 obtain rfl : args = #[v0, v1] := by cases args; simp_all
 obtain ⟨rfl, rfl⟩ := trodVars_none hV
 obtain ⟨m0, hl0, hg0⟩ := in_Graph (hval 0 _ v0 rfl rfl) t0
 obtain ⟨m1, hl1, hg1⟩ := in_Graph (hval 1 _ v1 rfl rfl) t1
 clear hA0 hval0
 refine (lawIsomorphismOf_any v0 m0 v1 m1 W hl0 hg0 hl1 hg1 ).mono fun e W' ⟨he, hb⟩ => ?_
 subst he
 exact ⟨_, rfl, post_true laidOut hW' hb readIsomorphismOf (fun n hn => by cases hn) rfl rfl Tryz.underlying4⟩
theorem provedIsomorphismOf : Rows.FnExactIsomorphismOfSaid :=
 OpenClaim.holds_of_wide 5 Tryz.f5 rfl rfl rfl rfl rfl rfl rfl ⟨rfl, rfl, rfl, rfl, rfl⟩ rfl rfl rfl rfl rfl (by kernel_rfl) Tryz.func5 (by kernel_rfl)
  (of_decide_eq_true (by kernel_rfl)) (by unfold Func.isWrapper; first | (rw [if_pos (by decide +kernel)]; kernel_rfl) | (rw [if_neg (by decide +kernel)]; exact ⟨rfl, rfl⟩))
  (fun os started H enc _ => liftedIsomorphismOf os started H enc)
#print axioms provedIsomorphismOf
end Go.Proofs.YtjompikdkhhlgaaGreat
