/-
  The program's ComposeRelations returns what the reference's returns, for all arguments (laws.FnExactComposeRelations answers true): the tied card.
-/
import Derived.Test.YtahnhblodfdfhaaDoorKComposeRelations3
namespace Go.Proofs.YtahnhblodfdfhaaDoor
open Go.ChangeShapes Go.WideShapes Go.ChangeAt Go.RowKit
set_option maxHeartbeats 4000000 in
set_option maxRecDepth 100000 in
theorem lawComposeRelations_any (p : Int) (vr : Value) (r : Sys) (vt : Value) (t : Sys) (w : World) (hr : RdSysV w vr r) (hgr : BigRelation r) (ht : RdSysV w vt t) (hgt : BigRelation t) (_lop : -9223372036854775808 ≤ p) (_hip : p ≤ 9223372036854775807) (hT : Tab w) :
    Calls Tryd.prog 5 #[.int .i64 p, vr, vt] w fun e w' => e = .returned (.bool true) ∧ Below w.heap.size w w' := by
  obtain ⟨Ar, nr, cr, rfl⟩ := hr.shape
  obtain ⟨At, nt, ct, rfl⟩ := ht.shape
  obtain ⟨Sr, hSr⟩ : ∃ S, S = szR (r).2.2 1048576 := ⟨_, rfl⟩
  have HSr := Lib.hid hSr
  clear hSr
  obtain ⟨St, hSt⟩ : ∃ S, S = szR (t).2.2 Sr := ⟨_, rfl⟩
  have HSt := Lib.hid hSt
  clear hSt
  have hB0 : Below w.heap.size w w := Below.refl _ _
  have hb1 := below_alloc (w) (.cells #[.int .i64 (r).1, .int .i64 (r).2.1, .slice Ar nr cr] 41)
  have hB1 := below_trans hB0 hb1 hB0.size
  have bx1 := heap_alloc_new (w) (.cells #[.int .i64 (r).1, .int .i64 (r).2.1, .slice Ar nr cr] 41)
  have lt_pr : LtL ((w).alloc (.cells #[.int .i64 (r).1, .int .i64 (r).2.1, .slice Ar nr cr] 41)).heap.size [(w).heap.size] := fun b hb => by obtain rfl := List.mem_singleton.1 hb; exact box_lt bx1
  have fr_pr : FreshL (w).heap.size [(w).heap.size] := fun b hb => by obtain rfl := List.mem_singleton.1 hb; exact Nat.le_refl _
  have BX_pr_1 := Lib.hid bx1
  clear bx1
  have hb2 := below_alloc ((w).alloc (.cells #[.int .i64 (r).1, .int .i64 (r).2.1, .slice Ar nr cr] 41)) (.cells #[.int .i64 (t).1, .int .i64 (t).2.1, .slice At nt ct] 41)
  have hB2 := below_trans hB1 hb2 hB1.size
  have bx2 : (((w).alloc (.cells #[.int .i64 (r).1, .int .i64 (r).2.1, .slice Ar nr cr] 41)).alloc (.cells #[.int .i64 (t).1, .int .i64 (t).2.1, .slice At nt ct] 41)).heap[(w).heap.size + 1]? = some (.cells #[.int .i64 (t).1, .int .i64 (t).2.1, .slice At nt ct] 41) := by
    have := heap_alloc_new ((w).alloc (.cells #[.int .i64 (r).1, .int .i64 (r).2.1, .slice Ar nr cr] 41)) (.cells #[.int .i64 (t).1, .int .i64 (t).2.1, .slice At nt ct] 41)
    simp only [World.size_alloc] at this; exact this
  have lt_pt : LtL (((w).alloc (.cells #[.int .i64 (r).1, .int .i64 (r).2.1, .slice Ar nr cr] 41)).alloc (.cells #[.int .i64 (t).1, .int .i64 (t).2.1, .slice At nt ct] 41)).heap.size [(w).heap.size + 1] := fun b hb => by obtain rfl := List.mem_singleton.1 hb; exact box_lt bx2
  have fr_pt : FreshL ((w).alloc (.cells #[.int .i64 (r).1, .int .i64 (r).2.1, .slice Ar nr cr] 41)).heap.size [(w).heap.size + 1] := fun b hb => by obtain rfl := List.mem_singleton.1 hb; simp only [World.size_alloc]; exact Nat.le_refl _
  have BX_pt_2 := Lib.hid bx2
  clear bx2
  by_cases negr : Sr < 0
  case pos =>
    go_enter Tryd.func5, Tryd.ntmps5
    have F1_pr_2 := Lib.hid (box_below BX_pr_1.out hb2)
    clear BX_pr_1
    obtain ⟨⟨c2_0, c2_1, c2_2⟩, f2_0, f2_1, f2_2⟩ := box3 F1_pr_2.out
    go_wp2_with (fail)
    refine (szRelation_law 1048576 (hr.below hB2) hgr (by omega) (by omega)).mono ?_
    rintro e w3 ⟨he3, hb3⟩
    have hB3 := below_trans hB2 hb3 hB2.size
    clear c2_0 c2_1 c2_2 f2_0 f2_1 f2_2
    rw [← HSr.out] at he3
    subst he3
    go_wp2_with (fail)
    go_ret
    exact ⟨rfl, hB3⟩
  have sokr := szR_ok (by rw [← HSr.out]; omega : 0 ≤ szR (r).2.2 1048576) (by omega)
  have okr := sokr.1
  have sler : Sr ≤ 1048576 := by rw [HSr.out]; exact sokr.2
  clear sokr
  by_cases negt : St < 0
  case pos =>
    go_enter Tryd.func5, Tryd.ntmps5
    have F3_pr_2 := Lib.hid (box_below BX_pr_1.out hb2)
    clear BX_pr_1
    obtain ⟨⟨c4_0, c4_1, c4_2⟩, f4_0, f4_1, f4_2⟩ := box3 F3_pr_2.out
    go_wp2_with (fail)
    refine (szRelation_law 1048576 (hr.below hB2) hgr (by omega) (by omega)).mono ?_
    rintro e w3 ⟨he3, hb3⟩
    have hB3 := below_trans hB2 hb3 hB2.size
    clear c4_0 c4_1 c4_2 f4_0 f4_1 f4_2
    rw [← HSr.out] at he3
    subst he3
    have F5_pt_3 := Lib.hid (box_below BX_pt_2.out hb3)
    clear BX_pt_2
    obtain ⟨⟨c6_0, c6_1, c6_2⟩, f6_0, f6_1, f6_2⟩ := box3 F5_pt_3.out
    go_wp2_with (fail)
    refine (szRelation_law Sr (ht.below hB3) hgt (by omega) (by omega)).mono ?_
    rintro e w4 ⟨he4, hb4⟩
    have hB4 := below_trans hB3 hb4 hB3.size
    clear c6_0 c6_1 c6_2 f6_0 f6_1 f6_2
    rw [← HSt.out] at he4
    subst he4
    go_wp2_with (fail)
    go_ret
    exact ⟨rfl, hB4⟩
  have sokt := szR_ok (by rw [← HSt.out]; omega : 0 ≤ szR (t).2.2 Sr) (by omega)
  have okt := sokt.1
  have slet : St ≤ Sr := by rw [HSt.out]; exact sokt.2
  clear sokt
  go_enter Tryd.func5, Tryd.ntmps5
  have F7_pr_2 := Lib.hid (box_below BX_pr_1.out hb2)
  clear BX_pr_1
  obtain ⟨⟨c8_0, c8_1, c8_2⟩, f8_0, f8_1, f8_2⟩ := box3 F7_pr_2.out
  go_wp2_with (fail)
  refine (szRelation_law 1048576 (hr.below hB2) hgr (by omega) (by omega)).mono ?_
  rintro e w3 ⟨he3, hb3⟩
  have hB3 := below_trans hB2 hb3 hB2.size
  clear c8_0 c8_1 c8_2 f8_0 f8_1 f8_2
  rw [← HSr.out] at he3
  subst he3
  have F9_pt_3 := Lib.hid (box_below BX_pt_2.out hb3)
  clear BX_pt_2
  obtain ⟨⟨c10_0, c10_1, c10_2⟩, f10_0, f10_1, f10_2⟩ := box3 F9_pt_3.out
  go_wp2_with (fail)
  refine (szRelation_law Sr (ht.below hB3) hgt (by omega) (by omega)).mono ?_
  rintro e w4 ⟨he4, hb4⟩
  have hB4 := below_trans hB3 hb4 hB3.size
  clear c10_0 c10_1 c10_2 f10_0 f10_1 f10_2
  rw [← HSt.out] at he4
  subst he4
  have F11_pr_3 := Lib.hid (box_below F7_pr_2.out hb3)
  clear F7_pr_2
  have F12_pr_4 := Lib.hid (box_below F11_pr_3.out hb4)
  clear F11_pr_3
  have F13_pt_4 := Lib.hid (box_below F9_pt_3.out hb4)
  clear F9_pt_3
  go_wp2_with (fail)
  go_cut [8, 9] (fun sb sf wx => ∃ (B14 nX14 cX14 : Nat) (AX14 : Option Addr) (fpx14 : List Nat), sb = .pointer (some ⟨B14, 0, none⟩) ∧ sf = .bool (cmpM p r t).2 ∧ wx.heap[B14]? = some (.cells #[.int .i64 ((cmpM p r t).1).1, .int .i64 ((cmpM p r t).1).2.1, .slice AX14 nX14 cX14] 43) ∧ OwSys wx (.agg #[.int .i64 ((cmpM p r t).1).1, .int .i64 ((cmpM p r t).1).2.1, .slice AX14 nX14 cX14]) ((cmpM p r t).1) fpx14 ∧ FreshL (w4).heap.size fpx14 ∧ (w4).heap.size ≤ B14 ∧ Below (w4).heap.size (w4) wx)
  case first =>
    refine beginH (fun w' => w'.heap[(w).heap.size]? = some (.cells #[.int .i64 (r).1, .int .i64 (r).2.1, .slice Ar nr cr] 41) ∧ w'.heap[(w).heap.size + 1]? = some (.cells #[.int .i64 (t).1, .int .i64 (t).2.1, .slice At nt ct] 41)) (by kernel_rfl) ?_
    have hb5 : Below (w4).heap.size (w4) (w4).drew := below_drewN (Below.refl _ _) 1
    have hB5 := below_trans hB4 hb5 hB4.size
    have F15_pr_5 := Lib.hid (box_below F12_pr_4.out hb5)
    clear F12_pr_4
    have F16_pt_5 := Lib.hid (box_below F13_pt_4.out hb5)
    clear F13_pt_4
    refine takeH 0 (v := ?_) rfl (by kernel_rfl) (by kernel_rfl) (by kernel_rfl) (fun _ _ _ h => h) ⟨F15_pr_5.out, F16_pt_5.out⟩ (by rfl) (fun W' hW' => ?_) ?_; rotate_left; · (obtain ⟨q0, q1⟩ := hW'; obtain ⟨⟨ca0_0, ca0_1, ca0_2⟩, ga0_0, ga0_1, ga0_2⟩ := box3 q0; obtain ⟨⟨ca1_0, ca1_1, ca1_2⟩, ga1_0, ga1_1, ga1_2⟩ := box3 q1; clear q0 q1; go_simp; first | done | with_reducible rfl)
    simp only [Act.put, List.setIfInBounds_toArray, List.set_cons_zero, List.set_cons_succ]
    refine takeH 1 (v := ?_) rfl (by kernel_rfl) (by kernel_rfl) (by kernel_rfl) (fun _ _ _ h => h) ⟨F15_pr_5.out, F16_pt_5.out⟩ (by rfl) (fun W' hW' => ?_) ?_; rotate_left; · (obtain ⟨q0, q1⟩ := hW'; obtain ⟨⟨ca0_0, ca0_1, ca0_2⟩, ga0_0, ga0_1, ga0_2⟩ := box3 q0; obtain ⟨⟨ca1_0, ca1_1, ca1_2⟩, ga1_0, ga1_1, ga1_2⟩ := box3 q1; clear q0 q1; go_simp; first | done | with_reducible rfl)
    simp only [Act.put, List.setIfInBounds_toArray, List.set_cons_zero, List.set_cons_succ]
    refine takeH 3 (v := ?_) rfl (by kernel_rfl) (by kernel_rfl) (by kernel_rfl) (fun _ _ _ h => h) ⟨F15_pr_5.out, F16_pt_5.out⟩ (by rfl) (fun W' hW' => ?_) ?_; rotate_left; · (obtain ⟨q0, q1⟩ := hW'; obtain ⟨⟨ca0_0, ca0_1, ca0_2⟩, ga0_0, ga0_1, ga0_2⟩ := box3 q0; obtain ⟨⟨ca1_0, ca1_1, ca1_2⟩, ga1_0, ga1_1, ga1_2⟩ := box3 q1; clear q0 q1; go_simp; first | done | with_reducible rfl)
    simp only [Act.put, List.setIfInBounds_toArray, List.set_cons_zero, List.set_cons_succ]
    refine callOrH 2 9 (f := ?f17) (args := ?args17) (vj := ?vj17) (wj := ?wj17) rfl rfl (by kernel_rfl) (by rfl) (by rfl) ?hrun17 ?hrunj17 ?h117 ?hSj17 ?h217
    case hrun17 => (go_simp; first | done | with_reducible rfl | (constructor <;> with_reducible rfl))
    case hrunj17 => (go_simp; first | done | with_reducible rfl | (constructor <;> with_reducible rfl))
    case hSj17 => exact ⟨(box_below F15_pr_5.out (below_alloc _ _)), (box_below F16_pt_5.out (below_alloc _ _))⟩
    case h117 =>
      refine (toRelation_law (hr.below hB5) okr).mono ?_
      rintro e w6 ⟨v6, fp6, rfl, o6, fr6, hb6⟩
      have hB6 := below_trans hB5 hb6 hB5.size
      have F18_pr_6 := Lib.hid (box_below F15_pr_5.out hb6)
      clear F15_pr_5
      have F19_pt_6 := Lib.hid (box_below F16_pt_5.out hb6)
      clear F16_pt_5
      refine ⟨_, rfl, ⟨F18_pr_6.out, F19_pt_6.out⟩, ?_⟩
      obtain ⟨A6, n6, c6, rfl⟩ := o6.shape
      have lt_ar := o6.lt
      simp only [Act.put, List.setIfInBounds_toArray, List.set_cons_zero, List.set_cons_succ]
      refine callOrH 4 9 (f := ?f20) (args := ?args20) (vj := ?vj20) (wj := ?wj20) rfl rfl (by kernel_rfl) (by rfl) (by rfl) ?hrun20 ?hrunj20 ?h120 ?hSj20 ?h220
      case hrun20 => (go_simp; first | done | with_reducible rfl | (constructor <;> with_reducible rfl))
      case hrunj20 => (go_simp; first | done | with_reducible rfl | (constructor <;> with_reducible rfl))
      case hSj20 => exact ⟨(box_below F18_pr_6.out (below_alloc _ _)), (box_below F19_pt_6.out (below_alloc _ _))⟩
      case h120 =>
        refine (toRelation_law (ht.below hB6) okt).mono ?_
        rintro e w7 ⟨v7, fp7, rfl, o7, fr7, hb7⟩
        have hB7 := below_trans hB6 hb7 hB6.size
        have F21_pr_7 := Lib.hid (box_below F18_pr_6.out hb7)
        clear F18_pr_6
        have F22_pt_7 := Lib.hid (box_below F19_pt_6.out hb7)
        clear F19_pt_6
        refine ⟨_, rfl, ⟨F21_pr_7.out, F22_pt_7.out⟩, ?_⟩
        obtain ⟨A7, n7, c7, rfl⟩ := o7.shape
        have lt_at := o7.lt
        simp only [Act.put, List.setIfInBounds_toArray, List.set_cons_zero, List.set_cons_succ]
        refine callOrH 5 9 (f := ?f23) (args := ?args23) (vj := ?vj23) (wj := ?wj23) rfl rfl (by kernel_rfl) (by rfl) (by rfl) ?hrun23 ?hrunj23 ?h123 ?hSj23 ?h223
        case hrun23 => (go_simp; first | done | with_reducible rfl | (constructor <;> with_reducible rfl))
        case hrunj23 => (go_simp; first | done | with_reducible rfl | (constructor <;> with_reducible rfl))
        case hSj23 => exact ⟨(box_below F21_pr_7.out (below_alloc _ _)), (box_below F22_pt_7.out (below_alloc _ _))⟩
        case h123 =>
          have F24_ar_7 := o6.below hb7
          clear o6
          refine (sComposeRelations_law p F24_ar_7 o7 okr okt).mono ?_
          rintro e w8 ⟨v8_0, fp8_0, rfl, o8r0, fr8_0, hb8⟩
          have hB8 := below_trans hB7 hb8 hB7.size
          have F25_pr_8 := Lib.hid (box_below F21_pr_7.out hb8)
          clear F21_pr_7
          have F26_pt_8 := Lib.hid (box_below F22_pt_7.out hb8)
          clear F22_pt_7
          refine ⟨_, rfl, ⟨F25_pr_8.out, F26_pt_8.out⟩, ?_⟩
          obtain ⟨A8_0, n8_0, c8_0, rfl⟩ := o8r0.shape
          simp only [Act.put, List.setIfInBounds_toArray, List.set_cons_zero, List.set_cons_succ]
          refine takeH 6 (v := ?_) rfl (by kernel_rfl) (by kernel_rfl) (by kernel_rfl) (fun _ _ _ h => h) ⟨F25_pr_8.out, F26_pt_8.out⟩ (by rfl) (fun W' hW' => ?_) ?_; rotate_left; · (obtain ⟨q0, q1⟩ := hW'; obtain ⟨⟨ca0_0, ca0_1, ca0_2⟩, ga0_0, ga0_1, ga0_2⟩ := box3 q0; obtain ⟨⟨ca1_0, ca1_1, ca1_2⟩, ga1_0, ga1_1, ga1_2⟩ := box3 q1; clear q0 q1; go_simp; first | done | with_reducible rfl)
          simp only [Act.put, List.setIfInBounds_toArray, List.set_cons_zero, List.set_cons_succ]
          refine takeH 7 (v := ?_) rfl (by kernel_rfl) (by kernel_rfl) (by kernel_rfl) (fun _ _ _ h => h) ⟨F25_pr_8.out, F26_pt_8.out⟩ (by rfl) (fun W' hW' => ?_) ?_; rotate_left; · (obtain ⟨q0, q1⟩ := hW'; obtain ⟨⟨ca0_0, ca0_1, ca0_2⟩, ga0_0, ga0_1, ga0_2⟩ := box3 q0; obtain ⟨⟨ca1_0, ca1_1, ca1_2⟩, ga1_0, ga1_1, ga1_2⟩ := box3 q1; clear q0 q1; go_simp; first | done | with_reducible rfl)
          simp only [Act.put, List.setIfInBounds_toArray, List.set_cons_zero, List.set_cons_succ]
          refine takeH 8 (v := ?_) rfl (by kernel_rfl) (by kernel_rfl) (by kernel_rfl) (fun _ _ _ h => h) ⟨F25_pr_8.out, F26_pt_8.out⟩ (by rfl) (fun W' hW' => ?_) ?_; rotate_left; · (obtain ⟨q0, q1⟩ := hW'; obtain ⟨⟨ca0_0, ca0_1, ca0_2⟩, ga0_0, ga0_1, ga0_2⟩ := box3 q0; obtain ⟨⟨ca1_0, ca1_1, ca1_2⟩, ga1_0, ga1_1, ga1_2⟩ := box3 q1; clear q0 q1; go_simp; first | done | with_reducible rfl)
          simp only [Act.put, List.setIfInBounds_toArray, List.set_cons_zero, List.set_cons_succ]
          have hd4 : Below (w4).heap.size (w4) (w4) := Below.refl _ _
          have hd5 := below_trans hd4 hb5 hd4.size
          have hd6 := below_trans hd5 hb6 hd5.size
          have hd7 := below_trans hd6 hb7 hd6.size
          have hd8 := below_trans hd7 hb8 hd7.size
          refine oneH 9 rfl (by kernel_rfl) (by rfl) (fun K hK => ?_)
          go_simp
          refine hK _ _ ⟨(box_below F25_pr_8.out (below_alloc _ _)), (box_below F26_pt_8.out (below_alloc _ _))⟩ ?_
          clear hK K
          refine oneH 10 rfl (by kernel_rfl) (by rfl) (fun K hK => ?_)
          go_simp
          refine hK _ _ ⟨(box_below F25_pr_8.out (below_alloc _ _)), (box_below F26_pt_8.out (below_alloc _ _))⟩ ?_
          clear hK K
          refine takeH 11 (v := ?_) rfl (by kernel_rfl) (by kernel_rfl) (by kernel_rfl) (fun _ _ _ h => h) ⟨(box_below F25_pr_8.out (below_alloc _ _)), (box_below F26_pt_8.out (below_alloc _ _))⟩ (by rfl) (fun W' hW' => ?_) ?_; rotate_left; · (obtain ⟨q0, q1⟩ := hW'; obtain ⟨⟨ca0_0, ca0_1, ca0_2⟩, ga0_0, ga0_1, ga0_2⟩ := box3 q0; obtain ⟨⟨ca1_0, ca1_1, ca1_2⟩, ga1_0, ga1_1, ga1_2⟩ := box3 q1; clear q0 q1; go_simp; first | done | with_reducible rfl)
          simp only [Act.put, List.setIfInBounds_toArray, List.set_cons_zero, List.set_cons_succ]
          refine doneH (by kernel_rfl) ?_
          go_wp2_with (fail)
          go_meet
          exact ⟨_, _, _, _, _, rfl, rfl, heap_alloc_new _ _, o8r0.below (below_alloc _ _), (fr8_0.mono (Nat.le_trans (Nat.le_trans (Nat.le_trans (Nat.le_refl _) hb5.size) hb6.size) hb7.size)), hd8.size, below_trans hd8 (below_alloc _ _) hd8.size⟩
        case h223 =>
          have lp27_pr := box_lt F21_pr_7.out
          have lp28_pt := box_lt F22_pt_7.out
          have hb8 := below_alloc (w7) (.cells #[.int .i64 0, .int .i64 0, .slice none 0 0] 43)
          have bz8 := Lib.hid (show ((w7).alloc (.cells #[.int .i64 0, .int .i64 0, .slice none 0 0] 43)).heap[(w7).heap.size]? = some (.cells #[.int .i64 0, .int .i64 0, .slice none 0 0] 43) from heap_alloc_new (w7) (.cells #[.int .i64 0, .int .i64 0, .slice none 0 0] 43))
          have hB8 := below_trans hB7 hb8 hB7.size
          simp only [Act.put, List.setIfInBounds_toArray, List.set_cons_zero, List.set_cons_succ]
          refine' callH 5 (f := _) (args := _) rfl (by kernel_rfl) (by rfl) ?_ ?_; rotate_left 2; · (go_simp; first | done | with_reducible rfl | (constructor <;> with_reducible rfl))
          have lB29 := box_lt bz8.out
          have F30_ar_7 := o6.below hb7
          clear o6
          have F31_ar_8 := F30_ar_7.below hb8
          clear F30_ar_7
          have F32_at_8 := o7.below hb8
          clear o7
          refine (sComposeRelations_law p F31_ar_8 F32_at_8 okr okt).mono ?_
          rintro e w9 ⟨v9_0, fp9_0, rfl, o9r0, fr9_0, hb9⟩
          have hB9 := below_trans hB8 hb9 hB8.size
          have F33_pr_8 := Lib.hid (box_below F21_pr_7.out hb8)
          clear F21_pr_7
          have F34_pr_9 := Lib.hid (box_below F33_pr_8.out hb9)
          clear F33_pr_8
          have F35_pt_8 := Lib.hid (box_below F22_pt_7.out hb8)
          clear F22_pt_7
          have F36_pt_9 := Lib.hid (box_below F35_pt_8.out hb9)
          clear F35_pt_8
          refine ⟨_, rfl, ⟨F34_pr_9.out, F36_pt_9.out⟩, ?_⟩
          obtain ⟨A9_0, n9_0, c9_0, rfl⟩ := o9r0.shape
          simp only [Act.put, List.setIfInBounds_toArray, List.set_cons_zero, List.set_cons_succ]
          refine takeH 6 (v := ?_) rfl (by kernel_rfl) (by kernel_rfl) (by kernel_rfl) (fun _ _ _ h => h) ⟨F34_pr_9.out, F36_pt_9.out⟩ (by rfl) (fun W' hW' => ?_) ?_; rotate_left; · (obtain ⟨q0, q1⟩ := hW'; obtain ⟨⟨ca0_0, ca0_1, ca0_2⟩, ga0_0, ga0_1, ga0_2⟩ := box3 q0; obtain ⟨⟨ca1_0, ca1_1, ca1_2⟩, ga1_0, ga1_1, ga1_2⟩ := box3 q1; clear q0 q1; go_simp; first | done | with_reducible rfl)
          simp only [Act.put, List.setIfInBounds_toArray, List.set_cons_zero, List.set_cons_succ]
          refine takeH 7 (v := ?_) rfl (by kernel_rfl) (by kernel_rfl) (by kernel_rfl) (fun _ _ _ h => h) ⟨F34_pr_9.out, F36_pt_9.out⟩ (by rfl) (fun W' hW' => ?_) ?_; rotate_left; · (obtain ⟨q0, q1⟩ := hW'; obtain ⟨⟨ca0_0, ca0_1, ca0_2⟩, ga0_0, ga0_1, ga0_2⟩ := box3 q0; obtain ⟨⟨ca1_0, ca1_1, ca1_2⟩, ga1_0, ga1_1, ga1_2⟩ := box3 q1; clear q0 q1; go_simp; first | done | with_reducible rfl)
          simp only [Act.put, List.setIfInBounds_toArray, List.set_cons_zero, List.set_cons_succ]
          refine takeH 8 (v := ?_) rfl (by kernel_rfl) (by kernel_rfl) (by kernel_rfl) (fun _ _ _ h => h) ⟨F34_pr_9.out, F36_pt_9.out⟩ (by rfl) (fun W' hW' => ?_) ?_; rotate_left; · (obtain ⟨q0, q1⟩ := hW'; obtain ⟨⟨ca0_0, ca0_1, ca0_2⟩, ga0_0, ga0_1, ga0_2⟩ := box3 q0; obtain ⟨⟨ca1_0, ca1_1, ca1_2⟩, ga1_0, ga1_1, ga1_2⟩ := box3 q1; clear q0 q1; go_simp; first | done | with_reducible rfl)
          simp only [Act.put, List.setIfInBounds_toArray, List.set_cons_zero, List.set_cons_succ]
          have hd4 : Below (w4).heap.size (w4) (w4) := Below.refl _ _
          have hd5 := below_trans hd4 hb5 hd4.size
          have hd6 := below_trans hd5 hb6 hd5.size
          have hd7 := below_trans hd6 hb7 hd6.size
          have hd8 := below_trans hd7 hb8 hd7.size
          have hd9 := below_trans hd8 hb9 hd8.size
          have F37_zbox_9 := Lib.hid (box_below bz8.out hb9)
          clear bz8
          obtain ⟨s1, s2⟩ := set3 (a := .int .i64 ((cmpM p r t).1).1) (b := .int .i64 ((cmpM p r t).1).2.1) (c := .slice A9_0 n9_0 c9_0) F37_zbox_9.out
          obtain ⟨⟨z0, z1, z2⟩, y0, y1, y2⟩ := box3 F37_zbox_9.out
          have o2 := o9r0.keeps s2 (fun b hb e => by have := fr9_0 b hb; have := lB29; omega)
          have hdf := below_keeps hd9 s2 hd9.size (fun k hk => by rw [hk]; exact hd7.size)
          refine oneH 10 rfl (by kernel_rfl) (by rfl) (fun K hK => ?_)
          go_simp
          refine hK _ _ ⟨(box_keeps F34_pr_9.out s2 (fun e => Nat.ne_of_lt lp27_pr e)), (box_keeps F36_pt_9.out s2 (fun e => Nat.ne_of_lt lp28_pt e))⟩ ?_
          clear hK K
          refine takeH 11 (v := ?_) rfl (by kernel_rfl) (by kernel_rfl) (by kernel_rfl) (fun _ _ _ h => h) ⟨(box_keeps F34_pr_9.out s2 (fun e => Nat.ne_of_lt lp27_pr e)), (box_keeps F36_pt_9.out s2 (fun e => Nat.ne_of_lt lp28_pt e))⟩ (by rfl) (fun W' hW' => ?_) ?_; rotate_left; · (obtain ⟨q0, q1⟩ := hW'; obtain ⟨⟨ca0_0, ca0_1, ca0_2⟩, ga0_0, ga0_1, ga0_2⟩ := box3 q0; obtain ⟨⟨ca1_0, ca1_1, ca1_2⟩, ga1_0, ga1_1, ga1_2⟩ := box3 q1; clear q0 q1; go_simp; first | done | with_reducible rfl)
          simp only [Act.put, List.setIfInBounds_toArray, List.set_cons_zero, List.set_cons_succ]
          refine doneH (by kernel_rfl) ?_
          go_wp2_with (fail)
          go_meet
          exact ⟨_, _, _, _, _, rfl, rfl, s1, o2, (fr9_0.mono (Nat.le_trans (Nat.le_trans (Nat.le_trans (Nat.le_trans (Nat.le_refl _) hb5.size) hb6.size) hb7.size) hb8.size)), hd7.size, hdf⟩
      case h220 =>
        have lp38_pr := box_lt F18_pr_6.out
        have lp39_pt := box_lt F19_pt_6.out
        have hb7 := below_alloc (w6) (.cells #[.int .i64 0, .int .i64 0, .slice none 0 0] 43)
        have bz7 := Lib.hid (show ((w6).alloc (.cells #[.int .i64 0, .int .i64 0, .slice none 0 0] 43)).heap[(w6).heap.size]? = some (.cells #[.int .i64 0, .int .i64 0, .slice none 0 0] 43) from heap_alloc_new (w6) (.cells #[.int .i64 0, .int .i64 0, .slice none 0 0] 43))
        have hB7 := below_trans hB6 hb7 hB6.size
        simp only [Act.put, List.setIfInBounds_toArray, List.set_cons_zero, List.set_cons_succ]
        refine' callH 4 (f := _) (args := _) rfl (by kernel_rfl) (by rfl) ?_ ?_; rotate_left 2; · (go_simp; first | done | with_reducible rfl | (constructor <;> with_reducible rfl))
        refine (toRelation_law (ht.below hB7) okt).mono ?_
        rintro e w8 ⟨v8, fp8, rfl, o8, fr8, hb8⟩
        have hB8 := below_trans hB7 hb8 hB7.size
        have F40_pr_7 := Lib.hid (box_below F18_pr_6.out hb7)
        clear F18_pr_6
        have F41_pr_8 := Lib.hid (box_below F40_pr_7.out hb8)
        clear F40_pr_7
        have F42_pt_7 := Lib.hid (box_below F19_pt_6.out hb7)
        clear F19_pt_6
        have F43_pt_8 := Lib.hid (box_below F42_pt_7.out hb8)
        clear F42_pt_7
        refine ⟨_, rfl, ⟨F41_pr_8.out, F43_pt_8.out⟩, ?_⟩
        obtain ⟨A8, n8, c8, rfl⟩ := o8.shape
        have lt_at := o8.lt
        simp only [Act.put, List.setIfInBounds_toArray, List.set_cons_zero, List.set_cons_succ]
        refine' callH 5 (f := _) (args := _) rfl (by kernel_rfl) (by rfl) ?_ ?_; rotate_left 2; · (go_simp; first | done | with_reducible rfl | (constructor <;> with_reducible rfl))
        have F45_zbox_8 := Lib.hid (box_below bz7.out hb8)
        clear bz7
        have lB44 := box_lt F45_zbox_8.out
        have F46_ar_7 := o6.below hb7
        clear o6
        have F47_ar_8 := F46_ar_7.below hb8
        clear F46_ar_7
        refine (sComposeRelations_law p F47_ar_8 o8 okr okt).mono ?_
        rintro e w9 ⟨v9_0, fp9_0, rfl, o9r0, fr9_0, hb9⟩
        have hB9 := below_trans hB8 hb9 hB8.size
        have F48_pr_9 := Lib.hid (box_below F41_pr_8.out hb9)
        clear F41_pr_8
        have F49_pt_9 := Lib.hid (box_below F43_pt_8.out hb9)
        clear F43_pt_8
        refine ⟨_, rfl, ⟨F48_pr_9.out, F49_pt_9.out⟩, ?_⟩
        obtain ⟨A9_0, n9_0, c9_0, rfl⟩ := o9r0.shape
        simp only [Act.put, List.setIfInBounds_toArray, List.set_cons_zero, List.set_cons_succ]
        refine takeH 6 (v := ?_) rfl (by kernel_rfl) (by kernel_rfl) (by kernel_rfl) (fun _ _ _ h => h) ⟨F48_pr_9.out, F49_pt_9.out⟩ (by rfl) (fun W' hW' => ?_) ?_; rotate_left; · (obtain ⟨q0, q1⟩ := hW'; obtain ⟨⟨ca0_0, ca0_1, ca0_2⟩, ga0_0, ga0_1, ga0_2⟩ := box3 q0; obtain ⟨⟨ca1_0, ca1_1, ca1_2⟩, ga1_0, ga1_1, ga1_2⟩ := box3 q1; clear q0 q1; go_simp; first | done | with_reducible rfl)
        simp only [Act.put, List.setIfInBounds_toArray, List.set_cons_zero, List.set_cons_succ]
        refine takeH 7 (v := ?_) rfl (by kernel_rfl) (by kernel_rfl) (by kernel_rfl) (fun _ _ _ h => h) ⟨F48_pr_9.out, F49_pt_9.out⟩ (by rfl) (fun W' hW' => ?_) ?_; rotate_left; · (obtain ⟨q0, q1⟩ := hW'; obtain ⟨⟨ca0_0, ca0_1, ca0_2⟩, ga0_0, ga0_1, ga0_2⟩ := box3 q0; obtain ⟨⟨ca1_0, ca1_1, ca1_2⟩, ga1_0, ga1_1, ga1_2⟩ := box3 q1; clear q0 q1; go_simp; first | done | with_reducible rfl)
        simp only [Act.put, List.setIfInBounds_toArray, List.set_cons_zero, List.set_cons_succ]
        refine takeH 8 (v := ?_) rfl (by kernel_rfl) (by kernel_rfl) (by kernel_rfl) (fun _ _ _ h => h) ⟨F48_pr_9.out, F49_pt_9.out⟩ (by rfl) (fun W' hW' => ?_) ?_; rotate_left; · (obtain ⟨q0, q1⟩ := hW'; obtain ⟨⟨ca0_0, ca0_1, ca0_2⟩, ga0_0, ga0_1, ga0_2⟩ := box3 q0; obtain ⟨⟨ca1_0, ca1_1, ca1_2⟩, ga1_0, ga1_1, ga1_2⟩ := box3 q1; clear q0 q1; go_simp; first | done | with_reducible rfl)
        simp only [Act.put, List.setIfInBounds_toArray, List.set_cons_zero, List.set_cons_succ]
        have hd4 : Below (w4).heap.size (w4) (w4) := Below.refl _ _
        have hd5 := below_trans hd4 hb5 hd4.size
        have hd6 := below_trans hd5 hb6 hd5.size
        have hd7 := below_trans hd6 hb7 hd6.size
        have hd8 := below_trans hd7 hb8 hd7.size
        have hd9 := below_trans hd8 hb9 hd8.size
        have F50_zbox_9 := Lib.hid (box_below F45_zbox_8.out hb9)
        clear F45_zbox_8
        obtain ⟨s1, s2⟩ := set3 (a := .int .i64 ((cmpM p r t).1).1) (b := .int .i64 ((cmpM p r t).1).2.1) (c := .slice A9_0 n9_0 c9_0) F50_zbox_9.out
        obtain ⟨⟨z0, z1, z2⟩, y0, y1, y2⟩ := box3 F50_zbox_9.out
        have o2 := o9r0.keeps s2 (fun b hb e => by have := fr9_0 b hb; have := lB44; omega)
        have hdf := below_keeps hd9 s2 hd9.size (fun k hk => by rw [hk]; exact hd6.size)
        refine oneH 10 rfl (by kernel_rfl) (by rfl) (fun K hK => ?_)
        go_simp
        refine hK _ _ ⟨(box_keeps F48_pr_9.out s2 (fun e => Nat.ne_of_lt lp38_pr e)), (box_keeps F49_pt_9.out s2 (fun e => Nat.ne_of_lt lp39_pt e))⟩ ?_
        clear hK K
        refine takeH 11 (v := ?_) rfl (by kernel_rfl) (by kernel_rfl) (by kernel_rfl) (fun _ _ _ h => h) ⟨(box_keeps F48_pr_9.out s2 (fun e => Nat.ne_of_lt lp38_pr e)), (box_keeps F49_pt_9.out s2 (fun e => Nat.ne_of_lt lp39_pt e))⟩ (by rfl) (fun W' hW' => ?_) ?_; rotate_left; · (obtain ⟨q0, q1⟩ := hW'; obtain ⟨⟨ca0_0, ca0_1, ca0_2⟩, ga0_0, ga0_1, ga0_2⟩ := box3 q0; obtain ⟨⟨ca1_0, ca1_1, ca1_2⟩, ga1_0, ga1_1, ga1_2⟩ := box3 q1; clear q0 q1; go_simp; first | done | with_reducible rfl)
        simp only [Act.put, List.setIfInBounds_toArray, List.set_cons_zero, List.set_cons_succ]
        refine doneH (by kernel_rfl) ?_
        go_wp2_with (fail)
        go_meet
        exact ⟨_, _, _, _, _, rfl, rfl, s1, o2, (fr9_0.mono (Nat.le_trans (Nat.le_trans (Nat.le_trans (Nat.le_trans (Nat.le_refl _) hb5.size) hb6.size) hb7.size) hb8.size)), hd6.size, hdf⟩
    case h217 =>
      have lp51_pr := box_lt F15_pr_5.out
      have lp52_pt := box_lt F16_pt_5.out
      have hb6 := below_alloc ((w4).drew) (.cells #[.int .i64 0, .int .i64 0, .slice none 0 0] 43)
      have bz6 := Lib.hid (show (((w4).drew).alloc (.cells #[.int .i64 0, .int .i64 0, .slice none 0 0] 43)).heap[((w4)).heap.size]? = some (.cells #[.int .i64 0, .int .i64 0, .slice none 0 0] 43) from heap_alloc_new ((w4).drew) (.cells #[.int .i64 0, .int .i64 0, .slice none 0 0] 43))
      have hB6 := below_trans hB5 hb6 hB5.size
      simp only [Act.put, List.setIfInBounds_toArray, List.set_cons_zero, List.set_cons_succ]
      refine' callH 2 (f := _) (args := _) rfl (by kernel_rfl) (by rfl) ?_ ?_; rotate_left 2; · (go_simp; first | done | with_reducible rfl | (constructor <;> with_reducible rfl))
      refine (toRelation_law (hr.below hB6) okr).mono ?_
      rintro e w7 ⟨v7, fp7, rfl, o7, fr7, hb7⟩
      have hB7 := below_trans hB6 hb7 hB6.size
      have F53_pr_6 := Lib.hid (box_below F15_pr_5.out hb6)
      clear F15_pr_5
      have F54_pr_7 := Lib.hid (box_below F53_pr_6.out hb7)
      clear F53_pr_6
      have F55_pt_6 := Lib.hid (box_below F16_pt_5.out hb6)
      clear F16_pt_5
      have F56_pt_7 := Lib.hid (box_below F55_pt_6.out hb7)
      clear F55_pt_6
      refine ⟨_, rfl, ⟨F54_pr_7.out, F56_pt_7.out⟩, ?_⟩
      obtain ⟨A7, n7, c7, rfl⟩ := o7.shape
      have lt_ar := o7.lt
      simp only [Act.put, List.setIfInBounds_toArray, List.set_cons_zero, List.set_cons_succ]
      refine' callH 4 (f := _) (args := _) rfl (by kernel_rfl) (by rfl) ?_ ?_; rotate_left 2; · (go_simp; first | done | with_reducible rfl | (constructor <;> with_reducible rfl))
      refine (toRelation_law (ht.below hB7) okt).mono ?_
      rintro e w8 ⟨v8, fp8, rfl, o8, fr8, hb8⟩
      have hB8 := below_trans hB7 hb8 hB7.size
      have F57_pr_8 := Lib.hid (box_below F54_pr_7.out hb8)
      clear F54_pr_7
      have F58_pt_8 := Lib.hid (box_below F56_pt_7.out hb8)
      clear F56_pt_7
      refine ⟨_, rfl, ⟨F57_pr_8.out, F58_pt_8.out⟩, ?_⟩
      obtain ⟨A8, n8, c8, rfl⟩ := o8.shape
      have lt_at := o8.lt
      simp only [Act.put, List.setIfInBounds_toArray, List.set_cons_zero, List.set_cons_succ]
      refine' callH 5 (f := _) (args := _) rfl (by kernel_rfl) (by rfl) ?_ ?_; rotate_left 2; · (go_simp; first | done | with_reducible rfl | (constructor <;> with_reducible rfl))
      have F60_zbox_7 := Lib.hid (box_below bz6.out hb7)
      clear bz6
      have F61_zbox_8 := Lib.hid (box_below F60_zbox_7.out hb8)
      clear F60_zbox_7
      have lB59 := box_lt F61_zbox_8.out
      have F62_ar_8 := o7.below hb8
      clear o7
      refine (sComposeRelations_law p F62_ar_8 o8 okr okt).mono ?_
      rintro e w9 ⟨v9_0, fp9_0, rfl, o9r0, fr9_0, hb9⟩
      have hB9 := below_trans hB8 hb9 hB8.size
      have F63_pr_9 := Lib.hid (box_below F57_pr_8.out hb9)
      clear F57_pr_8
      have F64_pt_9 := Lib.hid (box_below F58_pt_8.out hb9)
      clear F58_pt_8
      refine ⟨_, rfl, ⟨F63_pr_9.out, F64_pt_9.out⟩, ?_⟩
      obtain ⟨A9_0, n9_0, c9_0, rfl⟩ := o9r0.shape
      simp only [Act.put, List.setIfInBounds_toArray, List.set_cons_zero, List.set_cons_succ]
      refine takeH 6 (v := ?_) rfl (by kernel_rfl) (by kernel_rfl) (by kernel_rfl) (fun _ _ _ h => h) ⟨F63_pr_9.out, F64_pt_9.out⟩ (by rfl) (fun W' hW' => ?_) ?_; rotate_left; · (obtain ⟨q0, q1⟩ := hW'; obtain ⟨⟨ca0_0, ca0_1, ca0_2⟩, ga0_0, ga0_1, ga0_2⟩ := box3 q0; obtain ⟨⟨ca1_0, ca1_1, ca1_2⟩, ga1_0, ga1_1, ga1_2⟩ := box3 q1; clear q0 q1; go_simp; first | done | with_reducible rfl)
      simp only [Act.put, List.setIfInBounds_toArray, List.set_cons_zero, List.set_cons_succ]
      refine takeH 7 (v := ?_) rfl (by kernel_rfl) (by kernel_rfl) (by kernel_rfl) (fun _ _ _ h => h) ⟨F63_pr_9.out, F64_pt_9.out⟩ (by rfl) (fun W' hW' => ?_) ?_; rotate_left; · (obtain ⟨q0, q1⟩ := hW'; obtain ⟨⟨ca0_0, ca0_1, ca0_2⟩, ga0_0, ga0_1, ga0_2⟩ := box3 q0; obtain ⟨⟨ca1_0, ca1_1, ca1_2⟩, ga1_0, ga1_1, ga1_2⟩ := box3 q1; clear q0 q1; go_simp; first | done | with_reducible rfl)
      simp only [Act.put, List.setIfInBounds_toArray, List.set_cons_zero, List.set_cons_succ]
      refine takeH 8 (v := ?_) rfl (by kernel_rfl) (by kernel_rfl) (by kernel_rfl) (fun _ _ _ h => h) ⟨F63_pr_9.out, F64_pt_9.out⟩ (by rfl) (fun W' hW' => ?_) ?_; rotate_left; · (obtain ⟨q0, q1⟩ := hW'; obtain ⟨⟨ca0_0, ca0_1, ca0_2⟩, ga0_0, ga0_1, ga0_2⟩ := box3 q0; obtain ⟨⟨ca1_0, ca1_1, ca1_2⟩, ga1_0, ga1_1, ga1_2⟩ := box3 q1; clear q0 q1; go_simp; first | done | with_reducible rfl)
      simp only [Act.put, List.setIfInBounds_toArray, List.set_cons_zero, List.set_cons_succ]
      have hd4 : Below (w4).heap.size (w4) (w4) := Below.refl _ _
      have hd5 := below_trans hd4 hb5 hd4.size
      have hd6 := below_trans hd5 hb6 hd5.size
      have hd7 := below_trans hd6 hb7 hd6.size
      have hd8 := below_trans hd7 hb8 hd7.size
      have hd9 := below_trans hd8 hb9 hd8.size
      have F65_zbox_9 := Lib.hid (box_below F61_zbox_8.out hb9)
      clear F61_zbox_8
      obtain ⟨s1, s2⟩ := set3 (a := .int .i64 ((cmpM p r t).1).1) (b := .int .i64 ((cmpM p r t).1).2.1) (c := .slice A9_0 n9_0 c9_0) F65_zbox_9.out
      obtain ⟨⟨z0, z1, z2⟩, y0, y1, y2⟩ := box3 F65_zbox_9.out
      have o2 := o9r0.keeps s2 (fun b hb e => by have := fr9_0 b hb; have := lB59; omega)
      have hdf := below_keeps hd9 s2 hd9.size (fun k hk => by rw [hk]; exact hd5.size)
      refine oneH 10 rfl (by kernel_rfl) (by rfl) (fun K hK => ?_)
      go_simp
      refine hK _ _ ⟨(box_keeps F63_pr_9.out s2 (fun e => Nat.ne_of_lt lp51_pr e)), (box_keeps F64_pt_9.out s2 (fun e => Nat.ne_of_lt lp52_pt e))⟩ ?_
      clear hK K
      refine takeH 11 (v := ?_) rfl (by kernel_rfl) (by kernel_rfl) (by kernel_rfl) (fun _ _ _ h => h) ⟨(box_keeps F63_pr_9.out s2 (fun e => Nat.ne_of_lt lp51_pr e)), (box_keeps F64_pt_9.out s2 (fun e => Nat.ne_of_lt lp52_pt e))⟩ (by rfl) (fun W' hW' => ?_) ?_; rotate_left; · (obtain ⟨q0, q1⟩ := hW'; obtain ⟨⟨ca0_0, ca0_1, ca0_2⟩, ga0_0, ga0_1, ga0_2⟩ := box3 q0; obtain ⟨⟨ca1_0, ca1_1, ca1_2⟩, ga1_0, ga1_1, ga1_2⟩ := box3 q1; clear q0 q1; go_simp; first | done | with_reducible rfl)
      simp only [Act.put, List.setIfInBounds_toArray, List.set_cons_zero, List.set_cons_succ]
      refine doneH (by kernel_rfl) ?_
      go_wp2_with (fail)
      go_meet
      exact ⟨_, _, _, _, _, rfl, rfl, s1, o2, (fr9_0.mono (Nat.le_trans (Nat.le_trans (Nat.le_trans (Nat.le_trans (Nat.le_refl _) hb5.size) hb6.size) hb7.size) hb8.size)), hd5.size, hdf⟩
  case rest =>
    obtain ⟨B14, nX14, cX14, AX14, fpx14, rfl, rfl, bx14c, o14c, fr14c, hge14, hb14c⟩ := hcut
    obtain ⟨w5c, rfl⟩ : ∃ x, x = wc := ⟨_, rfl⟩
    have hB5 := below_trans hB4 hb14c hB4.size
    have lt_W0 := o14c.lt
    have lt_bW0 : LtL (w5c).heap.size [B14] := fun b hb => by obtain rfl := List.mem_singleton.1 hb; exact box_lt bx14c
    have fr_bW0 : FreshL (w4).heap.size [B14] := fun b hb => by obtain rfl := List.mem_singleton.1 hb; exact hge14
    have BX_bW0_14 := Lib.hid bx14c
    clear bx14c
    have F66_pr_5 := Lib.hid (box_below F12_pr_4.out hb14c)
    clear F12_pr_4
    obtain ⟨⟨c67_0, c67_1, c67_2⟩, f67_0, f67_1, f67_2⟩ := box3 F66_pr_5.out
    go_wp2_with (fail)
    refine (toRelation_law (hr.below hB5) okr).mono ?_
    rintro e w6 ⟨v6, fp6, rfl, o6, fr6, hb6⟩
    have hB6 := below_trans hB5 hb6 hB5.size
    clear c67_0 c67_1 c67_2 f67_0 f67_1 f67_2
    obtain ⟨A6, n6, c6, rfl⟩ := o6.shape
    have lt_xr := o6.lt
    have hb7 := below_alloc (w6) (.cells #[.int .i64 (r).1, .int .i64 (r).2.1, .slice A6 n6 c6] 43)
    have hB7 := below_trans hB6 hb7 hB6.size
    have bx7 := heap_alloc_new (w6) (.cells #[.int .i64 (r).1, .int .i64 (r).2.1, .slice A6 n6 c6] 43)
    have lt_bxr : LtL ((w6).alloc (.cells #[.int .i64 (r).1, .int .i64 (r).2.1, .slice A6 n6 c6] 43)).heap.size [(w6).heap.size] := fun b hb => by obtain rfl := List.mem_singleton.1 hb; exact box_lt bx7
    have fr_bxr : FreshL (w6).heap.size [(w6).heap.size] := fun b hb => by obtain rfl := List.mem_singleton.1 hb; exact Nat.le_refl _
    have BX_bxr_7 := Lib.hid bx7
    clear bx7
    have F68_pt_5 := Lib.hid (box_below F13_pt_4.out hb14c)
    clear F13_pt_4
    have F69_pt_6 := Lib.hid (box_below F68_pt_5.out hb6)
    clear F68_pt_5
    have F70_pt_7 := Lib.hid (box_below F69_pt_6.out hb7)
    clear F69_pt_6
    obtain ⟨⟨c71_0, c71_1, c71_2⟩, f71_0, f71_1, f71_2⟩ := box3 F70_pt_7.out
    go_wp2_with (fail)
    refine (toRelation_law (ht.below hB7) okt).mono ?_
    rintro e w8 ⟨v8, fp8, rfl, o8, fr8, hb8⟩
    have hB8 := below_trans hB7 hb8 hB7.size
    clear c71_0 c71_1 c71_2 f71_0 f71_1 f71_2
    obtain ⟨A8, n8, c8, rfl⟩ := o8.shape
    have lt_xt := o8.lt
    have hb9 := below_alloc (w8) (.cells #[.int .i64 (t).1, .int .i64 (t).2.1, .slice A8 n8 c8] 43)
    have hB9 := below_trans hB8 hb9 hB8.size
    have bx9 := heap_alloc_new (w8) (.cells #[.int .i64 (t).1, .int .i64 (t).2.1, .slice A8 n8 c8] 43)
    have lt_bxt : LtL ((w8).alloc (.cells #[.int .i64 (t).1, .int .i64 (t).2.1, .slice A8 n8 c8] 43)).heap.size [(w8).heap.size] := fun b hb => by obtain rfl := List.mem_singleton.1 hb; exact box_lt bx9
    have fr_bxt : FreshL (w8).heap.size [(w8).heap.size] := fun b hb => by obtain rfl := List.mem_singleton.1 hb; exact Nat.le_refl _
    have BX_bxt_9 := Lib.hid bx9
    clear bx9
    have F72_xr_7 := o6.below hb7
    clear o6
    have F73_xr_8 := F72_xr_7.below hb8
    clear F72_xr_7
    have F74_xr_9 := F73_xr_8.below hb9
    clear F73_xr_8
    have F75_xt_9 := o8.below hb9
    clear o8
    have F76_bxr_8 := Lib.hid (box_below BX_bxr_7.out hb8)
    clear BX_bxr_7
    have F77_bxr_9 := Lib.hid (box_below F76_bxr_8.out hb9)
    clear F76_bxr_8
    obtain ⟨⟨c78_0, c78_1, c78_2⟩, f78_0, f78_1, f78_2⟩ := box3 F77_bxr_9.out
    obtain ⟨⟨c79_0, c79_1, c79_2⟩, f79_0, f79_1, f79_2⟩ := box3 BX_bxt_9.out
    go_wp2_with (fail)
    refine (iComposeRelations_law p F74_xr_9 F75_xt_9 okr okt (hT.below hB9 hT.lt)).mono ?_
    rintro e w10 ⟨v10_0, fp10_0, rfl, o10r0, fr10_0, hb10⟩
    have hB10 := below_trans hB9 hb10 hB9.size
    clear c78_0 c78_1 c78_2 f78_0 f78_1 f78_2 c79_0 c79_1 c79_2 f79_0 f79_1 f79_2
    obtain ⟨A10_0, n10_0, c10_0, rfl⟩ := o10r0.shape
    have lt_G0 := o10r0.lt
    have hb11 := below_alloc (w10) (.cells #[.int .i64 ((cmpM p r t).1).1, .int .i64 ((cmpM p r t).1).2.1, .slice A10_0 n10_0 c10_0] 43)
    have hB11 := below_trans hB10 hb11 hB10.size
    have bx11 := heap_alloc_new (w10) (.cells #[.int .i64 ((cmpM p r t).1).1, .int .i64 ((cmpM p r t).1).2.1, .slice A10_0 n10_0 c10_0] 43)
    have lt_bG0 : LtL ((w10).alloc (.cells #[.int .i64 ((cmpM p r t).1).1, .int .i64 ((cmpM p r t).1).2.1, .slice A10_0 n10_0 c10_0] 43)).heap.size [(w10).heap.size] := fun b hb => by obtain rfl := List.mem_singleton.1 hb; exact box_lt bx11
    have fr_bG0 : FreshL (w10).heap.size [(w10).heap.size] := fun b hb => by obtain rfl := List.mem_singleton.1 hb; exact Nat.le_refl _
    have BX_bG0_11 := Lib.hid bx11
    clear bx11
    have F80_G0_11 := o10r0.below hb11
    clear o10r0
    have F81_W0_6 := o14c.below hb6
    clear o14c
    have F82_W0_7 := F81_W0_6.below hb7
    clear F81_W0_6
    have F83_W0_8 := F82_W0_7.below hb8
    clear F82_W0_7
    have F84_W0_9 := F83_W0_8.below hb9
    clear F83_W0_8
    have F85_W0_10 := F84_W0_9.below hb10
    clear F84_W0_9
    have F86_W0_11 := F85_W0_10.below hb11
    clear F85_W0_10
    obtain ⟨⟨c87_0, c87_1, c87_2⟩, f87_0, f87_1, f87_2⟩ := box3 BX_bG0_11.out
    have F88_bW0_6 := Lib.hid (box_below BX_bW0_14.out hb6)
    clear BX_bW0_14
    have F89_bW0_7 := Lib.hid (box_below F88_bW0_6.out hb7)
    clear F88_bW0_6
    have F90_bW0_8 := Lib.hid (box_below F89_bW0_7.out hb8)
    clear F89_bW0_7
    have F91_bW0_9 := Lib.hid (box_below F90_bW0_8.out hb9)
    clear F90_bW0_8
    have F92_bW0_10 := Lib.hid (box_below F91_bW0_9.out hb10)
    clear F91_bW0_9
    have F93_bW0_11 := Lib.hid (box_below F92_bW0_10.out hb11)
    clear F92_bW0_10
    obtain ⟨⟨c94_0, c94_1, c94_2⟩, f94_0, f94_1, f94_2⟩ := box3 F93_bW0_11.out
    go_wp2_with (fail)
    refine (eqRelation_law F80_G0_11.rd F86_W0_11.rd ((cmpM_ok (p := p) (s := r) (t := t)))).mono ?_
    rintro e w12 ⟨rfl, hb12⟩
    have hB12 := below_trans hB11 hb12 hB11.size
    clear c87_0 c87_1 c87_2 f87_0 f87_1 f87_2 c94_0 c94_1 c94_2 f94_0 f94_1 f94_2
    rw [decide_eq_true (rfl : (cmpM p r t).1 = (cmpM p r t).1)]
    have F95_bxr_10 := Lib.hid (box_below F77_bxr_9.out hb10)
    clear F77_bxr_9
    have F96_bxr_11 := Lib.hid (box_below F95_bxr_10.out hb11)
    clear F95_bxr_10
    have F97_bxr_12 := Lib.hid (box_below F96_bxr_11.out hb12)
    clear F96_bxr_11
    have F98_pr_6 := Lib.hid (box_below F66_pr_5.out hb6)
    clear F66_pr_5
    have F99_pr_7 := Lib.hid (box_below F98_pr_6.out hb7)
    clear F98_pr_6
    have F100_pr_8 := Lib.hid (box_below F99_pr_7.out hb8)
    clear F99_pr_7
    have F101_pr_9 := Lib.hid (box_below F100_pr_8.out hb9)
    clear F100_pr_8
    have F102_pr_10 := Lib.hid (box_below F101_pr_9.out hb10)
    clear F101_pr_9
    have F103_pr_11 := Lib.hid (box_below F102_pr_10.out hb11)
    clear F102_pr_10
    have F104_pr_12 := Lib.hid (box_below F103_pr_11.out hb12)
    clear F103_pr_11
    have F105_xr_10 := F74_xr_9.below hb10
    clear F74_xr_9
    have F106_xr_11 := F105_xr_10.below hb11
    clear F105_xr_10
    have F107_xr_12 := F106_xr_11.below hb12
    clear F106_xr_11
    go_wp2_with (fail)
    refine beginH (fun w' => w'.heap[(w6).heap.size]? = some (.cells #[.int .i64 (r).1, .int .i64 (r).2.1, .slice A6 n6 c6] 43) ∧ w'.heap[(w).heap.size]? = some (.cells #[.int .i64 (r).1, .int .i64 (r).2.1, .slice Ar nr cr] 41)) (by kernel_rfl) ?_
    have hb13 : Below (w12).heap.size (w12) (w12).drew := below_drewN (Below.refl _ _) 1
    have hB13 := below_trans hB12 hb13 hB12.size
    have F109_bxr_13 := Lib.hid (box_below F97_bxr_12.out hb13)
    clear F97_bxr_12
    have F110_pr_13 := Lib.hid (box_below F104_pr_12.out hb13)
    clear F104_pr_12
    have F111_xr_13 := F107_xr_12.below hb13
    clear F107_xr_12
    refine takeH 0 (v := ?_) rfl (by kernel_rfl) (by kernel_rfl) (by kernel_rfl) (fun _ _ _ h => h) ⟨F109_bxr_13.out, F110_pr_13.out⟩ (by rfl) (fun W' hW' => ?_) ?_; rotate_left; · (obtain ⟨q1, q2⟩ := hW'; obtain ⟨⟨ca0, ca1, ca2⟩, gca0, gca1, gca2⟩ := box3 q1; obtain ⟨⟨cb0, cb1, cb2⟩, gcb0, gcb1, gcb2⟩ := box3 q2; clear q1 q2; go_simp; first | done | with_reducible rfl)
    simp only [Act.put, List.setIfInBounds_toArray, List.set_cons_zero, List.set_cons_succ]
    refine takeH 1 (v := ?_) rfl (by kernel_rfl) (by kernel_rfl) (by kernel_rfl) (fun _ _ _ h => h) ⟨F109_bxr_13.out, F110_pr_13.out⟩ (by rfl) (fun W' hW' => ?_) ?_; rotate_left; · (obtain ⟨q1, q2⟩ := hW'; obtain ⟨⟨ca0, ca1, ca2⟩, gca0, gca1, gca2⟩ := box3 q1; obtain ⟨⟨cb0, cb1, cb2⟩, gcb0, gcb1, gcb2⟩ := box3 q2; clear q1 q2; go_simp; first | done | with_reducible rfl)
    simp only [Act.put, List.setIfInBounds_toArray, List.set_cons_zero, List.set_cons_succ]
    refine' callH 2 (f := _) (args := _) rfl (by kernel_rfl) (by rfl) ?_ ?_; rotate_left 2; · (go_simp; first | done | with_reducible rfl | (constructor <;> with_reducible rfl))
    refine (toRelation_law (hr.below hB13) okr).mono ?_
    rintro e w14 ⟨v14, fp14, rfl, o14, fr14, hb14⟩
    have hB14 := below_trans hB13 hb14 hB13.size
    have F112_bxr_14 := Lib.hid (box_below F109_bxr_13.out hb14)
    clear F109_bxr_13
    have F113_pr_14 := Lib.hid (box_below F110_pr_13.out hb14)
    clear F110_pr_13
    have F114_xr_14 := F111_xr_13.below hb14
    clear F111_xr_13
    refine ⟨_, rfl, ⟨F112_bxr_14.out, F113_pr_14.out⟩, ?_⟩
    simp only [Act.put, List.setIfInBounds_toArray, List.set_cons_zero, List.set_cons_succ]
    refine' callH 3 (f := _) (args := _) rfl (by kernel_rfl) (by rfl) ?_ ?_; rotate_left 2; · (go_simp; first | done | with_reducible rfl | (constructor <;> with_reducible rfl))
    refine (eqRelation_law F114_xr_14.rd o14.rd okr).mono ?_
    rintro e w15 ⟨rfl, hb15⟩
    have hB15 := below_trans hB14 hb15 hB14.size
    have F115_bxr_15 := Lib.hid (box_below F112_bxr_14.out hb15)
    clear F112_bxr_14
    have F116_pr_15 := Lib.hid (box_below F113_pr_14.out hb15)
    clear F113_pr_14
    have F117_xr_15 := F114_xr_14.below hb15
    clear F114_xr_14
    refine ⟨_, rfl, ⟨F115_bxr_15.out, F116_pr_15.out⟩, ?_⟩
    rw [decide_eq_true (rfl : r = r)]
    simp only [Act.put, List.setIfInBounds_toArray, List.set_cons_zero, List.set_cons_succ]
    refine takeH 4 (v := .bool false) rfl (by kernel_rfl) (by kernel_rfl) (by kernel_rfl) (fun _ _ _ h => h) ⟨F115_bxr_15.out, F116_pr_15.out⟩ (by rfl) (fun W' hW' => ?_) ?_; · (go_simp; first | done | with_reducible rfl)
    simp only [Act.put, List.setIfInBounds_toArray, List.set_cons_zero, List.set_cons_succ]
    refine doneH (by kernel_rfl) ?_
    have F118_bxt_10 := Lib.hid (box_below BX_bxt_9.out hb10)
    clear BX_bxt_9
    have F119_bxt_11 := Lib.hid (box_below F118_bxt_10.out hb11)
    clear F118_bxt_10
    have F120_bxt_12 := Lib.hid (box_below F119_bxt_11.out hb12)
    clear F119_bxt_11
    have F121_bxt_13 := Lib.hid (box_below F120_bxt_12.out hb13)
    clear F120_bxt_12
    have F122_bxt_14 := Lib.hid (box_below F121_bxt_13.out hb14)
    clear F121_bxt_13
    have F123_bxt_15 := Lib.hid (box_below F122_bxt_14.out hb15)
    clear F122_bxt_14
    have F124_pt_8 := Lib.hid (box_below F70_pt_7.out hb8)
    clear F70_pt_7
    have F125_pt_9 := Lib.hid (box_below F124_pt_8.out hb9)
    clear F124_pt_8
    have F126_pt_10 := Lib.hid (box_below F125_pt_9.out hb10)
    clear F125_pt_9
    have F127_pt_11 := Lib.hid (box_below F126_pt_10.out hb11)
    clear F126_pt_10
    have F128_pt_12 := Lib.hid (box_below F127_pt_11.out hb12)
    clear F127_pt_11
    have F129_pt_13 := Lib.hid (box_below F128_pt_12.out hb13)
    clear F128_pt_12
    have F130_pt_14 := Lib.hid (box_below F129_pt_13.out hb14)
    clear F129_pt_13
    have F131_pt_15 := Lib.hid (box_below F130_pt_14.out hb15)
    clear F130_pt_14
    have F132_xt_10 := F75_xt_9.below hb10
    clear F75_xt_9
    have F133_xt_11 := F132_xt_10.below hb11
    clear F132_xt_10
    have F134_xt_12 := F133_xt_11.below hb12
    clear F133_xt_11
    have F135_xt_13 := F134_xt_12.below hb13
    clear F134_xt_12
    have F136_xt_14 := F135_xt_13.below hb14
    clear F135_xt_13
    have F137_xt_15 := F136_xt_14.below hb15
    clear F136_xt_14
    go_wp2_with (fail)
    refine beginH (fun w' => w'.heap[(w8).heap.size]? = some (.cells #[.int .i64 (t).1, .int .i64 (t).2.1, .slice A8 n8 c8] 43) ∧ w'.heap[(w).heap.size + 1]? = some (.cells #[.int .i64 (t).1, .int .i64 (t).2.1, .slice At nt ct] 41)) (by kernel_rfl) ?_
    have hb16 : Below (w15).heap.size (w15) (w15).drew := below_drewN (Below.refl _ _) 1
    have hB16 := below_trans hB15 hb16 hB15.size
    have F139_bxt_16 := Lib.hid (box_below F123_bxt_15.out hb16)
    clear F123_bxt_15
    have F140_pt_16 := Lib.hid (box_below F131_pt_15.out hb16)
    clear F131_pt_15
    have F141_xt_16 := F137_xt_15.below hb16
    clear F137_xt_15
    refine takeH 0 (v := ?_) rfl (by kernel_rfl) (by kernel_rfl) (by kernel_rfl) (fun _ _ _ h => h) ⟨F139_bxt_16.out, F140_pt_16.out⟩ (by rfl) (fun W' hW' => ?_) ?_; rotate_left; · (obtain ⟨q1, q2⟩ := hW'; obtain ⟨⟨ca0, ca1, ca2⟩, gca0, gca1, gca2⟩ := box3 q1; obtain ⟨⟨cb0, cb1, cb2⟩, gcb0, gcb1, gcb2⟩ := box3 q2; clear q1 q2; go_simp; first | done | with_reducible rfl)
    simp only [Act.put, List.setIfInBounds_toArray, List.set_cons_zero, List.set_cons_succ]
    refine takeH 1 (v := ?_) rfl (by kernel_rfl) (by kernel_rfl) (by kernel_rfl) (fun _ _ _ h => h) ⟨F139_bxt_16.out, F140_pt_16.out⟩ (by rfl) (fun W' hW' => ?_) ?_; rotate_left; · (obtain ⟨q1, q2⟩ := hW'; obtain ⟨⟨ca0, ca1, ca2⟩, gca0, gca1, gca2⟩ := box3 q1; obtain ⟨⟨cb0, cb1, cb2⟩, gcb0, gcb1, gcb2⟩ := box3 q2; clear q1 q2; go_simp; first | done | with_reducible rfl)
    simp only [Act.put, List.setIfInBounds_toArray, List.set_cons_zero, List.set_cons_succ]
    refine' callH 2 (f := _) (args := _) rfl (by kernel_rfl) (by rfl) ?_ ?_; rotate_left 2; · (go_simp; first | done | with_reducible rfl | (constructor <;> with_reducible rfl))
    refine (toRelation_law (ht.below hB16) okt).mono ?_
    rintro e w17 ⟨v17, fp17, rfl, o17, fr17, hb17⟩
    have hB17 := below_trans hB16 hb17 hB16.size
    have F142_bxt_17 := Lib.hid (box_below F139_bxt_16.out hb17)
    clear F139_bxt_16
    have F143_pt_17 := Lib.hid (box_below F140_pt_16.out hb17)
    clear F140_pt_16
    have F144_xt_17 := F141_xt_16.below hb17
    clear F141_xt_16
    refine ⟨_, rfl, ⟨F142_bxt_17.out, F143_pt_17.out⟩, ?_⟩
    simp only [Act.put, List.setIfInBounds_toArray, List.set_cons_zero, List.set_cons_succ]
    refine' callH 3 (f := _) (args := _) rfl (by kernel_rfl) (by rfl) ?_ ?_; rotate_left 2; · (go_simp; first | done | with_reducible rfl | (constructor <;> with_reducible rfl))
    refine (eqRelation_law F144_xt_17.rd o17.rd okt).mono ?_
    rintro e w18 ⟨rfl, hb18⟩
    have hB18 := below_trans hB17 hb18 hB17.size
    have F145_bxt_18 := Lib.hid (box_below F142_bxt_17.out hb18)
    clear F142_bxt_17
    have F146_pt_18 := Lib.hid (box_below F143_pt_17.out hb18)
    clear F143_pt_17
    have F147_xt_18 := F144_xt_17.below hb18
    clear F144_xt_17
    refine ⟨_, rfl, ⟨F145_bxt_18.out, F146_pt_18.out⟩, ?_⟩
    rw [decide_eq_true (rfl : t = t)]
    simp only [Act.put, List.setIfInBounds_toArray, List.set_cons_zero, List.set_cons_succ]
    refine takeH 4 (v := .bool false) rfl (by kernel_rfl) (by kernel_rfl) (by kernel_rfl) (fun _ _ _ h => h) ⟨F145_bxt_18.out, F146_pt_18.out⟩ (by rfl) (fun W' hW' => ?_) ?_; · (go_simp; first | done | with_reducible rfl)
    simp only [Act.put, List.setIfInBounds_toArray, List.set_cons_zero, List.set_cons_succ]
    refine doneH (by kernel_rfl) ?_
    have F148_xr_16 := F117_xr_15.below hb16
    clear F117_xr_15
    have F149_xr_17 := F148_xr_16.below hb17
    clear F148_xr_16
    have F150_xr_18 := F149_xr_17.below hb18
    clear F149_xr_17
    have F151_bxr_16 := Lib.hid (box_below F115_bxr_15.out hb16)
    clear F115_bxr_15
    have F152_bxr_17 := Lib.hid (box_below F151_bxr_16.out hb17)
    clear F151_bxr_16
    have F153_bxr_18 := Lib.hid (box_below F152_bxr_17.out hb18)
    clear F152_bxr_17
    obtain ⟨⟨c154_0, c154_1, c154_2⟩, f154_0, f154_1, f154_2⟩ := box3 F153_bxr_18.out
    go_wp2_with (fail)
    refine (markRelation_law (1) F150_xr_18 (by omega) okr (by have := okr.2.2; have := okt.2.2; omega)).mono ?_
    rintro e w19 ⟨rfl, he19, hk19⟩
    have hB19 := below_keeps hB18 hk19 hB18.size (fun b hb => Nat.le_trans hB5.size (fr6 b hb))
    clear c154_0 c154_1 c154_2 f154_0 f154_1 f154_2
    have F155_xt_19 := F147_xt_18.keeps hk19 (apart_of' lt_xr (fr8.mono (Nat.le_trans (Nat.le_refl _) hb7.size)))
    clear F147_xt_18
    have F156_bxt_19 := Lib.hid (box_keeps F145_bxt_18.out hk19 (fun hh => (apart_of' lt_xr (fr_bxt.mono (Nat.le_trans (Nat.le_trans (Nat.le_refl _) hb7.size) hb8.size))) _ (List.mem_singleton.2 rfl) hh))
    clear F145_bxt_18
    obtain ⟨⟨c157_0, c157_1, c157_2⟩, f157_0, f157_1, f157_2⟩ := box3 F156_bxt_19.out
    go_wp2_with (fail)
    refine (markRelation_law (1 + cntR (r).2.2) F155_xt_19 (by omega) okt (by have := okr.2.2; have := okt.2.2; omega)).mono ?_
    rintro e w20 ⟨rfl, he20, hk20⟩
    have hB20 := below_keeps hB19 hk20 hB19.size (fun b hb => Nat.le_trans hB7.size (fr8 b hb))
    clear c157_0 c157_1 c157_2 f157_0 f157_1 f157_2
    have F158_G0_12 := F80_G0_11.below hb12
    clear F80_G0_11
    have F159_G0_13 := F158_G0_12.below hb13
    clear F158_G0_12
    have F160_G0_14 := F159_G0_13.below hb14
    clear F159_G0_13
    have F161_G0_15 := F160_G0_14.below hb15
    clear F160_G0_14
    have F162_G0_16 := F161_G0_15.below hb16
    clear F161_G0_15
    have F163_G0_17 := F162_G0_16.below hb17
    clear F162_G0_16
    have F164_G0_18 := F163_G0_17.below hb18
    clear F163_G0_17
    have F165_G0_19 := F164_G0_18.keeps hk19 (apart_of' lt_xr (fr10_0.mono (Nat.le_trans (Nat.le_trans (Nat.le_trans (Nat.le_refl _) hb7.size) hb8.size) hb9.size)))
    clear F164_G0_18
    have F166_G0_20 := F165_G0_19.keeps hk20 (apart_of' lt_xt (fr10_0.mono (Nat.le_trans (Nat.le_refl _) hb9.size)))
    clear F165_G0_19
    have F167_W0_12 := F86_W0_11.below hb12
    clear F86_W0_11
    have F168_W0_13 := F167_W0_12.below hb13
    clear F167_W0_12
    have F169_W0_14 := F168_W0_13.below hb14
    clear F168_W0_13
    have F170_W0_15 := F169_W0_14.below hb15
    clear F169_W0_14
    have F171_W0_16 := F170_W0_15.below hb16
    clear F170_W0_15
    have F172_W0_17 := F171_W0_16.below hb17
    clear F171_W0_16
    have F173_W0_18 := F172_W0_17.below hb18
    clear F172_W0_17
    have F174_W0_19 := F173_W0_18.keeps hk19 (apart_of lt_W0 (fr6))
    clear F173_W0_18
    have F175_W0_20 := F174_W0_19.keeps hk20 (apart_of lt_W0 (fr8.mono (Nat.le_trans (Nat.le_trans (Nat.le_refl _) hb6.size) hb7.size)))
    clear F174_W0_19
    have F176_bG0_12 := Lib.hid (box_below BX_bG0_11.out hb12)
    clear BX_bG0_11
    have F177_bG0_13 := Lib.hid (box_below F176_bG0_12.out hb13)
    clear F176_bG0_12
    have F178_bG0_14 := Lib.hid (box_below F177_bG0_13.out hb14)
    clear F177_bG0_13
    have F179_bG0_15 := Lib.hid (box_below F178_bG0_14.out hb15)
    clear F178_bG0_14
    have F180_bG0_16 := Lib.hid (box_below F179_bG0_15.out hb16)
    clear F179_bG0_15
    have F181_bG0_17 := Lib.hid (box_below F180_bG0_16.out hb17)
    clear F180_bG0_16
    have F182_bG0_18 := Lib.hid (box_below F181_bG0_17.out hb18)
    clear F181_bG0_17
    have F183_bG0_19 := Lib.hid (box_keeps F182_bG0_18.out hk19 (fun hh => (apart_of' lt_xr (fr_bG0.mono (Nat.le_trans (Nat.le_trans (Nat.le_trans (Nat.le_trans (Nat.le_refl _) hb7.size) hb8.size) hb9.size) hb10.size))) _ (List.mem_singleton.2 rfl) hh))
    clear F182_bG0_18
    have F184_bG0_20 := Lib.hid (box_keeps F183_bG0_19.out hk20 (fun hh => (apart_of' lt_xt (fr_bG0.mono (Nat.le_trans (Nat.le_trans (Nat.le_refl _) hb9.size) hb10.size))) _ (List.mem_singleton.2 rfl) hh))
    clear F183_bG0_19
    obtain ⟨⟨c185_0, c185_1, c185_2⟩, f185_0, f185_1, f185_2⟩ := box3 F184_bG0_20.out
    have F186_bW0_12 := Lib.hid (box_below F93_bW0_11.out hb12)
    clear F93_bW0_11
    have F187_bW0_13 := Lib.hid (box_below F186_bW0_12.out hb13)
    clear F186_bW0_12
    have F188_bW0_14 := Lib.hid (box_below F187_bW0_13.out hb14)
    clear F187_bW0_13
    have F189_bW0_15 := Lib.hid (box_below F188_bW0_14.out hb15)
    clear F188_bW0_14
    have F190_bW0_16 := Lib.hid (box_below F189_bW0_15.out hb16)
    clear F189_bW0_15
    have F191_bW0_17 := Lib.hid (box_below F190_bW0_16.out hb17)
    clear F190_bW0_16
    have F192_bW0_18 := Lib.hid (box_below F191_bW0_17.out hb18)
    clear F191_bW0_17
    have F193_bW0_19 := Lib.hid (box_keeps F192_bW0_18.out hk19 (fun hh => (apart_of lt_bW0 (fr6)) _ (List.mem_singleton.2 rfl) hh))
    clear F192_bW0_18
    have F194_bW0_20 := Lib.hid (box_keeps F193_bW0_19.out hk20 (fun hh => (apart_of lt_bW0 (fr8.mono (Nat.le_trans (Nat.le_trans (Nat.le_refl _) hb6.size) hb7.size))) _ (List.mem_singleton.2 rfl) hh))
    clear F193_bW0_19
    obtain ⟨⟨c195_0, c195_1, c195_2⟩, f195_0, f195_1, f195_2⟩ := box3 F194_bW0_20.out
    go_wp2_with (fail)
    refine (eqRelation_law F166_G0_20.rd F175_W0_20.rd ((cmpM_ok (p := p) (s := r) (t := t)))).mono ?_
    rintro e w21 ⟨rfl, hb21⟩
    have hB21 := below_trans hB20 hb21 hB20.size
    clear c185_0 c185_1 c185_2 f185_0 f185_1 f185_2 c195_0 c195_1 c195_2 f195_0 f195_1 f195_2
    rw [decide_eq_true (rfl : (cmpM p r t).1 = (cmpM p r t).1)]
    have F196_G0_21 := F166_G0_20.below hb21
    clear F166_G0_20
    have F197_bG0_21 := Lib.hid (box_below F184_bG0_20.out hb21)
    clear F184_bG0_20
    obtain ⟨⟨c198_0, c198_1, c198_2⟩, f198_0, f198_1, f198_2⟩ := box3 F197_bG0_21.out
    go_wp2_with (fail)
    refine (markRelation_law (1) F196_G0_21 (by omega) ((cmpM_ok (p := p) (s := r) (t := t))) (by have := ((cmpM_ok (p := p) (s := r) (t := t))).2.2; omega)).mono ?_
    rintro e w22 ⟨rfl, he22, hk22⟩
    have hB22 := below_keeps hB21 hk22 hB21.size (fun b hb => Nat.le_trans hB9.size (fr10_0 b hb))
    clear c198_0 c198_1 c198_2 f198_0 f198_1 f198_2
    have F199_bG0_22 := Lib.hid (box_keeps F197_bG0_21.out hk22 (fun hh => (apart_of' lt_G0 (fr_bG0)) _ (List.mem_singleton.2 rfl) hh))
    clear F197_bG0_21
    obtain ⟨⟨c200_0, c200_1, c200_2⟩, f200_0, f200_1, f200_2⟩ := box3 F199_bG0_22.out
    go_wp2_with (fail)
    refine (heldRelation_law he22 (by omega) ((cmpM_ok (p := p) (s := r) (t := t))) (by have := ((cmpM_ok (p := p) (s := r) (t := t))).2.2; omega)).mono ?_
    rintro e w23 ⟨rfl, hb23⟩
    have hB23 := below_trans hB22 hb23 hB22.size
    clear c200_0 c200_1 c200_2 f200_0 f200_1 f200_2
    have F201_pr_16 := Lib.hid (box_below F116_pr_15.out hb16)
    clear F116_pr_15
    have F202_pr_17 := Lib.hid (box_below F201_pr_16.out hb17)
    clear F201_pr_16
    have F203_pr_18 := Lib.hid (box_below F202_pr_17.out hb18)
    clear F202_pr_17
    have F204_pr_19 := Lib.hid (box_keeps F203_pr_18.out hk19 (fun hh => (apart_of lt_pr (fr6.mono (Nat.le_trans (Nat.le_trans (Nat.le_trans (Nat.le_trans (Nat.le_refl _) hb2.size) hb3.size) hb4.size) hb14c.size))) _ (List.mem_singleton.2 rfl) hh))
    clear F203_pr_18
    have F205_pr_20 := Lib.hid (box_keeps F204_pr_19.out hk20 (fun hh => (apart_of lt_pr (fr8.mono (Nat.le_trans (Nat.le_trans (Nat.le_trans (Nat.le_trans (Nat.le_trans (Nat.le_trans (Nat.le_refl _) hb2.size) hb3.size) hb4.size) hb14c.size) hb6.size) hb7.size))) _ (List.mem_singleton.2 rfl) hh))
    clear F204_pr_19
    have F206_pr_21 := Lib.hid (box_below F205_pr_20.out hb21)
    clear F205_pr_20
    have F207_pr_22 := Lib.hid (box_keeps F206_pr_21.out hk22 (fun hh => (apart_of lt_pr (fr10_0.mono (Nat.le_trans (Nat.le_trans (Nat.le_trans (Nat.le_trans (Nat.le_trans (Nat.le_trans (Nat.le_trans (Nat.le_trans (Nat.le_refl _) hb2.size) hb3.size) hb4.size) hb14c.size) hb6.size) hb7.size) hb8.size) hb9.size))) _ (List.mem_singleton.2 rfl) hh))
    clear F206_pr_21
    have F208_pr_23 := Lib.hid (box_below F207_pr_22.out hb23)
    clear F207_pr_22
    have F209_pt_19 := Lib.hid (box_keeps F146_pt_18.out hk19 (fun hh => (apart_of lt_pt (fr6.mono (Nat.le_trans (Nat.le_trans (Nat.le_trans (Nat.le_refl _) hb3.size) hb4.size) hb14c.size))) _ (List.mem_singleton.2 rfl) hh))
    clear F146_pt_18
    have F210_pt_20 := Lib.hid (box_keeps F209_pt_19.out hk20 (fun hh => (apart_of lt_pt (fr8.mono (Nat.le_trans (Nat.le_trans (Nat.le_trans (Nat.le_trans (Nat.le_trans (Nat.le_refl _) hb3.size) hb4.size) hb14c.size) hb6.size) hb7.size))) _ (List.mem_singleton.2 rfl) hh))
    clear F209_pt_19
    have F211_pt_21 := Lib.hid (box_below F210_pt_20.out hb21)
    clear F210_pt_20
    have F212_pt_22 := Lib.hid (box_keeps F211_pt_21.out hk22 (fun hh => (apart_of lt_pt (fr10_0.mono (Nat.le_trans (Nat.le_trans (Nat.le_trans (Nat.le_trans (Nat.le_trans (Nat.le_trans (Nat.le_trans (Nat.le_refl _) hb3.size) hb4.size) hb14c.size) hb6.size) hb7.size) hb8.size) hb9.size))) _ (List.mem_singleton.2 rfl) hh))
    clear F211_pt_21
    have F213_pt_23 := Lib.hid (box_below F212_pt_22.out hb23)
    clear F212_pt_22
    go_wp2_with (fail)
    go_cut [17, 18] (fun sb sf wx => ∃ (B214 nX214 cX214 : Nat) (AX214 : Option Addr) (fpx214 : List Nat), sb = .pointer (some ⟨B214, 0, none⟩) ∧ sf = .bool (cmpM p r t).2 ∧ wx.heap[B214]? = some (.cells #[.int .i64 ((cmpM p r t).1).1, .int .i64 ((cmpM p r t).1).2.1, .slice AX214 nX214 cX214] 43) ∧ OwSys wx (.agg #[.int .i64 ((cmpM p r t).1).1, .int .i64 ((cmpM p r t).1).2.1, .slice AX214 nX214 cX214]) ((cmpM p r t).1) fpx214 ∧ FreshL (w23).heap.size fpx214 ∧ (w23).heap.size ≤ B214 ∧ Below (w23).heap.size (w23) wx)
    case first =>
      refine beginH (fun w' => w'.heap[(w).heap.size]? = some (.cells #[.int .i64 (r).1, .int .i64 (r).2.1, .slice Ar nr cr] 41) ∧ w'.heap[(w).heap.size + 1]? = some (.cells #[.int .i64 (t).1, .int .i64 (t).2.1, .slice At nt ct] 41)) (by kernel_rfl) ?_
      have hb24 : Below (w23).heap.size (w23) (w23).drew := below_drewN (Below.refl _ _) 1
      have hB24 := below_trans hB23 hb24 hB23.size
      have F215_pr_24 := Lib.hid (box_below F208_pr_23.out hb24)
      clear F208_pr_23
      have F216_pt_24 := Lib.hid (box_below F213_pt_23.out hb24)
      clear F213_pt_23
      refine takeH 0 (v := ?_) rfl (by kernel_rfl) (by kernel_rfl) (by kernel_rfl) (fun _ _ _ h => h) ⟨F215_pr_24.out, F216_pt_24.out⟩ (by rfl) (fun W' hW' => ?_) ?_; rotate_left; · (obtain ⟨q0, q1⟩ := hW'; obtain ⟨⟨ca0_0, ca0_1, ca0_2⟩, ga0_0, ga0_1, ga0_2⟩ := box3 q0; obtain ⟨⟨ca1_0, ca1_1, ca1_2⟩, ga1_0, ga1_1, ga1_2⟩ := box3 q1; clear q0 q1; go_simp; first | done | with_reducible rfl)
      simp only [Act.put, List.setIfInBounds_toArray, List.set_cons_zero, List.set_cons_succ]
      refine takeH 1 (v := ?_) rfl (by kernel_rfl) (by kernel_rfl) (by kernel_rfl) (fun _ _ _ h => h) ⟨F215_pr_24.out, F216_pt_24.out⟩ (by rfl) (fun W' hW' => ?_) ?_; rotate_left; · (obtain ⟨q0, q1⟩ := hW'; obtain ⟨⟨ca0_0, ca0_1, ca0_2⟩, ga0_0, ga0_1, ga0_2⟩ := box3 q0; obtain ⟨⟨ca1_0, ca1_1, ca1_2⟩, ga1_0, ga1_1, ga1_2⟩ := box3 q1; clear q0 q1; go_simp; first | done | with_reducible rfl)
      simp only [Act.put, List.setIfInBounds_toArray, List.set_cons_zero, List.set_cons_succ]
      refine takeH 3 (v := ?_) rfl (by kernel_rfl) (by kernel_rfl) (by kernel_rfl) (fun _ _ _ h => h) ⟨F215_pr_24.out, F216_pt_24.out⟩ (by rfl) (fun W' hW' => ?_) ?_; rotate_left; · (obtain ⟨q0, q1⟩ := hW'; obtain ⟨⟨ca0_0, ca0_1, ca0_2⟩, ga0_0, ga0_1, ga0_2⟩ := box3 q0; obtain ⟨⟨ca1_0, ca1_1, ca1_2⟩, ga1_0, ga1_1, ga1_2⟩ := box3 q1; clear q0 q1; go_simp; first | done | with_reducible rfl)
      simp only [Act.put, List.setIfInBounds_toArray, List.set_cons_zero, List.set_cons_succ]
      refine callOrH 2 9 (f := ?f217) (args := ?args217) (vj := ?vj217) (wj := ?wj217) rfl rfl (by kernel_rfl) (by rfl) (by rfl) ?hrun217 ?hrunj217 ?h1217 ?hSj217 ?h2217
      case hrun217 => (go_simp; first | done | with_reducible rfl | (constructor <;> with_reducible rfl))
      case hrunj217 => (go_simp; first | done | with_reducible rfl | (constructor <;> with_reducible rfl))
      case hSj217 => exact ⟨(box_below F215_pr_24.out (below_alloc _ _)), (box_below F216_pt_24.out (below_alloc _ _))⟩
      case h1217 =>
        refine (toRelation_law (hr.below hB24) okr).mono ?_
        rintro e w25 ⟨v25, fp25, rfl, o25, fr25, hb25⟩
        have hB25 := below_trans hB24 hb25 hB24.size
        have F218_pr_25 := Lib.hid (box_below F215_pr_24.out hb25)
        clear F215_pr_24
        have F219_pt_25 := Lib.hid (box_below F216_pt_24.out hb25)
        clear F216_pt_24
        refine ⟨_, rfl, ⟨F218_pr_25.out, F219_pt_25.out⟩, ?_⟩
        obtain ⟨A25, n25, c25, rfl⟩ := o25.shape
        have lt_yr := o25.lt
        simp only [Act.put, List.setIfInBounds_toArray, List.set_cons_zero, List.set_cons_succ]
        refine callOrH 4 9 (f := ?f220) (args := ?args220) (vj := ?vj220) (wj := ?wj220) rfl rfl (by kernel_rfl) (by rfl) (by rfl) ?hrun220 ?hrunj220 ?h1220 ?hSj220 ?h2220
        case hrun220 => (go_simp; first | done | with_reducible rfl | (constructor <;> with_reducible rfl))
        case hrunj220 => (go_simp; first | done | with_reducible rfl | (constructor <;> with_reducible rfl))
        case hSj220 => exact ⟨(box_below F218_pr_25.out (below_alloc _ _)), (box_below F219_pt_25.out (below_alloc _ _))⟩
        case h1220 =>
          refine (toRelation_law (ht.below hB25) okt).mono ?_
          rintro e w26 ⟨v26, fp26, rfl, o26, fr26, hb26⟩
          have hB26 := below_trans hB25 hb26 hB25.size
          have F221_pr_26 := Lib.hid (box_below F218_pr_25.out hb26)
          clear F218_pr_25
          have F222_pt_26 := Lib.hid (box_below F219_pt_25.out hb26)
          clear F219_pt_25
          refine ⟨_, rfl, ⟨F221_pr_26.out, F222_pt_26.out⟩, ?_⟩
          obtain ⟨A26, n26, c26, rfl⟩ := o26.shape
          have lt_yt := o26.lt
          simp only [Act.put, List.setIfInBounds_toArray, List.set_cons_zero, List.set_cons_succ]
          refine callOrH 5 9 (f := ?f223) (args := ?args223) (vj := ?vj223) (wj := ?wj223) rfl rfl (by kernel_rfl) (by rfl) (by rfl) ?hrun223 ?hrunj223 ?h1223 ?hSj223 ?h2223
          case hrun223 => (go_simp; first | done | with_reducible rfl | (constructor <;> with_reducible rfl))
          case hrunj223 => (go_simp; first | done | with_reducible rfl | (constructor <;> with_reducible rfl))
          case hSj223 => exact ⟨(box_below F221_pr_26.out (below_alloc _ _)), (box_below F222_pt_26.out (below_alloc _ _))⟩
          case h1223 =>
            have F224_yr_26 := o25.below hb26
            clear o25
            refine (iComposeRelations_law p F224_yr_26 o26 okr okt (hT.below hB26 hT.lt)).mono ?_
            rintro e w27 ⟨v27_0, fp27_0, rfl, o27r0, fr27_0, hb27⟩
            have hB27 := below_trans hB26 hb27 hB26.size
            have F225_pr_27 := Lib.hid (box_below F221_pr_26.out hb27)
            clear F221_pr_26
            have F226_pt_27 := Lib.hid (box_below F222_pt_26.out hb27)
            clear F222_pt_26
            refine ⟨_, rfl, ⟨F225_pr_27.out, F226_pt_27.out⟩, ?_⟩
            obtain ⟨A27_0, n27_0, c27_0, rfl⟩ := o27r0.shape
            simp only [Act.put, List.setIfInBounds_toArray, List.set_cons_zero, List.set_cons_succ]
            refine takeH 6 (v := ?_) rfl (by kernel_rfl) (by kernel_rfl) (by kernel_rfl) (fun _ _ _ h => h) ⟨F225_pr_27.out, F226_pt_27.out⟩ (by rfl) (fun W' hW' => ?_) ?_; rotate_left; · (obtain ⟨q0, q1⟩ := hW'; obtain ⟨⟨ca0_0, ca0_1, ca0_2⟩, ga0_0, ga0_1, ga0_2⟩ := box3 q0; obtain ⟨⟨ca1_0, ca1_1, ca1_2⟩, ga1_0, ga1_1, ga1_2⟩ := box3 q1; clear q0 q1; go_simp; first | done | with_reducible rfl)
            simp only [Act.put, List.setIfInBounds_toArray, List.set_cons_zero, List.set_cons_succ]
            refine takeH 7 (v := ?_) rfl (by kernel_rfl) (by kernel_rfl) (by kernel_rfl) (fun _ _ _ h => h) ⟨F225_pr_27.out, F226_pt_27.out⟩ (by rfl) (fun W' hW' => ?_) ?_; rotate_left; · (obtain ⟨q0, q1⟩ := hW'; obtain ⟨⟨ca0_0, ca0_1, ca0_2⟩, ga0_0, ga0_1, ga0_2⟩ := box3 q0; obtain ⟨⟨ca1_0, ca1_1, ca1_2⟩, ga1_0, ga1_1, ga1_2⟩ := box3 q1; clear q0 q1; go_simp; first | done | with_reducible rfl)
            simp only [Act.put, List.setIfInBounds_toArray, List.set_cons_zero, List.set_cons_succ]
            refine takeH 8 (v := ?_) rfl (by kernel_rfl) (by kernel_rfl) (by kernel_rfl) (fun _ _ _ h => h) ⟨F225_pr_27.out, F226_pt_27.out⟩ (by rfl) (fun W' hW' => ?_) ?_; rotate_left; · (obtain ⟨q0, q1⟩ := hW'; obtain ⟨⟨ca0_0, ca0_1, ca0_2⟩, ga0_0, ga0_1, ga0_2⟩ := box3 q0; obtain ⟨⟨ca1_0, ca1_1, ca1_2⟩, ga1_0, ga1_1, ga1_2⟩ := box3 q1; clear q0 q1; go_simp; first | done | with_reducible rfl)
            simp only [Act.put, List.setIfInBounds_toArray, List.set_cons_zero, List.set_cons_succ]
            have hd23 : Below (w23).heap.size (w23) (w23) := Below.refl _ _
            have hd24 := below_trans hd23 hb24 hd23.size
            have hd25 := below_trans hd24 hb25 hd24.size
            have hd26 := below_trans hd25 hb26 hd25.size
            have hd27 := below_trans hd26 hb27 hd26.size
            refine oneH 9 rfl (by kernel_rfl) (by rfl) (fun K hK => ?_)
            go_simp
            refine hK _ _ ⟨(box_below F225_pr_27.out (below_alloc _ _)), (box_below F226_pt_27.out (below_alloc _ _))⟩ ?_
            clear hK K
            refine oneH 10 rfl (by kernel_rfl) (by rfl) (fun K hK => ?_)
            go_simp
            refine hK _ _ ⟨(box_below F225_pr_27.out (below_alloc _ _)), (box_below F226_pt_27.out (below_alloc _ _))⟩ ?_
            clear hK K
            refine takeH 11 (v := ?_) rfl (by kernel_rfl) (by kernel_rfl) (by kernel_rfl) (fun _ _ _ h => h) ⟨(box_below F225_pr_27.out (below_alloc _ _)), (box_below F226_pt_27.out (below_alloc _ _))⟩ (by rfl) (fun W' hW' => ?_) ?_; rotate_left; · (obtain ⟨q0, q1⟩ := hW'; obtain ⟨⟨ca0_0, ca0_1, ca0_2⟩, ga0_0, ga0_1, ga0_2⟩ := box3 q0; obtain ⟨⟨ca1_0, ca1_1, ca1_2⟩, ga1_0, ga1_1, ga1_2⟩ := box3 q1; clear q0 q1; go_simp; first | done | with_reducible rfl)
            simp only [Act.put, List.setIfInBounds_toArray, List.set_cons_zero, List.set_cons_succ]
            refine doneH (by kernel_rfl) ?_
            go_wp2_with (fail)
            go_meet
            exact ⟨_, _, _, _, _, rfl, rfl, heap_alloc_new _ _, o27r0.below (below_alloc _ _), (fr27_0.mono (Nat.le_trans (Nat.le_trans (Nat.le_trans (Nat.le_refl _) hb24.size) hb25.size) hb26.size)), hd27.size, below_trans hd27 (below_alloc _ _) hd27.size⟩
          case h2223 =>
            have lp227_pr := box_lt F221_pr_26.out
            have lp228_pt := box_lt F222_pt_26.out
            have hb27 := below_alloc (w26) (.cells #[.int .i64 0, .int .i64 0, .slice none 0 0] 43)
            have bz27 := Lib.hid (show ((w26).alloc (.cells #[.int .i64 0, .int .i64 0, .slice none 0 0] 43)).heap[(w26).heap.size]? = some (.cells #[.int .i64 0, .int .i64 0, .slice none 0 0] 43) from heap_alloc_new (w26) (.cells #[.int .i64 0, .int .i64 0, .slice none 0 0] 43))
            have hB27 := below_trans hB26 hb27 hB26.size
            simp only [Act.put, List.setIfInBounds_toArray, List.set_cons_zero, List.set_cons_succ]
            refine' callH 5 (f := _) (args := _) rfl (by kernel_rfl) (by rfl) ?_ ?_; rotate_left 2; · (go_simp; first | done | with_reducible rfl | (constructor <;> with_reducible rfl))
            have lB229 := box_lt bz27.out
            have F230_yr_26 := o25.below hb26
            clear o25
            have F231_yr_27 := F230_yr_26.below hb27
            clear F230_yr_26
            have F232_yt_27 := o26.below hb27
            clear o26
            refine (iComposeRelations_law p F231_yr_27 F232_yt_27 okr okt (hT.below hB27 hT.lt)).mono ?_
            rintro e w28 ⟨v28_0, fp28_0, rfl, o28r0, fr28_0, hb28⟩
            have hB28 := below_trans hB27 hb28 hB27.size
            have F233_pr_27 := Lib.hid (box_below F221_pr_26.out hb27)
            clear F221_pr_26
            have F234_pr_28 := Lib.hid (box_below F233_pr_27.out hb28)
            clear F233_pr_27
            have F235_pt_27 := Lib.hid (box_below F222_pt_26.out hb27)
            clear F222_pt_26
            have F236_pt_28 := Lib.hid (box_below F235_pt_27.out hb28)
            clear F235_pt_27
            refine ⟨_, rfl, ⟨F234_pr_28.out, F236_pt_28.out⟩, ?_⟩
            obtain ⟨A28_0, n28_0, c28_0, rfl⟩ := o28r0.shape
            simp only [Act.put, List.setIfInBounds_toArray, List.set_cons_zero, List.set_cons_succ]
            refine takeH 6 (v := ?_) rfl (by kernel_rfl) (by kernel_rfl) (by kernel_rfl) (fun _ _ _ h => h) ⟨F234_pr_28.out, F236_pt_28.out⟩ (by rfl) (fun W' hW' => ?_) ?_; rotate_left; · (obtain ⟨q0, q1⟩ := hW'; obtain ⟨⟨ca0_0, ca0_1, ca0_2⟩, ga0_0, ga0_1, ga0_2⟩ := box3 q0; obtain ⟨⟨ca1_0, ca1_1, ca1_2⟩, ga1_0, ga1_1, ga1_2⟩ := box3 q1; clear q0 q1; go_simp; first | done | with_reducible rfl)
            simp only [Act.put, List.setIfInBounds_toArray, List.set_cons_zero, List.set_cons_succ]
            refine takeH 7 (v := ?_) rfl (by kernel_rfl) (by kernel_rfl) (by kernel_rfl) (fun _ _ _ h => h) ⟨F234_pr_28.out, F236_pt_28.out⟩ (by rfl) (fun W' hW' => ?_) ?_; rotate_left; · (obtain ⟨q0, q1⟩ := hW'; obtain ⟨⟨ca0_0, ca0_1, ca0_2⟩, ga0_0, ga0_1, ga0_2⟩ := box3 q0; obtain ⟨⟨ca1_0, ca1_1, ca1_2⟩, ga1_0, ga1_1, ga1_2⟩ := box3 q1; clear q0 q1; go_simp; first | done | with_reducible rfl)
            simp only [Act.put, List.setIfInBounds_toArray, List.set_cons_zero, List.set_cons_succ]
            refine takeH 8 (v := ?_) rfl (by kernel_rfl) (by kernel_rfl) (by kernel_rfl) (fun _ _ _ h => h) ⟨F234_pr_28.out, F236_pt_28.out⟩ (by rfl) (fun W' hW' => ?_) ?_; rotate_left; · (obtain ⟨q0, q1⟩ := hW'; obtain ⟨⟨ca0_0, ca0_1, ca0_2⟩, ga0_0, ga0_1, ga0_2⟩ := box3 q0; obtain ⟨⟨ca1_0, ca1_1, ca1_2⟩, ga1_0, ga1_1, ga1_2⟩ := box3 q1; clear q0 q1; go_simp; first | done | with_reducible rfl)
            simp only [Act.put, List.setIfInBounds_toArray, List.set_cons_zero, List.set_cons_succ]
            have hd23 : Below (w23).heap.size (w23) (w23) := Below.refl _ _
            have hd24 := below_trans hd23 hb24 hd23.size
            have hd25 := below_trans hd24 hb25 hd24.size
            have hd26 := below_trans hd25 hb26 hd25.size
            have hd27 := below_trans hd26 hb27 hd26.size
            have hd28 := below_trans hd27 hb28 hd27.size
            have F237_zbox_28 := Lib.hid (box_below bz27.out hb28)
            clear bz27
            obtain ⟨s1, s2⟩ := set3 (a := .int .i64 ((cmpM p r t).1).1) (b := .int .i64 ((cmpM p r t).1).2.1) (c := .slice A28_0 n28_0 c28_0) F237_zbox_28.out
            obtain ⟨⟨z0, z1, z2⟩, y0, y1, y2⟩ := box3 F237_zbox_28.out
            have o2 := o28r0.keeps s2 (fun b hb e => by have := fr28_0 b hb; have := lB229; omega)
            have hdf := below_keeps hd28 s2 hd28.size (fun k hk => by rw [hk]; exact hd26.size)
            refine oneH 10 rfl (by kernel_rfl) (by rfl) (fun K hK => ?_)
            go_simp
            refine hK _ _ ⟨(box_keeps F234_pr_28.out s2 (fun e => Nat.ne_of_lt lp227_pr e)), (box_keeps F236_pt_28.out s2 (fun e => Nat.ne_of_lt lp228_pt e))⟩ ?_
            clear hK K
            refine takeH 11 (v := ?_) rfl (by kernel_rfl) (by kernel_rfl) (by kernel_rfl) (fun _ _ _ h => h) ⟨(box_keeps F234_pr_28.out s2 (fun e => Nat.ne_of_lt lp227_pr e)), (box_keeps F236_pt_28.out s2 (fun e => Nat.ne_of_lt lp228_pt e))⟩ (by rfl) (fun W' hW' => ?_) ?_; rotate_left; · (obtain ⟨q0, q1⟩ := hW'; obtain ⟨⟨ca0_0, ca0_1, ca0_2⟩, ga0_0, ga0_1, ga0_2⟩ := box3 q0; obtain ⟨⟨ca1_0, ca1_1, ca1_2⟩, ga1_0, ga1_1, ga1_2⟩ := box3 q1; clear q0 q1; go_simp; first | done | with_reducible rfl)
            simp only [Act.put, List.setIfInBounds_toArray, List.set_cons_zero, List.set_cons_succ]
            refine doneH (by kernel_rfl) ?_
            go_wp2_with (fail)
            go_meet
            exact ⟨_, _, _, _, _, rfl, rfl, s1, o2, (fr28_0.mono (Nat.le_trans (Nat.le_trans (Nat.le_trans (Nat.le_trans (Nat.le_refl _) hb24.size) hb25.size) hb26.size) hb27.size)), hd26.size, hdf⟩
        case h2220 =>
          have lp238_pr := box_lt F218_pr_25.out
          have lp239_pt := box_lt F219_pt_25.out
          have hb26 := below_alloc (w25) (.cells #[.int .i64 0, .int .i64 0, .slice none 0 0] 43)
          have bz26 := Lib.hid (show ((w25).alloc (.cells #[.int .i64 0, .int .i64 0, .slice none 0 0] 43)).heap[(w25).heap.size]? = some (.cells #[.int .i64 0, .int .i64 0, .slice none 0 0] 43) from heap_alloc_new (w25) (.cells #[.int .i64 0, .int .i64 0, .slice none 0 0] 43))
          have hB26 := below_trans hB25 hb26 hB25.size
          simp only [Act.put, List.setIfInBounds_toArray, List.set_cons_zero, List.set_cons_succ]
          refine' callH 4 (f := _) (args := _) rfl (by kernel_rfl) (by rfl) ?_ ?_; rotate_left 2; · (go_simp; first | done | with_reducible rfl | (constructor <;> with_reducible rfl))
          refine (toRelation_law (ht.below hB26) okt).mono ?_
          rintro e w27 ⟨v27, fp27, rfl, o27, fr27, hb27⟩
          have hB27 := below_trans hB26 hb27 hB26.size
          have F240_pr_26 := Lib.hid (box_below F218_pr_25.out hb26)
          clear F218_pr_25
          have F241_pr_27 := Lib.hid (box_below F240_pr_26.out hb27)
          clear F240_pr_26
          have F242_pt_26 := Lib.hid (box_below F219_pt_25.out hb26)
          clear F219_pt_25
          have F243_pt_27 := Lib.hid (box_below F242_pt_26.out hb27)
          clear F242_pt_26
          refine ⟨_, rfl, ⟨F241_pr_27.out, F243_pt_27.out⟩, ?_⟩
          obtain ⟨A27, n27, c27, rfl⟩ := o27.shape
          have lt_yt := o27.lt
          simp only [Act.put, List.setIfInBounds_toArray, List.set_cons_zero, List.set_cons_succ]
          refine' callH 5 (f := _) (args := _) rfl (by kernel_rfl) (by rfl) ?_ ?_; rotate_left 2; · (go_simp; first | done | with_reducible rfl | (constructor <;> with_reducible rfl))
          have F245_zbox_27 := Lib.hid (box_below bz26.out hb27)
          clear bz26
          have lB244 := box_lt F245_zbox_27.out
          have F246_yr_26 := o25.below hb26
          clear o25
          have F247_yr_27 := F246_yr_26.below hb27
          clear F246_yr_26
          refine (iComposeRelations_law p F247_yr_27 o27 okr okt (hT.below hB27 hT.lt)).mono ?_
          rintro e w28 ⟨v28_0, fp28_0, rfl, o28r0, fr28_0, hb28⟩
          have hB28 := below_trans hB27 hb28 hB27.size
          have F248_pr_28 := Lib.hid (box_below F241_pr_27.out hb28)
          clear F241_pr_27
          have F249_pt_28 := Lib.hid (box_below F243_pt_27.out hb28)
          clear F243_pt_27
          refine ⟨_, rfl, ⟨F248_pr_28.out, F249_pt_28.out⟩, ?_⟩
          obtain ⟨A28_0, n28_0, c28_0, rfl⟩ := o28r0.shape
          simp only [Act.put, List.setIfInBounds_toArray, List.set_cons_zero, List.set_cons_succ]
          refine takeH 6 (v := ?_) rfl (by kernel_rfl) (by kernel_rfl) (by kernel_rfl) (fun _ _ _ h => h) ⟨F248_pr_28.out, F249_pt_28.out⟩ (by rfl) (fun W' hW' => ?_) ?_; rotate_left; · (obtain ⟨q0, q1⟩ := hW'; obtain ⟨⟨ca0_0, ca0_1, ca0_2⟩, ga0_0, ga0_1, ga0_2⟩ := box3 q0; obtain ⟨⟨ca1_0, ca1_1, ca1_2⟩, ga1_0, ga1_1, ga1_2⟩ := box3 q1; clear q0 q1; go_simp; first | done | with_reducible rfl)
          simp only [Act.put, List.setIfInBounds_toArray, List.set_cons_zero, List.set_cons_succ]
          refine takeH 7 (v := ?_) rfl (by kernel_rfl) (by kernel_rfl) (by kernel_rfl) (fun _ _ _ h => h) ⟨F248_pr_28.out, F249_pt_28.out⟩ (by rfl) (fun W' hW' => ?_) ?_; rotate_left; · (obtain ⟨q0, q1⟩ := hW'; obtain ⟨⟨ca0_0, ca0_1, ca0_2⟩, ga0_0, ga0_1, ga0_2⟩ := box3 q0; obtain ⟨⟨ca1_0, ca1_1, ca1_2⟩, ga1_0, ga1_1, ga1_2⟩ := box3 q1; clear q0 q1; go_simp; first | done | with_reducible rfl)
          simp only [Act.put, List.setIfInBounds_toArray, List.set_cons_zero, List.set_cons_succ]
          refine takeH 8 (v := ?_) rfl (by kernel_rfl) (by kernel_rfl) (by kernel_rfl) (fun _ _ _ h => h) ⟨F248_pr_28.out, F249_pt_28.out⟩ (by rfl) (fun W' hW' => ?_) ?_; rotate_left; · (obtain ⟨q0, q1⟩ := hW'; obtain ⟨⟨ca0_0, ca0_1, ca0_2⟩, ga0_0, ga0_1, ga0_2⟩ := box3 q0; obtain ⟨⟨ca1_0, ca1_1, ca1_2⟩, ga1_0, ga1_1, ga1_2⟩ := box3 q1; clear q0 q1; go_simp; first | done | with_reducible rfl)
          simp only [Act.put, List.setIfInBounds_toArray, List.set_cons_zero, List.set_cons_succ]
          have hd23 : Below (w23).heap.size (w23) (w23) := Below.refl _ _
          have hd24 := below_trans hd23 hb24 hd23.size
          have hd25 := below_trans hd24 hb25 hd24.size
          have hd26 := below_trans hd25 hb26 hd25.size
          have hd27 := below_trans hd26 hb27 hd26.size
          have hd28 := below_trans hd27 hb28 hd27.size
          have F250_zbox_28 := Lib.hid (box_below F245_zbox_27.out hb28)
          clear F245_zbox_27
          obtain ⟨s1, s2⟩ := set3 (a := .int .i64 ((cmpM p r t).1).1) (b := .int .i64 ((cmpM p r t).1).2.1) (c := .slice A28_0 n28_0 c28_0) F250_zbox_28.out
          obtain ⟨⟨z0, z1, z2⟩, y0, y1, y2⟩ := box3 F250_zbox_28.out
          have o2 := o28r0.keeps s2 (fun b hb e => by have := fr28_0 b hb; have := lB244; omega)
          have hdf := below_keeps hd28 s2 hd28.size (fun k hk => by rw [hk]; exact hd25.size)
          refine oneH 10 rfl (by kernel_rfl) (by rfl) (fun K hK => ?_)
          go_simp
          refine hK _ _ ⟨(box_keeps F248_pr_28.out s2 (fun e => Nat.ne_of_lt lp238_pr e)), (box_keeps F249_pt_28.out s2 (fun e => Nat.ne_of_lt lp239_pt e))⟩ ?_
          clear hK K
          refine takeH 11 (v := ?_) rfl (by kernel_rfl) (by kernel_rfl) (by kernel_rfl) (fun _ _ _ h => h) ⟨(box_keeps F248_pr_28.out s2 (fun e => Nat.ne_of_lt lp238_pr e)), (box_keeps F249_pt_28.out s2 (fun e => Nat.ne_of_lt lp239_pt e))⟩ (by rfl) (fun W' hW' => ?_) ?_; rotate_left; · (obtain ⟨q0, q1⟩ := hW'; obtain ⟨⟨ca0_0, ca0_1, ca0_2⟩, ga0_0, ga0_1, ga0_2⟩ := box3 q0; obtain ⟨⟨ca1_0, ca1_1, ca1_2⟩, ga1_0, ga1_1, ga1_2⟩ := box3 q1; clear q0 q1; go_simp; first | done | with_reducible rfl)
          simp only [Act.put, List.setIfInBounds_toArray, List.set_cons_zero, List.set_cons_succ]
          refine doneH (by kernel_rfl) ?_
          go_wp2_with (fail)
          go_meet
          exact ⟨_, _, _, _, _, rfl, rfl, s1, o2, (fr28_0.mono (Nat.le_trans (Nat.le_trans (Nat.le_trans (Nat.le_trans (Nat.le_refl _) hb24.size) hb25.size) hb26.size) hb27.size)), hd25.size, hdf⟩
      case h2217 =>
        have lp251_pr := box_lt F215_pr_24.out
        have lp252_pt := box_lt F216_pt_24.out
        have hb25 := below_alloc ((w23).drew) (.cells #[.int .i64 0, .int .i64 0, .slice none 0 0] 43)
        have bz25 := Lib.hid (show (((w23).drew).alloc (.cells #[.int .i64 0, .int .i64 0, .slice none 0 0] 43)).heap[((w23)).heap.size]? = some (.cells #[.int .i64 0, .int .i64 0, .slice none 0 0] 43) from heap_alloc_new ((w23).drew) (.cells #[.int .i64 0, .int .i64 0, .slice none 0 0] 43))
        have hB25 := below_trans hB24 hb25 hB24.size
        simp only [Act.put, List.setIfInBounds_toArray, List.set_cons_zero, List.set_cons_succ]
        refine' callH 2 (f := _) (args := _) rfl (by kernel_rfl) (by rfl) ?_ ?_; rotate_left 2; · (go_simp; first | done | with_reducible rfl | (constructor <;> with_reducible rfl))
        refine (toRelation_law (hr.below hB25) okr).mono ?_
        rintro e w26 ⟨v26, fp26, rfl, o26, fr26, hb26⟩
        have hB26 := below_trans hB25 hb26 hB25.size
        have F253_pr_25 := Lib.hid (box_below F215_pr_24.out hb25)
        clear F215_pr_24
        have F254_pr_26 := Lib.hid (box_below F253_pr_25.out hb26)
        clear F253_pr_25
        have F255_pt_25 := Lib.hid (box_below F216_pt_24.out hb25)
        clear F216_pt_24
        have F256_pt_26 := Lib.hid (box_below F255_pt_25.out hb26)
        clear F255_pt_25
        refine ⟨_, rfl, ⟨F254_pr_26.out, F256_pt_26.out⟩, ?_⟩
        obtain ⟨A26, n26, c26, rfl⟩ := o26.shape
        have lt_yr := o26.lt
        simp only [Act.put, List.setIfInBounds_toArray, List.set_cons_zero, List.set_cons_succ]
        refine' callH 4 (f := _) (args := _) rfl (by kernel_rfl) (by rfl) ?_ ?_; rotate_left 2; · (go_simp; first | done | with_reducible rfl | (constructor <;> with_reducible rfl))
        refine (toRelation_law (ht.below hB26) okt).mono ?_
        rintro e w27 ⟨v27, fp27, rfl, o27, fr27, hb27⟩
        have hB27 := below_trans hB26 hb27 hB26.size
        have F257_pr_27 := Lib.hid (box_below F254_pr_26.out hb27)
        clear F254_pr_26
        have F258_pt_27 := Lib.hid (box_below F256_pt_26.out hb27)
        clear F256_pt_26
        refine ⟨_, rfl, ⟨F257_pr_27.out, F258_pt_27.out⟩, ?_⟩
        obtain ⟨A27, n27, c27, rfl⟩ := o27.shape
        have lt_yt := o27.lt
        simp only [Act.put, List.setIfInBounds_toArray, List.set_cons_zero, List.set_cons_succ]
        refine' callH 5 (f := _) (args := _) rfl (by kernel_rfl) (by rfl) ?_ ?_; rotate_left 2; · (go_simp; first | done | with_reducible rfl | (constructor <;> with_reducible rfl))
        have F260_zbox_26 := Lib.hid (box_below bz25.out hb26)
        clear bz25
        have F261_zbox_27 := Lib.hid (box_below F260_zbox_26.out hb27)
        clear F260_zbox_26
        have lB259 := box_lt F261_zbox_27.out
        have F262_yr_27 := o26.below hb27
        clear o26
        refine (iComposeRelations_law p F262_yr_27 o27 okr okt (hT.below hB27 hT.lt)).mono ?_
        rintro e w28 ⟨v28_0, fp28_0, rfl, o28r0, fr28_0, hb28⟩
        have hB28 := below_trans hB27 hb28 hB27.size
        have F263_pr_28 := Lib.hid (box_below F257_pr_27.out hb28)
        clear F257_pr_27
        have F264_pt_28 := Lib.hid (box_below F258_pt_27.out hb28)
        clear F258_pt_27
        refine ⟨_, rfl, ⟨F263_pr_28.out, F264_pt_28.out⟩, ?_⟩
        obtain ⟨A28_0, n28_0, c28_0, rfl⟩ := o28r0.shape
        simp only [Act.put, List.setIfInBounds_toArray, List.set_cons_zero, List.set_cons_succ]
        refine takeH 6 (v := ?_) rfl (by kernel_rfl) (by kernel_rfl) (by kernel_rfl) (fun _ _ _ h => h) ⟨F263_pr_28.out, F264_pt_28.out⟩ (by rfl) (fun W' hW' => ?_) ?_; rotate_left; · (obtain ⟨q0, q1⟩ := hW'; obtain ⟨⟨ca0_0, ca0_1, ca0_2⟩, ga0_0, ga0_1, ga0_2⟩ := box3 q0; obtain ⟨⟨ca1_0, ca1_1, ca1_2⟩, ga1_0, ga1_1, ga1_2⟩ := box3 q1; clear q0 q1; go_simp; first | done | with_reducible rfl)
        simp only [Act.put, List.setIfInBounds_toArray, List.set_cons_zero, List.set_cons_succ]
        refine takeH 7 (v := ?_) rfl (by kernel_rfl) (by kernel_rfl) (by kernel_rfl) (fun _ _ _ h => h) ⟨F263_pr_28.out, F264_pt_28.out⟩ (by rfl) (fun W' hW' => ?_) ?_; rotate_left; · (obtain ⟨q0, q1⟩ := hW'; obtain ⟨⟨ca0_0, ca0_1, ca0_2⟩, ga0_0, ga0_1, ga0_2⟩ := box3 q0; obtain ⟨⟨ca1_0, ca1_1, ca1_2⟩, ga1_0, ga1_1, ga1_2⟩ := box3 q1; clear q0 q1; go_simp; first | done | with_reducible rfl)
        simp only [Act.put, List.setIfInBounds_toArray, List.set_cons_zero, List.set_cons_succ]
        refine takeH 8 (v := ?_) rfl (by kernel_rfl) (by kernel_rfl) (by kernel_rfl) (fun _ _ _ h => h) ⟨F263_pr_28.out, F264_pt_28.out⟩ (by rfl) (fun W' hW' => ?_) ?_; rotate_left; · (obtain ⟨q0, q1⟩ := hW'; obtain ⟨⟨ca0_0, ca0_1, ca0_2⟩, ga0_0, ga0_1, ga0_2⟩ := box3 q0; obtain ⟨⟨ca1_0, ca1_1, ca1_2⟩, ga1_0, ga1_1, ga1_2⟩ := box3 q1; clear q0 q1; go_simp; first | done | with_reducible rfl)
        simp only [Act.put, List.setIfInBounds_toArray, List.set_cons_zero, List.set_cons_succ]
        have hd23 : Below (w23).heap.size (w23) (w23) := Below.refl _ _
        have hd24 := below_trans hd23 hb24 hd23.size
        have hd25 := below_trans hd24 hb25 hd24.size
        have hd26 := below_trans hd25 hb26 hd25.size
        have hd27 := below_trans hd26 hb27 hd26.size
        have hd28 := below_trans hd27 hb28 hd27.size
        have F265_zbox_28 := Lib.hid (box_below F261_zbox_27.out hb28)
        clear F261_zbox_27
        obtain ⟨s1, s2⟩ := set3 (a := .int .i64 ((cmpM p r t).1).1) (b := .int .i64 ((cmpM p r t).1).2.1) (c := .slice A28_0 n28_0 c28_0) F265_zbox_28.out
        obtain ⟨⟨z0, z1, z2⟩, y0, y1, y2⟩ := box3 F265_zbox_28.out
        have o2 := o28r0.keeps s2 (fun b hb e => by have := fr28_0 b hb; have := lB259; omega)
        have hdf := below_keeps hd28 s2 hd28.size (fun k hk => by rw [hk]; exact hd24.size)
        refine oneH 10 rfl (by kernel_rfl) (by rfl) (fun K hK => ?_)
        go_simp
        refine hK _ _ ⟨(box_keeps F263_pr_28.out s2 (fun e => Nat.ne_of_lt lp251_pr e)), (box_keeps F264_pt_28.out s2 (fun e => Nat.ne_of_lt lp252_pt e))⟩ ?_
        clear hK K
        refine takeH 11 (v := ?_) rfl (by kernel_rfl) (by kernel_rfl) (by kernel_rfl) (fun _ _ _ h => h) ⟨(box_keeps F263_pr_28.out s2 (fun e => Nat.ne_of_lt lp251_pr e)), (box_keeps F264_pt_28.out s2 (fun e => Nat.ne_of_lt lp252_pt e))⟩ (by rfl) (fun W' hW' => ?_) ?_; rotate_left; · (obtain ⟨q0, q1⟩ := hW'; obtain ⟨⟨ca0_0, ca0_1, ca0_2⟩, ga0_0, ga0_1, ga0_2⟩ := box3 q0; obtain ⟨⟨ca1_0, ca1_1, ca1_2⟩, ga1_0, ga1_1, ga1_2⟩ := box3 q1; clear q0 q1; go_simp; first | done | with_reducible rfl)
        simp only [Act.put, List.setIfInBounds_toArray, List.set_cons_zero, List.set_cons_succ]
        refine doneH (by kernel_rfl) ?_
        go_wp2_with (fail)
        go_meet
        exact ⟨_, _, _, _, _, rfl, rfl, s1, o2, (fr28_0.mono (Nat.le_trans (Nat.le_trans (Nat.le_trans (Nat.le_trans (Nat.le_refl _) hb24.size) hb25.size) hb26.size) hb27.size)), hd24.size, hdf⟩
    case rest =>
      obtain ⟨B214, nX214, cX214, AX214, fpx214, rfl, rfl, bx214c, o214c, fr214c, hge214, hb214c⟩ := hcut
      obtain ⟨w24c, rfl⟩ : ∃ x, x = wc := ⟨_, rfl⟩
      have hB24 := below_trans hB23 hb214c hB23.size
      have lt_H0 := o214c.lt
      have lt_bH0 : LtL (w24c).heap.size [B214] := fun b hb => by obtain rfl := List.mem_singleton.1 hb; exact box_lt bx214c
      have fr_bH0 : FreshL (w23).heap.size [B214] := fun b hb => by obtain rfl := List.mem_singleton.1 hb; exact hge214
      have BX_bH0_214 := Lib.hid bx214c
      clear bx214c
      have F266_W0_21 := F175_W0_20.below hb21
      clear F175_W0_20
      have F267_W0_22 := F266_W0_21.keeps hk22 (apart_of lt_W0 (fr10_0.mono (Nat.le_trans (Nat.le_trans (Nat.le_trans (Nat.le_trans (Nat.le_refl _) hb6.size) hb7.size) hb8.size) hb9.size)))
      clear F266_W0_21
      have F268_W0_23 := F267_W0_22.below hb23
      clear F267_W0_22
      have F269_W0_24 := F268_W0_23.below hb214c
      clear F268_W0_23
      obtain ⟨⟨c270_0, c270_1, c270_2⟩, f270_0, f270_1, f270_2⟩ := box3 BX_bH0_214.out
      have F271_bW0_21 := Lib.hid (box_below F194_bW0_20.out hb21)
      clear F194_bW0_20
      have F272_bW0_22 := Lib.hid (box_keeps F271_bW0_21.out hk22 (fun hh => (apart_of lt_bW0 (fr10_0.mono (Nat.le_trans (Nat.le_trans (Nat.le_trans (Nat.le_trans (Nat.le_refl _) hb6.size) hb7.size) hb8.size) hb9.size))) _ (List.mem_singleton.2 rfl) hh))
      clear F271_bW0_21
      have F273_bW0_23 := Lib.hid (box_below F272_bW0_22.out hb23)
      clear F272_bW0_22
      have F274_bW0_24 := Lib.hid (box_below F273_bW0_23.out hb214c)
      clear F273_bW0_23
      obtain ⟨⟨c275_0, c275_1, c275_2⟩, f275_0, f275_1, f275_2⟩ := box3 F274_bW0_24.out
      go_wp2_with (fail)
      refine (eqRelation_law o214c.rd F269_W0_24.rd ((cmpM_ok (p := p) (s := r) (t := t)))).mono ?_
      rintro e w25 ⟨rfl, hb25⟩
      have hB25 := below_trans hB24 hb25 hB24.size
      clear c270_0 c270_1 c270_2 f270_0 f270_1 f270_2 c275_0 c275_1 c275_2 f275_0 f275_1 f275_2
      rw [decide_eq_true (rfl : (cmpM p r t).1 = (cmpM p r t).1)]
      have F276_G0_23 := he22.below hb23
      clear he22
      have F277_G0_24 := F276_G0_23.below hb214c
      clear F276_G0_23
      have F278_G0_25 := F277_G0_24.below hb25
      clear F277_G0_24
      have F279_bG0_23 := Lib.hid (box_below F199_bG0_22.out hb23)
      clear F199_bG0_22
      have F280_bG0_24 := Lib.hid (box_below F279_bG0_23.out hb214c)
      clear F279_bG0_23
      have F281_bG0_25 := Lib.hid (box_below F280_bG0_24.out hb25)
      clear F280_bG0_24
      obtain ⟨⟨c282_0, c282_1, c282_2⟩, f282_0, f282_1, f282_2⟩ := box3 F281_bG0_25.out
      go_wp2_with (fail)
      refine (heldRelation_law F278_G0_25 (by omega) ((cmpM_ok (p := p) (s := r) (t := t))) (by have := ((cmpM_ok (p := p) (s := r) (t := t))).2.2; omega)).mono ?_
      rintro e w26 ⟨rfl, hb26⟩
      have hB26 := below_trans hB25 hb26 hB25.size
      clear c282_0 c282_1 c282_2 f282_0 f282_1 f282_2
      go_wp2_with (fail)
      go_ret
      exact ⟨rfl, hB26⟩
set_option maxRecDepth 100000 in
theorem contractComposeRelations (H : Type) (enc : TypeId × Value → H) (W : World) (args : Array Value) (ds gs : List (DataW H)) (before : List MemPlace)
    (hval : ∀ (j : Nat) t v, Tryd.f5.params[j]? = some t → args[j]? = some v → Value.okWide Tryd.prog W .any 0 t v)
    (hW : DataW.Whole enc Tryd.prog Tryd.f5.params.toList Rows.fnExactComposeRelationsSpec.vars false W args.toList ds gs before) (hL : laidMetH Tryd.prog Rows.fnExactComposeRelationsRow.laid W) :
    Calls Tryd.prog 5 args W fun e W' => ∃ v, e = .returned v ∧ Rows.fnExactComposeRelationsSpec.post enc Tryd.prog Tryd.f5 false true false false W args v W' := by
  have hW' := hW
  obtain ⟨p, q, hA0, hV, rfl, hfz, hnd⟩ := hW
  have hA : DataW.TrodAll enc Tryd.prog W 0 (fun _ => true) true Tryd.f5.params.toList args.toList ds p := hA0
  have hr : ∀ t ∈ Tryd.f5.params.toList, Tryd.prog.readableRec t = true ∧ t < Tryd.prog.types.size := by
    rw [Tryd.params5]
    intro t ht
    have ht' : t ∈ ([3, 41, 41] : List TypeId) := ht
    rcases List.mem_cons.1 ht' with rfl | ht'
    · exact ⟨by kernel_rfl, of_decide_eq_true (by kernel_rfl)⟩
    rcases List.mem_cons.1 ht' with rfl | ht'
    · exact ⟨by kernel_rfl, of_decide_eq_true (by kernel_rfl)⟩
    rcases List.mem_cons.1 ht' with rfl | ht'
    · exact ⟨by kernel_rfl, of_decide_eq_true (by kernel_rfl)⟩
    cases ht'
  rw [Tryd.params5] at hA hval
  obtain ⟨v0, vs0, d0, ds0, p0, q0, hargs, rfl, rfl, t0, r0⟩ := trodAll_cons hA
  obtain ⟨v1, vs1, d1, ds1, p1, q1, rfl, rfl, rfl, t1, r1⟩ := trodAll_cons r0
  obtain ⟨v2, vs2, d2, ds2, p2, q2, rfl, rfl, rfl, t2, r2⟩ := trodAll_cons r1
  obtain ⟨rfl, rfl, rfl⟩ := trodAll_nil r2
  obtain rfl : args = #[v0, v1, v2] := by cases args; simp_all
  obtain ⟨g, _, _, _, dg, pg, rfl, _⟩ := trodVars_one hV
  obtain ⟨x0, rfl, lo0, hi0⟩ := in_int (hval 0 _ v0 rfl rfl) t0
  obtain ⟨m1, hl1, hg1⟩ := in_Relation (hval 1 _ v1 rfl rfl) t1
  obtain ⟨m2, hl2, hg2⟩ := in_Relation (hval 2 _ v2 rfl rfl) t2
  refine (lawComposeRelations_any x0 v1 m1 v2 m2 W hl1 hg1 hl2 hg2 lo0 hi0 (tab_of_laid hL)).mono fun e W' ⟨he, hb⟩ => ?_
  subst he
  exact ⟨_, rfl, post_true laidOut hW' hb hr vars_ok rfl rfl Tryd.underlying4⟩
set_option maxRecDepth 100000 in
theorem liftedComposeRelations (os : Os) (started : os.Started) (H : Type) (enc : TypeId × Value → H) (F : Stop.Interp) :
    ReturnsInHanded {} Tryd.checked os 5 .any ((OpenSpec.ofChange Rows.fnExactComposeRelationsSpec).preRow enc Tryd.prog Tryd.f5 Rows.fnExactComposeRelationsRow.domain false Rows.fnExactComposeRelationsRow.laid) (((OpenSpec.ofChange Rows.fnExactComposeRelationsSpec).at F).post enc Tryd.prog Tryd.f5 false true false false) := by
  obtain ⟨ds, gs, places, hx⟩ : ∃ ds gs places, DataW.whole enc Tryd.prog ((laidWorld os).forCall (fun _ _ => 0) ⟨#[], #[.int .i64 0, .agg #[.int .i64 0, .int .i64 0, .slice none 0 0], .agg #[.int .i64 0, .int .i64 0, .slice none 0 0]], []⟩).memory Tryd.f5.params.toList Rows.fnExactComposeRelationsSpec.vars false (#[.int .i64 0, .agg #[.int .i64 0, .int .i64 0, .slice none 0 0], .agg #[.int .i64 0, .int .i64 0, .slice none 0 0]] : Array Value).toList 8 = some (ds, gs, places) :=
    ⟨[.lit (.int .i64 0), .agg [.lit (.int .i64 0), .lit (.int .i64 0), .nil], .agg [.lit (.int .i64 0), .lit (.int .i64 0), .nil]], [Rows.laid_loop_example_g01073_impl_smallPrimes], MemPlace.row ⟨0, 0, none⟩ 4, by kernel_rfl⟩
  refine returnsInHanded_of_row (C := Tryd.checked) (s := OpenSpec.ofChange Rows.fnExactComposeRelationsSpec) own started (by kernel_rfl) Tryd.func5
    (witness_row_at (enc := enc) (C := Tryd.checked) false (laidWorld os) #[.int .i64 0, .agg #[.int .i64 0, .int .i64 0, .slice none 0 0], .agg #[.int .i64 0, .int .i64 0, .slice none 0 0]] rfl (by kernel_rfl) (by kernel_rfl) (by kernel_rfl)
      (OpenSpec.preRow_of_cond 8 hx (by kernel_rfl) (fun k hk => by cases hk) (by kernel_rfl) (laid_met os _))) ?_
  intro W base args ds gs before hval hW _ _ _ hL _ _
  exact contractComposeRelations H enc W args ds gs before hval hW hL
theorem saidComposeRelations : Rows.FnExactComposeRelationsSaid :=
  OpenClaim.holds_of_cond 5 Tryd.f5 rfl rfl rfl rfl rfl rfl rfl ⟨rfl, rfl, rfl, rfl, rfl⟩ rfl rfl rfl rfl rfl (by kernel_rfl) Tryd.func5 (by kernel_rfl)
    (of_decide_eq_true (by kernel_rfl)) (by unfold Func.isWrapper; first | (rw [if_pos (by decide +kernel)]; kernel_rfl) | (rw [if_neg (by decide +kernel)]; exact ⟨rfl, rfl⟩))
    (fun os started H enc _ F => by rw [OpenClaim.pre_eq_preRow]; exact liftedComposeRelations os started H enc F)
theorem plainComposeRelations (f : FuncId) (fn : Func) (hf : Tryd.pinned.checked.prog.funcNamed "loop.example/g01073/laws.FnExactComposeRelations" = some f) (hfn : Tryd.pinned.checked.prog.funcs[f]? = some fn) :
    false = Tryd.pinned.checked.prog.looks [] ∧ ∀ (j : Nat) t, fn.params[j]? = some t → Tryd.pinned.checked.prog.wantsStandIn t = false := by
  obtain rfl : f = 5 := Option.some.inj ((show Tryd.prog.funcNamed "loop.example/g01073/laws.FnExactComposeRelations" = some 5 by kernel_rfl).symm.trans hf) |>.symm
  obtain rfl : fn = Tryd.f5 := (Option.some.inj (Tryd.func5.symm.trans hfn)).symm
  refine ⟨by kernel_rfl, fun j t ht => ?_⟩
  rw [Tryd.params5] at ht
  have ht' : t ∈ ([3, 41, 41] : List TypeId) := by have := Array.mem_of_getElem? ht; simpa using this
  rcases List.mem_cons.1 ht' with rfl | ht'
  · exact (show Tryd.prog.wantsStandIn 3 = false by kernel_rfl)
  rcases List.mem_cons.1 ht' with rfl | ht'
  · exact (show Tryd.prog.wantsStandIn 41 = false by kernel_rfl)
  rcases List.mem_cons.1 ht' with rfl | ht'
  · exact (show Tryd.prog.wantsStandIn 41 = false by kernel_rfl)
  cases ht'
theorem cardComposeRelations : Rows.FnExactComposeRelationsCardSaid :=
  Claim7.holds_tied_plain_at .later [] _ _ _ _ saidComposeRelations (fun _ h => by cases h) (by kernel_rfl) (fun _ h => by cases h) fnExactComposeRelations_row_tie rfl ⟨rfl, rfl⟩ (by kernel_rfl) rfl plainComposeRelations (by kernel_rfl)
#print axioms cardComposeRelations
end Go.Proofs.YtahnhblodfdfhaaDoor
