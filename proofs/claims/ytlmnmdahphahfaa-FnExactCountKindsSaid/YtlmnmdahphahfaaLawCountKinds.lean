/-
  The program's CountKinds returns what the reference's returns, for all arguments (laws.FnExactCountKinds answers true). No condition.
-/
import Derived.Test.YtlmnmdahphahfaaTmC
import Derived.Test.YtlmnmdahphahfaaRegH
import Derived.Test.YtlmnmdahphahfaaFrameP
import Derived.Test.YtlmnmdahphahfaaTmIn
import Derived.Test.YtlmnmdahphahfaaTmLaw
import Derived.Test.YtlmnmdahphahfaaLawI
namespace Go.Proofs.Ytlmnmdahphahfaa
open Go.ChangeShapes Go.WideShapes Go.ChangeAt Go.RowKit

set_option maxHeartbeats 4000000 in
set_option maxRecDepth 100000 in
theorem lawCountKinds_any (vt : Value) (t : List Nd) (w : World) (ht : RdTm w vt t) (hgt : BigTm t) :
    Calls Try.prog 5 #[vt] w fun e w' => e = .returned (.bool true) ∧ Below w.heap.size w w' := by
  obtain ⟨At, nt, ct, rfl⟩ := ht.shape
  obtain ⟨St, hSt⟩ : ∃ S, S = szNS (t) 1048576 := ⟨_, rfl⟩
  have HSt := Lib.hid hSt
  clear hSt
  have hB0 : Below w.heap.size w w := Below.refl _ _
  have hb1 := below_alloc (w) (.cells #[.slice At nt ct] 24)
  have hB1 := below_trans hB0 hb1 hB0.size
  have bx1 := heap_alloc_new (w) (.cells #[.slice At nt ct] 24)
  have lt_pt : LtL ((w).alloc (.cells #[.slice At nt ct] 24)).heap.size [(w).heap.size] := fun b hb => by obtain rfl := List.mem_singleton.1 hb; exact box_lt bx1
  have fr_pt : FreshL (w).heap.size [(w).heap.size] := fun b hb => by obtain rfl := List.mem_singleton.1 hb; exact Nat.le_refl _
  have BX_pt_1 := Lib.hid bx1
  clear bx1
  by_cases negt : St < 0
  case pos =>
    go_enter Try.func5, Try.ntmps5
    obtain ⟨c1_0, f1_0⟩ := bx1 BX_pt_1.out
    go_wp2_with (fail)
    refine (szTerm_law 1048576 (ht.below hB1) hgt (by omega) (by omega)).mono ?_
    rintro e w2 ⟨he2, hb2⟩
    have hB2 := below_trans hB1 hb2 hB1.size
    clear c1_0 f1_0
    rw [← HSt.out] at he2
    subst he2
    go_wp2_with (fail)
    go_ret
    exact ⟨rfl, hB2⟩
  have sokt := szN_ok (by rw [← HSt.out]; omega : 0 ≤ szNS (t) 1048576) (by omega)
  have okt := sokt.1
  have slet : St ≤ 1048576 := by rw [HSt.out]; exact sokt.2
  clear sokt
  go_enter Try.func5, Try.ntmps5
  obtain ⟨c2_0, f2_0⟩ := bx1 BX_pt_1.out
  go_wp2_with (fail)
  refine (szTerm_law 1048576 (ht.below hB1) hgt (by omega) (by omega)).mono ?_
  rintro e w2 ⟨he2, hb2⟩
  have hB2 := below_trans hB1 hb2 hB1.size
  clear c2_0 f2_0
  rw [← HSt.out] at he2
  subst he2
  have F3_pt_2 := Lib.hid (box_below BX_pt_1.out hb2)
  clear BX_pt_1
  obtain ⟨c4_0, f4_0⟩ := bx1 F3_pt_2.out
  go_wp2_with (fail)
  refine (toTerm_law (ht.below hB2) okt).mono ?_
  rintro e w3 ⟨v3, fp3, rfl, o3, fr3, hb3⟩
  have hB3 := below_trans hB2 hb3 hB2.size
  clear c4_0 f4_0
  obtain ⟨A3, n3, c3, rfl⟩ := o3.shape
  have lt_at := o3.lt
  go_wp2_with (fail)
  refine (sCountKinds_law  o3.rd okt).mono ?_
  rintro e w4 ⟨v4_0, fp4_0, rfl, o4r0, fr4_0, hb4⟩
  have hB4 := below_trans hB3 hb4 hB3.size
  have lt_W0 := o4r0.lt
  have F5_pt_3 := Lib.hid (box_below F3_pt_2.out hb3)
  clear F3_pt_2
  have F6_pt_4 := Lib.hid (box_below F5_pt_3.out hb4)
  clear F5_pt_3
  obtain ⟨c7_0, f7_0⟩ := bx1 F6_pt_4.out
  go_wp2_with (fail)
  refine (toTerm_law (ht.below hB4) okt).mono ?_
  rintro e w5 ⟨v5, fp5, rfl, o5, fr5, hb5⟩
  have hB5 := below_trans hB4 hb5 hB4.size
  clear c7_0 f7_0
  obtain ⟨A5, n5, c5, rfl⟩ := o5.shape
  have lt_xt := o5.lt
  have hb6 := below_alloc (w5) (.cells #[.slice A5 n5 c5] 30)
  have hB6 := below_trans hB5 hb6 hB5.size
  have bx6 := heap_alloc_new (w5) (.cells #[.slice A5 n5 c5] 30)
  have lt_bxt : LtL ((w5).alloc (.cells #[.slice A5 n5 c5] 30)).heap.size [(w5).heap.size] := fun b hb => by obtain rfl := List.mem_singleton.1 hb; exact box_lt bx6
  have fr_bxt : FreshL (w5).heap.size [(w5).heap.size] := fun b hb => by obtain rfl := List.mem_singleton.1 hb; exact Nat.le_refl _
  have BX_bxt_6 := Lib.hid bx6
  clear bx6
  have F8_xt_6 := o5.below hb6
  clear o5
  obtain ⟨c9_0, f9_0⟩ := bx1 BX_bxt_6.out
  go_wp2_with (fail)
  refine (iCountKinds_law  F8_xt_6.rd okt).mono ?_
  rintro e w7 ⟨v7_0, fp7_0, rfl, o7r0, fr7_0, hb7⟩
  have hB7 := below_trans hB6 hb7 hB6.size
  clear c9_0 f9_0
  have lt_G0 := o7r0.lt
  have F10_W0_5 := o4r0.below hb5
  clear o4r0
  have F11_W0_6 := F10_W0_5.below hb6
  clear F10_W0_5
  have F12_W0_7 := F11_W0_6.below hb7
  clear F11_W0_6
  go_wp2_with (fail)
  refine (eqI_law o7r0.rd F12_W0_7.rd (by have := ckR_le t; omega)).mono ?_
  rintro e w8 ⟨rfl, hb8⟩
  have hB8 := below_trans hB7 hb8 hB7.size
  rw [decide_eq_true (rfl : (ckR t).1 = (ckR t).1)]
  have F13_bxt_7 := Lib.hid (box_below BX_bxt_6.out hb7)
  clear BX_bxt_6
  have F14_bxt_8 := Lib.hid (box_below F13_bxt_7.out hb8)
  clear F13_bxt_7
  have F15_pt_5 := Lib.hid (box_below F6_pt_4.out hb5)
  clear F6_pt_4
  have F16_pt_6 := Lib.hid (box_below F15_pt_5.out hb6)
  clear F15_pt_5
  have F17_pt_7 := Lib.hid (box_below F16_pt_6.out hb7)
  clear F16_pt_6
  have F18_pt_8 := Lib.hid (box_below F17_pt_7.out hb8)
  clear F17_pt_7
  have F19_xt_7 := F8_xt_6.below hb7
  clear F8_xt_6
  have F20_xt_8 := F19_xt_7.below hb8
  clear F19_xt_7
  go_wp2_with (fail)
  refine beginH (fun w' => w'.heap[(w5).heap.size]? = some (.cells #[.slice A5 n5 c5] 30) ∧ w'.heap[(w).heap.size]? = some (.cells #[.slice At nt ct] 24)) (by kernel_rfl) ?_
  have hb9 : Below (w8).heap.size (w8) (w8).drew := below_drewN (Below.refl _ _) 1
  have hB9 := below_trans hB8 hb9 hB8.size
  have F22_bxt_9 := Lib.hid (box_below F14_bxt_8.out hb9)
  clear F14_bxt_8
  have F23_pt_9 := Lib.hid (box_below F18_pt_8.out hb9)
  clear F18_pt_8
  have F24_xt_9 := F20_xt_8.below hb9
  clear F20_xt_8
  refine takeH 0 (v := ?_) rfl (by kernel_rfl) (by kernel_rfl) (by kernel_rfl) (fun _ _ _ h => h) ⟨F22_bxt_9.out, F23_pt_9.out⟩ (by rfl) (fun W' hW' => ?_) ?_; rotate_left; · (obtain ⟨q1, q2⟩ := hW'; obtain ⟨ca0, gca0⟩ := bx1 q1; obtain ⟨cb0, gcb0⟩ := bx1 q2; clear q1 q2; go_simp; first | done | with_reducible rfl)
  simp only [Act.put, List.setIfInBounds_toArray, List.set_cons_zero, List.set_cons_succ]
  refine takeH 1 (v := ?_) rfl (by kernel_rfl) (by kernel_rfl) (by kernel_rfl) (fun _ _ _ h => h) ⟨F22_bxt_9.out, F23_pt_9.out⟩ (by rfl) (fun W' hW' => ?_) ?_; rotate_left; · (obtain ⟨q1, q2⟩ := hW'; obtain ⟨ca0, gca0⟩ := bx1 q1; obtain ⟨cb0, gcb0⟩ := bx1 q2; clear q1 q2; go_simp; first | done | with_reducible rfl)
  simp only [Act.put, List.setIfInBounds_toArray, List.set_cons_zero, List.set_cons_succ]
  refine' callH 2 (f := _) (args := _) rfl (by kernel_rfl) (by rfl) ?_ ?_; rotate_left 2; · (go_simp; first | done | with_reducible rfl | (constructor <;> with_reducible rfl))
  refine (toTerm_law (ht.below hB9) okt).mono ?_
  rintro e w10 ⟨v10, fp10, rfl, o10, fr10, hb10⟩
  have hB10 := below_trans hB9 hb10 hB9.size
  have F25_bxt_10 := Lib.hid (box_below F22_bxt_9.out hb10)
  clear F22_bxt_9
  have F26_pt_10 := Lib.hid (box_below F23_pt_9.out hb10)
  clear F23_pt_9
  have F27_xt_10 := F24_xt_9.below hb10
  clear F24_xt_9
  refine ⟨_, rfl, ⟨F25_bxt_10.out, F26_pt_10.out⟩, ?_⟩
  simp only [Act.put, List.setIfInBounds_toArray, List.set_cons_zero, List.set_cons_succ]
  refine' callH 3 (f := _) (args := _) rfl (by kernel_rfl) (by rfl) ?_ ?_; rotate_left 2; · (go_simp; first | done | with_reducible rfl | (constructor <;> with_reducible rfl))
  refine (eqTerm_law F27_xt_10.rd o10.rd okt).mono ?_
  rintro e w11 ⟨rfl, hb11⟩
  have hB11 := below_trans hB10 hb11 hB10.size
  have F28_bxt_11 := Lib.hid (box_below F25_bxt_10.out hb11)
  clear F25_bxt_10
  have F29_pt_11 := Lib.hid (box_below F26_pt_10.out hb11)
  clear F26_pt_10
  have F30_xt_11 := F27_xt_10.below hb11
  clear F27_xt_10
  refine ⟨_, rfl, ⟨F28_bxt_11.out, F29_pt_11.out⟩, ?_⟩
  rw [decide_eq_true (rfl : t = t)]
  simp only [Act.put, List.setIfInBounds_toArray, List.set_cons_zero, List.set_cons_succ]
  refine takeH 4 (v := .bool false) rfl (by kernel_rfl) (by kernel_rfl) (by kernel_rfl) (fun _ _ _ h => h) ⟨F28_bxt_11.out, F29_pt_11.out⟩ (by rfl) (fun W' hW' => ?_) ?_; · (go_simp; first | done | with_reducible rfl)
  simp only [Act.put, List.setIfInBounds_toArray, List.set_cons_zero, List.set_cons_succ]
  refine doneH (by kernel_rfl) ?_
  obtain ⟨c31_0, f31_0⟩ := bx1 F28_bxt_11.out
  go_wp2_with (fail)
  refine (markTerm_law (1) F30_xt_11 (by omega) okt (by have := okt.2.2; constructor <;> omega)).mono ?_
  rintro e w12 ⟨rfl, he12, hk12⟩
  have hB12 := below_keeps hB11 hk12 hB11.size (fun b hb => Nat.le_trans hB4.size (fr5 b hb))
  clear c31_0 f31_0
  have F32_G0_8 := o7r0.below hb8
  clear o7r0
  have F33_G0_9 := F32_G0_8.below hb9
  clear F32_G0_8
  have F34_G0_10 := F33_G0_9.below hb10
  clear F33_G0_9
  have F35_G0_11 := F34_G0_10.below hb11
  clear F34_G0_10
  have F36_G0_12 := F35_G0_11.keeps hk12 (apart_of' lt_xt (fr7_0.mono (Nat.le_trans (Nat.le_refl _) hb6.size)))
  clear F35_G0_11
  have F37_W0_8 := F12_W0_7.below hb8
  clear F12_W0_7
  have F38_W0_9 := F37_W0_8.below hb9
  clear F37_W0_8
  have F39_W0_10 := F38_W0_9.below hb10
  clear F38_W0_9
  have F40_W0_11 := F39_W0_10.below hb11
  clear F39_W0_10
  have F41_W0_12 := F40_W0_11.keeps hk12 (apart_of lt_W0 (fr5))
  clear F40_W0_11
  go_wp2_with (fail)
  refine (eqI_law F36_G0_12.rd F41_W0_12.rd (by have := ckR_le t; omega)).mono ?_
  rintro e w13 ⟨rfl, hb13⟩
  have hB13 := below_trans hB12 hb13 hB12.size
  rw [decide_eq_true (rfl : (ckR t).1 = (ckR t).1)]
  have F42_G0_13 := F36_G0_12.below hb13
  clear F36_G0_12
  go_wp2_with (fail)
  refine (markI_law (1) F42_G0_13 (by omega) (by have := ckR_le t; omega)).mono ?_
  rintro e w14 ⟨rfl, he14, hk14⟩
  have hB14 := below_keeps hB13 hk14 hB13.size (fun b hb => Nat.le_trans hB6.size (fr7_0 b hb))
  go_wp2_with (fail)
  refine (heldI_law he14 (by omega) (by have := ckR_le t; omega)).mono ?_
  rintro e w15 ⟨rfl, hb15⟩
  have hB15 := below_trans hB14 hb15 hB14.size
  have F43_pt_12 := Lib.hid (box_keeps F29_pt_11.out hk12 (fun hh => (apart_of lt_pt (fr5.mono (Nat.le_trans (Nat.le_trans (Nat.le_trans (Nat.le_refl _) hb2.size) hb3.size) hb4.size))) _ (List.mem_singleton.2 rfl) hh))
  clear F29_pt_11
  have F44_pt_13 := Lib.hid (box_below F43_pt_12.out hb13)
  clear F43_pt_12
  have F45_pt_14 := Lib.hid (box_keeps F44_pt_13.out hk14 (fun hh => (apart_of lt_pt (fr7_0.mono (Nat.le_trans (Nat.le_trans (Nat.le_trans (Nat.le_trans (Nat.le_trans (Nat.le_refl _) hb2.size) hb3.size) hb4.size) hb5.size) hb6.size))) _ (List.mem_singleton.2 rfl) hh))
  clear F44_pt_13
  have F46_pt_15 := Lib.hid (box_below F45_pt_14.out hb15)
  clear F45_pt_14
  obtain ⟨c47_0, f47_0⟩ := bx1 F46_pt_15.out
  go_wp2_with (fail)
  refine (toTerm_law (ht.below hB15) okt).mono ?_
  rintro e w16 ⟨v16, fp16, rfl, o16, fr16, hb16⟩
  have hB16 := below_trans hB15 hb16 hB15.size
  clear c47_0 f47_0
  obtain ⟨A16, n16, c16, rfl⟩ := o16.shape
  have lt_yt := o16.lt
  go_wp2_with (fail)
  refine (iCountKinds_law  o16.rd okt).mono ?_
  rintro e w17 ⟨v17_0, fp17_0, rfl, o17r0, fr17_0, hb17⟩
  have hB17 := below_trans hB16 hb17 hB16.size
  have lt_H0 := o17r0.lt
  have F48_W0_13 := F41_W0_12.below hb13
  clear F41_W0_12
  have F49_W0_14 := F48_W0_13.keeps hk14 (apart_of lt_W0 (fr7_0.mono (Nat.le_trans (Nat.le_trans (Nat.le_refl _) hb5.size) hb6.size)))
  clear F48_W0_13
  have F50_W0_15 := F49_W0_14.below hb15
  clear F49_W0_14
  have F51_W0_16 := F50_W0_15.below hb16
  clear F50_W0_15
  have F52_W0_17 := F51_W0_16.below hb17
  clear F51_W0_16
  go_wp2_with (fail)
  refine (eqI_law o17r0.rd F52_W0_17.rd (by have := ckR_le t; omega)).mono ?_
  rintro e w18 ⟨rfl, hb18⟩
  have hB18 := below_trans hB17 hb18 hB17.size
  rw [decide_eq_true (rfl : (ckR t).1 = (ckR t).1)]
  have F53_G0_15 := he14.below hb15
  clear he14
  have F54_G0_16 := F53_G0_15.below hb16
  clear F53_G0_15
  have F55_G0_17 := F54_G0_16.below hb17
  clear F54_G0_16
  have F56_G0_18 := F55_G0_17.below hb18
  clear F55_G0_17
  go_wp2_with (fail)
  refine (heldI_law F56_G0_18 (by omega) (by have := ckR_le t; omega)).mono ?_
  rintro e w19 ⟨rfl, hb19⟩
  have hB19 := below_trans hB18 hb19 hB18.size
  go_wp2_with (fail)
  go_ret
  exact ⟨rfl, hB19⟩

theorem readCountKinds : ∀ t ∈ Try.f5.params.toList, Try.prog.readableRec t = true ∧ t < Try.prog.types.size := by
  rw [Try.params5]
  intro t ht
  have ht' : t ∈ ([24] : List TypeId) := ht
  rcases List.mem_cons.1 ht' with rfl | ht'
  · exact ⟨by kernel_rfl, of_decide_eq_true (by kernel_rfl)⟩
  cases ht'
set_option maxRecDepth 100000 in
theorem liftedCountKinds (os : Os) (started : os.Started) (H : Type) (enc : TypeId × Value → H) :
    ReturnsInHanded {} Try.checked os 5 .any (Rows.fnExactCountKindsSpec.pre6 enc Try.prog Try.f5 Rows.fnExactCountKindsRow.domain false) (Rows.fnExactCountKindsSpec.post enc Try.prog Try.f5 false true false false) := by
  refine returnsInHanded_of_change (C := Try.checked) own started (by kernel_rfl) Try.func5
    (ChangeSpec.witness6 (enc := enc) (C := Try.checked) false ⟨#[], #[.agg #[.slice none 0 0]], []⟩ 8 (by kernel_rfl) (by kernel_rfl) (by kernel_rfl) (by kernel_rfl)) ?_
  intro W base args ds gs before hval0 hW hcnd _
  have hval : ∀ (j : Nat) t v, Try.f5.params[j]? = some t → args[j]? = some v → Value.okWide Try.prog W .any base t v := hval0
  have hW' := hW
  obtain ⟨p, q, hA0, hV, rfl, hfz, hnd⟩ := hW
  have hA : DataW.TrodAll enc Try.prog W 0 (fun _ => true) true Try.f5.params.toList args.toList ds p := hA0
  rw [Try.params5] at hA hval
  obtain ⟨v0, vs0, d0, ds0, p0, q0, hargs, rfl, rfl, t0, r0⟩ := trodAll_cons hA
  obtain ⟨rfl, rfl, rfl⟩ := trodAll_nil r0
  obtain rfl : args = #[v0] := by cases args; simp_all
  obtain ⟨rfl, rfl⟩ := trodVars_none hV
  obtain ⟨m0, hl0, hg0⟩ := in_Term (hval 0 _ v0 rfl rfl) t0
  clear hA0 hval0
  refine (lawCountKinds_any v0 m0 W hl0 hg0 ).mono fun e W' ⟨he, hb⟩ => ?_
  subst he
  exact ⟨_, rfl, post_true laidOut hW' hb readCountKinds (fun n hn => by cases hn) rfl rfl Try.underlying4⟩
theorem provedCountKinds : Rows.FnExactCountKindsSaid :=
  OpenClaim.holds_of_wide 5 Try.f5 rfl rfl rfl rfl rfl rfl rfl ⟨rfl, rfl, rfl, rfl, rfl⟩ rfl rfl rfl rfl rfl (by kernel_rfl) Try.func5 (by kernel_rfl)
    (of_decide_eq_true (by kernel_rfl)) (by unfold Func.isWrapper; first | (rw [if_pos (by decide +kernel)]; kernel_rfl) | (rw [if_neg (by decide +kernel)]; exact ⟨rfl, rfl⟩))
    (fun os started H enc _ => liftedCountKinds os started H enc)
#print axioms provedCountKinds
end Go.Proofs.Ytlmnmdahphahfaa
