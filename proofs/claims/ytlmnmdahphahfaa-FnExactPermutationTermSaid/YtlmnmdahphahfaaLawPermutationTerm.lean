/-
  The program's PermutationTerm returns what the reference's returns, for all arguments (laws.FnExactPermutationTerm answers true). No condition.
-/
import Derived.Test.YtlmnmdahphahfaaTmQg
import Derived.Test.YtlmnmdahphahfaaRegT
import Derived.Test.YtlmnmdahphahfaaRegH
import Derived.Test.YtlmnmdahphahfaaFrameP
import Derived.Test.YtlmnmdahphahfaaLawI
import Derived.Test.YtlmnmdahphahfaaTmLaw
namespace Go.Proofs.Ytlmnmdahphahfaa
open Go.ChangeShapes Go.WideShapes Go.ChangeAt Go.RowKit

set_option maxHeartbeats 4000000 in
set_option maxRecDepth 100000 in
theorem lawPermutationTerm_any (Ap : Option Addr) (cp : Nat) (p : List Int) (w : World) (qp : RdI w Ap p) :
    Calls Try.prog 11 #[.slice Ap p.length cp] w fun e w' => e = .returned (.bool true) ∧ Below w.heap.size w w' := by
  by_cases lenp : p.length ≤ 1048576
  case neg =>
    have gtp : 1048576 < (p.length : Int) := by omega
    go_enter Try.func11, Try.ntmps11
    go_wp2_with (fail)
    go_ret
    exact ⟨rfl, Below.refl _ _⟩
  have gtp : ¬ (1048576 < (p.length : Int)) := by omega
  have hp : RdIV w (.slice Ap p.length cp) p := ⟨Ap, cp, rfl, qp⟩
  clear qp
  have hB0 : Below w.heap.size w w := Below.refl _ _
  go_enter Try.func11, Try.ntmps11
  go_wp2_with (fail)
  refine (toI_law (hp.below hB0) (by omega)).mono ?_
  rintro e w1 ⟨v1, fp1, rfl, o1, fr1, hb1⟩
  have hB1 := below_trans hB0 hb1 hB0.size
  have lt_ap := o1.lt
  go_wp2_with (fail)
  refine (sPermutationTerm_law  o1.rd (by omega)).mono ?_
  rintro e w2 ⟨v2_0, fp2_0, rfl, o2r0, fr2_0, hb2⟩
  have hB2 := below_trans hB1 hb2 hB1.size
  obtain ⟨A2_0, n2_0, c2_0, rfl⟩ := o2r0.shape
  have lt_W0 := o2r0.lt
  have hb3 := below_alloc (w2) (.cells #[.slice A2_0 n2_0 c2_0] 30)
  have hB3 := below_trans hB2 hb3 hB2.size
  have bx3 := heap_alloc_new (w2) (.cells #[.slice A2_0 n2_0 c2_0] 30)
  have lt_bW0 : LtL ((w2).alloc (.cells #[.slice A2_0 n2_0 c2_0] 30)).heap.size [(w2).heap.size] := fun b hb => by obtain rfl := List.mem_singleton.1 hb; exact box_lt bx3
  have fr_bW0 : FreshL (w2).heap.size [(w2).heap.size] := fun b hb => by obtain rfl := List.mem_singleton.1 hb; exact Nat.le_refl _
  have BX_bW0_3 := Lib.hid bx3
  clear bx3
  go_wp2_with (fail)
  refine (toI_law (hp.below hB3) (by omega)).mono ?_
  rintro e w4 ⟨v4, fp4, rfl, o4, fr4, hb4⟩
  have hB4 := below_trans hB3 hb4 hB3.size
  have lt_xp := o4.lt
  go_wp2_with (fail)
  refine (iPermutationTerm_law  o4.rd (by omega)).mono ?_
  rintro e w5 ⟨v5_0, fp5_0, rfl, o5r0, fr5_0, hb5⟩
  have hB5 := below_trans hB4 hb5 hB4.size
  obtain ⟨A5_0, n5_0, c5_0, rfl⟩ := o5r0.shape
  have lt_G0 := o5r0.lt
  have hb6 := below_alloc (w5) (.cells #[.slice A5_0 n5_0 c5_0] 30)
  have hB6 := below_trans hB5 hb6 hB5.size
  have bx6 := heap_alloc_new (w5) (.cells #[.slice A5_0 n5_0 c5_0] 30)
  have lt_bG0 : LtL ((w5).alloc (.cells #[.slice A5_0 n5_0 c5_0] 30)).heap.size [(w5).heap.size] := fun b hb => by obtain rfl := List.mem_singleton.1 hb; exact box_lt bx6
  have fr_bG0 : FreshL (w5).heap.size [(w5).heap.size] := fun b hb => by obtain rfl := List.mem_singleton.1 hb; exact Nat.le_refl _
  have BX_bG0_6 := Lib.hid bx6
  clear bx6
  have F1_G0_6 := o5r0.below hb6
  clear o5r0
  have F2_W0_3 := o2r0.below hb3
  clear o2r0
  have F3_W0_4 := F2_W0_3.below hb4
  clear F2_W0_3
  have F4_W0_5 := F3_W0_4.below hb5
  clear F3_W0_4
  have F5_W0_6 := F4_W0_5.below hb6
  clear F4_W0_5
  obtain ⟨c6_0, f6_0⟩ := bx1 BX_bG0_6.out
  have F7_bW0_4 := Lib.hid (box_below BX_bW0_3.out hb4)
  clear BX_bW0_3
  have F8_bW0_5 := Lib.hid (box_below F7_bW0_4.out hb5)
  clear F7_bW0_4
  have F9_bW0_6 := Lib.hid (box_below F8_bW0_5.out hb6)
  clear F8_bW0_5
  obtain ⟨c10_0, f10_0⟩ := bx1 F9_bW0_6.out
  go_wp2_with (fail)
  refine (eqTerm_law F1_G0_6.rd F5_W0_6.rd (prM_ok p)).mono ?_
  rintro e w7 ⟨rfl, hb7⟩
  have hB7 := below_trans hB6 hb7 hB6.size
  clear c6_0 f6_0 c10_0 f10_0
  rw [decide_eq_true (rfl : (prM p).1 = (prM p).1)]
  go_wp2_with (fail)
  refine (toI_law (hp.below hB7) (by omega)).mono ?_
  rintro e w8 ⟨v8, fp8, rfl, o8, fr8, hb8⟩
  have hB8 := below_trans hB7 hb8 hB7.size
  have lt_tp := o8.lt
  have F11_xp_5 := o4.below hb5
  clear o4
  have F12_xp_6 := F11_xp_5.below hb6
  clear F11_xp_5
  have F13_xp_7 := F12_xp_6.below hb7
  clear F12_xp_6
  have F14_xp_8 := F13_xp_7.below hb8
  clear F13_xp_7
  go_wp2_with (fail)
  refine (eqI_law F14_xp_8.rd o8.rd (by omega)).mono ?_
  rintro e w9 ⟨rfl, hb9⟩
  have hB9 := below_trans hB8 hb9 hB8.size
  rw [decide_eq_true (rfl : p = p)]
  have F15_xp_9 := F14_xp_8.below hb9
  clear F14_xp_8
  go_wp2_with (fail)
  refine (markI_law (1) F15_xp_9 (by omega) (by omega)).mono ?_
  rintro e w10 ⟨rfl, he10, hk10⟩
  have hB10 := below_keeps hB9 hk10 hB9.size (fun b hb => Nat.le_trans hB3.size (fr4 b hb))
  have F16_G0_7 := F1_G0_6.below hb7
  clear F1_G0_6
  have F17_G0_8 := F16_G0_7.below hb8
  clear F16_G0_7
  have F18_G0_9 := F17_G0_8.below hb9
  clear F17_G0_8
  have F19_G0_10 := F18_G0_9.keeps hk10 (apart_of' lt_xp (fr5_0))
  clear F18_G0_9
  have F20_W0_7 := F5_W0_6.below hb7
  clear F5_W0_6
  have F21_W0_8 := F20_W0_7.below hb8
  clear F20_W0_7
  have F22_W0_9 := F21_W0_8.below hb9
  clear F21_W0_8
  have F23_W0_10 := F22_W0_9.keeps hk10 (apart_of lt_W0 (fr4.mono (Nat.le_trans (Nat.le_refl _) hb3.size)))
  clear F22_W0_9
  have F24_bG0_7 := Lib.hid (box_below BX_bG0_6.out hb7)
  clear BX_bG0_6
  have F25_bG0_8 := Lib.hid (box_below F24_bG0_7.out hb8)
  clear F24_bG0_7
  have F26_bG0_9 := Lib.hid (box_below F25_bG0_8.out hb9)
  clear F25_bG0_8
  have F27_bG0_10 := Lib.hid (box_keeps F26_bG0_9.out hk10 (fun hh => (apart_of' lt_xp (fr_bG0.mono (Nat.le_trans (Nat.le_refl _) hb5.size))) _ (List.mem_singleton.2 rfl) hh))
  clear F26_bG0_9
  obtain ⟨c28_0, f28_0⟩ := bx1 F27_bG0_10.out
  have F29_bW0_7 := Lib.hid (box_below F9_bW0_6.out hb7)
  clear F9_bW0_6
  have F30_bW0_8 := Lib.hid (box_below F29_bW0_7.out hb8)
  clear F29_bW0_7
  have F31_bW0_9 := Lib.hid (box_below F30_bW0_8.out hb9)
  clear F30_bW0_8
  have F32_bW0_10 := Lib.hid (box_keeps F31_bW0_9.out hk10 (fun hh => (apart_of lt_bW0 (fr4)) _ (List.mem_singleton.2 rfl) hh))
  clear F31_bW0_9
  obtain ⟨c33_0, f33_0⟩ := bx1 F32_bW0_10.out
  go_wp2_with (fail)
  refine (eqTerm_law F19_G0_10.rd F23_W0_10.rd (prM_ok p)).mono ?_
  rintro e w11 ⟨rfl, hb11⟩
  have hB11 := below_trans hB10 hb11 hB10.size
  clear c28_0 f28_0 c33_0 f33_0
  rw [decide_eq_true (rfl : (prM p).1 = (prM p).1)]
  have F34_G0_11 := F19_G0_10.below hb11
  clear F19_G0_10
  have F35_bG0_11 := Lib.hid (box_below F27_bG0_10.out hb11)
  clear F27_bG0_10
  obtain ⟨c36_0, f36_0⟩ := bx1 F35_bG0_11.out
  go_wp2_with (fail)
  refine (markTerm_law (1) F34_G0_11 (by omega) (prM_ok p) (by have := (prM_ok p).2.2; constructor <;> omega)).mono ?_
  rintro e w12 ⟨rfl, he12, hk12⟩
  have hB12 := below_keeps hB11 hk12 hB11.size (fun b hb => Nat.le_trans hB4.size (fr5_0 b hb))
  clear c36_0 f36_0
  have F37_bG0_12 := Lib.hid (box_keeps F35_bG0_11.out hk12 (fun hh => (apart_of' lt_G0 (fr_bG0)) _ (List.mem_singleton.2 rfl) hh))
  clear F35_bG0_11
  obtain ⟨c38_0, f38_0⟩ := bx1 F37_bG0_12.out
  go_wp2_with (fail)
  refine (heldTerm_law he12 (by omega) (prM_ok p) (by have := (prM_ok p).2.2; constructor <;> omega)).mono ?_
  rintro e w13 ⟨rfl, hb13⟩
  have hB13 := below_trans hB12 hb13 hB12.size
  clear c38_0 f38_0
  go_wp2_with (fail)
  refine (toI_law (hp.below hB13) (by omega)).mono ?_
  rintro e w14 ⟨v14, fp14, rfl, o14, fr14, hb14⟩
  have hB14 := below_trans hB13 hb14 hB13.size
  have lt_yp := o14.lt
  go_wp2_with (fail)
  refine (iPermutationTerm_law  o14.rd (by omega)).mono ?_
  rintro e w15 ⟨v15_0, fp15_0, rfl, o15r0, fr15_0, hb15⟩
  have hB15 := below_trans hB14 hb15 hB14.size
  obtain ⟨A15_0, n15_0, c15_0, rfl⟩ := o15r0.shape
  have lt_H0 := o15r0.lt
  have hb16 := below_alloc (w15) (.cells #[.slice A15_0 n15_0 c15_0] 30)
  have hB16 := below_trans hB15 hb16 hB15.size
  have bx16 := heap_alloc_new (w15) (.cells #[.slice A15_0 n15_0 c15_0] 30)
  have lt_bH0 : LtL ((w15).alloc (.cells #[.slice A15_0 n15_0 c15_0] 30)).heap.size [(w15).heap.size] := fun b hb => by obtain rfl := List.mem_singleton.1 hb; exact box_lt bx16
  have fr_bH0 : FreshL (w15).heap.size [(w15).heap.size] := fun b hb => by obtain rfl := List.mem_singleton.1 hb; exact Nat.le_refl _
  have BX_bH0_16 := Lib.hid bx16
  clear bx16
  have F39_H0_16 := o15r0.below hb16
  clear o15r0
  have F40_W0_11 := F23_W0_10.below hb11
  clear F23_W0_10
  have F41_W0_12 := F40_W0_11.keeps hk12 (apart_of lt_W0 (fr5_0.mono (Nat.le_trans (Nat.le_trans (Nat.le_refl _) hb3.size) hb4.size)))
  clear F40_W0_11
  have F42_W0_13 := F41_W0_12.below hb13
  clear F41_W0_12
  have F43_W0_14 := F42_W0_13.below hb14
  clear F42_W0_13
  have F44_W0_15 := F43_W0_14.below hb15
  clear F43_W0_14
  have F45_W0_16 := F44_W0_15.below hb16
  clear F44_W0_15
  obtain ⟨c46_0, f46_0⟩ := bx1 BX_bH0_16.out
  have F47_bW0_11 := Lib.hid (box_below F32_bW0_10.out hb11)
  clear F32_bW0_10
  have F48_bW0_12 := Lib.hid (box_keeps F47_bW0_11.out hk12 (fun hh => (apart_of lt_bW0 (fr5_0.mono (Nat.le_trans (Nat.le_refl _) hb4.size))) _ (List.mem_singleton.2 rfl) hh))
  clear F47_bW0_11
  have F49_bW0_13 := Lib.hid (box_below F48_bW0_12.out hb13)
  clear F48_bW0_12
  have F50_bW0_14 := Lib.hid (box_below F49_bW0_13.out hb14)
  clear F49_bW0_13
  have F51_bW0_15 := Lib.hid (box_below F50_bW0_14.out hb15)
  clear F50_bW0_14
  have F52_bW0_16 := Lib.hid (box_below F51_bW0_15.out hb16)
  clear F51_bW0_15
  obtain ⟨c53_0, f53_0⟩ := bx1 F52_bW0_16.out
  go_wp2_with (fail)
  refine (eqTerm_law F39_H0_16.rd F45_W0_16.rd (prM_ok p)).mono ?_
  rintro e w17 ⟨rfl, hb17⟩
  have hB17 := below_trans hB16 hb17 hB16.size
  clear c46_0 f46_0 c53_0 f53_0
  rw [decide_eq_true (rfl : (prM p).1 = (prM p).1)]
  have F54_G0_13 := he12.below hb13
  clear he12
  have F55_G0_14 := F54_G0_13.below hb14
  clear F54_G0_13
  have F56_G0_15 := F55_G0_14.below hb15
  clear F55_G0_14
  have F57_G0_16 := F56_G0_15.below hb16
  clear F56_G0_15
  have F58_G0_17 := F57_G0_16.below hb17
  clear F57_G0_16
  have F59_bG0_13 := Lib.hid (box_below F37_bG0_12.out hb13)
  clear F37_bG0_12
  have F60_bG0_14 := Lib.hid (box_below F59_bG0_13.out hb14)
  clear F59_bG0_13
  have F61_bG0_15 := Lib.hid (box_below F60_bG0_14.out hb15)
  clear F60_bG0_14
  have F62_bG0_16 := Lib.hid (box_below F61_bG0_15.out hb16)
  clear F61_bG0_15
  have F63_bG0_17 := Lib.hid (box_below F62_bG0_16.out hb17)
  clear F62_bG0_16
  obtain ⟨c64_0, f64_0⟩ := bx1 F63_bG0_17.out
  go_wp2_with (fail)
  refine (heldTerm_law F58_G0_17 (by omega) (prM_ok p) (by have := (prM_ok p).2.2; constructor <;> omega)).mono ?_
  rintro e w18 ⟨rfl, hb18⟩
  have hB18 := below_trans hB17 hb18 hB17.size
  clear c64_0 f64_0
  go_wp2_with (fail)
  go_ret
  exact ⟨rfl, hB18⟩

theorem readPermutationTerm : ∀ t ∈ Try.f11.params.toList, Try.prog.readableRec t = true ∧ t < Try.prog.types.size := by
  rw [Try.params11]
  intro t ht
  have ht' : t ∈ ([34] : List TypeId) := ht
  rcases List.mem_cons.1 ht' with rfl | ht'
  · exact ⟨by kernel_rfl, of_decide_eq_true (by kernel_rfl)⟩
  cases ht'
set_option maxRecDepth 100000 in
theorem liftedPermutationTerm (os : Os) (started : os.Started) (H : Type) (enc : TypeId × Value → H) :
    ReturnsInHanded {} Try.checked os 11 .any (Rows.fnExactPermutationTermSpec.pre6 enc Try.prog Try.f11 Rows.fnExactPermutationTermRow.domain false) (Rows.fnExactPermutationTermSpec.post enc Try.prog Try.f11 false true false false) := by
  refine returnsInHanded_of_change (C := Try.checked) own started (by kernel_rfl) Try.func11
    (ChangeSpec.witness6 (enc := enc) (C := Try.checked) false ⟨#[], #[.slice none 0 0], []⟩ 8 (by kernel_rfl) (by kernel_rfl) (by kernel_rfl) (by kernel_rfl)) ?_
  intro W base args ds gs before hval0 hW hcnd _
  have hval : ∀ (j : Nat) t v, Try.f11.params[j]? = some t → args[j]? = some v → Value.okWide Try.prog W .any base t v := hval0
  have hW' := hW
  obtain ⟨p, q, hA0, hV, rfl, hfz, hnd⟩ := hW
  have hA : DataW.TrodAll enc Try.prog W 0 (fun _ => true) true Try.f11.params.toList args.toList ds p := hA0
  rw [Try.params11] at hA hval
  obtain ⟨v0, vs0, d0, ds0, p0, q0, hargs, rfl, rfl, t0, r0⟩ := trodAll_cons hA
  obtain ⟨rfl, rfl, rfl⟩ := trodAll_nil r0
  obtain rfl : args = #[v0] := by cases args; simp_all
  obtain ⟨rfl, rfl⟩ := trodVars_none hV
  obtain ⟨A0, c0, l0, rfl, hl0⟩ := in_ints (hval 0 _ v0 rfl rfl) t0
  clear hA0 hval0
  refine (lawPermutationTerm_any A0 c0 l0 W hl0 ).mono fun e W' ⟨he, hb⟩ => ?_
  subst he
  exact ⟨_, rfl, post_true laidOut hW' hb readPermutationTerm (fun n hn => by cases hn) rfl rfl Try.underlying4⟩
theorem provedPermutationTerm : Rows.FnExactPermutationTermSaid :=
  OpenClaim.holds_of_wide 11 Try.f11 rfl rfl rfl rfl rfl rfl rfl ⟨rfl, rfl, rfl, rfl, rfl⟩ rfl rfl rfl rfl rfl (by kernel_rfl) Try.func11 (by kernel_rfl)
    (of_decide_eq_true (by kernel_rfl)) (by unfold Func.isWrapper; first | (rw [if_pos (by decide +kernel)]; kernel_rfl) | (rw [if_neg (by decide +kernel)]; exact ⟨rfl, rfl⟩))
    (fun os started H enc _ => liftedPermutationTerm os started H enc)
#print axioms provedPermutationTerm
end Go.Proofs.Ytlmnmdahphahfaa
