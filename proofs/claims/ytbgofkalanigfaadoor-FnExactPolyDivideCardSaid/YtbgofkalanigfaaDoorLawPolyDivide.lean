/-
  The program's PolyDivide returns what the reference's returns, for all arguments (laws.FnExactPolyDivide answers true): the tied card.
-/
import Derived.Test.YtbgofkalanigfaaDoorPolyI
import Derived.Test.YtbgofkalanigfaaDoorFrame
import Derived.Test.YtbgofkalanigfaaDoorLawI
namespace Go.Proofs.YtbgofkalanigfaaDoor
open Go.ChangeShapes Go.WideShapes Go.ChangeAt Go.RowKit

set_option maxHeartbeats 1000000 in
set_option maxRecDepth 8000 in
theorem lawPolyDivide_any (p : Int) (Af : Option Addr) (cf : Nat) (f : List Int) (Ag : Option Addr) (cg : Nat) (g : List Int) (w : World) (qf : RdI w Af f) (qg : RdI w Ag g) (_lop : -9223372036854775808 ≤ p) (_hip : p ≤ 9223372036854775807) (hT : Tab w) :
    Calls Tryd.prog 8 #[.int .i64 p, .slice Af f.length cf, .slice Ag g.length cg] w fun e w' => e = .returned (.bool true) ∧ Below w.heap.size w w' := by
  by_cases lenf : f.length ≤ 1048576
  case neg =>
    have gtf : 1048576 < (f.length : Int) := by omega
    go_enter Tryd.func8, Tryd.ntmps8
    go_wp2_with (fail)
    go_ret
    exact ⟨rfl, Below.refl _ _⟩
  by_cases leng : g.length ≤ 1048576
  case neg =>
    have gtf : ¬ (1048576 < (f.length : Int)) := by omega
    have gtg : 1048576 < (g.length : Int) := by omega
    go_enter Tryd.func8, Tryd.ntmps8
    go_wp2_with (fail)
    go_ret
    exact ⟨rfl, Below.refl _ _⟩
  have gtf : ¬ (1048576 < (f.length : Int)) := by omega
  have hf : RdIV w (.slice Af f.length cf) f := ⟨Af, cf, rfl, qf⟩
  clear qf
  have gtg : ¬ (1048576 < (g.length : Int)) := by omega
  have hg : RdIV w (.slice Ag g.length cg) g := ⟨Ag, cg, rfl, qg⟩
  clear qg
  have hB0 : Below w.heap.size w w := Below.refl _ _
  go_enter Tryd.func8, Tryd.ntmps8
  go_wp2_with (fail)
  refine (toI_law (hf.below hB0) (by omega)).mono ?_
  rintro e w1 ⟨v1, fp1, rfl, o1, fr1, hb1⟩
  have hB1 := below_trans hB0 hb1 hB0.size
  have lt_af := o1.lt
  go_wp2_with (fail)
  refine (toI_law (hg.below hB1) (by omega)).mono ?_
  rintro e w2 ⟨v2, fp2, rfl, o2, fr2, hb2⟩
  have hB2 := below_trans hB1 hb2 hB1.size
  have lt_ag := o2.lt
  have o1_2 := o1.below hb2
  go_wp2_with (fail)
  refine (sPolyDivide_law p o1_2.rd o2.rd (by omega) (by omega)).mono ?_
  rintro e w3 ⟨v3_0, fp3_0, v3_1, fp3_1, rfl, o3r0, fr3_0, o3r1, fr3_1, ap3_0_1, hb3⟩
  have hB3 := below_trans hB2 hb3 hB2.size
  have lt_W0 := o3r0.lt
  have lt_W1 := o3r1.lt
  have apart_W0_W1 := Lib.hid ap3_0_1
  have apart_W1_W0 := Lib.hid (show ∀ b, b ∈ fp3_1 → ¬ b ∈ fp3_0 from fun b hb hb' => ap3_0_1 b hb' hb)
  clear ap3_0_1
  go_wp2_with (fail)
  refine (toI_law (hf.below hB3) (by omega)).mono ?_
  rintro e w4 ⟨v4, fp4, rfl, o4, fr4, hb4⟩
  have hB4 := below_trans hB3 hb4 hB3.size
  have lt_xf := o4.lt
  go_wp2_with (fail)
  refine (toI_law (hg.below hB4) (by omega)).mono ?_
  rintro e w5 ⟨v5, fp5, rfl, o5, fr5, hb5⟩
  have hB5 := below_trans hB4 hb5 hB4.size
  have lt_xg := o5.lt
  have o4_5 := o4.below hb5
  go_wp2_with (fail)
  refine (iPolyDivide_law p o4_5.rd o5.rd (by omega) (by omega) (hT.below hB5 hT.lt)).mono ?_
  rintro e w6 ⟨v6_0, fp6_0, v6_1, fp6_1, rfl, o6r0, fr6_0, o6r1, fr6_1, ap6_0_1, hb6⟩
  have hB6 := below_trans hB5 hb6 hB5.size
  have lt_G0 := o6r0.lt
  have lt_G1 := o6r1.lt
  have apart_G0_G1 := Lib.hid ap6_0_1
  have apart_G1_G0 := Lib.hid (show ∀ b, b ∈ fp6_1 → ¬ b ∈ fp6_0 from fun b hb hb' => ap6_0_1 b hb' hb)
  clear ap6_0_1
  have o3r0_4 := o3r0.below hb4
  have o3r0_5 := o3r0_4.below hb5
  have o3r0_6 := o3r0_5.below hb6
  go_wp2_with (fail)
  refine (eqI_law o6r0.rd o3r0_6.rd (by have := (mPolyDivide_len p f g).1; omega)).mono ?_
  rintro e w7 ⟨rfl, hb7⟩
  have hB7 := below_trans hB6 hb7 hB6.size
  have o6r1_7 := o6r1.below hb7
  have o3r1_4 := o3r1.below hb4
  have o3r1_5 := o3r1_4.below hb5
  have o3r1_6 := o3r1_5.below hb6
  have o3r1_7 := o3r1_6.below hb7
  go_wp2_with (fail)
  refine (eqI_law o6r1_7.rd o3r1_7.rd (by have := (mPolyDivide_len p f g).2; omega)).mono ?_
  rintro e w8 ⟨rfl, hb8⟩
  have hB8 := below_trans hB7 hb8 hB7.size
  go_wp2_with (fail)
  refine (toI_law (hf.below hB8) (by omega)).mono ?_
  rintro e w9 ⟨v9, fp9, rfl, o9, fr9, hb9⟩
  have hB9 := below_trans hB8 hb9 hB8.size
  have lt_tf := o9.lt
  have o4_6 := o4_5.below hb6
  have o4_7 := o4_6.below hb7
  have o4_8 := o4_7.below hb8
  have o4_9 := o4_8.below hb9
  go_wp2_with (fail)
  refine (eqI_law o4_9.rd o9.rd (by omega)).mono ?_
  rintro e w10 ⟨rfl, hb10⟩
  have hB10 := below_trans hB9 hb10 hB9.size
  go_wp2_with (fail)
  refine (toI_law (hg.below hB10) (by omega)).mono ?_
  rintro e w11 ⟨v11, fp11, rfl, o11, fr11, hb11⟩
  have hB11 := below_trans hB10 hb11 hB10.size
  have lt_tg := o11.lt
  have o5_6 := o5.below hb6
  have o5_7 := o5_6.below hb7
  have o5_8 := o5_7.below hb8
  have o5_9 := o5_8.below hb9
  have o5_10 := o5_9.below hb10
  have o5_11 := o5_10.below hb11
  go_wp2_with (fail)
  refine (eqI_law o5_11.rd o11.rd (by omega)).mono ?_
  rintro e w12 ⟨rfl, hb12⟩
  have hB12 := below_trans hB11 hb12 hB11.size
  have o4_10 := o4_9.below hb10
  have o4_11 := o4_10.below hb11
  have o4_12 := o4_11.below hb12
  go_wp2_with (fail)
  refine (markI_law (1) o4_12 (by omega) (by omega)).mono ?_
  rintro e w13 ⟨rfl, he13, hk13⟩
  have hB13 := below_keeps hB12 hk13 hB12.size (fun b hb => Nat.le_trans hB3.size (fr4 b hb))
  have o5_12 := o5_11.below hb12
  have o5_13 := o5_12.keeps hk13 (apart_of' (lt_xf) (fr5))
  go_wp2_with (fail)
  refine (markI_law (1 + f.length) o5_13 (by omega) (by omega)).mono ?_
  rintro e w14 ⟨rfl, he14, hk14⟩
  have hB14 := below_keeps hB13 hk14 hB13.size (fun b hb => Nat.le_trans hB4.size (fr5 b hb))
  have o6r0_7 := o6r0.below hb7
  have o6r0_8 := o6r0_7.below hb8
  have o6r0_9 := o6r0_8.below hb9
  have o6r0_10 := o6r0_9.below hb10
  have o6r0_11 := o6r0_10.below hb11
  have o6r0_12 := o6r0_11.below hb12
  have o6r0_13 := o6r0_12.keeps hk13 (apart_of' (lt_xf) (fr6_0.mono (Nat.le_trans (Nat.le_refl _) hb5.size)))
  have o6r0_14 := o6r0_13.keeps hk14 (apart_of' (lt_xg) (fr6_0))
  have o3r0_7 := o3r0_6.below hb7
  have o3r0_8 := o3r0_7.below hb8
  have o3r0_9 := o3r0_8.below hb9
  have o3r0_10 := o3r0_9.below hb10
  have o3r0_11 := o3r0_10.below hb11
  have o3r0_12 := o3r0_11.below hb12
  have o3r0_13 := o3r0_12.keeps hk13 (apart_of (lt_W0.mono (Nat.le_refl _)) (fr4))
  have o3r0_14 := o3r0_13.keeps hk14 (apart_of (lt_W0.mono (Nat.le_refl _)) (fr5.mono (Nat.le_trans (Nat.le_refl _) hb4.size)))
  go_wp2_with (fail)
  refine (eqI_law o6r0_14.rd o3r0_14.rd (by have := (mPolyDivide_len p f g).1; omega)).mono ?_
  rintro e w15 ⟨rfl, hb15⟩
  have hB15 := below_trans hB14 hb15 hB14.size
  have o6r1_8 := o6r1_7.below hb8
  have o6r1_9 := o6r1_8.below hb9
  have o6r1_10 := o6r1_9.below hb10
  have o6r1_11 := o6r1_10.below hb11
  have o6r1_12 := o6r1_11.below hb12
  have o6r1_13 := o6r1_12.keeps hk13 (apart_of' (lt_xf) (fr6_1.mono (Nat.le_trans (Nat.le_refl _) hb5.size)))
  have o6r1_14 := o6r1_13.keeps hk14 (apart_of' (lt_xg) (fr6_1))
  have o6r1_15 := o6r1_14.below hb15
  have o3r1_8 := o3r1_7.below hb8
  have o3r1_9 := o3r1_8.below hb9
  have o3r1_10 := o3r1_9.below hb10
  have o3r1_11 := o3r1_10.below hb11
  have o3r1_12 := o3r1_11.below hb12
  have o3r1_13 := o3r1_12.keeps hk13 (apart_of (lt_W1.mono (Nat.le_refl _)) (fr4))
  have o3r1_14 := o3r1_13.keeps hk14 (apart_of (lt_W1.mono (Nat.le_refl _)) (fr5.mono (Nat.le_trans (Nat.le_refl _) hb4.size)))
  have o3r1_15 := o3r1_14.below hb15
  go_wp2_with (fail)
  refine (eqI_law o6r1_15.rd o3r1_15.rd (by have := (mPolyDivide_len p f g).2; omega)).mono ?_
  rintro e w16 ⟨rfl, hb16⟩
  have hB16 := below_trans hB15 hb16 hB15.size
  have o6r0_15 := o6r0_14.below hb15
  have o6r0_16 := o6r0_15.below hb16
  go_wp2_with (fail)
  refine (markI_law (1) o6r0_16 (by omega) (by have := (mPolyDivide_len p f g).1; have := (mPolyDivide_len p f g).2; omega)).mono ?_
  rintro e w17 ⟨rfl, he17, hk17⟩
  have hB17 := below_keeps hB16 hk17 hB16.size (fun b hb => Nat.le_trans hB5.size (fr6_0 b hb))
  have o6r1_16 := o6r1_15.below hb16
  have o6r1_17 := o6r1_16.keeps hk17 (apart_G1_G0.out)
  go_wp2_with (fail)
  refine (markI_law (1 + (mPolyDivide p f g).1.length) o6r1_17 (by omega) (by have := (mPolyDivide_len p f g).1; have := (mPolyDivide_len p f g).2; omega)).mono ?_
  rintro e w18 ⟨rfl, he18, hk18⟩
  have hB18 := below_keeps hB17 hk18 hB17.size (fun b hb => Nat.le_trans hB5.size (fr6_1 b hb))
  have he17_18 := he17.keeps hk18 (apart_G0_G1.out)
  go_wp2_with (fail)
  refine (heldI_law he17_18 (by omega) (by have := (mPolyDivide_len p f g).1; have := (mPolyDivide_len p f g).2; omega)).mono ?_
  rintro e w19 ⟨rfl, hb19⟩
  have hB19 := below_trans hB18 hb19 hB18.size
  have he18_19 := he18.below hb19
  go_wp2_with (fail)
  refine (heldI_law he18_19 (by omega) (by have := (mPolyDivide_len p f g).1; have := (mPolyDivide_len p f g).2; omega)).mono ?_
  rintro e w20 ⟨rfl, hb20⟩
  have hB20 := below_trans hB19 hb20 hB19.size
  go_wp2_with (fail)
  refine (toI_law (hf.below hB20) (by omega)).mono ?_
  rintro e w21 ⟨v21, fp21, rfl, o21, fr21, hb21⟩
  have hB21 := below_trans hB20 hb21 hB20.size
  have lt_yf := o21.lt
  go_wp2_with (fail)
  refine (toI_law (hg.below hB21) (by omega)).mono ?_
  rintro e w22 ⟨v22, fp22, rfl, o22, fr22, hb22⟩
  have hB22 := below_trans hB21 hb22 hB21.size
  have lt_yg := o22.lt
  have o21_22 := o21.below hb22
  go_wp2_with (fail)
  refine (iPolyDivide_law p o21_22.rd o22.rd (by omega) (by omega) (hT.below hB22 hT.lt)).mono ?_
  rintro e w23 ⟨v23_0, fp23_0, v23_1, fp23_1, rfl, o23r0, fr23_0, o23r1, fr23_1, ap23_0_1, hb23⟩
  have hB23 := below_trans hB22 hb23 hB22.size
  have lt_H0 := o23r0.lt
  have lt_H1 := o23r1.lt
  have apart_H0_H1 := Lib.hid ap23_0_1
  have apart_H1_H0 := Lib.hid (show ∀ b, b ∈ fp23_1 → ¬ b ∈ fp23_0 from fun b hb hb' => ap23_0_1 b hb' hb)
  clear ap23_0_1
  have o3r0_15 := o3r0_14.below hb15
  have o3r0_16 := o3r0_15.below hb16
  have o3r0_17 := o3r0_16.keeps hk17 (apart_of (lt_W0.mono (Nat.le_refl _)) (fr6_0.mono (Nat.le_trans (Nat.le_trans (Nat.le_refl _) hb4.size) hb5.size)))
  have o3r0_18 := o3r0_17.keeps hk18 (apart_of (lt_W0.mono (Nat.le_refl _)) (fr6_1.mono (Nat.le_trans (Nat.le_trans (Nat.le_refl _) hb4.size) hb5.size)))
  have o3r0_19 := o3r0_18.below hb19
  have o3r0_20 := o3r0_19.below hb20
  have o3r0_21 := o3r0_20.below hb21
  have o3r0_22 := o3r0_21.below hb22
  have o3r0_23 := o3r0_22.below hb23
  go_wp2_with (fail)
  refine (eqI_law o23r0.rd o3r0_23.rd (by have := (mPolyDivide_len p f g).1; omega)).mono ?_
  rintro e w24 ⟨rfl, hb24⟩
  have hB24 := below_trans hB23 hb24 hB23.size
  have o23r1_24 := o23r1.below hb24
  have o3r1_16 := o3r1_15.below hb16
  have o3r1_17 := o3r1_16.keeps hk17 (apart_of (lt_W1.mono (Nat.le_refl _)) (fr6_0.mono (Nat.le_trans (Nat.le_trans (Nat.le_refl _) hb4.size) hb5.size)))
  have o3r1_18 := o3r1_17.keeps hk18 (apart_of (lt_W1.mono (Nat.le_refl _)) (fr6_1.mono (Nat.le_trans (Nat.le_trans (Nat.le_refl _) hb4.size) hb5.size)))
  have o3r1_19 := o3r1_18.below hb19
  have o3r1_20 := o3r1_19.below hb20
  have o3r1_21 := o3r1_20.below hb21
  have o3r1_22 := o3r1_21.below hb22
  have o3r1_23 := o3r1_22.below hb23
  have o3r1_24 := o3r1_23.below hb24
  go_wp2_with (fail)
  refine (eqI_law o23r1_24.rd o3r1_24.rd (by have := (mPolyDivide_len p f g).2; omega)).mono ?_
  rintro e w25 ⟨rfl, hb25⟩
  have hB25 := below_trans hB24 hb25 hB24.size
  have he17_19 := he17_18.below hb19
  have he17_20 := he17_19.below hb20
  have he17_21 := he17_20.below hb21
  have he17_22 := he17_21.below hb22
  have he17_23 := he17_22.below hb23
  have he17_24 := he17_23.below hb24
  have he17_25 := he17_24.below hb25
  go_wp2_with (fail)
  refine (heldI_law he17_25 (by omega) (by have := (mPolyDivide_len p f g).1; have := (mPolyDivide_len p f g).2; omega)).mono ?_
  rintro e w26 ⟨rfl, hb26⟩
  have hB26 := below_trans hB25 hb26 hB25.size
  have he18_20 := he18_19.below hb20
  have he18_21 := he18_20.below hb21
  have he18_22 := he18_21.below hb22
  have he18_23 := he18_22.below hb23
  have he18_24 := he18_23.below hb24
  have he18_25 := he18_24.below hb25
  have he18_26 := he18_25.below hb26
  go_wp2_with (fail)
  refine (heldI_law he18_26 (by omega) (by have := (mPolyDivide_len p f g).1; have := (mPolyDivide_len p f g).2; omega)).mono ?_
  rintro e w27 ⟨rfl, hb27⟩
  have hB27 := below_trans hB26 hb27 hB26.size
  go_wp2_with (fail)
  go_ret
  exact ⟨rfl, hB27⟩

theorem contractPolyDivide (H : Type) (enc : TypeId × Value → H) (W : World) (args : Array Value) (ds gs : List (DataW H)) (before : List MemPlace)
    (hval : ∀ (j : Nat) t v, Tryd.f8.params[j]? = some t → args[j]? = some v → Value.okWide Tryd.prog W .any 0 t v)
    (hW : DataW.Whole enc Tryd.prog Tryd.f8.params.toList Rows.fnExactPolyDivideSpec.vars false W args.toList ds gs before) (hL : laidMetH Tryd.prog Rows.fnExactPolyDivideRow.laid W) :
    Calls Tryd.prog 8 args W fun e W' => ∃ v, e = .returned v ∧ Rows.fnExactPolyDivideSpec.post enc Tryd.prog Tryd.f8 false true false false W args v W' := by
  have hW' := hW
  obtain ⟨p, q, hA0, hV, rfl, hfz, hnd⟩ := hW
  have hA : DataW.TrodAll enc Tryd.prog W 0 (fun _ => true) true Tryd.f8.params.toList args.toList ds p := hA0
  have hr : ∀ t ∈ Tryd.f8.params.toList, Tryd.prog.readableRec t = true ∧ t < Tryd.prog.types.size := by
    rw [Tryd.params8]
    intro t ht
    have ht' : t ∈ ([3, 22, 22] : List TypeId) := ht
    rcases List.mem_cons.1 ht' with rfl | ht'
    · exact ⟨by kernel_rfl, of_decide_eq_true (by kernel_rfl)⟩
    rcases List.mem_cons.1 ht' with rfl | ht'
    · exact ⟨by kernel_rfl, of_decide_eq_true (by kernel_rfl)⟩
    rcases List.mem_cons.1 ht' with rfl | ht'
    · exact ⟨by kernel_rfl, of_decide_eq_true (by kernel_rfl)⟩
    cases ht'
  rw [Tryd.params8] at hA hval
  obtain ⟨v0, vs0, d0, ds0, p0, q0, hargs, rfl, rfl, t0, r0⟩ := trodAll_cons hA
  obtain ⟨v1, vs1, d1, ds1, p1, q1, rfl, rfl, rfl, t1, r1⟩ := trodAll_cons r0
  obtain ⟨v2, vs2, d2, ds2, p2, q2, rfl, rfl, rfl, t2, r2⟩ := trodAll_cons r1
  obtain ⟨rfl, rfl, rfl⟩ := trodAll_nil r2
  obtain rfl : args = #[v0, v1, v2] := by cases args; simp_all
  obtain ⟨g, _, _, _, dg, pg, rfl, _⟩ := trodVars_one hV
  obtain ⟨x0, rfl, lo0, hi0⟩ := in_int (hval 0 _ v0 rfl rfl) t0
  obtain ⟨A1, c1, l1, rfl, hl1⟩ := in_ints (hval 1 _ v1 rfl rfl) t1
  obtain ⟨A2, c2, l2, rfl, hl2⟩ := in_ints (hval 2 _ v2 rfl rfl) t2
  refine (lawPolyDivide_any x0 A1 c1 l1 A2 c2 l2 W hl1 hl2 lo0 hi0 (tab_of_laid hL)).mono fun e W' ⟨he, hb⟩ => ?_
  subst he
  exact ⟨_, rfl, post_true laidOut hW' hb hr vars_ok rfl rfl Tryd.underlying4⟩

set_option maxRecDepth 100000 in
theorem liftedPolyDivide (os : Os) (started : os.Started) (H : Type) (enc : TypeId × Value → H) (F : Stop.Interp) :
    ReturnsInHanded {} Tryd.checked os 8 .any ((OpenSpec.ofChange Rows.fnExactPolyDivideSpec).preRow enc Tryd.prog Tryd.f8 Rows.fnExactPolyDivideRow.domain false Rows.fnExactPolyDivideRow.laid) (((OpenSpec.ofChange Rows.fnExactPolyDivideSpec).at F).post enc Tryd.prog Tryd.f8 false true false false) := by
  obtain ⟨ds, gs, places, hx⟩ : ∃ ds gs places, DataW.whole enc Tryd.prog ((laidWorld os).forCall (fun _ _ => 0) ⟨#[], #[.int .i64 0, .slice none 0 0, .slice none 0 0], []⟩).memory Tryd.f8.params.toList Rows.fnExactPolyDivideSpec.vars false (#[.int .i64 0, .slice none 0 0, .slice none 0 0] : Array Value).toList 8 = some (ds, gs, places) :=
    ⟨[.lit (.int .i64 0), .nil, .nil], [Rows.laid_loop_example_g01073_impl_smallPrimes], MemPlace.row ⟨0, 0, none⟩ 4, by kernel_rfl⟩
  refine returnsInHanded_of_row (C := Tryd.checked) (s := OpenSpec.ofChange Rows.fnExactPolyDivideSpec) own started (by kernel_rfl) Tryd.func8
    (witness_row_at (enc := enc) (C := Tryd.checked) false (laidWorld os) #[.int .i64 0, .slice none 0 0, .slice none 0 0] rfl (by kernel_rfl) (by kernel_rfl) (by kernel_rfl)
      (OpenSpec.preRow_of_cond 8 hx (by kernel_rfl) (fun k hk => by cases hk) (by kernel_rfl) (laid_met os _))) ?_
  intro W base args ds gs before hval hW _ _ _ hL _ _
  exact contractPolyDivide H enc W args ds gs before hval hW hL

theorem saidPolyDivide : Rows.FnExactPolyDivideSaid :=
  OpenClaim.holds_of_cond 8 Tryd.f8 rfl rfl rfl rfl rfl rfl rfl ⟨rfl, rfl, rfl, rfl, rfl⟩ rfl rfl rfl rfl rfl (by kernel_rfl) Tryd.func8 (by kernel_rfl)
    (of_decide_eq_true (by kernel_rfl)) (by unfold Func.isWrapper; first | (rw [if_pos (by decide +kernel)]; kernel_rfl) | (rw [if_neg (by decide +kernel)]; exact ⟨rfl, rfl⟩))
    (fun os started H enc _ F => by rw [OpenClaim.pre_eq_preRow]; exact liftedPolyDivide os started H enc F)

theorem plainPolyDivide (f : FuncId) (fn : Func) (hf : Tryd.pinned.checked.prog.funcNamed "loop.example/g01073/laws.FnExactPolyDivide" = some f) (hfn : Tryd.pinned.checked.prog.funcs[f]? = some fn) :
    false = Tryd.pinned.checked.prog.looks [] ∧ ∀ (j : Nat) t, fn.params[j]? = some t → Tryd.pinned.checked.prog.wantsStandIn t = false := by
  obtain rfl : f = 8 := Option.some.inj ((show Tryd.prog.funcNamed "loop.example/g01073/laws.FnExactPolyDivide" = some 8 by kernel_rfl).symm.trans hf) |>.symm
  obtain rfl : fn = Tryd.f8 := (Option.some.inj (Tryd.func8.symm.trans hfn)).symm
  refine ⟨by kernel_rfl, fun j t ht => ?_⟩
  rw [Tryd.params8] at ht
  have ht' : t ∈ ([3, 22, 22] : List TypeId) := by have := Array.mem_of_getElem? ht; simpa using this
  rcases List.mem_cons.1 ht' with rfl | ht'
  · exact (show Tryd.prog.wantsStandIn 3 = false by kernel_rfl)
  rcases List.mem_cons.1 ht' with rfl | ht'
  · exact (show Tryd.prog.wantsStandIn 22 = false by kernel_rfl)
  rcases List.mem_cons.1 ht' with rfl | ht'
  · exact (show Tryd.prog.wantsStandIn 22 = false by kernel_rfl)
  cases ht'

theorem cardPolyDivide : Rows.FnExactPolyDivideCardSaid :=
  Claim7.holds_tied_plain_at .later [] _ _ _ _ saidPolyDivide (fun _ h => by cases h) (by kernel_rfl) (fun _ h => by cases h) fnExactPolyDivide_row_tie rfl ⟨rfl, rfl⟩ (by kernel_rfl) rfl plainPolyDivide (by kernel_rfl)
#print axioms cardPolyDivide
end Go.Proofs.YtbgofkalanigfaaDoor
