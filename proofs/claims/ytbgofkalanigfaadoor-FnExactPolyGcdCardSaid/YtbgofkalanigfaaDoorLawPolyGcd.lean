/-
  The program's PolyGcd returns what the reference's returns, for all arguments (laws.FnExactPolyGcd answers true): the tied card.
-/
import Derived.Test.YtbgofkalanigfaaDoorPolyK
import Derived.Test.YtbgofkalanigfaaDoorFrame
import Derived.Test.YtbgofkalanigfaaDoorLawI
namespace Go.Proofs.YtbgofkalanigfaaDoor
open Go.ChangeShapes Go.WideShapes Go.ChangeAt Go.RowKit

set_option maxHeartbeats 1000000 in
set_option maxRecDepth 8000 in
theorem lawPolyGcd_any (p : Int) (Af : Option Addr) (cf : Nat) (f : List Int) (Ag : Option Addr) (cg : Nat) (g : List Int) (w : World) (qf : RdI w Af f) (qg : RdI w Ag g) (_lop : -9223372036854775808 ≤ p) (_hip : p ≤ 9223372036854775807) (hT : Tab w) :
    Calls Tryd.prog 9 #[.int .i64 p, .slice Af f.length cf, .slice Ag g.length cg] w fun e w' => e = .returned (.bool true) ∧ Below w.heap.size w w' := by
  by_cases lenf : f.length ≤ 1048576
  case neg =>
    have gtf : 1048576 < (f.length : Int) := by omega
    go_enter Tryd.func9, Tryd.ntmps9
    go_wp2_with (fail)
    go_ret
    exact ⟨rfl, Below.refl _ _⟩
  by_cases leng : g.length ≤ 1048576
  case neg =>
    have gtf : ¬ (1048576 < (f.length : Int)) := by omega
    have gtg : 1048576 < (g.length : Int) := by omega
    go_enter Tryd.func9, Tryd.ntmps9
    go_wp2_with (fail)
    go_ret
    exact ⟨rfl, Below.refl _ _⟩
  have gtf : ¬ (1048576 < (f.length : Int)) := by omega
  have hf : RdIV w (.slice Af f.length cf) f := ⟨Af, cf, rfl, qf⟩
  clear qf
  have gtg : ¬ (1048576 < (g.length : Int)) := by omega
  have hg : RdIV w (.slice Ag g.length cg) g := ⟨Ag, cg, rfl, qg⟩
  clear qg
  have hB0 : Below w.heap.size w w := Below.refl _ _
  go_enter Tryd.func9, Tryd.ntmps9
  go_wp2_with (fail)
  refine (toI_law (hf.below hB0) (by omega)).mono ?_
  rintro e w1 ⟨v1, fp1, rfl, o1, fr1, hb1⟩
  have hB1 := below_trans hB0 hb1 hB0.size
  have lt_af := o1.lt
  go_wp2_with (fail)
  refine (toI_law (hg.below hB1) (by omega)).mono ?_
  rintro e w2 ⟨v2, fp2, rfl, o2, fr2, hb2⟩
  have hB2 := below_trans hB1 hb2 hB1.size
  have lt_ag := o2.lt
  have o1_2 := o1.below hb2
  go_wp2_with (fail)
  refine (sPolyGcd_law p o1_2.rd o2.rd (by omega) (by omega)).mono ?_
  rintro e w3 ⟨v3_0, fp3_0, rfl, o3r0, fr3_0, hb3⟩
  have hB3 := below_trans hB2 hb3 hB2.size
  have lt_W0 := o3r0.lt
  go_wp2_with (fail)
  refine (toI_law (hf.below hB3) (by omega)).mono ?_
  rintro e w4 ⟨v4, fp4, rfl, o4, fr4, hb4⟩
  have hB4 := below_trans hB3 hb4 hB3.size
  have lt_xf := o4.lt
  go_wp2_with (fail)
  refine (toI_law (hg.below hB4) (by omega)).mono ?_
  rintro e w5 ⟨v5, fp5, rfl, o5, fr5, hb5⟩
  have hB5 := below_trans hB4 hb5 hB4.size
  have lt_xg := o5.lt
  have o4_5 := o4.below hb5
  go_wp2_with (fail)
  refine (iPolyGcd_law p o4_5.rd o5.rd (by omega) (by omega) (hT.below hB5 hT.lt)).mono ?_
  rintro e w6 ⟨v6_0, fp6_0, rfl, o6r0, fr6_0, hb6⟩
  have hB6 := below_trans hB5 hb6 hB5.size
  have lt_G0 := o6r0.lt
  have o3r0_4 := o3r0.below hb4
  have o3r0_5 := o3r0_4.below hb5
  have o3r0_6 := o3r0_5.below hb6
  go_wp2_with (fail)
  refine (eqI_law o6r0.rd o3r0_6.rd (by have := mPolyGcd_len p f g; omega)).mono ?_
  rintro e w7 ⟨rfl, hb7⟩
  have hB7 := below_trans hB6 hb7 hB6.size
  go_wp2_with (fail)
  refine (toI_law (hf.below hB7) (by omega)).mono ?_
  rintro e w8 ⟨v8, fp8, rfl, o8, fr8, hb8⟩
  have hB8 := below_trans hB7 hb8 hB7.size
  have lt_tf := o8.lt
  have o4_6 := o4_5.below hb6
  have o4_7 := o4_6.below hb7
  have o4_8 := o4_7.below hb8
  go_wp2_with (fail)
  refine (eqI_law o4_8.rd o8.rd (by omega)).mono ?_
  rintro e w9 ⟨rfl, hb9⟩
  have hB9 := below_trans hB8 hb9 hB8.size
  go_wp2_with (fail)
  refine (toI_law (hg.below hB9) (by omega)).mono ?_
  rintro e w10 ⟨v10, fp10, rfl, o10, fr10, hb10⟩
  have hB10 := below_trans hB9 hb10 hB9.size
  have lt_tg := o10.lt
  have o5_6 := o5.below hb6
  have o5_7 := o5_6.below hb7
  have o5_8 := o5_7.below hb8
  have o5_9 := o5_8.below hb9
  have o5_10 := o5_9.below hb10
  go_wp2_with (fail)
  refine (eqI_law o5_10.rd o10.rd (by omega)).mono ?_
  rintro e w11 ⟨rfl, hb11⟩
  have hB11 := below_trans hB10 hb11 hB10.size
  have o4_9 := o4_8.below hb9
  have o4_10 := o4_9.below hb10
  have o4_11 := o4_10.below hb11
  go_wp2_with (fail)
  refine (markI_law (1) o4_11 (by omega) (by omega)).mono ?_
  rintro e w12 ⟨rfl, he12, hk12⟩
  have hB12 := below_keeps hB11 hk12 hB11.size (fun b hb => Nat.le_trans hB3.size (fr4 b hb))
  have o5_11 := o5_10.below hb11
  have o5_12 := o5_11.keeps hk12 (apart_of' (lt_xf) (fr5))
  go_wp2_with (fail)
  refine (markI_law (1 + f.length) o5_12 (by omega) (by omega)).mono ?_
  rintro e w13 ⟨rfl, he13, hk13⟩
  have hB13 := below_keeps hB12 hk13 hB12.size (fun b hb => Nat.le_trans hB4.size (fr5 b hb))
  have o6r0_7 := o6r0.below hb7
  have o6r0_8 := o6r0_7.below hb8
  have o6r0_9 := o6r0_8.below hb9
  have o6r0_10 := o6r0_9.below hb10
  have o6r0_11 := o6r0_10.below hb11
  have o6r0_12 := o6r0_11.keeps hk12 (apart_of' (lt_xf) (fr6_0.mono (Nat.le_trans (Nat.le_refl _) hb5.size)))
  have o6r0_13 := o6r0_12.keeps hk13 (apart_of' (lt_xg) (fr6_0))
  have o3r0_7 := o3r0_6.below hb7
  have o3r0_8 := o3r0_7.below hb8
  have o3r0_9 := o3r0_8.below hb9
  have o3r0_10 := o3r0_9.below hb10
  have o3r0_11 := o3r0_10.below hb11
  have o3r0_12 := o3r0_11.keeps hk12 (apart_of (lt_W0.mono (Nat.le_refl _)) (fr4))
  have o3r0_13 := o3r0_12.keeps hk13 (apart_of (lt_W0.mono (Nat.le_refl _)) (fr5.mono (Nat.le_trans (Nat.le_refl _) hb4.size)))
  go_wp2_with (fail)
  refine (eqI_law o6r0_13.rd o3r0_13.rd (by have := mPolyGcd_len p f g; omega)).mono ?_
  rintro e w14 ⟨rfl, hb14⟩
  have hB14 := below_trans hB13 hb14 hB13.size
  have o6r0_14 := o6r0_13.below hb14
  go_wp2_with (fail)
  refine (markI_law (1) o6r0_14 (by omega) (by have := mPolyGcd_len p f g; omega)).mono ?_
  rintro e w15 ⟨rfl, he15, hk15⟩
  have hB15 := below_keeps hB14 hk15 hB14.size (fun b hb => Nat.le_trans hB5.size (fr6_0 b hb))
  go_wp2_with (fail)
  refine (heldI_law he15 (by omega) (by have := mPolyGcd_len p f g; omega)).mono ?_
  rintro e w16 ⟨rfl, hb16⟩
  have hB16 := below_trans hB15 hb16 hB15.size
  go_wp2_with (fail)
  refine (toI_law (hf.below hB16) (by omega)).mono ?_
  rintro e w17 ⟨v17, fp17, rfl, o17, fr17, hb17⟩
  have hB17 := below_trans hB16 hb17 hB16.size
  have lt_yf := o17.lt
  go_wp2_with (fail)
  refine (toI_law (hg.below hB17) (by omega)).mono ?_
  rintro e w18 ⟨v18, fp18, rfl, o18, fr18, hb18⟩
  have hB18 := below_trans hB17 hb18 hB17.size
  have lt_yg := o18.lt
  have o17_18 := o17.below hb18
  go_wp2_with (fail)
  refine (iPolyGcd_law p o17_18.rd o18.rd (by omega) (by omega) (hT.below hB18 hT.lt)).mono ?_
  rintro e w19 ⟨v19_0, fp19_0, rfl, o19r0, fr19_0, hb19⟩
  have hB19 := below_trans hB18 hb19 hB18.size
  have lt_H0 := o19r0.lt
  have o3r0_14 := o3r0_13.below hb14
  have o3r0_15 := o3r0_14.keeps hk15 (apart_of (lt_W0.mono (Nat.le_refl _)) (fr6_0.mono (Nat.le_trans (Nat.le_trans (Nat.le_refl _) hb4.size) hb5.size)))
  have o3r0_16 := o3r0_15.below hb16
  have o3r0_17 := o3r0_16.below hb17
  have o3r0_18 := o3r0_17.below hb18
  have o3r0_19 := o3r0_18.below hb19
  go_wp2_with (fail)
  refine (eqI_law o19r0.rd o3r0_19.rd (by have := mPolyGcd_len p f g; omega)).mono ?_
  rintro e w20 ⟨rfl, hb20⟩
  have hB20 := below_trans hB19 hb20 hB19.size
  have he15_16 := he15.below hb16
  have he15_17 := he15_16.below hb17
  have he15_18 := he15_17.below hb18
  have he15_19 := he15_18.below hb19
  have he15_20 := he15_19.below hb20
  go_wp2_with (fail)
  refine (heldI_law he15_20 (by omega) (by have := mPolyGcd_len p f g; omega)).mono ?_
  rintro e w21 ⟨rfl, hb21⟩
  have hB21 := below_trans hB20 hb21 hB20.size
  go_wp2_with (fail)
  go_ret
  exact ⟨rfl, hB21⟩

theorem contractPolyGcd (H : Type) (enc : TypeId × Value → H) (W : World) (args : Array Value) (ds gs : List (DataW H)) (before : List MemPlace)
    (hval : ∀ (j : Nat) t v, Tryd.f9.params[j]? = some t → args[j]? = some v → Value.okWide Tryd.prog W .any 0 t v)
    (hW : DataW.Whole enc Tryd.prog Tryd.f9.params.toList Rows.fnExactPolyGcdSpec.vars false W args.toList ds gs before) (hL : laidMetH Tryd.prog Rows.fnExactPolyGcdRow.laid W) :
    Calls Tryd.prog 9 args W fun e W' => ∃ v, e = .returned v ∧ Rows.fnExactPolyGcdSpec.post enc Tryd.prog Tryd.f9 false true false false W args v W' := by
  have hW' := hW
  obtain ⟨p, q, hA0, hV, rfl, hfz, hnd⟩ := hW
  have hA : DataW.TrodAll enc Tryd.prog W 0 (fun _ => true) true Tryd.f9.params.toList args.toList ds p := hA0
  have hr : ∀ t ∈ Tryd.f9.params.toList, Tryd.prog.readableRec t = true ∧ t < Tryd.prog.types.size := by
    rw [Tryd.params9]
    intro t ht
    have ht' : t ∈ ([3, 22, 22] : List TypeId) := ht
    rcases List.mem_cons.1 ht' with rfl | ht'
    · exact ⟨by kernel_rfl, of_decide_eq_true (by kernel_rfl)⟩
    rcases List.mem_cons.1 ht' with rfl | ht'
    · exact ⟨by kernel_rfl, of_decide_eq_true (by kernel_rfl)⟩
    rcases List.mem_cons.1 ht' with rfl | ht'
    · exact ⟨by kernel_rfl, of_decide_eq_true (by kernel_rfl)⟩
    cases ht'
  rw [Tryd.params9] at hA hval
  obtain ⟨v0, vs0, d0, ds0, p0, q0, hargs, rfl, rfl, t0, r0⟩ := trodAll_cons hA
  obtain ⟨v1, vs1, d1, ds1, p1, q1, rfl, rfl, rfl, t1, r1⟩ := trodAll_cons r0
  obtain ⟨v2, vs2, d2, ds2, p2, q2, rfl, rfl, rfl, t2, r2⟩ := trodAll_cons r1
  obtain ⟨rfl, rfl, rfl⟩ := trodAll_nil r2
  obtain rfl : args = #[v0, v1, v2] := by cases args; simp_all
  obtain ⟨g, _, _, _, dg, pg, rfl, _⟩ := trodVars_one hV
  obtain ⟨x0, rfl, lo0, hi0⟩ := in_int (hval 0 _ v0 rfl rfl) t0
  obtain ⟨A1, c1, l1, rfl, hl1⟩ := in_ints (hval 1 _ v1 rfl rfl) t1
  obtain ⟨A2, c2, l2, rfl, hl2⟩ := in_ints (hval 2 _ v2 rfl rfl) t2
  refine (lawPolyGcd_any x0 A1 c1 l1 A2 c2 l2 W hl1 hl2 lo0 hi0 (tab_of_laid hL)).mono fun e W' ⟨he, hb⟩ => ?_
  subst he
  exact ⟨_, rfl, post_true laidOut hW' hb hr vars_ok rfl rfl Tryd.underlying4⟩

set_option maxRecDepth 100000 in
theorem liftedPolyGcd (os : Os) (started : os.Started) (H : Type) (enc : TypeId × Value → H) (F : Stop.Interp) :
    ReturnsInHanded {} Tryd.checked os 9 .any ((OpenSpec.ofChange Rows.fnExactPolyGcdSpec).preRow enc Tryd.prog Tryd.f9 Rows.fnExactPolyGcdRow.domain false Rows.fnExactPolyGcdRow.laid) (((OpenSpec.ofChange Rows.fnExactPolyGcdSpec).at F).post enc Tryd.prog Tryd.f9 false true false false) := by
  obtain ⟨ds, gs, places, hx⟩ : ∃ ds gs places, DataW.whole enc Tryd.prog ((laidWorld os).forCall (fun _ _ => 0) ⟨#[], #[.int .i64 0, .slice none 0 0, .slice none 0 0], []⟩).memory Tryd.f9.params.toList Rows.fnExactPolyGcdSpec.vars false (#[.int .i64 0, .slice none 0 0, .slice none 0 0] : Array Value).toList 8 = some (ds, gs, places) :=
    ⟨[.lit (.int .i64 0), .nil, .nil], [Rows.laid_loop_example_g01073_impl_smallPrimes], MemPlace.row ⟨0, 0, none⟩ 4, by kernel_rfl⟩
  refine returnsInHanded_of_row (C := Tryd.checked) (s := OpenSpec.ofChange Rows.fnExactPolyGcdSpec) own started (by kernel_rfl) Tryd.func9
    (witness_row_at (enc := enc) (C := Tryd.checked) false (laidWorld os) #[.int .i64 0, .slice none 0 0, .slice none 0 0] rfl (by kernel_rfl) (by kernel_rfl) (by kernel_rfl)
      (OpenSpec.preRow_of_cond 8 hx (by kernel_rfl) (fun k hk => by cases hk) (by kernel_rfl) (laid_met os _))) ?_
  intro W base args ds gs before hval hW _ _ _ hL _ _
  exact contractPolyGcd H enc W args ds gs before hval hW hL

theorem saidPolyGcd : Rows.FnExactPolyGcdSaid :=
  OpenClaim.holds_of_cond 9 Tryd.f9 rfl rfl rfl rfl rfl rfl rfl ⟨rfl, rfl, rfl, rfl, rfl⟩ rfl rfl rfl rfl rfl (by kernel_rfl) Tryd.func9 (by kernel_rfl)
    (of_decide_eq_true (by kernel_rfl)) (by unfold Func.isWrapper; first | (rw [if_pos (by decide +kernel)]; kernel_rfl) | (rw [if_neg (by decide +kernel)]; exact ⟨rfl, rfl⟩))
    (fun os started H enc _ F => by rw [OpenClaim.pre_eq_preRow]; exact liftedPolyGcd os started H enc F)

theorem plainPolyGcd (f : FuncId) (fn : Func) (hf : Tryd.pinned.checked.prog.funcNamed "loop.example/g01073/laws.FnExactPolyGcd" = some f) (hfn : Tryd.pinned.checked.prog.funcs[f]? = some fn) :
    false = Tryd.pinned.checked.prog.looks [] ∧ ∀ (j : Nat) t, fn.params[j]? = some t → Tryd.pinned.checked.prog.wantsStandIn t = false := by
  obtain rfl : f = 9 := Option.some.inj ((show Tryd.prog.funcNamed "loop.example/g01073/laws.FnExactPolyGcd" = some 9 by kernel_rfl).symm.trans hf) |>.symm
  obtain rfl : fn = Tryd.f9 := (Option.some.inj (Tryd.func9.symm.trans hfn)).symm
  refine ⟨by kernel_rfl, fun j t ht => ?_⟩
  rw [Tryd.params9] at ht
  have ht' : t ∈ ([3, 22, 22] : List TypeId) := by have := Array.mem_of_getElem? ht; simpa using this
  rcases List.mem_cons.1 ht' with rfl | ht'
  · exact (show Tryd.prog.wantsStandIn 3 = false by kernel_rfl)
  rcases List.mem_cons.1 ht' with rfl | ht'
  · exact (show Tryd.prog.wantsStandIn 22 = false by kernel_rfl)
  rcases List.mem_cons.1 ht' with rfl | ht'
  · exact (show Tryd.prog.wantsStandIn 22 = false by kernel_rfl)
  cases ht'

theorem cardPolyGcd : Rows.FnExactPolyGcdCardSaid :=
  Claim7.holds_tied_plain_at .later [] _ _ _ _ saidPolyGcd (fun _ h => by cases h) (by kernel_rfl) (fun _ h => by cases h) fnExactPolyGcd_row_tie rfl ⟨rfl, rfl⟩ (by kernel_rfl) rfl plainPolyGcd (by kernel_rfl)
#print axioms cardPolyGcd
end Go.Proofs.YtbgofkalanigfaaDoor
