/-
  The program's PolyRoots returns what the reference's returns, for all arguments (laws.FnExactPolyRoots answers true): the tied card.
-/
import Derived.Test.YtbgofkalanigfaaDoorPolyQ
import Derived.Test.YtbgofkalanigfaaDoorFrame
import Derived.Test.YtbgofkalanigfaaDoorLawI
namespace Go.Proofs.YtbgofkalanigfaaDoor
open Go.ChangeShapes Go.WideShapes Go.ChangeAt Go.RowKit

set_option maxHeartbeats 1000000 in
set_option maxRecDepth 8000 in
theorem lawPolyRoots_any (p : Int) (Af : Option Addr) (cf : Nat) (f : List Int) (w : World) (qf : RdI w Af f) (_lop : -9223372036854775808 ≤ p) (_hip : p ≤ 9223372036854775807) (hT : Tab w) :
    Calls Tryd.prog 5 #[.int .i64 p, .slice Af f.length cf] w fun e w' => e = .returned (.bool true) ∧ Below w.heap.size w w' := by
  by_cases lenf : f.length ≤ 1048576
  case neg =>
    have gtf : 1048576 < (f.length : Int) := by omega
    go_enter Tryd.func5, Tryd.ntmps5
    go_wp2_with (fail)
    go_ret
    exact ⟨rfl, Below.refl _ _⟩
  have gtf : ¬ (1048576 < (f.length : Int)) := by omega
  have hf : RdIV w (.slice Af f.length cf) f := ⟨Af, cf, rfl, qf⟩
  clear qf
  have hB0 : Below w.heap.size w w := Below.refl _ _
  go_enter Tryd.func5, Tryd.ntmps5
  go_wp2_with (fail)
  refine (toI_law (hf.below hB0) (by omega)).mono ?_
  rintro e w1 ⟨v1, fp1, rfl, o1, fr1, hb1⟩
  have hB1 := below_trans hB0 hb1 hB0.size
  have lt_af := o1.lt
  go_wp2_with (fail)
  refine (sPolyRoots_law p o1.rd (by omega)).mono ?_
  rintro e w2 ⟨v2_0, fp2_0, rfl, o2r0, fr2_0, hb2⟩
  have hB2 := below_trans hB1 hb2 hB1.size
  have lt_W0 := o2r0.lt
  go_wp2_with (fail)
  refine (toI_law (hf.below hB2) (by omega)).mono ?_
  rintro e w3 ⟨v3, fp3, rfl, o3, fr3, hb3⟩
  have hB3 := below_trans hB2 hb3 hB2.size
  have lt_xf := o3.lt
  go_wp2_with (fail)
  refine (iPolyRoots_law p o3.rd (by omega) (hT.below hB3 hT.lt)).mono ?_
  rintro e w4 ⟨v4_0, fp4_0, rfl, o4r0, fr4_0, hb4⟩
  have hB4 := below_trans hB3 hb4 hB3.size
  have lt_G0 := o4r0.lt
  have o2r0_3 := o2r0.below hb3
  have o2r0_4 := o2r0_3.below hb4
  go_wp2_with (fail)
  refine (eqI_law o4r0.rd o2r0_4.rd (by have := mPolyRoots_len p f; omega)).mono ?_
  rintro e w5 ⟨rfl, hb5⟩
  have hB5 := below_trans hB4 hb5 hB4.size
  go_wp2_with (fail)
  refine (toI_law (hf.below hB5) (by omega)).mono ?_
  rintro e w6 ⟨v6, fp6, rfl, o6, fr6, hb6⟩
  have hB6 := below_trans hB5 hb6 hB5.size
  have lt_tf := o6.lt
  have o3_4 := o3.below hb4
  have o3_5 := o3_4.below hb5
  have o3_6 := o3_5.below hb6
  go_wp2_with (fail)
  refine (eqI_law o3_6.rd o6.rd (by omega)).mono ?_
  rintro e w7 ⟨rfl, hb7⟩
  have hB7 := below_trans hB6 hb7 hB6.size
  have o3_7 := o3_6.below hb7
  go_wp2_with (fail)
  refine (markI_law (1) o3_7 (by omega) (by omega)).mono ?_
  rintro e w8 ⟨rfl, he8, hk8⟩
  have hB8 := below_keeps hB7 hk8 hB7.size (fun b hb => Nat.le_trans hB2.size (fr3 b hb))
  have o4r0_5 := o4r0.below hb5
  have o4r0_6 := o4r0_5.below hb6
  have o4r0_7 := o4r0_6.below hb7
  have o4r0_8 := o4r0_7.keeps hk8 (apart_of' (lt_xf) (fr4_0))
  have o2r0_5 := o2r0_4.below hb5
  have o2r0_6 := o2r0_5.below hb6
  have o2r0_7 := o2r0_6.below hb7
  have o2r0_8 := o2r0_7.keeps hk8 (apart_of (lt_W0.mono (Nat.le_refl _)) (fr3))
  go_wp2_with (fail)
  refine (eqI_law o4r0_8.rd o2r0_8.rd (by have := mPolyRoots_len p f; omega)).mono ?_
  rintro e w9 ⟨rfl, hb9⟩
  have hB9 := below_trans hB8 hb9 hB8.size
  have o4r0_9 := o4r0_8.below hb9
  go_wp2_with (fail)
  refine (markI_law (1) o4r0_9 (by omega) (by have := mPolyRoots_len p f; omega)).mono ?_
  rintro e w10 ⟨rfl, he10, hk10⟩
  have hB10 := below_keeps hB9 hk10 hB9.size (fun b hb => Nat.le_trans hB3.size (fr4_0 b hb))
  go_wp2_with (fail)
  refine (heldI_law he10 (by omega) (by have := mPolyRoots_len p f; omega)).mono ?_
  rintro e w11 ⟨rfl, hb11⟩
  have hB11 := below_trans hB10 hb11 hB10.size
  go_wp2_with (fail)
  refine (toI_law (hf.below hB11) (by omega)).mono ?_
  rintro e w12 ⟨v12, fp12, rfl, o12, fr12, hb12⟩
  have hB12 := below_trans hB11 hb12 hB11.size
  have lt_yf := o12.lt
  go_wp2_with (fail)
  refine (iPolyRoots_law p o12.rd (by omega) (hT.below hB12 hT.lt)).mono ?_
  rintro e w13 ⟨v13_0, fp13_0, rfl, o13r0, fr13_0, hb13⟩
  have hB13 := below_trans hB12 hb13 hB12.size
  have lt_H0 := o13r0.lt
  have o2r0_9 := o2r0_8.below hb9
  have o2r0_10 := o2r0_9.keeps hk10 (apart_of (lt_W0.mono (Nat.le_refl _)) (fr4_0.mono (Nat.le_trans (Nat.le_refl _) hb3.size)))
  have o2r0_11 := o2r0_10.below hb11
  have o2r0_12 := o2r0_11.below hb12
  have o2r0_13 := o2r0_12.below hb13
  go_wp2_with (fail)
  refine (eqI_law o13r0.rd o2r0_13.rd (by have := mPolyRoots_len p f; omega)).mono ?_
  rintro e w14 ⟨rfl, hb14⟩
  have hB14 := below_trans hB13 hb14 hB13.size
  have he10_11 := he10.below hb11
  have he10_12 := he10_11.below hb12
  have he10_13 := he10_12.below hb13
  have he10_14 := he10_13.below hb14
  go_wp2_with (fail)
  refine (heldI_law he10_14 (by omega) (by have := mPolyRoots_len p f; omega)).mono ?_
  rintro e w15 ⟨rfl, hb15⟩
  have hB15 := below_trans hB14 hb15 hB14.size
  go_wp2_with (fail)
  go_ret
  exact ⟨rfl, hB15⟩

theorem contractPolyRoots (H : Type) (enc : TypeId × Value → H) (W : World) (args : Array Value) (ds gs : List (DataW H)) (before : List MemPlace)
    (hval : ∀ (j : Nat) t v, Tryd.f5.params[j]? = some t → args[j]? = some v → Value.okWide Tryd.prog W .any 0 t v)
    (hW : DataW.Whole enc Tryd.prog Tryd.f5.params.toList Rows.fnExactPolyRootsSpec.vars false W args.toList ds gs before) (hL : laidMetH Tryd.prog Rows.fnExactPolyRootsRow.laid W) :
    Calls Tryd.prog 5 args W fun e W' => ∃ v, e = .returned v ∧ Rows.fnExactPolyRootsSpec.post enc Tryd.prog Tryd.f5 false true false false W args v W' := by
  have hW' := hW
  obtain ⟨p, q, hA0, hV, rfl, hfz, hnd⟩ := hW
  have hA : DataW.TrodAll enc Tryd.prog W 0 (fun _ => true) true Tryd.f5.params.toList args.toList ds p := hA0
  have hr : ∀ t ∈ Tryd.f5.params.toList, Tryd.prog.readableRec t = true ∧ t < Tryd.prog.types.size := by
    rw [Tryd.params5]
    intro t ht
    have ht' : t ∈ ([3, 22] : List TypeId) := ht
    rcases List.mem_cons.1 ht' with rfl | ht'
    · exact ⟨by kernel_rfl, of_decide_eq_true (by kernel_rfl)⟩
    rcases List.mem_cons.1 ht' with rfl | ht'
    · exact ⟨by kernel_rfl, of_decide_eq_true (by kernel_rfl)⟩
    cases ht'
  rw [Tryd.params5] at hA hval
  obtain ⟨v0, vs0, d0, ds0, p0, q0, hargs, rfl, rfl, t0, r0⟩ := trodAll_cons hA
  obtain ⟨v1, vs1, d1, ds1, p1, q1, rfl, rfl, rfl, t1, r1⟩ := trodAll_cons r0
  obtain ⟨rfl, rfl, rfl⟩ := trodAll_nil r1
  obtain rfl : args = #[v0, v1] := by cases args; simp_all
  obtain ⟨g, _, _, _, dg, pg, rfl, _⟩ := trodVars_one hV
  obtain ⟨x0, rfl, lo0, hi0⟩ := in_int (hval 0 _ v0 rfl rfl) t0
  obtain ⟨A1, c1, l1, rfl, hl1⟩ := in_ints (hval 1 _ v1 rfl rfl) t1
  refine (lawPolyRoots_any x0 A1 c1 l1 W hl1 lo0 hi0 (tab_of_laid hL)).mono fun e W' ⟨he, hb⟩ => ?_
  subst he
  exact ⟨_, rfl, post_true laidOut hW' hb hr vars_ok rfl rfl Tryd.underlying4⟩

set_option maxRecDepth 100000 in
theorem liftedPolyRoots (os : Os) (started : os.Started) (H : Type) (enc : TypeId × Value → H) (F : Stop.Interp) :
    ReturnsInHanded {} Tryd.checked os 5 .any ((OpenSpec.ofChange Rows.fnExactPolyRootsSpec).preRow enc Tryd.prog Tryd.f5 Rows.fnExactPolyRootsRow.domain false Rows.fnExactPolyRootsRow.laid) (((OpenSpec.ofChange Rows.fnExactPolyRootsSpec).at F).post enc Tryd.prog Tryd.f5 false true false false) := by
  obtain ⟨ds, gs, places, hx⟩ : ∃ ds gs places, DataW.whole enc Tryd.prog ((laidWorld os).forCall (fun _ _ => 0) ⟨#[], #[.int .i64 0, .slice none 0 0], []⟩).memory Tryd.f5.params.toList Rows.fnExactPolyRootsSpec.vars false (#[.int .i64 0, .slice none 0 0] : Array Value).toList 8 = some (ds, gs, places) :=
    ⟨[.lit (.int .i64 0), .nil], [Rows.laid_loop_example_g01073_impl_smallPrimes], MemPlace.row ⟨0, 0, none⟩ 4, by kernel_rfl⟩
  refine returnsInHanded_of_row (C := Tryd.checked) (s := OpenSpec.ofChange Rows.fnExactPolyRootsSpec) own started (by kernel_rfl) Tryd.func5
    (witness_row_at (enc := enc) (C := Tryd.checked) false (laidWorld os) #[.int .i64 0, .slice none 0 0] rfl (by kernel_rfl) (by kernel_rfl) (by kernel_rfl)
      (OpenSpec.preRow_of_cond 8 hx (by kernel_rfl) (fun k hk => by cases hk) (by kernel_rfl) (laid_met os _))) ?_
  intro W base args ds gs before hval hW _ _ _ hL _ _
  exact contractPolyRoots H enc W args ds gs before hval hW hL

theorem saidPolyRoots : Rows.FnExactPolyRootsSaid :=
  OpenClaim.holds_of_cond 5 Tryd.f5 rfl rfl rfl rfl rfl rfl rfl ⟨rfl, rfl, rfl, rfl, rfl⟩ rfl rfl rfl rfl rfl (by kernel_rfl) Tryd.func5 (by kernel_rfl)
    (of_decide_eq_true (by kernel_rfl)) (by unfold Func.isWrapper; first | (rw [if_pos (by decide +kernel)]; kernel_rfl) | (rw [if_neg (by decide +kernel)]; exact ⟨rfl, rfl⟩))
    (fun os started H enc _ F => by rw [OpenClaim.pre_eq_preRow]; exact liftedPolyRoots os started H enc F)

theorem plainPolyRoots (f : FuncId) (fn : Func) (hf : Tryd.pinned.checked.prog.funcNamed "loop.example/g01073/laws.FnExactPolyRoots" = some f) (hfn : Tryd.pinned.checked.prog.funcs[f]? = some fn) :
    false = Tryd.pinned.checked.prog.looks [] ∧ ∀ (j : Nat) t, fn.params[j]? = some t → Tryd.pinned.checked.prog.wantsStandIn t = false := by
  obtain rfl : f = 5 := Option.some.inj ((show Tryd.prog.funcNamed "loop.example/g01073/laws.FnExactPolyRoots" = some 5 by kernel_rfl).symm.trans hf) |>.symm
  obtain rfl : fn = Tryd.f5 := (Option.some.inj (Tryd.func5.symm.trans hfn)).symm
  refine ⟨by kernel_rfl, fun j t ht => ?_⟩
  rw [Tryd.params5] at ht
  have ht' : t ∈ ([3, 22] : List TypeId) := by have := Array.mem_of_getElem? ht; simpa using this
  rcases List.mem_cons.1 ht' with rfl | ht'
  · exact (show Tryd.prog.wantsStandIn 3 = false by kernel_rfl)
  rcases List.mem_cons.1 ht' with rfl | ht'
  · exact (show Tryd.prog.wantsStandIn 22 = false by kernel_rfl)
  cases ht'

theorem cardPolyRoots : Rows.FnExactPolyRootsCardSaid :=
  Claim7.holds_tied_plain_at .later [] _ _ _ _ saidPolyRoots (fun _ h => by cases h) (by kernel_rfl) (fun _ h => by cases h) fnExactPolyRoots_row_tie rfl ⟨rfl, rfl⟩ (by kernel_rfl) rfl plainPolyRoots (by kernel_rfl)
#print axioms cardPolyRoots
end Go.Proofs.YtbgofkalanigfaaDoor
