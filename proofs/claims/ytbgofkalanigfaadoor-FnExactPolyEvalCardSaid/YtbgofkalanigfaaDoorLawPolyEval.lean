/-
  The program's PolyEval returns what the reference's returns, for all arguments (laws.FnExactPolyEval answers true): the tied card.
-/
import Derived.Test.YtbgofkalanigfaaDoorPolyP
import Derived.Test.YtbgofkalanigfaaDoorFrame
import Derived.Test.YtbgofkalanigfaaDoorLawI
namespace Go.Proofs.YtbgofkalanigfaaDoor
open Go.ChangeShapes Go.WideShapes Go.ChangeAt Go.RowKit

set_option maxHeartbeats 1000000 in
set_option maxRecDepth 8000 in
theorem lawPolyEval_any (p : Int) (Af : Option Addr) (cf : Nat) (f : List Int) (x : Int) (w : World) (qf : RdI w Af f) (_lop : -9223372036854775808 ≤ p) (_hip : p ≤ 9223372036854775807) (_lox : -9223372036854775808 ≤ x) (_hix : x ≤ 9223372036854775807) (hT : Tab w) :
    Calls Tryd.prog 4 #[.int .i64 p, .slice Af f.length cf, .int .i64 x] w fun e w' => e = .returned (.bool true) ∧ Below w.heap.size w w' := by
  by_cases lenf : f.length ≤ 1048576
  case neg =>
    have gtf : 1048576 < (f.length : Int) := by omega
    go_enter Tryd.func4, Tryd.ntmps4
    go_wp2_with (fail)
    go_ret
    exact ⟨rfl, Below.refl _ _⟩
  have gtf : ¬ (1048576 < (f.length : Int)) := by omega
  have hf : RdIV w (.slice Af f.length cf) f := ⟨Af, cf, rfl, qf⟩
  clear qf
  have hB0 : Below w.heap.size w w := Below.refl _ _
  go_enter Tryd.func4, Tryd.ntmps4
  go_wp2_with (fail)
  refine (toI_law (hf.below hB0) (by omega)).mono ?_
  rintro e w1 ⟨v1, fp1, rfl, o1, fr1, hb1⟩
  have hB1 := below_trans hB0 hb1 hB0.size
  have lt_af := o1.lt
  go_wp2_with (fail)
  refine (sPolyEval_law p x o1.rd (by omega)).mono ?_
  rintro e w2 ⟨rfl, hb2⟩
  have hB2 := below_trans hB1 hb2 hB1.size
  go_wp2_with (fail)
  refine (toI_law (hf.below hB2) (by omega)).mono ?_
  rintro e w3 ⟨v3, fp3, rfl, o3, fr3, hb3⟩
  have hB3 := below_trans hB2 hb3 hB2.size
  have lt_xf := o3.lt
  go_wp2_with (fail)
  refine (iPolyEval_law p x o3.rd (by omega) (hT.below hB3 hT.lt)).mono ?_
  rintro e w4 ⟨rfl, hb4⟩
  have hB4 := below_trans hB3 hb4 hB3.size
  go_wp2_with (fail)
  refine (toI_law (hf.below hB4) (by omega)).mono ?_
  rintro e w5 ⟨v5, fp5, rfl, o5, fr5, hb5⟩
  have hB5 := below_trans hB4 hb5 hB4.size
  have lt_tf := o5.lt
  have o3_4 := o3.below hb4
  have o3_5 := o3_4.below hb5
  go_wp2_with (fail)
  refine (eqI_law o3_5.rd o5.rd (by omega)).mono ?_
  rintro e w6 ⟨rfl, hb6⟩
  have hB6 := below_trans hB5 hb6 hB5.size
  go_wp2_with (fail)
  go_ret
  exact ⟨rfl, hB6⟩

theorem contractPolyEval (H : Type) (enc : TypeId × Value → H) (W : World) (args : Array Value) (ds gs : List (DataW H)) (before : List MemPlace)
    (hval : ∀ (j : Nat) t v, Tryd.f4.params[j]? = some t → args[j]? = some v → Value.okWide Tryd.prog W .any 0 t v)
    (hW : DataW.Whole enc Tryd.prog Tryd.f4.params.toList Rows.fnExactPolyEvalSpec.vars false W args.toList ds gs before) (hL : laidMetH Tryd.prog Rows.fnExactPolyEvalRow.laid W) :
    Calls Tryd.prog 4 args W fun e W' => ∃ v, e = .returned v ∧ Rows.fnExactPolyEvalSpec.post enc Tryd.prog Tryd.f4 false true false false W args v W' := by
  have hW' := hW
  obtain ⟨p, q, hA0, hV, rfl, hfz, hnd⟩ := hW
  have hA : DataW.TrodAll enc Tryd.prog W 0 (fun _ => true) true Tryd.f4.params.toList args.toList ds p := hA0
  have hr : ∀ t ∈ Tryd.f4.params.toList, Tryd.prog.readableRec t = true ∧ t < Tryd.prog.types.size := by
    rw [Tryd.params4]
    intro t ht
    have ht' : t ∈ ([3, 22, 3] : List TypeId) := ht
    rcases List.mem_cons.1 ht' with rfl | ht'
    · exact ⟨by kernel_rfl, of_decide_eq_true (by kernel_rfl)⟩
    rcases List.mem_cons.1 ht' with rfl | ht'
    · exact ⟨by kernel_rfl, of_decide_eq_true (by kernel_rfl)⟩
    rcases List.mem_cons.1 ht' with rfl | ht'
    · exact ⟨by kernel_rfl, of_decide_eq_true (by kernel_rfl)⟩
    cases ht'
  rw [Tryd.params4] at hA hval
  obtain ⟨v0, vs0, d0, ds0, p0, q0, hargs, rfl, rfl, t0, r0⟩ := trodAll_cons hA
  obtain ⟨v1, vs1, d1, ds1, p1, q1, rfl, rfl, rfl, t1, r1⟩ := trodAll_cons r0
  obtain ⟨v2, vs2, d2, ds2, p2, q2, rfl, rfl, rfl, t2, r2⟩ := trodAll_cons r1
  obtain ⟨rfl, rfl, rfl⟩ := trodAll_nil r2
  obtain rfl : args = #[v0, v1, v2] := by cases args; simp_all
  obtain ⟨g, _, _, _, dg, pg, rfl, _⟩ := trodVars_one hV
  obtain ⟨x0, rfl, lo0, hi0⟩ := in_int (hval 0 _ v0 rfl rfl) t0
  obtain ⟨A1, c1, l1, rfl, hl1⟩ := in_ints (hval 1 _ v1 rfl rfl) t1
  obtain ⟨x2, rfl, lo2, hi2⟩ := in_int (hval 2 _ v2 rfl rfl) t2
  refine (lawPolyEval_any x0 A1 c1 l1 x2 W hl1 lo0 hi0 lo2 hi2 (tab_of_laid hL)).mono fun e W' ⟨he, hb⟩ => ?_
  subst he
  exact ⟨_, rfl, post_true laidOut hW' hb hr vars_ok rfl rfl Tryd.underlying4⟩

set_option maxRecDepth 100000 in
theorem liftedPolyEval (os : Os) (started : os.Started) (H : Type) (enc : TypeId × Value → H) (F : Stop.Interp) :
    ReturnsInHanded {} Tryd.checked os 4 .any ((OpenSpec.ofChange Rows.fnExactPolyEvalSpec).preRow enc Tryd.prog Tryd.f4 Rows.fnExactPolyEvalRow.domain false Rows.fnExactPolyEvalRow.laid) (((OpenSpec.ofChange Rows.fnExactPolyEvalSpec).at F).post enc Tryd.prog Tryd.f4 false true false false) := by
  obtain ⟨ds, gs, places, hx⟩ : ∃ ds gs places, DataW.whole enc Tryd.prog ((laidWorld os).forCall (fun _ _ => 0) ⟨#[], #[.int .i64 0, .slice none 0 0, .int .i64 0], []⟩).memory Tryd.f4.params.toList Rows.fnExactPolyEvalSpec.vars false (#[.int .i64 0, .slice none 0 0, .int .i64 0] : Array Value).toList 8 = some (ds, gs, places) :=
    ⟨[.lit (.int .i64 0), .nil, .lit (.int .i64 0)], [Rows.laid_loop_example_g01073_impl_smallPrimes], MemPlace.row ⟨0, 0, none⟩ 4, by kernel_rfl⟩
  refine returnsInHanded_of_row (C := Tryd.checked) (s := OpenSpec.ofChange Rows.fnExactPolyEvalSpec) own started (by kernel_rfl) Tryd.func4
    (witness_row_at (enc := enc) (C := Tryd.checked) false (laidWorld os) #[.int .i64 0, .slice none 0 0, .int .i64 0] rfl (by kernel_rfl) (by kernel_rfl) (by kernel_rfl)
      (OpenSpec.preRow_of_cond 8 hx (by kernel_rfl) (fun k hk => by cases hk) (by kernel_rfl) (laid_met os _))) ?_
  intro W base args ds gs before hval hW _ _ _ hL _ _
  exact contractPolyEval H enc W args ds gs before hval hW hL

theorem saidPolyEval : Rows.FnExactPolyEvalSaid :=
  OpenClaim.holds_of_cond 4 Tryd.f4 rfl rfl rfl rfl rfl rfl rfl ⟨rfl, rfl, rfl, rfl, rfl⟩ rfl rfl rfl rfl rfl (by kernel_rfl) Tryd.func4 (by kernel_rfl)
    (of_decide_eq_true (by kernel_rfl)) (by unfold Func.isWrapper; first | (rw [if_pos (by decide +kernel)]; kernel_rfl) | (rw [if_neg (by decide +kernel)]; exact ⟨rfl, rfl⟩))
    (fun os started H enc _ F => by rw [OpenClaim.pre_eq_preRow]; exact liftedPolyEval os started H enc F)

theorem plainPolyEval (f : FuncId) (fn : Func) (hf : Tryd.pinned.checked.prog.funcNamed "loop.example/g01073/laws.FnExactPolyEval" = some f) (hfn : Tryd.pinned.checked.prog.funcs[f]? = some fn) :
    false = Tryd.pinned.checked.prog.looks [] ∧ ∀ (j : Nat) t, fn.params[j]? = some t → Tryd.pinned.checked.prog.wantsStandIn t = false := by
  obtain rfl : f = 4 := Option.some.inj ((show Tryd.prog.funcNamed "loop.example/g01073/laws.FnExactPolyEval" = some 4 by kernel_rfl).symm.trans hf) |>.symm
  obtain rfl : fn = Tryd.f4 := (Option.some.inj (Tryd.func4.symm.trans hfn)).symm
  refine ⟨by kernel_rfl, fun j t ht => ?_⟩
  rw [Tryd.params4] at ht
  have ht' : t ∈ ([3, 22, 3] : List TypeId) := by have := Array.mem_of_getElem? ht; simpa using this
  rcases List.mem_cons.1 ht' with rfl | ht'
  · exact (show Tryd.prog.wantsStandIn 3 = false by kernel_rfl)
  rcases List.mem_cons.1 ht' with rfl | ht'
  · exact (show Tryd.prog.wantsStandIn 22 = false by kernel_rfl)
  rcases List.mem_cons.1 ht' with rfl | ht'
  · exact (show Tryd.prog.wantsStandIn 3 = false by kernel_rfl)
  cases ht'

theorem cardPolyEval : Rows.FnExactPolyEvalCardSaid :=
  Claim7.holds_tied_plain_at .later [] _ _ _ _ saidPolyEval (fun _ h => by cases h) (by kernel_rfl) (fun _ h => by cases h) fnExactPolyEval_row_tie rfl ⟨rfl, rfl⟩ (by kernel_rfl) rfl plainPolyEval (by kernel_rfl)
#print axioms cardPolyEval
end Go.Proofs.YtbgofkalanigfaaDoor
