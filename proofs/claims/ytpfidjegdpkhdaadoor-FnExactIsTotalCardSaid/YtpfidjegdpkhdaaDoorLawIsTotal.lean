/-
  The program's IsTotal returns what the reference's returns, for all arguments (laws.FnExactIsTotal answers true): the tied card.
-/
import Derived.Test.YtpfidjegdpkhdaaDoorRlW
import Derived.Test.YtpfidjegdpkhdaaDoorRegH
import Derived.Test.YtpfidjegdpkhdaaDoorFrame
import Derived.Test.YtpfidjegdpkhdaaDoorKRelationIn
import Derived.Test.YtpfidjegdpkhdaaDoorKRelation
namespace Go.Proofs.YtpfidjegdpkhdaaDoor
open Go.ChangeShapes Go.WideShapes Go.ChangeAt Go.RowKit

set_option maxHeartbeats 4000000 in
set_option maxRecDepth 100000 in
theorem lawIsTotal_any (p : Int) (vr : Value) (r : Sys) (w : World) (hr : RdSysV w vr r) (hgr : BigRelation r) (_lop : -9223372036854775808 ≤ p) (_hip : p ≤ 9223372036854775807) (hT : Tab w) :
    Calls Tryd.prog 9 #[.int .i64 p, vr] w fun e w' => e = .returned (.bool true) ∧ Below w.heap.size w w' := by
  obtain ⟨Ar, nr, cr, rfl⟩ := hr.shape
  obtain ⟨Sr, hSr⟩ : ∃ S, S = szR (r).2.2 1048576 := ⟨_, rfl⟩
  have HSr := Lib.hid hSr
  clear hSr
  have hB0 : Below w.heap.size w w := Below.refl _ _
  have hb1 := below_alloc (w) (.cells #[.int .i64 (r).1, .int .i64 (r).2.1, .slice Ar nr cr] 45)
  have hB1 := below_trans hB0 hb1 hB0.size
  have bx1 := heap_alloc_new (w) (.cells #[.int .i64 (r).1, .int .i64 (r).2.1, .slice Ar nr cr] 45)
  have lt_pr : LtL ((w).alloc (.cells #[.int .i64 (r).1, .int .i64 (r).2.1, .slice Ar nr cr] 45)).heap.size [(w).heap.size] := fun b hb => by obtain rfl := List.mem_singleton.1 hb; exact box_lt bx1
  have fr_pr : FreshL (w).heap.size [(w).heap.size] := fun b hb => by obtain rfl := List.mem_singleton.1 hb; exact Nat.le_refl _
  have BX_pr_1 := Lib.hid bx1
  clear bx1
  by_cases negr : Sr < 0
  case pos =>
    go_enter Tryd.func9, Tryd.ntmps9
    obtain ⟨⟨c1_0, c1_1, c1_2⟩, f1_0, f1_1, f1_2⟩ := box3 BX_pr_1.out
    go_wp2_with (fail)
    refine (szRelation_law 1048576 (hr.below hB1) hgr (by omega) (by omega)).mono ?_
    rintro e w2 ⟨he2, hb2⟩
    have hB2 := below_trans hB1 hb2 hB1.size
    clear c1_0 c1_1 c1_2 f1_0 f1_1 f1_2
    rw [← HSr.out] at he2
    subst he2
    go_wp2_with (fail)
    go_ret
    exact ⟨rfl, hB2⟩
  have sokr := szR_ok (by rw [← HSr.out]; omega : 0 ≤ szR (r).2.2 1048576) (by omega)
  have okr := sokr.1
  have sler : Sr ≤ 1048576 := by rw [HSr.out]; exact sokr.2
  clear sokr
  go_enter Tryd.func9, Tryd.ntmps9
  obtain ⟨⟨c2_0, c2_1, c2_2⟩, f2_0, f2_1, f2_2⟩ := box3 BX_pr_1.out
  go_wp2_with (fail)
  refine (szRelation_law 1048576 (hr.below hB1) hgr (by omega) (by omega)).mono ?_
  rintro e w2 ⟨he2, hb2⟩
  have hB2 := below_trans hB1 hb2 hB1.size
  clear c2_0 c2_1 c2_2 f2_0 f2_1 f2_2
  rw [← HSr.out] at he2
  subst he2
  have F3_pr_2 := Lib.hid (box_below BX_pr_1.out hb2)
  clear BX_pr_1
  obtain ⟨⟨c4_0, c4_1, c4_2⟩, f4_0, f4_1, f4_2⟩ := box3 F3_pr_2.out
  go_wp2_with (fail)
  refine (toRelation_law (hr.below hB2) okr).mono ?_
  rintro e w3 ⟨v3, fp3, rfl, o3, fr3, hb3⟩
  have hB3 := below_trans hB2 hb3 hB2.size
  clear c4_0 c4_1 c4_2 f4_0 f4_1 f4_2
  obtain ⟨A3, n3, c3, rfl⟩ := o3.shape
  have lt_ar := o3.lt
  go_wp2_with (fail)
  refine (sIsTotal_law p o3 okr).mono ?_
  rintro e w4 ⟨rfl, hb4⟩
  have hB4 := below_trans hB3 hb4 hB3.size
  have F5_pr_3 := Lib.hid (box_below F3_pr_2.out hb3)
  clear F3_pr_2
  have F6_pr_4 := Lib.hid (box_below F5_pr_3.out hb4)
  clear F5_pr_3
  obtain ⟨⟨c7_0, c7_1, c7_2⟩, f7_0, f7_1, f7_2⟩ := box3 F6_pr_4.out
  go_wp2_with (fail)
  refine (toRelation_law (hr.below hB4) okr).mono ?_
  rintro e w5 ⟨v5, fp5, rfl, o5, fr5, hb5⟩
  have hB5 := below_trans hB4 hb5 hB4.size
  clear c7_0 c7_1 c7_2 f7_0 f7_1 f7_2
  obtain ⟨A5, n5, c5, rfl⟩ := o5.shape
  have lt_xr := o5.lt
  have hb6 := below_alloc (w5) (.cells #[.int .i64 (r).1, .int .i64 (r).2.1, .slice A5 n5 c5] 51)
  have hB6 := below_trans hB5 hb6 hB5.size
  have bx6 := heap_alloc_new (w5) (.cells #[.int .i64 (r).1, .int .i64 (r).2.1, .slice A5 n5 c5] 51)
  have lt_bxr : LtL ((w5).alloc (.cells #[.int .i64 (r).1, .int .i64 (r).2.1, .slice A5 n5 c5] 51)).heap.size [(w5).heap.size] := fun b hb => by obtain rfl := List.mem_singleton.1 hb; exact box_lt bx6
  have fr_bxr : FreshL (w5).heap.size [(w5).heap.size] := fun b hb => by obtain rfl := List.mem_singleton.1 hb; exact Nat.le_refl _
  have BX_bxr_6 := Lib.hid bx6
  clear bx6
  have F8_xr_6 := o5.below hb6
  clear o5
  obtain ⟨⟨c9_0, c9_1, c9_2⟩, f9_0, f9_1, f9_2⟩ := box3 BX_bxr_6.out
  go_wp2_with (fail)
  refine (iIsTotal_law p F8_xr_6 okr (hT.below hB6 hT.lt)).mono ?_
  rintro e w7 ⟨rfl, hb7⟩
  have hB7 := below_trans hB6 hb7 hB6.size
  clear c9_0 c9_1 c9_2 f9_0 f9_1 f9_2
  have F10_bxr_7 := Lib.hid (box_below BX_bxr_6.out hb7)
  clear BX_bxr_6
  have F11_pr_5 := Lib.hid (box_below F6_pr_4.out hb5)
  clear F6_pr_4
  have F12_pr_6 := Lib.hid (box_below F11_pr_5.out hb6)
  clear F11_pr_5
  have F13_pr_7 := Lib.hid (box_below F12_pr_6.out hb7)
  clear F12_pr_6
  have F14_xr_7 := F8_xr_6.below hb7
  clear F8_xr_6
  go_wp2_with (fail)
  refine beginH (fun w' => w'.heap[(w5).heap.size]? = some (.cells #[.int .i64 (r).1, .int .i64 (r).2.1, .slice A5 n5 c5] 51) ∧ w'.heap[(w).heap.size]? = some (.cells #[.int .i64 (r).1, .int .i64 (r).2.1, .slice Ar nr cr] 45)) (by kernel_rfl) ?_
  have hb8 : Below (w7).heap.size (w7) (w7).drew := below_drewN (Below.refl _ _) 1
  have hB8 := below_trans hB7 hb8 hB7.size
  have F16_bxr_8 := Lib.hid (box_below F10_bxr_7.out hb8)
  clear F10_bxr_7
  have F17_pr_8 := Lib.hid (box_below F13_pr_7.out hb8)
  clear F13_pr_7
  have F18_xr_8 := F14_xr_7.below hb8
  clear F14_xr_7
  refine takeH 0 (v := ?_) rfl (by kernel_rfl) (by kernel_rfl) (by kernel_rfl) (fun _ _ _ h => h) ⟨F16_bxr_8.out, F17_pr_8.out⟩ (by rfl) (fun W' hW' => ?_) ?_; rotate_left; · (obtain ⟨q1, q2⟩ := hW'; obtain ⟨⟨ca0, ca1, ca2⟩, gca0, gca1, gca2⟩ := box3 q1; obtain ⟨⟨cb0, cb1, cb2⟩, gcb0, gcb1, gcb2⟩ := box3 q2; clear q1 q2; go_simp; first | done | with_reducible rfl)
  simp only [Act.put, List.setIfInBounds_toArray, List.set_cons_zero, List.set_cons_succ]
  refine takeH 1 (v := ?_) rfl (by kernel_rfl) (by kernel_rfl) (by kernel_rfl) (fun _ _ _ h => h) ⟨F16_bxr_8.out, F17_pr_8.out⟩ (by rfl) (fun W' hW' => ?_) ?_; rotate_left; · (obtain ⟨q1, q2⟩ := hW'; obtain ⟨⟨ca0, ca1, ca2⟩, gca0, gca1, gca2⟩ := box3 q1; obtain ⟨⟨cb0, cb1, cb2⟩, gcb0, gcb1, gcb2⟩ := box3 q2; clear q1 q2; go_simp; first | done | with_reducible rfl)
  simp only [Act.put, List.setIfInBounds_toArray, List.set_cons_zero, List.set_cons_succ]
  refine' callH 2 (f := _) (args := _) rfl (by kernel_rfl) (by rfl) ?_ ?_; rotate_left 2; · (go_simp; first | done | with_reducible rfl | (constructor <;> with_reducible rfl))
  refine (toRelation_law (hr.below hB8) okr).mono ?_
  rintro e w9 ⟨v9, fp9, rfl, o9, fr9, hb9⟩
  have hB9 := below_trans hB8 hb9 hB8.size
  have F19_bxr_9 := Lib.hid (box_below F16_bxr_8.out hb9)
  clear F16_bxr_8
  have F20_pr_9 := Lib.hid (box_below F17_pr_8.out hb9)
  clear F17_pr_8
  have F21_xr_9 := F18_xr_8.below hb9
  clear F18_xr_8
  refine ⟨_, rfl, ⟨F19_bxr_9.out, F20_pr_9.out⟩, ?_⟩
  simp only [Act.put, List.setIfInBounds_toArray, List.set_cons_zero, List.set_cons_succ]
  refine' callH 3 (f := _) (args := _) rfl (by kernel_rfl) (by rfl) ?_ ?_; rotate_left 2; · (go_simp; first | done | with_reducible rfl | (constructor <;> with_reducible rfl))
  refine (eqRelation_law F21_xr_9.rd o9.rd okr).mono ?_
  rintro e w10 ⟨rfl, hb10⟩
  have hB10 := below_trans hB9 hb10 hB9.size
  have F22_bxr_10 := Lib.hid (box_below F19_bxr_9.out hb10)
  clear F19_bxr_9
  have F23_pr_10 := Lib.hid (box_below F20_pr_9.out hb10)
  clear F20_pr_9
  have F24_xr_10 := F21_xr_9.below hb10
  clear F21_xr_9
  refine ⟨_, rfl, ⟨F22_bxr_10.out, F23_pr_10.out⟩, ?_⟩
  rw [decide_eq_true (rfl : r = r)]
  simp only [Act.put, List.setIfInBounds_toArray, List.set_cons_zero, List.set_cons_succ]
  refine takeH 4 (v := .bool false) rfl (by kernel_rfl) (by kernel_rfl) (by kernel_rfl) (fun _ _ _ h => h) ⟨F22_bxr_10.out, F23_pr_10.out⟩ (by rfl) (fun W' hW' => ?_) ?_; · (go_simp; first | done | with_reducible rfl)
  simp only [Act.put, List.setIfInBounds_toArray, List.set_cons_zero, List.set_cons_succ]
  refine doneH (by kernel_rfl) ?_
  go_wp2_with (fail)
  go_ret
  exact ⟨rfl, hB10⟩

set_option maxRecDepth 100000 in
theorem contractIsTotal (H : Type) (enc : TypeId × Value → H) (W : World) (args : Array Value) (ds gs : List (DataW H)) (before : List MemPlace)
    (hval : ∀ (j : Nat) t v, Tryd.f9.params[j]? = some t → args[j]? = some v → Value.okWide Tryd.prog W .any 0 t v)
    (hW : DataW.Whole enc Tryd.prog Tryd.f9.params.toList Rows.fnExactIsTotalSpec.vars false W args.toList ds gs before) (hL : laidMetH Tryd.prog Rows.fnExactIsTotalRow.laid W) :
    Calls Tryd.prog 9 args W fun e W' => ∃ v, e = .returned v ∧ Rows.fnExactIsTotalSpec.post enc Tryd.prog Tryd.f9 false true false false W args v W' := by
  have hW' := hW
  obtain ⟨p, q, hA0, hV, rfl, hfz, hnd⟩ := hW
  have hA : DataW.TrodAll enc Tryd.prog W 0 (fun _ => true) true Tryd.f9.params.toList args.toList ds p := hA0
  have hr : ∀ t ∈ Tryd.f9.params.toList, Tryd.prog.readableRec t = true ∧ t < Tryd.prog.types.size := by
    rw [Tryd.params9]
    intro t ht
    have ht' : t ∈ ([3, 45] : List TypeId) := ht
    rcases List.mem_cons.1 ht' with rfl | ht'
    · exact ⟨by kernel_rfl, of_decide_eq_true (by kernel_rfl)⟩
    rcases List.mem_cons.1 ht' with rfl | ht'
    · exact ⟨by kernel_rfl, of_decide_eq_true (by kernel_rfl)⟩
    cases ht'
  rw [Tryd.params9] at hA hval
  obtain ⟨v0, vs0, d0, ds0, p0, q0, hargs, rfl, rfl, t0, r0⟩ := trodAll_cons hA
  obtain ⟨v1, vs1, d1, ds1, p1, q1, rfl, rfl, rfl, t1, r1⟩ := trodAll_cons r0
  obtain ⟨rfl, rfl, rfl⟩ := trodAll_nil r1
  obtain rfl : args = #[v0, v1] := by cases args; simp_all
  obtain ⟨g, _, _, _, dg, pg, rfl, _⟩ := trodVars_one hV
  obtain ⟨x0, rfl, lo0, hi0⟩ := in_int (hval 0 _ v0 rfl rfl) t0
  obtain ⟨m1, hl1, hg1⟩ := in_Relation (hval 1 _ v1 rfl rfl) t1
  refine (lawIsTotal_any x0 v1 m1 W hl1 hg1 lo0 hi0 (tab_of_laid hL)).mono fun e W' ⟨he, hb⟩ => ?_
  subst he
  exact ⟨_, rfl, post_true laidOut hW' hb hr vars_ok rfl rfl Tryd.underlying4⟩

set_option maxRecDepth 100000 in
theorem liftedIsTotal (os : Os) (started : os.Started) (H : Type) (enc : TypeId × Value → H) (F : Stop.Interp) :
    ReturnsInHanded {} Tryd.checked os 9 .any ((OpenSpec.ofChange Rows.fnExactIsTotalSpec).preRow enc Tryd.prog Tryd.f9 Rows.fnExactIsTotalRow.domain false Rows.fnExactIsTotalRow.laid) (((OpenSpec.ofChange Rows.fnExactIsTotalSpec).at F).post enc Tryd.prog Tryd.f9 false true false false) := by
  obtain ⟨ds, gs, places, hx⟩ : ∃ ds gs places, DataW.whole enc Tryd.prog ((laidWorld os).forCall (fun _ _ => 0) ⟨#[], #[.int .i64 0, .agg #[.int .i64 0, .int .i64 0, .slice none 0 0]], []⟩).memory Tryd.f9.params.toList Rows.fnExactIsTotalSpec.vars false (#[.int .i64 0, .agg #[.int .i64 0, .int .i64 0, .slice none 0 0]] : Array Value).toList 8 = some (ds, gs, places) :=
    ⟨[.lit (.int .i64 0), .agg [.lit (.int .i64 0), .lit (.int .i64 0), .nil]], [Rows.laid_loop_example_g01073_impl_smallPrimes], MemPlace.row ⟨0, 0, none⟩ 4, by kernel_rfl⟩
  refine returnsInHanded_of_row (C := Tryd.checked) (s := OpenSpec.ofChange Rows.fnExactIsTotalSpec) own started (by kernel_rfl) Tryd.func9
    (witness_row_at (enc := enc) (C := Tryd.checked) false (laidWorld os) #[.int .i64 0, .agg #[.int .i64 0, .int .i64 0, .slice none 0 0]] rfl (by kernel_rfl) (by kernel_rfl) (by kernel_rfl)
      (OpenSpec.preRow_of_cond 8 hx (by kernel_rfl) (fun k hk => by cases hk) (by kernel_rfl) (laid_met os _))) ?_
  intro W base args ds gs before hval hW _ _ _ hL _ _
  exact contractIsTotal H enc W args ds gs before hval hW hL

theorem saidIsTotal : Rows.FnExactIsTotalSaid :=
  OpenClaim.holds_of_cond 9 Tryd.f9 rfl rfl rfl rfl rfl rfl rfl ⟨rfl, rfl, rfl, rfl, rfl⟩ rfl rfl rfl rfl rfl (by kernel_rfl) Tryd.func9 (by kernel_rfl)
    (of_decide_eq_true (by kernel_rfl)) (by unfold Func.isWrapper; first | (rw [if_pos (by decide +kernel)]; kernel_rfl) | (rw [if_neg (by decide +kernel)]; exact ⟨rfl, rfl⟩))
    (fun os started H enc _ F => by rw [OpenClaim.pre_eq_preRow]; exact liftedIsTotal os started H enc F)

theorem plainIsTotal (f : FuncId) (fn : Func) (hf : Tryd.pinned.checked.prog.funcNamed "loop.example/g01073/laws.FnExactIsTotal" = some f) (hfn : Tryd.pinned.checked.prog.funcs[f]? = some fn) :
    false = Tryd.pinned.checked.prog.looks [] ∧ ∀ (j : Nat) t, fn.params[j]? = some t → Tryd.pinned.checked.prog.wantsStandIn t = false := by
  obtain rfl : f = 9 := Option.some.inj ((show Tryd.prog.funcNamed "loop.example/g01073/laws.FnExactIsTotal" = some 9 by kernel_rfl).symm.trans hf) |>.symm
  obtain rfl : fn = Tryd.f9 := (Option.some.inj (Tryd.func9.symm.trans hfn)).symm
  refine ⟨by kernel_rfl, fun j t ht => ?_⟩
  rw [Tryd.params9] at ht
  have ht' : t ∈ ([3, 45] : List TypeId) := by have := Array.mem_of_getElem? ht; simpa using this
  rcases List.mem_cons.1 ht' with rfl | ht'
  · exact (show Tryd.prog.wantsStandIn 3 = false by kernel_rfl)
  rcases List.mem_cons.1 ht' with rfl | ht'
  · exact (show Tryd.prog.wantsStandIn 45 = false by kernel_rfl)
  cases ht'

theorem cardIsTotal : Rows.FnExactIsTotalCardSaid :=
  Claim7.holds_tied_plain_at .later [] _ _ _ _ saidIsTotal (fun _ h => by cases h) (by kernel_rfl) (fun _ h => by cases h) fnExactIsTotal_row_tie rfl ⟨rfl, rfl⟩ (by kernel_rfl) rfl plainIsTotal (by kernel_rfl)
#print axioms cardIsTotal
end Go.Proofs.YtpfidjegdpkhdaaDoor
