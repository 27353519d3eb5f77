/-
  The program's IsPoly returns what the reference's returns, for all arguments (laws.FnExactIsPoly answers true): the tied card.
-/
import Derived.Test.YtbgofkalanigfaaDoorPolyA
import Derived.Test.YtbgofkalanigfaaDoorFrame
namespace Go.Proofs.YtbgofkalanigfaaDoor
open Go.ChangeShapes Go.WideShapes Go.ChangeAt Go.RowKit

set_option maxHeartbeats 400000 in
theorem sIsPoly_any (p : Int) (A : Option Addr) (c : Nat) (l : List Int) (w : World) (h : RdI w A l) (hl : l.length ≤ 17592186044416) :
    Calls Tryd.prog 10 #[.int .i64 p, .slice A l.length c] w fun e w' => e = .returned (.bool (polyB p l)) ∧ w = w' := by
  go_enter Tryd.func10, Tryd.ntmps10
  go_wp2_with (go_at_call 28; refine (poGood_any _ _ _ _ _ h hl).mono ?_; rintro e w' ⟨rfl, rfl⟩)
  go_ret
  exact ⟨rfl, rfl⟩
set_option maxHeartbeats 400000 in
theorem iIsPoly_any (p : Int) (A : Option Addr) (c : Nat) (l : List Int) (w : World) (h : RdI w A l) (hl : l.length ≤ 17592186044416) (hT : Tab w) :
    Calls Tryd.prog 12 #[.int .i64 p, .slice A l.length c] w fun e w' => e = .returned (.bool (polyB p l)) ∧ w = w' := by
  go_enter Tryd.func12, Tryd.ntmps12
  go_wp2_with (go_at_call 29; refine (isPoly_any _ _ _ _ _ h hl hT).mono ?_; rintro e w' ⟨rfl, rfl⟩)
  go_ret
  exact ⟨rfl, rfl⟩

set_option maxHeartbeats 400000 in
theorem lawIsPoly_any (p : Int) (A : Option Addr) (c : Nat) (l : List Int) (w : World) (h : RdI w A l) (hT : Tab w) :
    Calls Tryd.prog 3 #[.int .i64 p, .slice A l.length c] w fun e w' => e = .returned (.bool true) ∧ Below w.heap.size w w' := by
  by_cases hlen : l.length ≤ 1048576
  · have hgt : ¬ (1048576 < (l.length : Int)) := by omega
    go_enter Tryd.func3, Tryd.ntmps3
    go_wp2_with (fail)
    refine (toIntS_any _ _ _ _ h (by omega)).mono ?_
    rintro e w1 ⟨A1, c1, rfl, h1, hf1, hb1⟩
    go_wp2_with (fail)
    refine (sIsPoly_any _ _ _ _ _ h1.rd (by omega)).mono ?_
    rintro e w' ⟨rfl, rfl⟩
    go_wp2_with (fail)
    refine (toIntS_any _ _ _ _ (h.below hb1) (by omega)).mono ?_
    rintro e w2 ⟨A2, c2, rfl, h2, hf2, hb2⟩
    have hT2 : Tab w2 := (hT.below hb1 hT.lt).below hb2 (Nat.lt_of_lt_of_le hT.lt hb1.size)
    go_wp2_with (fail)
    refine (iIsPoly_any _ _ _ _ _ h2.rd (by omega) hT2).mono ?_
    rintro e w' ⟨rfl, rfl⟩
    go_wp2_with (fail)
    have hb02 := below_trans hb1 hb2 hb1.size
    refine (toIntS_any _ _ _ _ (h.below hb02) (by omega)).mono ?_
    rintro e w3 ⟨A3, c3, rfl, h3, hf3, hb3⟩
    go_wp2_with (fail)
    refine (eqIntS_any _ _ _ _ _ _ _ (h2.below hb3).rd h3.rd (by omega)).mono ?_
    rintro e w4 ⟨rfl, n, rfl⟩
    have heq : decide (l = l) = true := by simp
    go_wp2_with (fail)
    all_goals go_ret
    exact ⟨rfl, below_drewN (below_trans hb02 hb3 hb02.size) n⟩
  · have hgt : 1048576 < (l.length : Int) := by omega
    go_enter Tryd.func3, Tryd.ntmps3
    go_wp2_with (fail)
    go_ret
    exact ⟨rfl, Below.refl _ _⟩

theorem contractIsPoly (H : Type) (enc : TypeId × Value → H) (W : World) (args : Array Value) (ds gs : List (DataW H)) (before : List MemPlace)
    (hval : ∀ (j : Nat) t v, Tryd.f3.params[j]? = some t → args[j]? = some v → Value.okWide Tryd.prog W .any 0 t v)
    (hW : DataW.Whole enc Tryd.prog Tryd.f3.params.toList Rows.fnExactIsPolySpec.vars false W args.toList ds gs before) (hL : laidMetH Tryd.prog Rows.fnExactIsPolyRow.laid W) :
    Calls Tryd.prog 3 args W fun e W' => ∃ v, e = .returned v ∧ Rows.fnExactIsPolySpec.post enc Tryd.prog Tryd.f3 false true false false W args v W' := by
  have hW' := hW
  obtain ⟨p, q, hA0, hV, rfl, hfz, hnd⟩ := hW
  have hA : DataW.TrodAll enc Tryd.prog W 0 (fun _ => true) true Tryd.f3.params.toList args.toList ds p := hA0
  have hr : ∀ t ∈ Tryd.f3.params.toList, Tryd.prog.readableRec t = true ∧ t < Tryd.prog.types.size := by
    rw [Tryd.params3]
    intro t ht
    simp at ht
    rcases ht with rfl | rfl <;> exact ⟨by kernel_rfl, of_decide_eq_true (by kernel_rfl)⟩
  rw [Tryd.params3] at hA hval
  obtain ⟨v0, vs0, d0, ds0, p0, q0, hargs, rfl, rfl, t0, r0⟩ := trodAll_cons hA
  obtain ⟨v1, vs1, d1, ds1, p1, q1, rfl, rfl, rfl, t1, r1⟩ := trodAll_cons r0
  obtain ⟨rfl, rfl, rfl⟩ := trodAll_nil r1
  obtain rfl : args = #[v0, v1] := by cases args; simp_all
  obtain ⟨g, _, _, _, dg, pg, rfl, _⟩ := trodVars_one hV
  obtain ⟨x0, rfl, hx0⟩ := in_int (hval 0 _ v0 rfl rfl) t0
  obtain ⟨A1, c1, l1, rfl, hl1⟩ := in_ints (hval 1 _ v1 rfl rfl) t1
  refine (lawIsPoly_any x0 A1 c1 l1 W hl1 (tab_of_laid hL)).mono fun e W' ⟨he, hb⟩ => ?_
  subst he
  exact ⟨_, rfl, post_true laidOut hW' hb hr vars_ok rfl rfl Tryd.underlying4⟩

set_option maxRecDepth 100000 in
theorem liftedIsPoly (os : Os) (started : os.Started) (H : Type) (enc : TypeId × Value → H) (F : Stop.Interp) :
    ReturnsInHanded {} Tryd.checked os 3 .any ((OpenSpec.ofChange Rows.fnExactIsPolySpec).preRow enc Tryd.prog Tryd.f3 Rows.fnExactIsPolyRow.domain false Rows.fnExactIsPolyRow.laid) (((OpenSpec.ofChange Rows.fnExactIsPolySpec).at F).post enc Tryd.prog Tryd.f3 false true false false) := by
  obtain ⟨ds, gs, places, hx⟩ : ∃ ds gs places, DataW.whole enc Tryd.prog ((laidWorld os).forCall (fun _ _ => 0) ⟨#[], #[.int .i64 0, .slice none 0 0], []⟩).memory Tryd.f3.params.toList Rows.fnExactIsPolySpec.vars false #[Value.int .i64 0, .slice none 0 0].toList 8 = some (ds, gs, places) :=
    ⟨[.lit (.int .i64 0), .nil], [Rows.laid_loop_example_g01073_impl_smallPrimes], MemPlace.row ⟨0, 0, none⟩ 4, by kernel_rfl⟩
  refine returnsInHanded_of_row (C := Tryd.checked) (s := OpenSpec.ofChange Rows.fnExactIsPolySpec) own started (by kernel_rfl) Tryd.func3
    (witness_row_at (enc := enc) (C := Tryd.checked) false (laidWorld os) #[.int .i64 0, .slice none 0 0] rfl (by kernel_rfl) (by kernel_rfl) (by kernel_rfl)
      (OpenSpec.preRow_of_cond 8 hx (by kernel_rfl) (fun k hk => by cases hk) (by kernel_rfl) (laid_met os _))) ?_
  intro W base args ds gs before hval hW _ _ _ hL _ _
  exact contractIsPoly H enc W args ds gs before hval hW hL

theorem saidIsPoly : Rows.FnExactIsPolySaid :=
  OpenClaim.holds_of_cond 3 Tryd.f3 rfl rfl rfl rfl rfl rfl rfl ⟨rfl, rfl, rfl, rfl, rfl⟩ rfl rfl rfl rfl rfl (by kernel_rfl) Tryd.func3 (by kernel_rfl)
    (of_decide_eq_true (by kernel_rfl)) (by unfold Func.isWrapper; first | (rw [if_pos (by decide +kernel)]; kernel_rfl) | (rw [if_neg (by decide +kernel)]; exact ⟨rfl, rfl⟩))
    (fun os started H enc _ F => by rw [OpenClaim.pre_eq_preRow]; exact liftedIsPoly os started H enc F)

theorem plainIsPoly (f : FuncId) (fn : Func) (hf : Tryd.pinned.checked.prog.funcNamed "loop.example/g01073/laws.FnExactIsPoly" = some f) (hfn : Tryd.pinned.checked.prog.funcs[f]? = some fn) :
    false = Tryd.pinned.checked.prog.looks [] ∧ ∀ (j : Nat) t, fn.params[j]? = some t → Tryd.pinned.checked.prog.wantsStandIn t = false := by
  obtain rfl : f = 3 := Option.some.inj ((show Tryd.prog.funcNamed "loop.example/g01073/laws.FnExactIsPoly" = some 3 by kernel_rfl).symm.trans hf) |>.symm
  obtain rfl : fn = Tryd.f3 := (Option.some.inj (Tryd.func3.symm.trans hfn)).symm
  refine ⟨by kernel_rfl, fun j t ht => ?_⟩
  rw [Tryd.params3] at ht
  have := Array.mem_of_getElem? ht
  simp at this
  rcases this with rfl | rfl
  · exact (show Tryd.prog.wantsStandIn 3 = false by kernel_rfl)
  · exact (show Tryd.prog.wantsStandIn 22 = false by kernel_rfl)

theorem cardIsPoly : Rows.FnExactIsPolyCardSaid :=
  Claim7.holds_tied_plain_at .later [] _ _ _ _ saidIsPoly (fun _ h => by cases h) (by kernel_rfl) (fun _ h => by cases h) fnExactIsPoly_row_tie rfl ⟨rfl, rfl⟩ (by kernel_rfl) rfl plainIsPoly (by kernel_rfl)
#print axioms cardIsPoly
end Go.Proofs.YtbgofkalanigfaaDoor
