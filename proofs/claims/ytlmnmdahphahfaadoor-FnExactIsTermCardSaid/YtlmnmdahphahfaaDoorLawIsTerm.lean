/-
  The program's IsTerm returns what the reference's returns, for all arguments (laws.FnExactIsTerm answers true). No condition.
-/
import Derived.Test.YtlmnmdahphahfaaDoorTmGp
import Derived.Test.YtlmnmdahphahfaaDoorFrameD
import Derived.Test.YtlmnmdahphahfaaDoorRegT
namespace Go.Proofs.YtlmnmdahphahfaaDoor
open Go.ChangeShapes Go.WideShapes Go.ChangeAt Go.RowKit

abbrev tTermL : TypeId := 24
theorem RdTm.shape {w : World} {v : Value} {l : List Nd} (h : RdTm w v l) : ∃ A n c, v = .agg #[.slice A n c] := by
  obtain ⟨A, c, rfl, _⟩ := h; exact ⟨A, _, c, rfl⟩
set_option maxRecDepth 100000 in
set_option maxHeartbeats 4000000 in
theorem lawIsTerm_any (p : Int) (v : Value) (l : List Nd) (w : World) (h : RdTm w v l) (hB : BigTm l) (hT : Tab w) :
    Calls Tryd.prog 3 #[.int .i64 p, v] w fun e w' => e = .returned (.bool true) ∧ Below w.heap.size w w' := by
  obtain ⟨A, n, c, rfl⟩ := h.shape
  have hb0 := below_alloc w (.cells #[.slice A n c] tTermL)
  have k0 := heap_alloc_new w (.cells #[.slice A n c] tTermL)
  have hS := szTerm_any 1048576 (h.below hb0) hB (by omega) (by omega)
  obtain ⟨S, hSe⟩ : ∃ S, S = szNS l 1048576 := ⟨_, rfl⟩
  rw [← hSe] at hS
  by_cases hneg : S < 0
  · have hS_h := Lib.hid hS
    have hSe_h := Lib.hid hSe
    have hb0_h := Lib.hid hb0
    have k0_h := Lib.hid k0
    have hT_h := Lib.hid hT
    clear hS hSe hb0 k0 hT
    clear h hB
    go_enter Tryd.func3, Tryd.ntmps3
    go_wp2_with (fail)
    refine (hS_h.out).mono ?_
    rintro e w1 ⟨rfl, hb1⟩
    go_wp2_with (fail)
    go_ret
    exact ⟨rfl, below_trans hb0_h.out hb1 hb0_h.out.size⟩
  · have hlen := (szNS_ok (l := l) (left := 1048576) (by omega) (by omega)).1
    obtain ⟨T, hG⟩ : ∃ T, T = goodM p l := ⟨_, rfl⟩
    have hS_h := Lib.hid hS
    have hSe_h := Lib.hid hSe
    have hb0_h := Lib.hid hb0
    have k0_h := Lib.hid k0
    have hG_h := Lib.hid hG
    have hT_h := Lib.hid hT
    clear hS hSe hb0 k0 hG hT
    clear hB
    go_enter Tryd.func3, Tryd.ntmps3
    go_wp2_with (fail)
    refine (hS_h.out).mono ?_
    rintro e w1 ⟨rfl, hb1⟩
    have hB1 := below_trans hb0_h.out hb1 hb0_h.out.size
    have k1 := box_below k0_h.out hb1
    obtain ⟨c1, f1⟩ := bx1 k1
    have hB1_h := Lib.hid hB1
    have k1_h := Lib.hid k1
    clear hB1 k1
    clear hb1 hS_h
    go_wp2_with (fail)
    refine (toTerm_any (h.below hB1_h.out) hlen).mono ?_
    rintro e w2 ⟨v2, fp2, rfl, o2, fr2, hb2⟩
    go_wp2_with (fail)
    refine (sIsTerm_any p o2.rd).mono ?_
    rintro e w3 ⟨rfl, hb3⟩
    rw [← hG_h.out]
    have hB3 := below_trans (below_trans hB1_h.out hb2 hB1_h.out.size) hb3 (Nat.le_trans hB1_h.out.size hb2.size)
    have k3 := box_below (box_below k1_h.out hb2) hb3
    clear c1 f1
    obtain ⟨c1, f1⟩ := bx1 k3
    have hB3_h := Lib.hid hB3
    have k3_h := Lib.hid k3
    clear hB3 k3
    clear o2 fr2 hb2 hb3 hB1_h k1_h
    go_wp2_with (fail)
    refine (toTerm_any (h.below hB3_h.out) hlen).mono ?_
    rintro e w4 ⟨v4, fp4, rfl, o4, fr4, hb4⟩
    obtain ⟨A4, n4, c4, rfl⟩ := o4.rd.shape
    have hB4 := below_trans hB3_h.out hb4 hB3_h.out.size
    have hba := below_alloc w4 (.cells #[.slice A4 n4 c4] tTerm)
    have kx := heap_alloc_new w4 (.cells #[.slice A4 n4 c4] tTerm)
    have hBa := below_trans hB4 hba hB4.size
    have hI := iIsTerm_any p (w := w4.alloc (.cells #[.slice A4 n4 c4] tTerm)) (o4.rd.below hba) (hT_h.out.below hBa hT_h.out.lt)
    rw [← hG_h.out] at hI
    have k4 := box_below k3_h.out hb4
    have o4' := o4
    have hlt4 := box_lt k4
    clear c1 f1 o4 fr4
    obtain ⟨c1, f1⟩ := bx1 k4
    have hB4_h := Lib.hid hB4
    have hba_h := Lib.hid hba
    have kx_h := Lib.hid kx
    have hI_h := Lib.hid hI
    have k4_h := Lib.hid k4
    have o4'_h := Lib.hid o4'
    have hBa_h := Lib.hid hBa
    clear hB4 hba kx hI k4 o4' hBa
    clear hb4 hB3_h k3_h
    go_wp2_with (fail)
    refine (hI_h.out).mono ?_
    rintro e w5 ⟨rfl, hb5⟩
    have hB5 := below_trans (below_trans hB4_h.out hba_h.out hB4_h.out.size) hb5 (Nat.le_trans hB4_h.out.size hba_h.out.size)
    have k5 := box_below (box_below k4_h.out hba_h.out) hb5
    have kx5 := box_below kx_h.out hb5
    have o5 := ((o4'_h.out.rd.below hba_h.out).below hb5)
    clear c1 f1 hlt4
    have hB5_h := Lib.hid hB5
    have k5_h := Lib.hid k5
    have kx5_h := Lib.hid kx5
    have o5_h := Lib.hid o5
    clear hB5 k5 kx5 o5
    clear hb5 hI_h hB4_h hba_h kx_h k4_h o4'_h hBa_h
    go_wp2_with (fail)
    refine beginB (by kernel_rfl) (fun W1 hW1 => ?_)
    have hbw : Below w5.heap.size w5 W1 := by rw [hW1]; exact below_drew (Below.refl _ _)
    have kk := box_below k5_h.out hbw
    have kkx := box_below kx5_h.out hbw
    have oo := o5_h.out.below hbw
    have hB6 := below_trans hB5_h.out hbw hB5_h.out.size
    clear hW1 hbw
    have kk_h := Lib.hid kk
    have kkx_h := Lib.hid kkx
    have oo_h := Lib.hid oo
    have hB6_h := Lib.hid hB6
    clear kk kkx oo hB6
    refine takeH 0 (v := ?_) rfl (by kernel_rfl) (by kernel_rfl) (by kernel_rfl) (fun _ _ _ h => h) (Below.refl _ _) (by rfl) (fun W' hW' => ?_) ?_; rotate_left; · (obtain ⟨c1, f1⟩ := bx1 (box_below kk_h.out hW'); obtain ⟨c2, f2⟩ := bx1 (box_below kkx_h.out hW'); clear hW'; go_simp; first | done | with_reducible rfl)
    simp only [Act.put, List.setIfInBounds_toArray, List.set_cons_zero, List.set_cons_succ]
    refine takeH 1 (v := ?_) rfl (by kernel_rfl) (by kernel_rfl) (by kernel_rfl) (fun _ _ _ h => h) (Below.refl _ _) (by rfl) (fun W' hW' => ?_) ?_; rotate_left; · (obtain ⟨c1, f1⟩ := bx1 (box_below kk_h.out hW'); obtain ⟨c2, f2⟩ := bx1 (box_below kkx_h.out hW'); clear hW'; go_simp; first | done | with_reducible rfl)
    simp only [Act.put, List.setIfInBounds_toArray, List.set_cons_zero, List.set_cons_succ]
    refine' callH 2 (f := _) (args := _) rfl (by kernel_rfl) (by rfl) ?_ ?_; rotate_left 2; · (go_simp; first | done | with_reducible rfl | (constructor <;> with_reducible rfl))
    refine (toTerm_any (h.below hB6_h.out) hlen).mono ?_
    rintro e w7 ⟨v7, fp7, rfl, o7, fr7, hb7⟩
    refine ⟨_, rfl, hb7, ?_⟩
    simp only [Act.put, List.setIfInBounds_toArray, List.set_cons_zero, List.set_cons_succ]
    refine' callH 3 (f := _) (args := _) rfl (by kernel_rfl) (by rfl) ?_ ?_; rotate_left 2; · (go_simp; first | done | with_reducible rfl | (constructor <;> with_reducible rfl))
    refine (eqTerm_any (oo_h.out.below hb7) o7.rd hlen).mono ?_
    rintro e w8 ⟨bq, rfl, hbq, hb8⟩
    obtain rfl : bq = true := hbq.2 rfl
    have hb78 := hb7.trans (hb8.mono hb7.size)
    have hB8 := below_trans hB6_h.out hb78 hB6_h.out.size
    refine ⟨_, rfl, hb78, ?_⟩
    have hB8_h := Lib.hid hB8
    clear hB8
    clear hbq o7 fr7
    simp only [Act.put, List.setIfInBounds_toArray, List.set_cons_zero, List.set_cons_succ]
    refine takeH 4 (v := ?_) rfl (by kernel_rfl) (by kernel_rfl) (by kernel_rfl) (fun _ _ _ h => h) hb78 (by rfl) (fun W' hW' => ?_) ?_; rotate_left; · (skip; clear hW'; go_simp; first | done | with_reducible rfl)
    simp only [Act.put, List.setIfInBounds_toArray, List.set_cons_zero, List.set_cons_succ]
    refine doneH (by kernel_rfl) ?_
    go_wp2_with (fail)
    go_ret
    exact ⟨rfl, hB8_h.out⟩

theorem contractIsTerm (H : Type) (enc : TypeId × Value → H) (W : World) (args : Array Value) (ds gs : List (DataW H)) (before : List MemPlace)
    (hval : ∀ (j : Nat) t v, Tryd.f3.params[j]? = some t → args[j]? = some v → Value.okWide Tryd.prog W .any 0 t v)
    (hW : DataW.Whole enc Tryd.prog Tryd.f3.params.toList Rows.fnExactIsTermSpec.vars false W args.toList ds gs before) (hL : laidMetH Tryd.prog Rows.fnExactIsTermRow.laid W) :
    Calls Tryd.prog 3 args W fun e W' => ∃ v, e = .returned v ∧ Rows.fnExactIsTermSpec.post enc Tryd.prog Tryd.f3 false true false false W args v W' := by
  have hW' := hW
  obtain ⟨p, q, hA0, hV, rfl, hfz, hnd⟩ := hW
  have hA : DataW.TrodAll enc Tryd.prog W 0 (fun _ => true) true Tryd.f3.params.toList args.toList ds p := hA0
  have hr : ∀ t ∈ Tryd.f3.params.toList, Tryd.prog.readableRec t = true ∧ t < Tryd.prog.types.size := by
    rw [Tryd.params3]
    intro t ht
    simp at ht
    rcases ht with rfl | rfl <;> exact ⟨by kernel_rfl, of_decide_eq_true (by kernel_rfl)⟩
  rw [Tryd.params3] at hA hval
  obtain ⟨v0, vs0, d0, ds0, p0, q0, hargs, rfl, rfl, t0, r0⟩ := trodAll_cons hA
  obtain ⟨v1, vs1, d1, ds1, p1, q1, rfl, rfl, rfl, t1, r1⟩ := trodAll_cons r0
  obtain ⟨rfl, rfl, rfl⟩ := trodAll_nil r1
  obtain rfl : args = #[v0, v1] := by cases args; simp_all
  obtain ⟨g, _, _, _, dg, pg, rfl, _⟩ := trodVars_one hV
  obtain ⟨x0, rfl, hx0⟩ := in_int (hval 0 _ v0 rfl rfl) t0
  obtain ⟨l1, hl1, hg1⟩ := in_Term (hval 1 _ v1 rfl rfl) t1
  refine (lawIsTerm_any x0 v1 l1 W hl1 hg1 (tab_of_laid hL)).mono fun e W' ⟨he, hb⟩ => ?_
  subst he
  exact ⟨_, rfl, post_true laidOut hW' hb hr vars_ok rfl rfl Tryd.underlying4⟩

set_option maxRecDepth 100000 in
theorem liftedIsTerm (os : Os) (started : os.Started) (H : Type) (enc : TypeId × Value → H) (F : Stop.Interp) :
    ReturnsInHanded {} Tryd.checked os 3 .any ((OpenSpec.ofChange Rows.fnExactIsTermSpec).preRow enc Tryd.prog Tryd.f3 Rows.fnExactIsTermRow.domain false Rows.fnExactIsTermRow.laid) (((OpenSpec.ofChange Rows.fnExactIsTermSpec).at F).post enc Tryd.prog Tryd.f3 false true false false) := by
  obtain ⟨ds, gs, places, hx⟩ : ∃ ds gs places, DataW.whole enc Tryd.prog ((laidWorld os).forCall (fun _ _ => 0) ⟨#[], #[.int .i64 0, .agg #[.slice none 0 0]], []⟩).memory Tryd.f3.params.toList Rows.fnExactIsTermSpec.vars false #[Value.int .i64 0, .agg #[.slice none 0 0]].toList 8 = some (ds, gs, places) :=
    ⟨[.lit (.int .i64 0), .agg [.nil]], [Rows.laid_loop_example_g01073_impl_smallPrimes], MemPlace.row ⟨0, 0, none⟩ 4, by kernel_rfl⟩
  refine returnsInHanded_of_row (C := Tryd.checked) (s := OpenSpec.ofChange Rows.fnExactIsTermSpec) own started (by kernel_rfl) Tryd.func3
    (witness_row_at (enc := enc) (C := Tryd.checked) false (laidWorld os) #[.int .i64 0, .agg #[.slice none 0 0]] rfl (by kernel_rfl) (by kernel_rfl) (by kernel_rfl)
      (OpenSpec.preRow_of_cond 8 hx (by kernel_rfl) (fun k hk => by cases hk) (by kernel_rfl) (laid_met os _))) ?_
  intro W base args ds gs before hval hW _ _ _ hL _ _
  exact contractIsTerm H enc W args ds gs before hval hW hL

theorem saidIsTerm : Rows.FnExactIsTermSaid :=
  OpenClaim.holds_of_cond 3 Tryd.f3 rfl rfl rfl rfl rfl rfl rfl ⟨rfl, rfl, rfl, rfl, rfl⟩ rfl rfl rfl rfl rfl (by kernel_rfl) Tryd.func3 (by kernel_rfl)
    (of_decide_eq_true (by kernel_rfl)) (by unfold Func.isWrapper; first | (rw [if_pos (by decide +kernel)]; kernel_rfl) | (rw [if_neg (by decide +kernel)]; exact ⟨rfl, rfl⟩))
    (fun os started H enc _ F => by rw [OpenClaim.pre_eq_preRow]; exact liftedIsTerm os started H enc F)

theorem plainIsTerm (f : FuncId) (fn : Func) (hf : Tryd.pinned.checked.prog.funcNamed "loop.example/g01073/laws.FnExactIsTerm" = some f) (hfn : Tryd.pinned.checked.prog.funcs[f]? = some fn) :
    false = Tryd.pinned.checked.prog.looks [] ∧ ∀ (j : Nat) t, fn.params[j]? = some t → Tryd.pinned.checked.prog.wantsStandIn t = false := by
  obtain rfl : f = 3 := Option.some.inj ((show Tryd.prog.funcNamed "loop.example/g01073/laws.FnExactIsTerm" = some 3 by kernel_rfl).symm.trans hf) |>.symm
  obtain rfl : fn = Tryd.f3 := (Option.some.inj (Tryd.func3.symm.trans hfn)).symm
  refine ⟨by kernel_rfl, fun j t ht => ?_⟩
  rw [Tryd.params3] at ht
  have := Array.mem_of_getElem? ht
  simp at this
  rcases this with rfl | rfl
  · exact (show Tryd.prog.wantsStandIn 3 = false by kernel_rfl)
  · exact (show Tryd.prog.wantsStandIn 24 = false by kernel_rfl)

theorem cardIsTerm : Rows.FnExactIsTermCardSaid :=
  Claim7.holds_tied_plain_at .later [] _ _ _ _ saidIsTerm (fun _ h => by cases h) (by kernel_rfl) (fun _ h => by cases h) fnExactIsTerm_row_tie rfl ⟨rfl, rfl⟩ (by kernel_rfl) rfl plainIsTerm (by kernel_rfl)
#print axioms cardIsTerm
end Go.Proofs.YtlmnmdahphahfaaDoor
