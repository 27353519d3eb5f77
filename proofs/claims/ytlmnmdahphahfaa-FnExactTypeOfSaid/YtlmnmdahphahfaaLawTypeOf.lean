/-
  The law laws.FnExactTypeOf: for every term the program's TypeOf returns what the reference's returns, and its argument is left as it was. No condition.
-/
import Derived.Test.YtlmnmdahphahfaaTmV
import Derived.Test.YtlmnmdahphahfaaTmQ
namespace Go.Proofs.Ytlmnmdahphahfaa
open Go.ChangeShapes Go.WideShapes Go.ChangeAt Go.RowKit

abbrev tTermL : TypeId := 24
theorem RdTm.shape {w : World} {v : Value} {l : List Nd} (h : RdTm w v l) : ∃ A n c, v = .agg #[.slice A n c] := by
  obtain ⟨A, c, rfl, _⟩ := h; exact ⟨A, _, c, rfl⟩
set_option maxRecDepth 100000 in
set_option maxHeartbeats 4000000 in
theorem lawTypeOf_any (v : Value) (l : List Nd) (w : World) (h : RdTm w v l) (hB : BigTm l) :
    Calls Try.prog 3 #[v] w fun e w' => e = .returned (.bool true) ∧ Below w.heap.size w w' := by
  obtain ⟨A, n, c, rfl⟩ := h.shape
  have hb0 := below_alloc w (.cells #[.slice A n c] tTermL)
  have k0 := heap_alloc_new w (.cells #[.slice A n c] tTermL)
  have hS := szTerm_any 1048576 (h.below hb0) hB (by omega) (by omega)
  obtain ⟨S, hSe⟩ : ∃ S, S = szNS l 1048576 := ⟨_, rfl⟩
  rw [← hSe] at hS
  by_cases hneg : S < 0
  · have hS_h := Lib.hid hS
    have hSe_h := Lib.hid hSe
    have hb0_h := Lib.hid hb0
    have k0_h := Lib.hid k0
    clear hS hSe hb0 k0
    clear h hB
    go_enter Try.func3, Try.ntmps3
    go_wp2_with (fail)
    refine (hS_h.out).mono ?_
    rintro e w1 ⟨rfl, hb1⟩
    go_wp2_with (fail)
    go_ret
    exact ⟨rfl, below_trans hb0_h.out hb1 hb0_h.out.size⟩
  · have hlen := (szNS_ok (l := l) (left := 1048576) (by omega) (by omega)).1
    obtain ⟨T, hT⟩ : ∃ T, T = typeM l := ⟨_, rfl⟩
    obtain ⟨i, o, b⟩ := T
    have hS_h := Lib.hid hS
    have hSe_h := Lib.hid hSe
    have hb0_h := Lib.hid hb0
    have k0_h := Lib.hid k0
    have hT_h := Lib.hid hT
    clear hS hSe hb0 k0 hT
    clear hB
    go_enter Try.func3, Try.ntmps3
    go_wp2_with (fail)
    refine (hS_h.out).mono ?_
    rintro e w1 ⟨rfl, hb1⟩
    have hB1 := below_trans hb0_h.out hb1 hb0_h.out.size
    have k1 := box_below k0_h.out hb1
    obtain ⟨c1, f1⟩ := bx1 k1
    have hB1_h := Lib.hid hB1
    have k1_h := Lib.hid k1
    clear hB1 k1
    clear hb1 hS_h
    go_wp2_with (fail)
    refine (toTerm_any (h.below hB1_h.out) hlen).mono ?_
    rintro e w2 ⟨v2, fp2, rfl, o2, fr2, hb2⟩
    go_wp2_with (fail)
    refine (sTypeOf_any o2.rd).mono ?_
    rintro e w3 ⟨rfl, hb3⟩
    rw [← hT_h.out]
    have hB3 := below_trans (below_trans hB1_h.out hb2 hB1_h.out.size) hb3 (Nat.le_trans hB1_h.out.size hb2.size)
    have k3 := box_below (box_below k1_h.out hb2) hb3
    clear c1 f1
    obtain ⟨c1, f1⟩ := bx1 k3
    have hB3_h := Lib.hid hB3
    have k3_h := Lib.hid k3
    clear hB3 k3
    clear o2 fr2 hb2 hb3 hB1_h k1_h
    go_wp2_with (fail)
    refine (toTerm_any (h.below hB3_h.out) hlen).mono ?_
    rintro e w4 ⟨v4, fp4, rfl, o4, fr4, hb4⟩
    obtain ⟨A4, n4, c4, rfl⟩ := o4.rd.shape
    have hB4 := below_trans hB3_h.out hb4 hB3_h.out.size
    have hba := below_alloc w4 (.cells #[.slice A4 n4 c4] tTerm)
    have kx := heap_alloc_new w4 (.cells #[.slice A4 n4 c4] tTerm)
    have hI := iTypeOf_any (w := w4.alloc (.cells #[.slice A4 n4 c4] tTerm)) (o4.rd.below hba)
    rw [← hT_h.out] at hI
    have k4 := box_below k3_h.out hb4
    have o4' := o4
    have hlt4 := box_lt k4
    clear c1 f1 o4 fr4
    obtain ⟨c1, f1⟩ := bx1 k4
    have hB4_h := Lib.hid hB4
    have hba_h := Lib.hid hba
    have kx_h := Lib.hid kx
    have hI_h := Lib.hid hI
    have k4_h := Lib.hid k4
    have o4'_h := Lib.hid o4'
    clear hB4 hba kx hI k4 o4'
    clear hb4 hB3_h k3_h
    go_wp2_with (fail)
    refine (hI_h.out).mono ?_
    rintro e w5 ⟨rfl, hb5⟩
    have hB5 := below_trans (below_trans hB4_h.out hba_h.out hB4_h.out.size) hb5 (Nat.le_trans hB4_h.out.size hba_h.out.size)
    have k5 := box_below (box_below k4_h.out hba_h.out) hb5
    have kx5 := box_below kx_h.out hb5
    have o5 := ((o4'_h.out.rd.below hba_h.out).below hb5)
    clear c1 f1 hlt4
    have hB5_h := Lib.hid hB5
    have k5_h := Lib.hid k5
    have kx5_h := Lib.hid kx5
    have o5_h := Lib.hid o5
    clear hB5 k5 kx5 o5
    clear hb5 hI_h hB4_h hba_h kx_h k4_h o4'_h
    go_wp2_with (fail)
    refine beginB (by kernel_rfl) (fun W1 hW1 => ?_)
    have hbw : Below w5.heap.size w5 W1 := by rw [hW1]; exact below_drew (Below.refl _ _)
    have kk := box_below k5_h.out hbw
    have kkx := box_below kx5_h.out hbw
    have oo := o5_h.out.below hbw
    have hB6 := below_trans hB5_h.out hbw hB5_h.out.size
    clear hW1 hbw
    have kk_h := Lib.hid kk
    have kkx_h := Lib.hid kkx
    have oo_h := Lib.hid oo
    have hB6_h := Lib.hid hB6
    clear kk kkx oo hB6
    refine takeH 0 (v := ?_) rfl (by kernel_rfl) (by kernel_rfl) (by kernel_rfl) (fun _ _ _ h => h) (Below.refl _ _) (by rfl) (fun W' hW' => ?_) ?_; rotate_left; · (obtain ⟨c1, f1⟩ := bx1 (box_below kk_h.out hW'); obtain ⟨c2, f2⟩ := bx1 (box_below kkx_h.out hW'); clear hW'; go_simp; first | done | with_reducible rfl)
    simp only [Act.put, List.setIfInBounds_toArray, List.set_cons_zero, List.set_cons_succ]
    refine takeH 1 (v := ?_) rfl (by kernel_rfl) (by kernel_rfl) (by kernel_rfl) (fun _ _ _ h => h) (Below.refl _ _) (by rfl) (fun W' hW' => ?_) ?_; rotate_left; · (obtain ⟨c1, f1⟩ := bx1 (box_below kk_h.out hW'); obtain ⟨c2, f2⟩ := bx1 (box_below kkx_h.out hW'); clear hW'; go_simp; first | done | with_reducible rfl)
    simp only [Act.put, List.setIfInBounds_toArray, List.set_cons_zero, List.set_cons_succ]
    refine' callH 2 (f := _) (args := _) rfl (by kernel_rfl) (by rfl) ?_ ?_; rotate_left 2; · (go_simp; first | done | with_reducible rfl | (constructor <;> with_reducible rfl))
    refine (toTerm_any (h.below hB6_h.out) hlen).mono ?_
    rintro e w7 ⟨v7, fp7, rfl, o7, fr7, hb7⟩
    refine ⟨_, rfl, hb7, ?_⟩
    simp only [Act.put, List.setIfInBounds_toArray, List.set_cons_zero, List.set_cons_succ]
    refine' callH 3 (f := _) (args := _) rfl (by kernel_rfl) (by rfl) ?_ ?_; rotate_left 2; · (go_simp; first | done | with_reducible rfl | (constructor <;> with_reducible rfl))
    refine (eqTerm_any (oo_h.out.below hb7) o7.rd hlen).mono ?_
    rintro e w8 ⟨bq, rfl, hbq, hb8⟩
    obtain rfl : bq = true := hbq.2 rfl
    have hb78 := hb7.trans (hb8.mono hb7.size)
    have hB8 := below_trans hB6_h.out hb78 hB6_h.out.size
    refine ⟨_, rfl, hb78, ?_⟩
    have hB8_h := Lib.hid hB8
    clear hB8
    clear hbq o7 fr7
    simp only [Act.put, List.setIfInBounds_toArray, List.set_cons_zero, List.set_cons_succ]
    refine takeH 4 (v := ?_) rfl (by kernel_rfl) (by kernel_rfl) (by kernel_rfl) (fun _ _ _ h => h) hb78 (by rfl) (fun W' hW' => ?_) ?_; rotate_left; · (skip; clear hW'; go_simp; first | done | with_reducible rfl)
    simp only [Act.put, List.setIfInBounds_toArray, List.set_cons_zero, List.set_cons_succ]
    refine doneH (by kernel_rfl) ?_
    go_wp2_with (fail)
    go_ret
    exact ⟨rfl, hB8_h.out⟩

theorem readTypeOf : ∀ t ∈ Try.f3.params.toList, Try.prog.readableRec t = true ∧ t < Try.prog.types.size := by
  rw [Try.params3]
  intro t ht
  have ht' : t ∈ ([24] : List TypeId) := ht
  rcases List.mem_cons.1 ht' with rfl | ht'
  · exact ⟨by kernel_rfl, of_decide_eq_true (by kernel_rfl)⟩
  · cases ht'
set_option maxRecDepth 100000 in
theorem liftedTypeOf (os : Os) (started : os.Started) (H : Type) (enc : TypeId × Value → H) :
    ReturnsInHanded {} Try.checked os 3 .any (Rows.fnExactTypeOfSpec.pre6 enc Try.prog Try.f3 Rows.fnExactTypeOfRow.domain false) (Rows.fnExactTypeOfSpec.post enc Try.prog Try.f3 false true false false) := by
  refine returnsInHanded_of_change (C := Try.checked) own started (by kernel_rfl) Try.func3
    (ChangeSpec.witness6 (enc := enc) (C := Try.checked) false ⟨#[], #[.agg #[.slice none 0 0]], []⟩ 8 (by kernel_rfl) (by kernel_rfl) (by kernel_rfl) (by kernel_rfl)) ?_
  intro W base args ds gs before hval0 hW hcnd _
  have hval : ∀ (j : Nat) t v, Try.f3.params[j]? = some t → args[j]? = some v → Value.okWide Try.prog W .any base t v := hval0
  have hW' := hW
  obtain ⟨p, q, hA0, hV, rfl, hfz, hnd⟩ := hW
  have hA : DataW.TrodAll enc Try.prog W 0 (fun _ => true) true Try.f3.params.toList args.toList ds p := hA0
  rw [Try.params3] at hA hval
  obtain ⟨v0, vs0, d0, ds0, p0, q0, hargs, rfl, rfl, t0, r0⟩ := trodAll_cons hA
  obtain ⟨rfl, rfl, rfl⟩ := trodAll_nil r0
  obtain rfl : args = #[v0] := by cases args; simp_all
  obtain ⟨rfl, rfl⟩ := trodVars_none hV
  obtain ⟨m0, hl0, hg0⟩ := in_Term (hval 0 _ v0 rfl rfl) t0
  clear hA0 hval0
  refine (lawTypeOf_any v0 m0 W hl0 hg0).mono fun e W' ⟨he, hb⟩ => ?_
  subst he
  exact ⟨_, rfl, post_true laidOut hW' hb readTypeOf (fun n hn => by cases hn) rfl rfl Try.underlying4⟩
theorem provedTypeOf : Rows.FnExactTypeOfSaid :=
  OpenClaim.holds_of_wide 3 Try.f3 rfl rfl rfl rfl rfl rfl rfl ⟨rfl, rfl, rfl, rfl, rfl⟩ rfl rfl rfl rfl rfl (by kernel_rfl) Try.func3 (by kernel_rfl)
    (of_decide_eq_true (by kernel_rfl)) (by unfold Func.isWrapper; first | (rw [if_pos (by decide +kernel)]; kernel_rfl) | (rw [if_neg (by decide +kernel)]; exact ⟨rfl, rfl⟩))
    (fun os started H enc _ => liftedTypeOf os started H enc)
#print axioms provedTypeOf
end Go.Proofs.Ytlmnmdahphahfaa
