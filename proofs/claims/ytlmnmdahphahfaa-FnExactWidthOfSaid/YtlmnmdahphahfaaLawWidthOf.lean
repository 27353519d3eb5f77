/-
  The program's WidthOf returns what the reference's returns, for all arguments (laws.FnExactWidthOf answers true). No condition.
-/
import Derived.Test.YtlmnmdahphahfaaTmWk
import Derived.Test.YtlmnmdahphahfaaRegH
import Derived.Test.YtlmnmdahphahfaaFrameP
import Derived.Test.YtlmnmdahphahfaaTmIn
import Derived.Test.YtlmnmdahphahfaaTmLaw
namespace Go.Proofs.Ytlmnmdahphahfaa
open Go.ChangeShapes Go.WideShapes Go.ChangeAt Go.RowKit

set_option maxHeartbeats 4000000 in
set_option maxRecDepth 100000 in
theorem lawWidthOf_any (vt : Value) (t : List Nd) (w : World) (ht : RdTm w vt t) (hgt : BigTm t) :
    Calls Try.prog 4 #[vt] w fun e w' => e = .returned (.bool true) ∧ Below w.heap.size w w' := by
  obtain ⟨At, nt, ct, rfl⟩ := ht.shape
  obtain ⟨St, hSt⟩ : ∃ S, S = szNS (t) 1048576 := ⟨_, rfl⟩
  have HSt := Lib.hid hSt
  clear hSt
  have hB0 : Below w.heap.size w w := Below.refl _ _
  have hb1 := below_alloc (w) (.cells #[.slice At nt ct] 24)
  have hB1 := below_trans hB0 hb1 hB0.size
  have bx1 := heap_alloc_new (w) (.cells #[.slice At nt ct] 24)
  have lt_pt : LtL ((w).alloc (.cells #[.slice At nt ct] 24)).heap.size [(w).heap.size] := fun b hb => by obtain rfl := List.mem_singleton.1 hb; exact box_lt bx1
  have fr_pt : FreshL (w).heap.size [(w).heap.size] := fun b hb => by obtain rfl := List.mem_singleton.1 hb; exact Nat.le_refl _
  have BX_pt_1 := Lib.hid bx1
  clear bx1
  by_cases negt : St < 0
  case pos =>
    go_enter Try.func4, Try.ntmps4
    obtain ⟨c1_0, f1_0⟩ := bx1 BX_pt_1.out
    go_wp2_with (fail)
    refine (szTerm_law 1048576 (ht.below hB1) hgt (by omega) (by omega)).mono ?_
    rintro e w2 ⟨he2, hb2⟩
    have hB2 := below_trans hB1 hb2 hB1.size
    clear c1_0 f1_0
    rw [← HSt.out] at he2
    subst he2
    go_wp2_with (fail)
    go_ret
    exact ⟨rfl, hB2⟩
  have sokt := szN_ok (by rw [← HSt.out]; omega : 0 ≤ szNS (t) 1048576) (by omega)
  have okt := sokt.1
  have slet : St ≤ 1048576 := by rw [HSt.out]; exact sokt.2
  clear sokt
  go_enter Try.func4, Try.ntmps4
  obtain ⟨c2_0, f2_0⟩ := bx1 BX_pt_1.out
  go_wp2_with (fail)
  refine (szTerm_law 1048576 (ht.below hB1) hgt (by omega) (by omega)).mono ?_
  rintro e w2 ⟨he2, hb2⟩
  have hB2 := below_trans hB1 hb2 hB1.size
  clear c2_0 f2_0
  rw [← HSt.out] at he2
  subst he2
  have F3_pt_2 := Lib.hid (box_below BX_pt_1.out hb2)
  clear BX_pt_1
  obtain ⟨c4_0, f4_0⟩ := bx1 F3_pt_2.out
  go_wp2_with (fail)
  refine (toTerm_law (ht.below hB2) okt).mono ?_
  rintro e w3 ⟨v3, fp3, rfl, o3, fr3, hb3⟩
  have hB3 := below_trans hB2 hb3 hB2.size
  clear c4_0 f4_0
  obtain ⟨A3, n3, c3, rfl⟩ := o3.shape
  have lt_at := o3.lt
  go_wp2_with (fail)
  refine (sWidthOf_law  o3 okt).mono ?_
  rintro e w4 ⟨rfl, hb4⟩
  have hB4 := below_trans hB3 hb4 hB3.size
  have F5_pt_3 := Lib.hid (box_below F3_pt_2.out hb3)
  clear F3_pt_2
  have F6_pt_4 := Lib.hid (box_below F5_pt_3.out hb4)
  clear F5_pt_3
  obtain ⟨c7_0, f7_0⟩ := bx1 F6_pt_4.out
  go_wp2_with (fail)
  refine (toTerm_law (ht.below hB4) okt).mono ?_
  rintro e w5 ⟨v5, fp5, rfl, o5, fr5, hb5⟩
  have hB5 := below_trans hB4 hb5 hB4.size
  clear c7_0 f7_0
  obtain ⟨A5, n5, c5, rfl⟩ := o5.shape
  have lt_xt := o5.lt
  have hb6 := below_alloc (w5) (.cells #[.slice A5 n5 c5] 30)
  have hB6 := below_trans hB5 hb6 hB5.size
  have bx6 := heap_alloc_new (w5) (.cells #[.slice A5 n5 c5] 30)
  have lt_bxt : LtL ((w5).alloc (.cells #[.slice A5 n5 c5] 30)).heap.size [(w5).heap.size] := fun b hb => by obtain rfl := List.mem_singleton.1 hb; exact box_lt bx6
  have fr_bxt : FreshL (w5).heap.size [(w5).heap.size] := fun b hb => by obtain rfl := List.mem_singleton.1 hb; exact Nat.le_refl _
  have BX_bxt_6 := Lib.hid bx6
  clear bx6
  have F8_xt_6 := o5.below hb6
  clear o5
  obtain ⟨c9_0, f9_0⟩ := bx1 BX_bxt_6.out
  go_wp2_with (fail)
  refine (iWidthOf_law  F8_xt_6 okt).mono ?_
  rintro e w7 ⟨rfl, hb7⟩
  have hB7 := below_trans hB6 hb7 hB6.size
  clear c9_0 f9_0
  have F10_bxt_7 := Lib.hid (box_below BX_bxt_6.out hb7)
  clear BX_bxt_6
  have F11_pt_5 := Lib.hid (box_below F6_pt_4.out hb5)
  clear F6_pt_4
  have F12_pt_6 := Lib.hid (box_below F11_pt_5.out hb6)
  clear F11_pt_5
  have F13_pt_7 := Lib.hid (box_below F12_pt_6.out hb7)
  clear F12_pt_6
  have F14_xt_7 := F8_xt_6.below hb7
  clear F8_xt_6
  go_wp2_with (fail)
  refine beginH (fun w' => w'.heap[(w5).heap.size]? = some (.cells #[.slice A5 n5 c5] 30) ∧ w'.heap[(w).heap.size]? = some (.cells #[.slice At nt ct] 24)) (by kernel_rfl) ?_
  have hb8 : Below (w7).heap.size (w7) (w7).drew := below_drewN (Below.refl _ _) 1
  have hB8 := below_trans hB7 hb8 hB7.size
  have F16_bxt_8 := Lib.hid (box_below F10_bxt_7.out hb8)
  clear F10_bxt_7
  have F17_pt_8 := Lib.hid (box_below F13_pt_7.out hb8)
  clear F13_pt_7
  have F18_xt_8 := F14_xt_7.below hb8
  clear F14_xt_7
  refine takeH 0 (v := ?_) rfl (by kernel_rfl) (by kernel_rfl) (by kernel_rfl) (fun _ _ _ h => h) ⟨F16_bxt_8.out, F17_pt_8.out⟩ (by rfl) (fun W' hW' => ?_) ?_; rotate_left; · (obtain ⟨q1, q2⟩ := hW'; obtain ⟨ca0, gca0⟩ := bx1 q1; obtain ⟨cb0, gcb0⟩ := bx1 q2; clear q1 q2; go_simp; first | done | with_reducible rfl)
  simp only [Act.put, List.setIfInBounds_toArray, List.set_cons_zero, List.set_cons_succ]
  refine takeH 1 (v := ?_) rfl (by kernel_rfl) (by kernel_rfl) (by kernel_rfl) (fun _ _ _ h => h) ⟨F16_bxt_8.out, F17_pt_8.out⟩ (by rfl) (fun W' hW' => ?_) ?_; rotate_left; · (obtain ⟨q1, q2⟩ := hW'; obtain ⟨ca0, gca0⟩ := bx1 q1; obtain ⟨cb0, gcb0⟩ := bx1 q2; clear q1 q2; go_simp; first | done | with_reducible rfl)
  simp only [Act.put, List.setIfInBounds_toArray, List.set_cons_zero, List.set_cons_succ]
  refine' callH 2 (f := _) (args := _) rfl (by kernel_rfl) (by rfl) ?_ ?_; rotate_left 2; · (go_simp; first | done | with_reducible rfl | (constructor <;> with_reducible rfl))
  refine (toTerm_law (ht.below hB8) okt).mono ?_
  rintro e w9 ⟨v9, fp9, rfl, o9, fr9, hb9⟩
  have hB9 := below_trans hB8 hb9 hB8.size
  have F19_bxt_9 := Lib.hid (box_below F16_bxt_8.out hb9)
  clear F16_bxt_8
  have F20_pt_9 := Lib.hid (box_below F17_pt_8.out hb9)
  clear F17_pt_8
  have F21_xt_9 := F18_xt_8.below hb9
  clear F18_xt_8
  refine ⟨_, rfl, ⟨F19_bxt_9.out, F20_pt_9.out⟩, ?_⟩
  simp only [Act.put, List.setIfInBounds_toArray, List.set_cons_zero, List.set_cons_succ]
  refine' callH 3 (f := _) (args := _) rfl (by kernel_rfl) (by rfl) ?_ ?_; rotate_left 2; · (go_simp; first | done | with_reducible rfl | (constructor <;> with_reducible rfl))
  refine (eqTerm_law F21_xt_9.rd o9.rd okt).mono ?_
  rintro e w10 ⟨rfl, hb10⟩
  have hB10 := below_trans hB9 hb10 hB9.size
  have F22_bxt_10 := Lib.hid (box_below F19_bxt_9.out hb10)
  clear F19_bxt_9
  have F23_pt_10 := Lib.hid (box_below F20_pt_9.out hb10)
  clear F20_pt_9
  have F24_xt_10 := F21_xt_9.below hb10
  clear F21_xt_9
  refine ⟨_, rfl, ⟨F22_bxt_10.out, F23_pt_10.out⟩, ?_⟩
  rw [decide_eq_true (rfl : t = t)]
  simp only [Act.put, List.setIfInBounds_toArray, List.set_cons_zero, List.set_cons_succ]
  refine takeH 4 (v := .bool false) rfl (by kernel_rfl) (by kernel_rfl) (by kernel_rfl) (fun _ _ _ h => h) ⟨F22_bxt_10.out, F23_pt_10.out⟩ (by rfl) (fun W' hW' => ?_) ?_; · (go_simp; first | done | with_reducible rfl)
  simp only [Act.put, List.setIfInBounds_toArray, List.set_cons_zero, List.set_cons_succ]
  refine doneH (by kernel_rfl) ?_
  go_wp2_with (fail)
  go_ret
  exact ⟨rfl, hB10⟩

theorem readWidthOf : ∀ t ∈ Try.f4.params.toList, Try.prog.readableRec t = true ∧ t < Try.prog.types.size := by
  rw [Try.params4]
  intro t ht
  have ht' : t ∈ ([24] : List TypeId) := ht
  rcases List.mem_cons.1 ht' with rfl | ht'
  · exact ⟨by kernel_rfl, of_decide_eq_true (by kernel_rfl)⟩
  cases ht'
set_option maxRecDepth 100000 in
theorem liftedWidthOf (os : Os) (started : os.Started) (H : Type) (enc : TypeId × Value → H) :
    ReturnsInHanded {} Try.checked os 4 .any (Rows.fnExactWidthOfSpec.pre6 enc Try.prog Try.f4 Rows.fnExactWidthOfRow.domain false) (Rows.fnExactWidthOfSpec.post enc Try.prog Try.f4 false true false false) := by
  refine returnsInHanded_of_change (C := Try.checked) own started (by kernel_rfl) Try.func4
    (ChangeSpec.witness6 (enc := enc) (C := Try.checked) false ⟨#[], #[.agg #[.slice none 0 0]], []⟩ 8 (by kernel_rfl) (by kernel_rfl) (by kernel_rfl) (by kernel_rfl)) ?_
  intro W base args ds gs before hval0 hW hcnd _
  have hval : ∀ (j : Nat) t v, Try.f4.params[j]? = some t → args[j]? = some v → Value.okWide Try.prog W .any base t v := hval0
  have hW' := hW
  obtain ⟨p, q, hA0, hV, rfl, hfz, hnd⟩ := hW
  have hA : DataW.TrodAll enc Try.prog W 0 (fun _ => true) true Try.f4.params.toList args.toList ds p := hA0
  rw [Try.params4] at hA hval
  obtain ⟨v0, vs0, d0, ds0, p0, q0, hargs, rfl, rfl, t0, r0⟩ := trodAll_cons hA
  obtain ⟨rfl, rfl, rfl⟩ := trodAll_nil r0
  obtain rfl : args = #[v0] := by cases args; simp_all
  obtain ⟨rfl, rfl⟩ := trodVars_none hV
  obtain ⟨m0, hl0, hg0⟩ := in_Term (hval 0 _ v0 rfl rfl) t0
  clear hA0 hval0
  refine (lawWidthOf_any v0 m0 W hl0 hg0 ).mono fun e W' ⟨he, hb⟩ => ?_
  subst he
  exact ⟨_, rfl, post_true laidOut hW' hb readWidthOf (fun n hn => by cases hn) rfl rfl Try.underlying4⟩
theorem provedWidthOf : Rows.FnExactWidthOfSaid :=
  OpenClaim.holds_of_wide 4 Try.f4 rfl rfl rfl rfl rfl rfl rfl ⟨rfl, rfl, rfl, rfl, rfl⟩ rfl rfl rfl rfl rfl (by kernel_rfl) Try.func4 (by kernel_rfl)
    (of_decide_eq_true (by kernel_rfl)) (by unfold Func.isWrapper; first | (rw [if_pos (by decide +kernel)]; kernel_rfl) | (rw [if_neg (by decide +kernel)]; exact ⟨rfl, rfl⟩))
    (fun os started H enc _ => liftedWidthOf os started H enc)
#print axioms provedWidthOf
end Go.Proofs.Ytlmnmdahphahfaa
