/-
  The program's IsSystem returns what the reference's returns, for all arguments (laws.FnExactIsSystem answers true): the tied card.
-/
import Derived.Test.YtomekicglojhhaaDoorSysD
import Derived.Test.YtomekicglojhhaaDoorRegH
import Derived.Test.YtomekicglojhhaaDoorInSys
namespace Go.Proofs.YtomekicglojhhaaDoor
open Go.ChangeShapes Go.WideShapes Go.ChangeAt Go.RowKit

theorem RdSysV.shape {w : World} {v : Value} {s : Sys} (h : RdSysV w v s) : ∃ A n c, v = .agg #[.int .i64 s.1, .int .i64 s.2.1, .slice A n c] := by
  obtain ⟨A, c, hs, rfl, _⟩ := h; exact ⟨_, _, _, rfl⟩
theorem OwSys.shape {w : World} {v : Value} {s : Sys} {fp : List Nat} (h : OwSys w v s fp) : ∃ A n c, v = .agg #[.int .i64 s.1, .int .i64 s.2.1, .slice A n c] := by
  obtain ⟨A, c, hs, rfl, _⟩ := h; exact ⟨_, _, _, rfl⟩
theorem OwSys.rd {w : World} {v : Value} {s : Sys} {fp : List Nat} (h : OwSys w v s fp) : RdSysV w v s := by
  obtain ⟨A, c, hs, rfl, hL, h, _⟩ := h; exact ⟨A, c, hs, rfl, hL, h.rd⟩
theorem RdSysV.below {w w' : World} {v : Value} {s : Sys} (h : RdSysV w v s) (hb : Below w.heap.size w w') : RdSysV w' v s := by
  obtain ⟨A, c, hs, rfl, hL, h⟩ := h; exact ⟨A, c, hs, rfl, hL, h.below hb⟩
theorem OwSys.below {w w' : World} {v : Value} {s : Sys} {fp : List Nat} (h : OwSys w v s fp) (hb : Below w.heap.size w w') : OwSys w' v s fp := by
  obtain ⟨A, c, hs, rfl, hL, h, e⟩ := h; exact ⟨A, c, hs, rfl, hL, h.below hb, e⟩

theorem sIsSystem_any (p : Int) {v : Value} {s : Sys} (w : World) (h : RdSysV w v s) (hn : s.2.2.length ≤ 1048576) (hr : ∀ x, x ∈ s.2.2 → x.length ≤ 1048576) :
    Calls Tryd.prog 16 #[.int .i64 p, v] w fun e w' => e = .returned (.bool (sysB p s)) ∧ Below w.heap.size w w' := by
  obtain ⟨A, n, c, rfl⟩ := h.shape
  have hb : Below w.heap.size w (w.alloc (.cells #[.int .i64 s.1, .int .i64 s.2.1, .slice A n c] 27)) := (Below.refl _ _).alloc (Nat.le_refl _) _
  have hC := syGood_any p _ (h.below hb) hn hr
  have HC := Lib.hid hC
  clear hC hr
  go_enter Tryd.func16, Tryd.ntmps16
  go_wp2_with (fail)
  refine HC.out.mono ?_
  rintro e w1 ⟨rfl, hb1⟩
  go_wp2_with (fail)
  go_ret
  exact ⟨rfl, below_trans hb hb1 hb.size⟩
theorem iIsSystem_any (p : Int) {v : Value} {s : Sys} (w : World) (h : RdSysV w v s) (hT : Tab w) (hn : s.2.2.length ≤ 1048576) (hr : ∀ x, x ∈ s.2.2 → x.length ≤ 1048576) :
    Calls Tryd.prog 18 #[.int .i64 p, v] w fun e w' => e = .returned (.bool (sysB p s)) ∧ Below w.heap.size w w' := by
  obtain ⟨A, n, c, rfl⟩ := h.shape
  have hb : Below w.heap.size w (w.alloc (.cells #[.int .i64 s.1, .int .i64 s.2.1, .slice A n c] 27)) := (Below.refl _ _).alloc (Nat.le_refl _) _
  have hC := isSystem_any p _ (h.below hb) (hT.below hb hT.lt) hn hr
  have HC := Lib.hid hC
  clear hC hr
  go_enter Tryd.func18, Tryd.ntmps18
  go_wp2_with (fail)
  refine HC.out.mono ?_
  rintro e w1 ⟨rfl, hb1⟩
  go_wp2_with (fail)
  go_ret
  exact ⟨rfl, below_trans hb hb1 hb.size⟩

set_option maxRecDepth 8000 in
set_option maxHeartbeats 1000000 in
theorem lawIsSystem_any (p : Int) (v : Value) (m : Sys) (w : World) (hS : RdSysV w v m) (hG : BigSys m) (_lo : -9223372036854775808 ≤ p) (_hi : p ≤ 9223372036854775807) (hT : Tab w) :
    Calls Tryd.prog 3 #[.int .i64 p, v] w fun e w' => e = .returned (.bool true) ∧ Below w.heap.size w w' := by
  obtain ⟨_, _, hn, hr⟩ := hG
  obtain ⟨A, n, c, rfl⟩ := hS.shape
  have hb0 : Below w.heap.size w (w.alloc (.cells #[.int .i64 m.1, .int .i64 m.2.1, .slice A n c] 24)) := (Below.refl _ _).alloc (Nat.le_refl _) _
  have hk0 := heap_alloc_new w (.cells #[.int .i64 m.1, .int .i64 m.2.1, .slice A n c] 24)
  obtain ⟨S, hSz⟩ : ∃ S, S = szR m.2.2 1048576 := ⟨_, rfl⟩
  have hC0 := szSystem_any 1048576 _ (hS.below hb0) (by omega) (by omega) hn hr
  rw [← hSz] at hC0
  have HC0 := Lib.hid hC0
  have HSz := Lib.hid hSz
  clear hC0 hSz hr
  by_cases hg : S < 0
  · clear hk0
    go_enter Tryd.func3, Tryd.ntmps3
    go_wp2_with (fail)
    refine HC0.out.mono ?_
    rintro e w1 ⟨rfl, hb1⟩
    go_wp2_with (fail)
    go_ret
    exact ⟨rfl, below_trans hb0 hb1 hb0.size⟩
  · obtain ⟨n1, n2, _, _⟩ := szR_spec (L := m.2.2) (left := 1048576) (by rw [← HSz.out]; omega)
    have n1' : m.2.2.length ≤ 1048576 := by omega
    have n2' : ∀ x, x ∈ m.2.2 → x.length ≤ 1048576 := fun x hx => by have := n2 x hx; omega
    have N2 := Lib.hid n2'
    clear n1 n2 n2'
    have K0 := Lib.hid hk0
    clear hk0
    go_enter Tryd.func3, Tryd.ntmps3
    go_wp2_with (fail)
    refine HC0.out.mono ?_
    rintro e w1 ⟨rfl, hb1⟩
    have hB1 := below_trans hb0 hb1 hb0.size
    have k1 := (hb1.block _ (by simp)).trans K0.out
    obtain ⟨⟨c0, c1, c2⟩, f0, f1, f2⟩ := box3 k1
    have K1 := Lib.hid k1
    clear k1
    go_wp2_with (fail)
    refine (toSystem_any _ (hS.below hB1) n1' N2.out).mono ?_
    rintro e w2 ⟨v2, fp2, rfl, o2, fr2, hb2⟩
    obtain ⟨A2, m2, d2, rfl⟩ := o2.shape
    have hB2 := below_trans hB1 hb2 hB1.size
    clear c0 c1 c2 f0 f1 f2
    go_wp2_with (fail)
    refine (sIsSystem_any p _ o2.rd n1' N2.out).mono ?_
    rintro e w3 ⟨rfl, hb3⟩
    have hB3 := below_trans hB2 hb3 hB2.size
    have k3 := (hb3.block _ (Nat.lt_of_lt_of_le (Array.getElem?_eq_some_iff.1 ((hb2.block _ (Array.getElem?_eq_some_iff.1 K1.out).1).trans K1.out)).1 (Nat.le_refl _))).trans ((hb2.block _ (Array.getElem?_eq_some_iff.1 K1.out).1).trans K1.out)
    obtain ⟨⟨c0, c1, c2⟩, f0, f1, f2⟩ := box3 k3
    have K3 := Lib.hid k3
    clear k3
    go_wp2_with (fail)
    refine (toSystem_any _ (hS.below hB3) n1' N2.out).mono ?_
    rintro e w4 ⟨v4, fp4, rfl, o4, fr4, hb4⟩
    obtain ⟨A4, m4, d4, rfl⟩ := o4.shape
    have hB4 := below_trans hB3 hb4 hB3.size
    have k4 := (hb4.block _ (Array.getElem?_eq_some_iff.1 K3.out).1).trans K3.out
    have K4 := Lib.hid k4
    clear c0 c1 c2 f0 f1 f2 k4
    -- x1's box
    have hbA4 : Below w4.heap.size w4 (w4.alloc (.cells #[.int .i64 m.1, .int .i64 m.2.1, .slice A4 m4 d4] 27)) := (Below.refl _ _).alloc (Nat.le_refl _) _
    have hkA4 := heap_alloc_new w4 (.cells #[.int .i64 m.1, .int .i64 m.2.1, .slice A4 m4 d4] 27)
    have KA4 := Lib.hid hkA4
    clear hkA4
    go_wp2_with (fail)
    refine (iIsSystem_any p _ (o4.rd.below hbA4) (hT.below (below_trans hB4 hbA4 hB4.size) hT.lt) n1' N2.out).mono ?_
    rintro e w5 ⟨rfl, hb5⟩
    have x5 := (hb5.block _ (Array.getElem?_eq_some_iff.1 KA4.out).1).trans KA4.out
    have hb5' := below_trans hbA4 hb5 hbA4.size
    have k5 := (hb5'.block _ (Array.getElem?_eq_some_iff.1 K4.out).1).trans K4.out
    have o5 := o4.below hb5'
    have hB5 := below_trans hB4 hb5' hB4.size
    obtain ⟨⟨c0, c1, c2⟩, f0, f1, f2⟩ := box3 k5
    obtain ⟨⟨d0, d1, d2⟩, g0, g1, g2⟩ := box3 x5
    have hXX : (sysB p m != sysB p m) = false := by simp
    have X5 := Lib.hid x5
    have K5 := Lib.hid k5
    clear k5 x5
    go_wp2_with (fail)
    refine beginH (fun w' => w'.cell? ⟨w.heap.size, 0, none⟩ = some (.int .i64 m.1) ∧ w'.cell? ⟨w.heap.size, 1, none⟩ = some (.int .i64 m.2.1) ∧ w'.cell? ⟨w.heap.size, 2, none⟩ = some (.slice A n c) ∧
      w'.cell? ⟨w4.heap.size, 0, none⟩ = some (.int .i64 m.1) ∧ w'.cell? ⟨w4.heap.size, 1, none⟩ = some (.int .i64 m.2.1) ∧ w'.cell? ⟨w4.heap.size, 2, none⟩ = some (.slice A4 m4 d4)) (by kernel_rfl) ?_
    have hD5 : Below w5.heap.size w5 w5.drew := below_drewN (Below.refl _ _) 1
    refine takeH 0 (v := ?_) rfl (by kernel_rfl) (by kernel_rfl) (by kernel_rfl) (fun _ _ _ h => h) ⟨c0, c1, c2, d0, d1, d2⟩ (by rfl) (fun W' hW' => ?_) ?_; rotate_left; · (obtain ⟨c0, c1, c2, d0, d1, d2⟩ := hW'; go_simp; first | done | with_reducible rfl)
    simp only [Act.put, List.setIfInBounds_toArray, List.set_cons_zero, List.set_cons_succ]
    refine takeH 1 (v := ?_) rfl (by kernel_rfl) (by kernel_rfl) (by kernel_rfl) (fun _ _ _ h => h) ⟨c0, c1, c2, d0, d1, d2⟩ (by rfl) (fun W' hW' => ?_) ?_; rotate_left; · (obtain ⟨c0, c1, c2, d0, d1, d2⟩ := hW'; go_simp; first | done | with_reducible rfl)
    simp only [Act.put, List.setIfInBounds_toArray, List.set_cons_zero, List.set_cons_succ]
    refine' callH 2 (f := _) (args := _) rfl (by kernel_rfl) (by rfl) ?_ ?_; rotate_left 2; · (go_simp; first | done | with_reducible rfl | (constructor <;> with_reducible rfl))
    refine (toSystem_any _ (hS.below (below_trans hB5 hD5 hB5.size)) n1' N2.out).mono ?_
    rintro e w6 ⟨v6, fp6, rfl, o6, fr6, hb6⟩
    have hb6' := below_trans hD5 hb6 hD5.size
    refine ⟨_, rfl, ⟨(hb6'.cell (World.block_lt_of_cell? _ _ c0)).trans c0, (hb6'.cell (World.block_lt_of_cell? _ _ c1)).trans c1, (hb6'.cell (World.block_lt_of_cell? _ _ c2)).trans c2, (hb6'.cell (World.block_lt_of_cell? _ _ d0)).trans d0, (hb6'.cell (World.block_lt_of_cell? _ _ d1)).trans d1, (hb6'.cell (World.block_lt_of_cell? _ _ d2)).trans d2⟩, ?_⟩
    have hB6 := below_trans hB5 hb6' hB5.size
    have o5_6 := o5.below hb6'
    simp only [Act.put, List.setIfInBounds_toArray, List.set_cons_zero, List.set_cons_succ]
    refine' callH 3 (f := _) (args := _) rfl (by kernel_rfl) (by rfl) ?_ ?_; rotate_left 2; · (go_simp; first | done | with_reducible rfl | (constructor <;> with_reducible rfl))
    refine (eqSystem_any _ o5_6.rd o6.rd n1' N2.out).mono ?_
    rintro e w7 ⟨rfl, hb7⟩
    have hB7 := below_trans hB6 hb7 hB6.size
    have hb7' := below_trans hb6' hb7 hb6'.size
    refine ⟨_, rfl, ⟨(hb7'.cell (World.block_lt_of_cell? _ _ c0)).trans c0, (hb7'.cell (World.block_lt_of_cell? _ _ c1)).trans c1, (hb7'.cell (World.block_lt_of_cell? _ _ c2)).trans c2, (hb7'.cell (World.block_lt_of_cell? _ _ d0)).trans d0, (hb7'.cell (World.block_lt_of_cell? _ _ d1)).trans d1, (hb7'.cell (World.block_lt_of_cell? _ _ d2)).trans d2⟩, ?_⟩
    have hE : decide (m = m) = true := decide_eq_true rfl
    rw [hE]
    simp only [Act.put, List.setIfInBounds_toArray, List.set_cons_zero, List.set_cons_succ]
    refine takeH 4 (v := .bool false) rfl (by kernel_rfl) (by kernel_rfl) (by kernel_rfl) (fun _ _ _ h => h) ⟨(hb7'.cell (World.block_lt_of_cell? _ _ c0)).trans c0, (hb7'.cell (World.block_lt_of_cell? _ _ c1)).trans c1, (hb7'.cell (World.block_lt_of_cell? _ _ c2)).trans c2, (hb7'.cell (World.block_lt_of_cell? _ _ d0)).trans d0, (hb7'.cell (World.block_lt_of_cell? _ _ d1)).trans d1, (hb7'.cell (World.block_lt_of_cell? _ _ d2)).trans d2⟩ (by rfl) (fun W' hW' => ?_) ?_; · (go_simp; first | done | with_reducible rfl)
    simp only [Act.put, List.setIfInBounds_toArray, List.set_cons_zero, List.set_cons_succ]
    refine doneH (by kernel_rfl) ?_
    go_wp2_with (fail)
    go_ret
    exact ⟨rfl, hB7⟩
set_option maxRecDepth 100000 in
theorem contractIsSystem (H : Type) (enc : TypeId × Value → H) (W : World) (args : Array Value) (ds gs : List (DataW H)) (before : List MemPlace)
    (hval : ∀ (j : Nat) t v, Tryd.f3.params[j]? = some t → args[j]? = some v → Value.okWide Tryd.prog W .any 0 t v)
    (hW : DataW.Whole enc Tryd.prog Tryd.f3.params.toList Rows.fnExactIsSystemSpec.vars false W args.toList ds gs before) (hL : laidMetH Tryd.prog Rows.fnExactIsSystemRow.laid W) :
    Calls Tryd.prog 3 args W fun e W' => ∃ v, e = .returned v ∧ Rows.fnExactIsSystemSpec.post enc Tryd.prog Tryd.f3 false true false false W args v W' := by
  have hW' := hW
  obtain ⟨p, q, hA0, hV, rfl, hfz, hnd⟩ := hW
  have hA : DataW.TrodAll enc Tryd.prog W 0 (fun _ => true) true Tryd.f3.params.toList args.toList ds p := hA0
  have hr : ∀ t ∈ Tryd.f3.params.toList, Tryd.prog.readableRec t = true ∧ t < Tryd.prog.types.size := by
    rw [Tryd.params3]
    intro t ht
    have ht' : t ∈ ([3, 24] : List TypeId) := ht
    rcases List.mem_cons.1 ht' with rfl | ht'
    · exact ⟨by kernel_rfl, of_decide_eq_true (by kernel_rfl)⟩
    rcases List.mem_cons.1 ht' with rfl | ht'
    · exact ⟨by kernel_rfl, of_decide_eq_true (by kernel_rfl)⟩
    cases ht'
  rw [Tryd.params3] at hA hval
  obtain ⟨v0, vs0, d0, ds0, p0, q0, hargs, rfl, rfl, t0, r0⟩ := trodAll_cons hA
  obtain ⟨v1, vs1, d1, ds1, p1, q1, rfl, rfl, rfl, t1, r1⟩ := trodAll_cons r0
  obtain ⟨rfl, rfl, rfl⟩ := trodAll_nil r1
  obtain rfl : args = #[v0, v1] := by cases args; simp_all
  obtain ⟨g, _, _, _, dg, pg, rfl, _⟩ := trodVars_one hV
  obtain ⟨x0, rfl, lo0, hi0⟩ := in_int (hval 0 _ v0 rfl rfl) t0
  obtain ⟨m1, hl1, hg1⟩ := in_Sys (hval 1 _ v1 rfl rfl) t1
  refine (lawIsSystem_any x0 v1 m1 W hl1 hg1 lo0 hi0 (tab_of_laid hL)).mono fun e W' ⟨he, hb⟩ => ?_
  subst he
  exact ⟨_, rfl, post_true laidOut hW' hb hr vars_ok rfl rfl Tryd.underlying4⟩

set_option maxRecDepth 100000 in
theorem liftedIsSystem (os : Os) (started : os.Started) (H : Type) (enc : TypeId × Value → H) (F : Stop.Interp) :
    ReturnsInHanded {} Tryd.checked os 3 .any ((OpenSpec.ofChange Rows.fnExactIsSystemSpec).preRow enc Tryd.prog Tryd.f3 Rows.fnExactIsSystemRow.domain false Rows.fnExactIsSystemRow.laid) (((OpenSpec.ofChange Rows.fnExactIsSystemSpec).at F).post enc Tryd.prog Tryd.f3 false true false false) := by
  obtain ⟨ds, gs, places, hx⟩ : ∃ ds gs places, DataW.whole enc Tryd.prog ((laidWorld os).forCall (fun _ _ => 0) ⟨#[], #[.int .i64 0, .agg #[.int .i64 0, .int .i64 0, .slice none 0 0]], []⟩).memory Tryd.f3.params.toList Rows.fnExactIsSystemSpec.vars false (#[.int .i64 0, .agg #[.int .i64 0, .int .i64 0, .slice none 0 0]] : Array Value).toList 8 = some (ds, gs, places) :=
    ⟨[.lit (.int .i64 0), .agg [.lit (.int .i64 0), .lit (.int .i64 0), .nil]], [Rows.laid_loop_example_g01073_impl_smallPrimes], MemPlace.row ⟨0, 0, none⟩ 4, by kernel_rfl⟩
  refine returnsInHanded_of_row (C := Tryd.checked) (s := OpenSpec.ofChange Rows.fnExactIsSystemSpec) own started (by kernel_rfl) Tryd.func3
    (witness_row_at (enc := enc) (C := Tryd.checked) false (laidWorld os) #[.int .i64 0, .agg #[.int .i64 0, .int .i64 0, .slice none 0 0]] rfl (by kernel_rfl) (by kernel_rfl) (by kernel_rfl)
      (OpenSpec.preRow_of_cond 8 hx (by kernel_rfl) (fun k hk => by cases hk) (by kernel_rfl) (laid_met os _))) ?_
  intro W base args ds gs before hval hW _ _ _ hL _ _
  exact contractIsSystem H enc W args ds gs before hval hW hL

theorem saidIsSystem : Rows.FnExactIsSystemSaid :=
  OpenClaim.holds_of_cond 3 Tryd.f3 rfl rfl rfl rfl rfl rfl rfl ⟨rfl, rfl, rfl, rfl, rfl⟩ rfl rfl rfl rfl rfl (by kernel_rfl) Tryd.func3 (by kernel_rfl)
    (of_decide_eq_true (by kernel_rfl)) (by unfold Func.isWrapper; first | (rw [if_pos (by decide +kernel)]; kernel_rfl) | (rw [if_neg (by decide +kernel)]; exact ⟨rfl, rfl⟩))
    (fun os started H enc _ F => by rw [OpenClaim.pre_eq_preRow]; exact liftedIsSystem os started H enc F)

theorem plainIsSystem (f : FuncId) (fn : Func) (hf : Tryd.pinned.checked.prog.funcNamed "loop.example/g01073/laws.FnExactIsSystem" = some f) (hfn : Tryd.pinned.checked.prog.funcs[f]? = some fn) :
    false = Tryd.pinned.checked.prog.looks [] ∧ ∀ (j : Nat) t, fn.params[j]? = some t → Tryd.pinned.checked.prog.wantsStandIn t = false := by
  obtain rfl : f = 3 := Option.some.inj ((show Tryd.prog.funcNamed "loop.example/g01073/laws.FnExactIsSystem" = some 3 by kernel_rfl).symm.trans hf) |>.symm
  obtain rfl : fn = Tryd.f3 := (Option.some.inj (Tryd.func3.symm.trans hfn)).symm
  refine ⟨by kernel_rfl, fun j t ht => ?_⟩
  rw [Tryd.params3] at ht
  have ht' : t ∈ ([3, 24] : List TypeId) := by have := Array.mem_of_getElem? ht; simpa using this
  rcases List.mem_cons.1 ht' with rfl | ht'
  · exact (show Tryd.prog.wantsStandIn 3 = false by kernel_rfl)
  rcases List.mem_cons.1 ht' with rfl | ht'
  · exact (show Tryd.prog.wantsStandIn 24 = false by kernel_rfl)
  cases ht'

theorem cardIsSystem : Rows.FnExactIsSystemCardSaid :=
  Claim7.holds_tied_plain_at .later [] _ _ _ _ saidIsSystem (fun _ h => by cases h) (by kernel_rfl) (fun _ h => by cases h) fnExactIsSystem_row_tie rfl ⟨rfl, rfl⟩ (by kernel_rfl) rfl plainIsSystem (by kernel_rfl)
#print axioms cardIsSystem
end Go.Proofs.YtomekicglojhhaaDoor
