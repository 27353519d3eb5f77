/-
  THE WALKS: the mirror image, the program's side (mirrored, the nodes of a tree).
-/
import Derived.Test.YtlmnmdahphahfaaTmEx
import Derived.Test.YtlmnmdahphahfaaTmJn
namespace Go.Proofs.Ytlmnmdahphahfaa
open Go.RowKit

theorem mirrorKind_any (k : Int) (w : World) (h1 : 1 ≤ k) (h2 : k ≤ 14) : Calls Try.prog 91 #[.int .i64 k] w fun e w' => e = .returned (.int .i64 (mirK k)) ∧ w' = w := by
  by_cases ha : 3 ≤ k ∧ k ≤ 8
  · have hA : inB k 3 8 = true := decide_eq_true ha
    have e : mirK k = k + 9 - 3 := by unfold mirK; rw [if_pos ha]; omega
    have e_h := Lib.hid e
    clear e
    go_enter Try.func91, Try.ntmps91
    go_wp2_with (fail)
    refine (within_any _ _ _ _).mono ?_
    rintro e w' ⟨rfl, rfl⟩
    rw [hA]
    go_wp2_with (fail)
    go_ret
    exact ⟨ret_int e_h.out.symm, rfl⟩
  · have hA : inB k 3 8 = false := decide_eq_false ha
    by_cases hb : 9 ≤ k ∧ k ≤ 14
    · have hB : inB k 9 14 = true := decide_eq_true hb
      have e : mirK k = k - 9 + 3 := by unfold mirK; rw [if_neg ha, if_pos hb]; omega
      have e_h := Lib.hid e
      clear e
      go_enter Try.func91, Try.ntmps91
      go_wp2_with (fail)
      refine (within_any _ _ _ _).mono ?_
      rintro e w' ⟨rfl, rfl⟩
      rw [hA]
      go_wp2_with (fail)
      refine (within_any _ _ _ _).mono ?_
      rintro e w' ⟨rfl, rfl⟩
      rw [hB]
      go_wp2_with (fail)
      go_ret
      exact ⟨ret_int e_h.out.symm, rfl⟩
    · have hB : inB k 9 14 = false := decide_eq_false hb
      have e : mirK k = k := by unfold mirK; rw [if_neg ha, if_neg hb]
      have e_h := Lib.hid e
      clear e
      go_enter Try.func91, Try.ntmps91
      go_wp2_with (fail)
      refine (within_any _ _ _ _).mono ?_
      rintro e w' ⟨rfl, rfl⟩
      rw [hA]
      go_wp2_with (fail)
      refine (within_any _ _ _ _).mono ?_
      rintro e w' ⟨rfl, rfl⟩
      rw [hB]
      go_wp2_with (fail)
      go_ret
      exact ⟨ret_int e_h.out.symm, rfl⟩

/-- A tree's value and nothing else. -/
def TrA (t : Tr) (w : World) (e : Ending) (w' : World) : Prop := e = .returned (trV t) ∧ Below w.heap.size w w'
set_option maxRecDepth 8000 in
set_option maxHeartbeats 2000000 in
theorem mirrored_leaf (k x : Int) (s : ByteArray) (w : World) (hw : wt (.leaf (k, x, s))) : Calls Try.prog 68 #[trV (.leaf (k, x, s))] w (TrA (mir (.leaf (k, x, s))) w) := by
  have hk := leaf_top hw
  have e1 : trV (.leaf (k, x, s)) = .iface tLeafT (.agg #[.int .i64 k, .int .i64 x, .string s]) := rfl
  have e2 : trV (mir (.leaf (k, x, s))) = .iface tLeafT (.agg #[.int .i64 (mirK k), .int .i64 x, .string s]) := rfl
  unfold TrA
  rw [e1, e2]
  obtain ⟨W, hW⟩ : ∃ W, W = w.alloc (.cells #[.int .i64 k, .int .i64 x, .string s] tLeafT) := ⟨_, rfl⟩
  have b0 := below_alloc w (.cells #[.int .i64 k, .int .i64 x, .string s] tLeafT)
  have k0 := heap_alloc_new w (.cells #[.int .i64 k, .int .i64 x, .string s] tLeafT)
  rw [← hW] at b0 k0
  obtain ⟨⟨c0, c1, c2⟩, c3, c4, c5⟩ := box3 k0
  have k2 : (W.setCell ⟨w.heap.size, 0, none⟩ (.int .i64 (mirK k))).heap[w.heap.size]? = some (.cells #[.int .i64 (mirK k), .int .i64 x, .string s] tLeafT) := by simp [World.setCell, Array.getElem?_modify, k0]
  have hks : Keeps (fun b => b = w.heap.size) W (W.setCell ⟨w.heap.size, 0, none⟩ (.int .i64 (mirK k))) := Keeps.setCell (S := fun b => b = w.heap.size) (Keeps.refl _ W) (p := ⟨w.heap.size, 0, none⟩) rfl _
  have hB := below_keeps b0 hks b0.size (fun k hk => by omega)
  clear e1 e2
  have b0_h := Lib.hid b0
  have k0_h := Lib.hid k0
  have k2_h := Lib.hid k2
  have hks_h := Lib.hid hks
  have hB_h := Lib.hid hB
  clear b0 k0 k2 hks hB
  have as1 := as_leaf_seq
  have as2 := as_leaf_par
  have as3 := as_leaf_leaf
  go_enter Try.func68, Try.ntmps68
  go_upto_region 10 with (fail)
  rw [← hW]
  clear hW
  go_wp2_with (fail)
  refine (mirrorKind_any k _ hk.1 hk.2).mono ?_
  rintro e w' ⟨rfl, rfl⟩
  go_upto_region 11 with (fail)
  obtain ⟨W2, hW2⟩ : ∃ W2, W2 = w'.setCell ⟨w.heap.size, 0, none⟩ (.int .i64 (mirK k)) := ⟨_, rfl⟩
  rw [← hW2] at k2_h hB_h ⊢
  clear hW2 c0 c1 c2 c3 c4 c5 hks_h
  obtain ⟨⟨c0, c1, c2⟩, c3, c4, c5⟩ := box3 k2_h.out
  go_wp2_with (fail)
  go_ret
  exact ⟨rfl, hB_h.out⟩
/-- HERE the printed part begins -/
def printedMi : Unit := ()

set_option maxRecDepth 8000 in
set_option maxHeartbeats 4000000 in
theorem mirrored_seq (a b : Tr) (w : World) (hIa : ∀ w, Calls Try.prog 68 #[trV a] w (TrA (mir a) w)) (hIb : ∀ w, Calls Try.prog 68 #[trV b] w (TrA (mir b) w)) :
    Calls Try.prog 68 #[trV (.node false a b)] w (TrA (mir (.node false a b)) w) := by
  have e1 : trV (.node false a b) = .iface tSeqT (.agg #[trV a, trV b]) := rfl
  have e2 : trV (mir (.node false a b)) = .iface tSeqT (.agg #[trV (mir b), trV (mir a)]) := rfl
  unfold TrA at hIa hIb ⊢
  rw [e1, e2]
  obtain ⟨ta, pa, hva⟩ := trV_iface a
  obtain ⟨tb, pb, hvb⟩ := trV_iface b
  obtain ⟨ua, qa, hua⟩ := trV_iface (mir a)
  obtain ⟨ub, qb, hub⟩ := trV_iface (mir b)
  rw [hva, hua] at hIa
  rw [hvb, hub] at hIb
  rw [hva, hvb, hua, hub]
  obtain ⟨W, hW⟩ : ∃ W, W = w.alloc (.cells #[.iface ta pa, .iface tb pb] tSeqT) := ⟨_, rfl⟩
  have b0 := below_alloc w (.cells #[.iface ta pa, .iface tb pb] tSeqT)
  have k0 := heap_alloc_new w (.cells #[.iface ta pa, .iface tb pb] tSeqT)
  rw [← hW] at b0 k0
  clear e1 e2
  have b0_h := Lib.hid b0
  have k0_h := Lib.hid k0
  have hIa_h := Lib.hid hIa
  have hIb_h := Lib.hid hIb
  have hva_h := Lib.hid hva
  have hvb_h := Lib.hid hvb
  have hua_h := Lib.hid hua
  have hub_h := Lib.hid hub
  clear b0 k0 hIa hIb hva hvb hua hub
  have as1 := as_seq_seq
  go_enter Try.func68, Try.ntmps68
  go_upto_region 4 with (fail)
  rw [← hW]
  clear hW
  refine beginH (fun w' => w'.heap[w.heap.size]? = some (.cells #[.iface ta pa, .iface tb pb] tSeqT)) (by kernel_rfl) ?_
  have hbd : Below W.heap.size W W.drew := below_drew (Below.refl _ _)
  generalize W.drew = W1 at hbd ⊢
  replace k0_h := Lib.hid (box_below k0_h.out hbd)
  have hB1 := below_trans b0_h.out hbd b0_h.out.size
  have hbd_h := Lib.hid hbd
  have hB1_h := Lib.hid hB1
  clear hbd hB1
  refine takeH 0 (v := ?_) rfl (by kernel_rfl) (by kernel_rfl) (by kernel_rfl) (fun _ _ _ h => h) k0_h.out (by rfl) (fun W' hW' => ?_) ?_; rotate_left; · (obtain ⟨⟨y0, y1⟩, y2, y3⟩ := box2 hW'; clear hW'; go_simp; first | done | with_reducible rfl)
  simp only [Act.put, List.setIfInBounds_toArray, List.set_cons_zero, List.set_cons_succ]
  refine takeH 1 (v := ?_) rfl (by kernel_rfl) (by kernel_rfl) (by kernel_rfl) (fun _ _ _ h => h) k0_h.out (by rfl) (fun W' hW' => ?_) ?_; rotate_left; · (obtain ⟨⟨y0, y1⟩, y2, y3⟩ := box2 hW'; clear hW'; go_simp; first | done | with_reducible rfl)
  simp only [Act.put, List.setIfInBounds_toArray, List.set_cons_zero, List.set_cons_succ]
  refine takeH 3 (v := ?_) rfl (by kernel_rfl) (by kernel_rfl) (by kernel_rfl) (fun _ _ _ h => h) k0_h.out (by rfl) (fun W' hW' => ?_) ?_; rotate_left; · (obtain ⟨⟨y0, y1⟩, y2, y3⟩ := box2 hW'; clear hW'; go_simp; first | done | with_reducible rfl)
  simp only [Act.put, List.setIfInBounds_toArray, List.set_cons_zero, List.set_cons_succ]
  refine takeH 4 (v := ?_) rfl (by kernel_rfl) (by kernel_rfl) (by kernel_rfl) (fun _ _ _ h => h) k0_h.out (by rfl) (fun W' hW' => ?_) ?_; rotate_left; · (obtain ⟨⟨y0, y1⟩, y2, y3⟩ := box2 hW'; clear hW'; go_simp; first | done | with_reducible rfl)
  simp only [Act.put, List.setIfInBounds_toArray, List.set_cons_zero, List.set_cons_succ]
  refine' callH 2 (f := _) (args := _) rfl (by kernel_rfl) (by rfl) ?_ ?_; rotate_left 2; · (go_simp; first | done | with_reducible rfl | (constructor <;> with_reducible rfl))
  refine (hIb_h.out _).mono ?_
  rintro e w2 ⟨rfl, hb2⟩
  replace k0_h := Lib.hid (box_below k0_h.out hb2)
  have hB2 := below_trans hB1_h.out hb2 hB1_h.out.size
  refine ⟨_, rfl, k0_h.out, ?_⟩
  have hb2_h := Lib.hid hb2
  have hB2_h := Lib.hid hB2
  clear hb2 hB2
  simp only [Act.put, List.setIfInBounds_toArray, List.set_cons_zero, List.set_cons_succ]
  refine' callH 5 (f := _) (args := _) rfl (by kernel_rfl) (by rfl) ?_ ?_; rotate_left 2; · (go_simp; first | done | with_reducible rfl | (constructor <;> with_reducible rfl))
  refine (hIa_h.out _).mono ?_
  rintro e w3 ⟨rfl, hb3⟩
  replace k0_h := Lib.hid (box_below k0_h.out hb3)
  have hB3 := below_trans hB2_h.out hb3 hB2_h.out.size
  refine ⟨_, rfl, k0_h.out, ?_⟩
  have hb3_h := Lib.hid hb3
  have hB3_h := Lib.hid hB3
  clear hb3 hB3
  simp only [Act.put, List.setIfInBounds_toArray, List.set_cons_zero, List.set_cons_succ]
  refine takeH 6 (v := ?_) rfl (by kernel_rfl) (by kernel_rfl) (by kernel_rfl) (fun _ _ _ h => h) k0_h.out (by rfl) (fun W' hW' => ?_) ?_; rotate_left; · (skip; clear hW'; go_simp; first | done | with_reducible rfl)
  simp only [Act.put, List.setIfInBounds_toArray, List.set_cons_zero, List.set_cons_succ]
  refine takeH 7 (v := ?_) rfl (by kernel_rfl) (by kernel_rfl) (by kernel_rfl) (fun _ _ _ h => h) k0_h.out (by rfl) (fun W' hW' => ?_) ?_; rotate_left; · (skip; clear hW'; go_simp; first | done | with_reducible rfl)
  simp only [Act.put, List.setIfInBounds_toArray, List.set_cons_zero, List.set_cons_succ]
  refine takeH 8 (v := ?_) rfl (by kernel_rfl) (by kernel_rfl) (by kernel_rfl) (fun _ _ _ h => h) k0_h.out (by rfl) (fun W' hW' => ?_) ?_; rotate_left; · (skip; clear hW'; go_simp; first | done | with_reducible rfl)
  simp only [Act.put, List.setIfInBounds_toArray, List.set_cons_zero, List.set_cons_succ]
  refine doneH (by kernel_rfl) ?_
  go_wp2_with (fail)
  go_ret
  exact ⟨rfl, hB3_h.out⟩

set_option maxRecDepth 8000 in
set_option maxHeartbeats 4000000 in
theorem mirrored_par (a b : Tr) (w : World) (hIa : ∀ w, Calls Try.prog 68 #[trV a] w (TrA (mir a) w)) (hIb : ∀ w, Calls Try.prog 68 #[trV b] w (TrA (mir b) w)) :
    Calls Try.prog 68 #[trV (.node true a b)] w (TrA (mir (.node true a b)) w) := by
  have e1 : trV (.node true a b) = .iface tParT (.agg #[trV a, trV b]) := rfl
  have e2 : trV (mir (.node true a b)) = .iface tParT (.agg #[trV (mir a), trV (mir b)]) := rfl
  unfold TrA at hIa hIb ⊢
  rw [e1, e2]
  obtain ⟨ta, pa, hva⟩ := trV_iface a
  obtain ⟨tb, pb, hvb⟩ := trV_iface b
  obtain ⟨ua, qa, hua⟩ := trV_iface (mir a)
  obtain ⟨ub, qb, hub⟩ := trV_iface (mir b)
  rw [hva, hua] at hIa
  rw [hvb, hub] at hIb
  rw [hva, hvb, hua, hub]
  obtain ⟨W, hW⟩ : ∃ W, W = w.alloc (.cells #[.iface ta pa, .iface tb pb] tParT) := ⟨_, rfl⟩
  have b0 := below_alloc w (.cells #[.iface ta pa, .iface tb pb] tParT)
  have k0 := heap_alloc_new w (.cells #[.iface ta pa, .iface tb pb] tParT)
  rw [← hW] at b0 k0
  clear e1 e2
  have b0_h := Lib.hid b0
  have k0_h := Lib.hid k0
  have hIa_h := Lib.hid hIa
  have hIb_h := Lib.hid hIb
  have hva_h := Lib.hid hva
  have hvb_h := Lib.hid hvb
  have hua_h := Lib.hid hua
  have hub_h := Lib.hid hub
  clear b0 k0 hIa hIb hva hvb hua hub
  have as1 := as_par_seq
  have as2 := as_par_par
  go_enter Try.func68, Try.ntmps68
  go_upto_region 7 with (fail)
  rw [← hW]
  clear hW
  refine beginH (fun w' => w'.heap[w.heap.size]? = some (.cells #[.iface ta pa, .iface tb pb] tParT)) (by kernel_rfl) ?_
  have hbd : Below W.heap.size W W.drew := below_drew (Below.refl _ _)
  generalize W.drew = W1 at hbd ⊢
  replace k0_h := Lib.hid (box_below k0_h.out hbd)
  have hB1 := below_trans b0_h.out hbd b0_h.out.size
  have hbd_h := Lib.hid hbd
  have hB1_h := Lib.hid hB1
  clear hbd hB1
  refine takeH 0 (v := ?_) rfl (by kernel_rfl) (by kernel_rfl) (by kernel_rfl) (fun _ _ _ h => h) k0_h.out (by rfl) (fun W' hW' => ?_) ?_; rotate_left; · (obtain ⟨⟨y0, y1⟩, y2, y3⟩ := box2 hW'; clear hW'; go_simp; first | done | with_reducible rfl)
  simp only [Act.put, List.setIfInBounds_toArray, List.set_cons_zero, List.set_cons_succ]
  refine takeH 1 (v := ?_) rfl (by kernel_rfl) (by kernel_rfl) (by kernel_rfl) (fun _ _ _ h => h) k0_h.out (by rfl) (fun W' hW' => ?_) ?_; rotate_left; · (obtain ⟨⟨y0, y1⟩, y2, y3⟩ := box2 hW'; clear hW'; go_simp; first | done | with_reducible rfl)
  simp only [Act.put, List.setIfInBounds_toArray, List.set_cons_zero, List.set_cons_succ]
  refine takeH 3 (v := ?_) rfl (by kernel_rfl) (by kernel_rfl) (by kernel_rfl) (fun _ _ _ h => h) k0_h.out (by rfl) (fun W' hW' => ?_) ?_; rotate_left; · (obtain ⟨⟨y0, y1⟩, y2, y3⟩ := box2 hW'; clear hW'; go_simp; first | done | with_reducible rfl)
  simp only [Act.put, List.setIfInBounds_toArray, List.set_cons_zero, List.set_cons_succ]
  refine takeH 4 (v := ?_) rfl (by kernel_rfl) (by kernel_rfl) (by kernel_rfl) (fun _ _ _ h => h) k0_h.out (by rfl) (fun W' hW' => ?_) ?_; rotate_left; · (obtain ⟨⟨y0, y1⟩, y2, y3⟩ := box2 hW'; clear hW'; go_simp; first | done | with_reducible rfl)
  simp only [Act.put, List.setIfInBounds_toArray, List.set_cons_zero, List.set_cons_succ]
  refine' callH 2 (f := _) (args := _) rfl (by kernel_rfl) (by rfl) ?_ ?_; rotate_left 2; · (go_simp; first | done | with_reducible rfl | (constructor <;> with_reducible rfl))
  refine (hIa_h.out _).mono ?_
  rintro e w2 ⟨rfl, hb2⟩
  replace k0_h := Lib.hid (box_below k0_h.out hb2)
  have hB2 := below_trans hB1_h.out hb2 hB1_h.out.size
  refine ⟨_, rfl, k0_h.out, ?_⟩
  have hb2_h := Lib.hid hb2
  have hB2_h := Lib.hid hB2
  clear hb2 hB2
  simp only [Act.put, List.setIfInBounds_toArray, List.set_cons_zero, List.set_cons_succ]
  refine' callH 5 (f := _) (args := _) rfl (by kernel_rfl) (by rfl) ?_ ?_; rotate_left 2; · (go_simp; first | done | with_reducible rfl | (constructor <;> with_reducible rfl))
  refine (hIb_h.out _).mono ?_
  rintro e w3 ⟨rfl, hb3⟩
  replace k0_h := Lib.hid (box_below k0_h.out hb3)
  have hB3 := below_trans hB2_h.out hb3 hB2_h.out.size
  refine ⟨_, rfl, k0_h.out, ?_⟩
  have hb3_h := Lib.hid hb3
  have hB3_h := Lib.hid hB3
  clear hb3 hB3
  simp only [Act.put, List.setIfInBounds_toArray, List.set_cons_zero, List.set_cons_succ]
  refine takeH 6 (v := ?_) rfl (by kernel_rfl) (by kernel_rfl) (by kernel_rfl) (fun _ _ _ h => h) k0_h.out (by rfl) (fun W' hW' => ?_) ?_; rotate_left; · (skip; clear hW'; go_simp; first | done | with_reducible rfl)
  simp only [Act.put, List.setIfInBounds_toArray, List.set_cons_zero, List.set_cons_succ]
  refine takeH 7 (v := ?_) rfl (by kernel_rfl) (by kernel_rfl) (by kernel_rfl) (fun _ _ _ h => h) k0_h.out (by rfl) (fun W' hW' => ?_) ?_; rotate_left; · (skip; clear hW'; go_simp; first | done | with_reducible rfl)
  simp only [Act.put, List.setIfInBounds_toArray, List.set_cons_zero, List.set_cons_succ]
  refine takeH 8 (v := ?_) rfl (by kernel_rfl) (by kernel_rfl) (by kernel_rfl) (fun _ _ _ h => h) k0_h.out (by rfl) (fun W' hW' => ?_) ?_; rotate_left; · (skip; clear hW'; go_simp; first | done | with_reducible rfl)
  simp only [Act.put, List.setIfInBounds_toArray, List.set_cons_zero, List.set_cons_succ]
  refine doneH (by kernel_rfl) ?_
  go_wp2_with (fail)
  go_ret
  exact ⟨rfl, hB3_h.out⟩

theorem mirrored_any : ∀ (t : Tr), wt t → ∀ (w : World), Calls Try.prog 68 #[trV t] w (TrA (mir t) w)
  | .leaf (k, x, s), hw, w => mirrored_leaf k x s w hw
  | .node p a b, hw, w => by
    obtain ⟨hwa, hwb, -⟩ := hw
    have hIa := mirrored_any a hwa
    have hIb := mirrored_any b hwb
    cases p
    · exact mirrored_seq a b w hIa hIb
    · exact mirrored_par a b w hIa hIb

/-! ### The nodes of a tree -/
/-- The method and its receiver. -/
def nodF : Tr → FuncId
  | .leaf _ => 132
  | .node p _ _ => if p then 131 else 130
def nodX : Tr → Value
  | .leaf n => .agg #[.int .i64 n.1, .int .i64 n.2.1, .string n.2.2]
  | .node _ a b => .agg #[trV a, trV b]
theorem nod_method (t : Tr) (W : World) : (callMethod (trV t) "loop.example/g01073/impl.nodes" #[]).run Try.prog W = .ok (.enter (nodF t) #[nodX t]) W := by
  cases t with
  | leaf n => kernel_rfl
  | node p a b => cases p <;> kernel_rfl
/-- A method called on an interface value, without arguments. -/
theorem invoke_run {P : Program} {o : Oper} {a : Act} {r : Operand} {name : String} {at_ : Array TypeId} {V : Value} {f : FuncId} {args : Array Value} (ho : o.op = .call { callee := .invoke r name, args := #[], argTypes := at_ }) (hr : a.eval r = V)
    (h : ∀ W, (callMethod V name #[]).run P W = .ok (.enter f args) W) (w : World) : (execOp a.eval o).run P w = .ok (.enter f args) w := by
  unfold execOp
  simp only [ho, resolve, Sem.run_bind, Sem.run_pure, Result.andThen_ok, List.map_toArray, List.map_nil, hr]
  have := h w
  simpa [invoke] using this
set_option maxRecDepth 8000 in
set_option maxHeartbeats 2000000 in
theorem nodes_leaf (k x : Int) (s : ByteArray) (w : World) : Calls Try.prog (nodF (.leaf (k, x, s))) #[nodX (.leaf (k, x, s))] w (RetNs (flat (.leaf (k, x, s))) w) := by
  show Calls Try.prog 132 #[.agg #[.int .i64 k, .int .i64 x, .string s]] w _
  have e2 : flat (.leaf (k, x, s)) = [(k, x, s)] := rfl
  rw [e2]
  obtain ⟨W, hW⟩ : ∃ W, W = (w.alloc (.cells #[.int .i64 k, .int .i64 x, .string s] tLeafT)).alloc (.cells #[.int .i64 k, .int .i64 x, .string s] tNd) := ⟨_, rfl⟩
  obtain ⟨b0, -, -, -⟩ := two_boxes w (.cells #[.int .i64 k, .int .i64 x, .string s] tLeafT) (.cells #[.int .i64 k, .int .i64 x, .string s] tNd)
  have hsl := Sl.laid (w.alloc (.cells #[.int .i64 k, .int .i64 x, .string s] tLeafT)) tNd 3 1 #[.int .i64 k, .int .i64 x, .string s] (by unfold maxLen; omega) rfl
  simp only [World.size_alloc] at hsl
  rw [← hW] at b0 hsl
  clear e2
  have b0_h := Lib.hid b0
  have hsl_h := Lib.hid hsl
  clear b0 hsl
  go_enter Try.func132, Try.ntmps132
  go_wp2_with (fail)
  rw [← hW]
  clear hW
  go_ret
  exact ⟨_, _, 1, rfl, rfl, hsl_h.out, fun b hb => (by simp at hb; omega), b0_h.out⟩

set_option maxRecDepth 8000 in
set_option maxHeartbeats 4000000 in
theorem nodes_seq (a b : Tr) (w : World) (hIa : ∀ w, Calls Try.prog (nodF a) #[nodX a] w (RetNs (flat a) w)) (hIb : ∀ w, Calls Try.prog (nodF b) #[nodX b] w (RetNs (flat b) w)) (hs : (flat a).length + (flat b).length ≤ 400) :
    Calls Try.prog (nodF (.node false a b)) #[nodX (.node false a b)] w (RetNs (flat (.node false a b)) w) := by
  show Calls Try.prog 130 #[.agg #[trV a, trV b]] w _
  have e2 : flat (.node false a b) = joinOf 15 (flat a) (flat b) := by unfold joinOf; simp only [flat, List.append_assoc]; rfl
  rw [e2]
  have hma := fun W => nod_method a W
  have hmb := fun W => nod_method b W
  obtain ⟨Fa, hFa⟩ : ∃ F, F = nodF a := ⟨_, rfl⟩
  obtain ⟨Fb, hFb⟩ : ∃ F, F = nodF b := ⟨_, rfl⟩
  obtain ⟨Xa, hXa⟩ : ∃ F, F = nodX a := ⟨_, rfl⟩
  obtain ⟨Xb, hXb⟩ : ∃ F, F = nodX b := ⟨_, rfl⟩
  obtain ⟨La, hLa⟩ : ∃ F, F = flat a := ⟨_, rfl⟩
  obtain ⟨Lb, hLb⟩ : ∃ F, F = flat b := ⟨_, rfl⟩
  obtain ⟨ta, pa, hva⟩ := trV_iface a
  obtain ⟨tb, pb, hvb⟩ := trV_iface b
  rw [← hFa, ← hXa, ← hLa] at hIa
  rw [← hFb, ← hXb, ← hLb] at hIb
  rw [← hFa, ← hXa, hva] at hma
  rw [← hFb, ← hXb, hvb] at hmb
  rw [hva, hvb, ← hLa, ← hLb]
  rw [← hLa, ← hLb] at hs
  unfold RetNs at hIa hIb
  obtain ⟨W, hW⟩ : ∃ W, W = w.alloc (.cells #[.iface ta pa, .iface tb pb] tSeqT) := ⟨_, rfl⟩
  have b0 := below_alloc w (.cells #[.iface ta pa, .iface tb pb] tSeqT)
  have k0 := heap_alloc_new w (.cells #[.iface ta pa, .iface tb pb] tSeqT)
  rw [← hW] at b0 k0
  clear e2
  have b0_h := Lib.hid b0
  have k0_h := Lib.hid k0
  have hIa_h := Lib.hid hIa
  have hIb_h := Lib.hid hIb
  have hva_h := Lib.hid hva
  have hvb_h := Lib.hid hvb
  have hFa_h := Lib.hid hFa
  have hFb_h := Lib.hid hFb
  have hXa_h := Lib.hid hXa
  have hXb_h := Lib.hid hXb
  have hLa_h := Lib.hid hLa
  have hLb_h := Lib.hid hLb
  clear b0 k0 hIa hIb hva hvb hFa hFb hXa hXb hLa hLb
  go_enter Try.func130, Try.ntmps130
  go_upto_region 1 with (fail)
  rw [← hW]
  clear hW
  refine beginH (fun w' => w'.heap[w.heap.size]? = some (.cells #[.iface ta pa, .iface tb pb] tSeqT)) (by kernel_rfl) ?_
  have hbd : Below W.heap.size W W.drew := below_drew (Below.refl _ _)
  generalize W.drew = W1 at hbd ⊢
  replace k0_h := Lib.hid (box_below k0_h.out hbd)
  have hB1 := below_trans b0_h.out hbd b0_h.out.size
  have hbd_h := Lib.hid hbd
  have hB1_h := Lib.hid hB1
  clear hbd hB1
  refine takeH 0 (v := ?_) rfl (by kernel_rfl) (by kernel_rfl) (by kernel_rfl) (fun _ _ _ h => h) k0_h.out (by rfl) (fun W' hW' => ?_) ?_; rotate_left; · (obtain ⟨⟨y0, y1⟩, y2, y3⟩ := box2 hW'; clear hW'; go_simp; first | done | with_reducible rfl)
  simp only [Act.put, List.setIfInBounds_toArray, List.set_cons_zero, List.set_cons_succ]
  refine takeH 1 (v := ?_) rfl (by kernel_rfl) (by kernel_rfl) (by kernel_rfl) (fun _ _ _ h => h) k0_h.out (by rfl) (fun W' hW' => ?_) ?_; rotate_left; · (obtain ⟨⟨y0, y1⟩, y2, y3⟩ := box2 hW'; clear hW'; go_simp; first | done | with_reducible rfl)
  simp only [Act.put, List.setIfInBounds_toArray, List.set_cons_zero, List.set_cons_succ]
  refine takeH 3 (v := ?_) rfl (by kernel_rfl) (by kernel_rfl) (by kernel_rfl) (fun _ _ _ h => h) k0_h.out (by rfl) (fun W' hW' => ?_) ?_; rotate_left; · (obtain ⟨⟨y0, y1⟩, y2, y3⟩ := box2 hW'; clear hW'; go_simp; first | done | with_reducible rfl)
  simp only [Act.put, List.setIfInBounds_toArray, List.set_cons_zero, List.set_cons_succ]
  refine takeH 4 (v := ?_) rfl (by kernel_rfl) (by kernel_rfl) (by kernel_rfl) (fun _ _ _ h => h) k0_h.out (by rfl) (fun W' hW' => ?_) ?_; rotate_left; · (obtain ⟨⟨y0, y1⟩, y2, y3⟩ := box2 hW'; clear hW'; go_simp; first | done | with_reducible rfl)
  simp only [Act.put, List.setIfInBounds_toArray, List.set_cons_zero, List.set_cons_succ]
  refine callH 2 (f := Fa) (args := #[Xa]) rfl (by kernel_rfl) (by rfl) (invoke_run rfl rfl hma _) ?_
  refine (hIa_h.out _).mono ?_
  rintro e w2 ⟨A1, c1, m1, rfl, hm1, hN1, -, hb2⟩
  replace k0_h := Lib.hid (box_below k0_h.out hb2)
  have hB2 := below_trans hB1_h.out hb2 hB1_h.out.size
  refine ⟨_, rfl, k0_h.out, ?_⟩
  have hb2_h := Lib.hid hb2
  have hB2_h := Lib.hid hB2
  have hm1_h := Lib.hid hm1
  have hN1_h := Lib.hid hN1
  clear hb2 hB2 hm1 hN1
  simp only [Act.put, List.setIfInBounds_toArray, List.set_cons_zero, List.set_cons_succ]
  refine callH 5 (f := Fb) (args := #[Xb]) rfl (by kernel_rfl) (by rfl) (invoke_run rfl rfl hmb _) ?_
  refine (hIb_h.out _).mono ?_
  rintro e w3 ⟨A2, c2, m2, rfl, hm2, hN2, -, hb3⟩
  replace k0_h := Lib.hid (box_below k0_h.out hb3)
  have hB3 := below_trans hB2_h.out hb3 hB2_h.out.size
  have hr1 : RdN w3 A1 La := (Sl.rdc hN1_h.out).below hb3
  have hr2 : RdN w3 A2 Lb := Sl.rdc hN2
  refine ⟨_, rfl, k0_h.out, ?_⟩
  have hb3_h := Lib.hid hb3
  have hB3_h := Lib.hid hB3
  have hm2_h := Lib.hid hm2
  have hN2_h := Lib.hid hN2
  have hr1_h := Lib.hid hr1
  have hr2_h := Lib.hid hr2
  clear hb3 hB3 hm2 hN2 hr1 hr2
  clear hma hmb
  simp only [Act.put, List.setIfInBounds_toArray, List.set_cons_zero, List.set_cons_succ]
  refine' callH 6 (f := _) (args := _) rfl (by kernel_rfl) (by rfl) ?_ ?_; rotate_left 2; · (go_simp; first | done | with_reducible rfl | (constructor <;> with_reducible rfl))
  refine (joinNodes_any 15 A1 A2 m1 c1 m2 c2 La Lb w3 hr1_h.out hr2_h.out hm1_h.out hm2_h.out (by omega)).mono ?_
  rintro e w4 ⟨A3, c3, m3, rfl, hm3, hN3, hF3, hb4⟩
  replace k0_h := Lib.hid (box_below k0_h.out hb4)
  have hB4 := below_trans hB3_h.out hb4 hB3_h.out.size
  refine ⟨_, rfl, k0_h.out, ?_⟩
  have hb4_h := Lib.hid hb4
  have hB4_h := Lib.hid hB4
  have hm3_h := Lib.hid hm3
  have hN3_h := Lib.hid hN3
  have hF3_h := Lib.hid hF3
  clear hb4 hB4 hm3 hN3 hF3
  simp only [Act.put, List.setIfInBounds_toArray, List.set_cons_zero, List.set_cons_succ]
  refine takeH 7 (v := ?_) rfl (by kernel_rfl) (by kernel_rfl) (by kernel_rfl) (fun _ _ _ h => h) k0_h.out (by rfl) (fun W' hW' => ?_) ?_; rotate_left; · (skip; clear hW'; go_simp; first | done | with_reducible rfl)
  simp only [Act.put, List.setIfInBounds_toArray, List.set_cons_zero, List.set_cons_succ]
  refine doneH (by kernel_rfl) ?_
  go_wp2_with (fail)
  go_ret
  exact ⟨A3, c3, m3, rfl, hm3_h.out, hN3_h.out, fun b hb => Nat.le_trans hB3_h.out.size (hF3_h.out b hb), hB4_h.out⟩

set_option maxRecDepth 8000 in
set_option maxHeartbeats 4000000 in
theorem nodes_par (a b : Tr) (w : World) (hIa : ∀ w, Calls Try.prog (nodF a) #[nodX a] w (RetNs (flat a) w)) (hIb : ∀ w, Calls Try.prog (nodF b) #[nodX b] w (RetNs (flat b) w)) (hs : (flat a).length + (flat b).length ≤ 400) :
    Calls Try.prog (nodF (.node true a b)) #[nodX (.node true a b)] w (RetNs (flat (.node true a b)) w) := by
  show Calls Try.prog 131 #[.agg #[trV a, trV b]] w _
  have e2 : flat (.node true a b) = joinOf 16 (flat a) (flat b) := by unfold joinOf; simp only [flat, List.append_assoc]; rfl
  rw [e2]
  have hma := fun W => nod_method a W
  have hmb := fun W => nod_method b W
  obtain ⟨Fa, hFa⟩ : ∃ F, F = nodF a := ⟨_, rfl⟩
  obtain ⟨Fb, hFb⟩ : ∃ F, F = nodF b := ⟨_, rfl⟩
  obtain ⟨Xa, hXa⟩ : ∃ F, F = nodX a := ⟨_, rfl⟩
  obtain ⟨Xb, hXb⟩ : ∃ F, F = nodX b := ⟨_, rfl⟩
  obtain ⟨La, hLa⟩ : ∃ F, F = flat a := ⟨_, rfl⟩
  obtain ⟨Lb, hLb⟩ : ∃ F, F = flat b := ⟨_, rfl⟩
  obtain ⟨ta, pa, hva⟩ := trV_iface a
  obtain ⟨tb, pb, hvb⟩ := trV_iface b
  rw [← hFa, ← hXa, ← hLa] at hIa
  rw [← hFb, ← hXb, ← hLb] at hIb
  rw [← hFa, ← hXa, hva] at hma
  rw [← hFb, ← hXb, hvb] at hmb
  rw [hva, hvb, ← hLa, ← hLb]
  rw [← hLa, ← hLb] at hs
  unfold RetNs at hIa hIb
  obtain ⟨W, hW⟩ : ∃ W, W = w.alloc (.cells #[.iface ta pa, .iface tb pb] tParT) := ⟨_, rfl⟩
  have b0 := below_alloc w (.cells #[.iface ta pa, .iface tb pb] tParT)
  have k0 := heap_alloc_new w (.cells #[.iface ta pa, .iface tb pb] tParT)
  rw [← hW] at b0 k0
  clear e2
  have b0_h := Lib.hid b0
  have k0_h := Lib.hid k0
  have hIa_h := Lib.hid hIa
  have hIb_h := Lib.hid hIb
  have hva_h := Lib.hid hva
  have hvb_h := Lib.hid hvb
  have hFa_h := Lib.hid hFa
  have hFb_h := Lib.hid hFb
  have hXa_h := Lib.hid hXa
  have hXb_h := Lib.hid hXb
  have hLa_h := Lib.hid hLa
  have hLb_h := Lib.hid hLb
  clear b0 k0 hIa hIb hva hvb hFa hFb hXa hXb hLa hLb
  go_enter Try.func131, Try.ntmps131
  go_upto_region 1 with (fail)
  rw [← hW]
  clear hW
  refine beginH (fun w' => w'.heap[w.heap.size]? = some (.cells #[.iface ta pa, .iface tb pb] tParT)) (by kernel_rfl) ?_
  have hbd : Below W.heap.size W W.drew := below_drew (Below.refl _ _)
  generalize W.drew = W1 at hbd ⊢
  replace k0_h := Lib.hid (box_below k0_h.out hbd)
  have hB1 := below_trans b0_h.out hbd b0_h.out.size
  have hbd_h := Lib.hid hbd
  have hB1_h := Lib.hid hB1
  clear hbd hB1
  refine takeH 0 (v := ?_) rfl (by kernel_rfl) (by kernel_rfl) (by kernel_rfl) (fun _ _ _ h => h) k0_h.out (by rfl) (fun W' hW' => ?_) ?_; rotate_left; · (obtain ⟨⟨y0, y1⟩, y2, y3⟩ := box2 hW'; clear hW'; go_simp; first | done | with_reducible rfl)
  simp only [Act.put, List.setIfInBounds_toArray, List.set_cons_zero, List.set_cons_succ]
  refine takeH 1 (v := ?_) rfl (by kernel_rfl) (by kernel_rfl) (by kernel_rfl) (fun _ _ _ h => h) k0_h.out (by rfl) (fun W' hW' => ?_) ?_; rotate_left; · (obtain ⟨⟨y0, y1⟩, y2, y3⟩ := box2 hW'; clear hW'; go_simp; first | done | with_reducible rfl)
  simp only [Act.put, List.setIfInBounds_toArray, List.set_cons_zero, List.set_cons_succ]
  refine takeH 3 (v := ?_) rfl (by kernel_rfl) (by kernel_rfl) (by kernel_rfl) (fun _ _ _ h => h) k0_h.out (by rfl) (fun W' hW' => ?_) ?_; rotate_left; · (obtain ⟨⟨y0, y1⟩, y2, y3⟩ := box2 hW'; clear hW'; go_simp; first | done | with_reducible rfl)
  simp only [Act.put, List.setIfInBounds_toArray, List.set_cons_zero, List.set_cons_succ]
  refine takeH 4 (v := ?_) rfl (by kernel_rfl) (by kernel_rfl) (by kernel_rfl) (fun _ _ _ h => h) k0_h.out (by rfl) (fun W' hW' => ?_) ?_; rotate_left; · (obtain ⟨⟨y0, y1⟩, y2, y3⟩ := box2 hW'; clear hW'; go_simp; first | done | with_reducible rfl)
  simp only [Act.put, List.setIfInBounds_toArray, List.set_cons_zero, List.set_cons_succ]
  refine callH 2 (f := Fa) (args := #[Xa]) rfl (by kernel_rfl) (by rfl) (invoke_run rfl rfl hma _) ?_
  refine (hIa_h.out _).mono ?_
  rintro e w2 ⟨A1, c1, m1, rfl, hm1, hN1, -, hb2⟩
  replace k0_h := Lib.hid (box_below k0_h.out hb2)
  have hB2 := below_trans hB1_h.out hb2 hB1_h.out.size
  refine ⟨_, rfl, k0_h.out, ?_⟩
  have hb2_h := Lib.hid hb2
  have hB2_h := Lib.hid hB2
  have hm1_h := Lib.hid hm1
  have hN1_h := Lib.hid hN1
  clear hb2 hB2 hm1 hN1
  simp only [Act.put, List.setIfInBounds_toArray, List.set_cons_zero, List.set_cons_succ]
  refine callH 5 (f := Fb) (args := #[Xb]) rfl (by kernel_rfl) (by rfl) (invoke_run rfl rfl hmb _) ?_
  refine (hIb_h.out _).mono ?_
  rintro e w3 ⟨A2, c2, m2, rfl, hm2, hN2, -, hb3⟩
  replace k0_h := Lib.hid (box_below k0_h.out hb3)
  have hB3 := below_trans hB2_h.out hb3 hB2_h.out.size
  have hr1 : RdN w3 A1 La := (Sl.rdc hN1_h.out).below hb3
  have hr2 : RdN w3 A2 Lb := Sl.rdc hN2
  refine ⟨_, rfl, k0_h.out, ?_⟩
  have hb3_h := Lib.hid hb3
  have hB3_h := Lib.hid hB3
  have hm2_h := Lib.hid hm2
  have hN2_h := Lib.hid hN2
  have hr1_h := Lib.hid hr1
  have hr2_h := Lib.hid hr2
  clear hb3 hB3 hm2 hN2 hr1 hr2
  clear hma hmb
  simp only [Act.put, List.setIfInBounds_toArray, List.set_cons_zero, List.set_cons_succ]
  refine' callH 6 (f := _) (args := _) rfl (by kernel_rfl) (by rfl) ?_ ?_; rotate_left 2; · (go_simp; first | done | with_reducible rfl | (constructor <;> with_reducible rfl))
  refine (joinNodes_any 16 A1 A2 m1 c1 m2 c2 La Lb w3 hr1_h.out hr2_h.out hm1_h.out hm2_h.out (by omega)).mono ?_
  rintro e w4 ⟨A3, c3, m3, rfl, hm3, hN3, hF3, hb4⟩
  replace k0_h := Lib.hid (box_below k0_h.out hb4)
  have hB4 := below_trans hB3_h.out hb4 hB3_h.out.size
  refine ⟨_, rfl, k0_h.out, ?_⟩
  have hb4_h := Lib.hid hb4
  have hB4_h := Lib.hid hB4
  have hm3_h := Lib.hid hm3
  have hN3_h := Lib.hid hN3
  have hF3_h := Lib.hid hF3
  clear hb4 hB4 hm3 hN3 hF3
  simp only [Act.put, List.setIfInBounds_toArray, List.set_cons_zero, List.set_cons_succ]
  refine takeH 7 (v := ?_) rfl (by kernel_rfl) (by kernel_rfl) (by kernel_rfl) (fun _ _ _ h => h) k0_h.out (by rfl) (fun W' hW' => ?_) ?_; rotate_left; · (skip; clear hW'; go_simp; first | done | with_reducible rfl)
  simp only [Act.put, List.setIfInBounds_toArray, List.set_cons_zero, List.set_cons_succ]
  refine doneH (by kernel_rfl) ?_
  go_wp2_with (fail)
  go_ret
  exact ⟨A3, c3, m3, rfl, hm3_h.out, hN3_h.out, fun b hb => Nat.le_trans hB3_h.out.size (hF3_h.out b hb), hB4_h.out⟩

theorem nodes_any : ∀ (t : Tr), sz t ≤ 400 → ∀ (w : World), Calls Try.prog (nodF t) #[nodX t] w (RetNs (flat t) w)
  | .leaf (k, x, s), _, w => nodes_leaf k x s w
  | .node p a b, hs, w => by
    have hsn := sz_node p a b
    have hIa := nodes_any a (by omega)
    have hIb := nodes_any b (by omega)
    have hs2 : (flat a).length + (flat b).length ≤ 400 := by
      have h1 : (flat a).length = sz a := rfl
      have h2 : (flat b).length = sz b := rfl
      omega
    cases p
    · exact nodes_seq a b w hIa hIb hs2
    · exact nodes_par a b w hIa hIb hs2
end Go.Proofs.Ytlmnmdahphahfaa
