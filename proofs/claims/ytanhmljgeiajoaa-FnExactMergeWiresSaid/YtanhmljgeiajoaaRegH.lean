/-
  A DRAWN REGION WHOSE CALLS COME ONE BEHIND THE OTHER (our own steps over the library's wpAnyH): what yields one value in every world that meets S is taken first; a call is met when it alone may come up.
-/
import Derived.Test.YtanhmljgeiajoaaReg
import Derived.OrdersHeld
namespace Go.Proofs.Ytanhmljgeiajoaa

section
variable {P : Program} {l : List Oper} {Q : Exit → Act → World → Prop} {md : Region.Mode} {S : World → Prop}

theorem at_drop {l l' : List Oper} {i : Nat} {o : Oper} (h : l.drop i = o :: l') : l.toArray[i]? = some o := by
  have := congrArg (·[0]?) h
  simpa [List.getElem?_drop] using this
theorem takeH (i : Nat) {oi : Oper} {v : Value} {fuel : Nat} {listed : Array Bool} {a : Act} {w : World} {l' : List Oper} (hd : l.drop i = oi :: l')
    (hs : Region.noSelect l.toArray = true) (hf : Region.free md l.toArray listed i = true) (hr : (Region.ready md l.toArray listed).contains i = true)
    (hQ : ∀ c a w, Q (.panic c) (a.put oi.dst v) w → Q (.panic c) a w) (hS : S w) (hw : Region.wanted oi (yielded l.toArray a.tmps) = true) (hy : ∀ w, S w → (execOp a.eval oi).run P w = .ok (.value v) w)
    (h : wpAnyH P md l.toArray Q S fuel (listed.setIfInBounds i true) (a.put oi.dst v) w) : wpAnyH P md l.toArray Q S (fuel + 1) listed a w :=
  wpAnyH_take (at_drop hd) hs hf hr hQ (.inl ⟨hw, hy⟩) hS h
theorem offH (i : Nat) {oi : Oper} {fuel : Nat} {listed : Array Bool} {a : Act} {w : World} {l' : List Oper} (hd : l.drop i = oi :: l')
    (hs : Region.noSelect l.toArray = true) (hf : Region.free md l.toArray listed i = true) (hr : (Region.ready md l.toArray listed).contains i = true)
    (hQ : ∀ c a w, Q (.panic c) (a.put oi.dst undef) w → Q (.panic c) a w) (hS : S w) (hw : Region.wanted oi (yielded l.toArray a.tmps) = false)
    (h : wpAnyH P md l.toArray Q S fuel (listed.setIfInBounds i true) (a.put oi.dst undef) w) : wpAnyH P md l.toArray Q S (fuel + 1) listed a w :=
  wpAnyH_take (at_drop hd) hs hf hr hQ (.inr ⟨hw, rfl⟩) hS h
/-- The one operation that may come up. -/
theorem oneH (i : Nat) {o : Oper} {fuel : Nat} {listed : Array Bool} {a : Act} {w : World} {l' : List Oper} (hd : l.drop i = o :: l') (hr : Region.ready md l.toArray listed = [i]) (hw : Region.wanted o (yielded l.toArray a.tmps) = true)
    (h : ∀ K : Act → World → Prop, (∀ a' w', S w' → wpAnyH P md l.toArray Q S fuel (listed.setIfInBounds i true) a' w' → K a' w') → o.wp P a w K Q) : wpAnyH P md l.toArray Q S (fuel + 1) listed a w := by
  refine wpAnyH_all hr (by simp) fun j hj => ?_
  obtain rfl := List.mem_singleton.1 hj
  unfold wpOp
  simp only [at_drop hd, hw, if_true]
  exact .inl (h _ fun a' w' h1 h2 => ⟨h1, h2⟩)
theorem callH (i : Nat) {o : Oper} {f : FuncId} {args : Array Value} {fuel : Nat} {listed : Array Bool} {a : Act} {w : World} {l' : List Oper} (hd : l.drop i = o :: l') (hr : Region.ready md l.toArray listed = [i]) (hw : Region.wanted o (yielded l.toArray a.tmps) = true)
    (hrun : (execOp a.eval o).run P w = .ok (.enter f args) w)
    (h : Calls P f args w fun e w' => ∃ v, e = .returned v ∧ S w' ∧ wpAnyH P md l.toArray Q S fuel (listed.setIfInBounds i true) (a.put o.dst v) w') : wpAnyH P md l.toArray Q S (fuel + 1) listed a w := by
  refine oneH i hd hr hw fun K hK => ?_
  unfold Oper.wp
  rw [hrun]
  exact h.mono fun e w' ⟨v, he, h1, h2⟩ => by subst he; exact hK _ _ h1 h2
theorem offOneH (i : Nat) {o : Oper} {fuel : Nat} {listed : Array Bool} {a : Act} {w : World} {l' : List Oper} (hd : l.drop i = o :: l') (hr : Region.ready md l.toArray listed = [i]) (hw : Region.wanted o (yielded l.toArray a.tmps) = false) (hS : S w)
    (h : wpAnyH P md l.toArray Q S fuel (listed.setIfInBounds i true) (a.put o.dst undef) w) : wpAnyH P md l.toArray Q S (fuel + 1) listed a w := by
  refine wpAnyH_all hr (by simp) fun j hj => ?_
  obtain rfl := List.mem_singleton.1 hj
  unfold wpOp
  simp only [at_drop hd, hw]
  exact ⟨hS, h⟩
/-- Two that only read may come up: both orders are one. -/
theorem twoValH (i j : Nat) {oi oj : Oper} {vi vj : Value} {fuel : Nat} {listed : Array Bool} {a : Act} {w : World} {li lj : List Oper} (hdi : l.drop i = oi :: li) (hdj : l.drop j = oj :: lj) (hij : i ≠ j)
    (hr : Region.ready md l.toArray listed = [i, j]) (hri : Region.ready md l.toArray (listed.setIfInBounds i true) = [j]) (hrj : Region.ready md l.toArray (listed.setIfInBounds j true) = [i])
    (hsel : Region.noSelect l.toArray = true) (hap : oi.apart l.toArray oj = true) (hwi : Region.wanted oi (yielded l.toArray a.tmps) = true) (hwj : Region.wanted oj (yielded l.toArray a.tmps) = true)
    (hvi : (execOp a.eval oi).run P w = .ok (.value vi) w) (hvj : (execOp a.eval oj).run P w = .ok (.value vj) w) (hS : S w)
    (h : wpAnyH P md l.toArray Q S fuel ((listed.setIfInBounds i true).setIfInBounds j true) ((a.put oi.dst vi).put oj.dst vj) w) : wpAnyH P md l.toArray Q S (fuel + 2) listed a w := by
  obtain ⟨h1, h2, h3⟩ := Oper.apart_spec hap
  have si : ∀ cs b, oi.op ≠ .select cs b := fun cs b => Region.noSelect_spec hsel i oi cs b (at_drop hdi)
  have sj : ∀ cs b, oj.op ≠ .select cs b := fun cs b => Region.noSelect_spec hsel j oj cs b (at_drop hdj)
  refine wpAnyH_all hr (by simp) fun k hk => ?_
  have hk' : k = i ∨ k = j := by simpa using hk
  rcases hk' with rfl | rfl
  · unfold wpOp
    simp only [at_drop hdi, hwi, if_true]
    refine .inl ?_
    unfold Oper.wp
    rw [hvi]
    refine ⟨hS, wpAnyH_all hri (by simp) fun k' hk' => ?_⟩
    obtain rfl := List.mem_singleton.1 hk'
    unfold wpOp
    have hw' : Region.wanted oj (yielded l.toArray (a.put oi.dst vi).tmps) = true := by rw [wanted_put oj a oi.dst vi h1]; exact hwj
    simp only [at_drop hdj, hw', if_true]
    refine .inl ?_
    unfold Oper.wp
    rw [execOp_put oj sj a oi.dst vi h1, hvj]
    exact ⟨hS, h⟩
  · unfold wpOp
    simp only [at_drop hdj, hwj, if_true]
    refine .inl ?_
    unfold Oper.wp
    rw [hvj]
    refine ⟨hS, wpAnyH_all hrj (by simp) fun k' hk' => ?_⟩
    obtain rfl := List.mem_singleton.1 hk'
    unfold wpOp
    have hw' : Region.wanted oi (yielded l.toArray (a.put oj.dst vj).tmps) = true := by rw [wanted_put oi a oj.dst vj h3]; exact hwi
    simp only [at_drop hdi, hw', if_true]
    refine .inl ?_
    unfold Oper.wp
    rw [execOp_put oi si a oj.dst vj h3, hvi]
    refine ⟨hS, ?_⟩
    rw [Array.setIfInBounds_comm _ _ (Ne.symm hij), ← Act.put_comm a vi vj h2]
    exact h
theorem doneH {fuel : Nat} {listed : Array Bool} {a : Act} {w : World} (hr : Region.ready md l.toArray listed = []) (h : Q .normal a w) : wpAnyH P md l.toArray Q S fuel listed a w := wpAnyH_done hr h fuel
theorem beginH {id : Nat} {a : Act} {w : World} (S : World → Prop) (hm : P.follows .mixedOrders = true) (h : wpAnyH P .any l.toArray Q S l.toArray.size (Array.replicate l.toArray.size false) a w.drew) : (Code.region id l.toArray true).wp P Q a w := wp_region_held hm h
end
end Go.Proofs.Ytanhmljgeiajoaa
