/-
  MORE STEPS FOR REGIONS THAT DRAW THEIR ORDER; append of one element.
-/
import Derived.Test.YtahnhblodfdfhaaDoorRegH
import Derived.Test.YtahnhblodfdfhaaDoorOps
import Derived.StillTailTactics
namespace Go.Proofs.YtahnhblodfdfhaaDoor
open Go.RowKit

section
variable {P : Program} {l : List Oper} {Q : Exit → Act → World → Prop} {md : Region.Mode} {S : World → Prop}
theorem tailD {id : Nat} {a : Act} {w : World} (n : Nat) (hm : P.follows .mixedOrders = true) (hB : Region.lexTailB .any l.toArray n = true)
    (h : wpStill P l.toArray w.drew (fun a' => wpList P l.toArray Q (l.drop n) a' w.drew) (l.take n) a) : (Code.region id l.toArray true).wp P Q a w :=
  wp_region_still_tail n hm hB h
/-- A region that only lays new memory. -/
theorem beginB {id : Nat} {a : Act} {w : World} (hm : P.follows .mixedOrders = true) (h : ∀ W1, W1 = w.drew → wpAnyH P .any l.toArray Q (fun w' => Below W1.heap.size W1 w') l.toArray.size (Array.replicate l.toArray.size false) a W1) : (Code.region id l.toArray true).wp P Q a w :=
  beginH _ hm (h _ rfl)
/-- The one operation that may come up, its run known. -/
theorem runH (i : Nat) {o : Oper} {v : Value} {fuel : Nat} {listed : Array Bool} {a : Act} {w w1 : World} {l' : List Oper} (hd : l.drop i = o :: l') (hr : Region.ready md l.toArray listed = [i]) (hw : Region.wanted o (yielded l.toArray a.tmps) = true)
    (hrun : (execOp a.eval o).run P w = .ok (.value v) w1) (hS : S w1) (h : wpAnyH P md l.toArray Q S fuel (listed.setIfInBounds i true) (a.put o.dst v) w1) : wpAnyH P md l.toArray Q S (fuel + 1) listed a w :=
  oneH i hd hr hw fun K hK => by
    unfold Oper.wp
    rw [hrun]
    exact hK _ _ hS h
/-- A call, or the laying of a box, whichever comes up first. -/
theorem callOrH (i j : Nat) {oi oj : Oper} {f : FuncId} {args : Array Value} {vj : Value} {wj : World} {fuel : Nat} {listed : Array Bool} {a : Act} {w : World} {li lj : List Oper} (hdi : l.drop i = oi :: li) (hdj : l.drop j = oj :: lj)
    (hr : Region.ready md l.toArray listed = [i, j]) (hwi : Region.wanted oi (yielded l.toArray a.tmps) = true) (hwj : Region.wanted oj (yielded l.toArray a.tmps) = true)
    (hrun : (execOp a.eval oi).run P w = .ok (.enter f args) w) (hrunj : (execOp a.eval oj).run P w = .ok (.value vj) wj)
    (h1 : Calls P f args w fun e w' => ∃ v, e = .returned v ∧ S w' ∧ wpAnyH P md l.toArray Q S fuel (listed.setIfInBounds i true) (a.put oi.dst v) w')
    (hSj : S wj) (h2 : wpAnyH P md l.toArray Q S fuel (listed.setIfInBounds j true) (a.put oj.dst vj) wj) : wpAnyH P md l.toArray Q S (fuel + 1) listed a w := by
  refine wpAnyH_all hr (by simp) fun k hk => ?_
  have hk' : k = i ∨ k = j := by simpa using hk
  rcases hk' with rfl | rfl
  · unfold wpOp
    simp only [at_drop hdi, hwi, if_true]
    refine .inl ?_
    unfold Oper.wp
    rw [hrun]
    exact h1.mono fun e w' ⟨v, he, a1, a2⟩ => by subst he; exact ⟨a1, a2⟩
  · unfold wpOp
    simp only [at_drop hdj, hwj, if_true]
    refine .inl ?_
    unfold Oper.wp
    rw [hrunj]
    exact ⟨hSj, h2⟩
/-- append, when it alone may come up. -/
theorem appH (i : Nat) {o : Oper} {fuel : Nat} {listed : Array Bool} {a : Act} {w : World} {l' : List Oper} (hd : l.drop i = o :: l') (hr : Region.ready md l.toArray listed = [i]) (hw : Region.wanted o (yielded l.toArray a.tmps) = true)
    (s x : Operand) (t : TypeId) (ho : o.op = .call { callee := .builtin .append, args := #[s, x], argTypes := #[t, t] })
    (e : TypeId) {z : Value} {size bytes : Nat} (ht : P.underlying t = some (.slice e)) (hinfo : (P.info? e).map (fun i => (i.zero, i.size, i.bytes)) = some (some z, size, bytes)) (hzs : z.cells.size = size) (hsz : 0 < size)
    {A : Option Addr} {n cap : Nat} {xs : List Value} (he : a.eval s = .slice A n cap) (hs : Sl w e size A n cap xs)
    {B : Option Addr} {m c : Nat} {news : List Value} (hx : a.eval x = .slice B m c) (hl : news.length = m * size) (hrd : RdC w B news) (h1 : ∀ u ∈ news, u.oneCell' = true)
    (h63 : n + m ≤ maxLen) (hbytes : (n + m) * bytes ≤ 140737488355328)
    (h : ∀ A' cap' w', Sl w' e size A' (n + m) cap' (xs ++ news) → (∀ b, b ∈ fpA A' → b ∈ fpA A ∨ w.heap.size ≤ b) → Keeps (· ∈ fpA A) w w' → S w' ∧ wpAnyH P md l.toArray Q S fuel (listed.setIfInBounds i true) (a.put o.dst (.slice A' (n + m) cap')) w') : wpAnyH P md l.toArray Q S (fuel + 1) listed a w := by
  obtain ⟨i', hi, hz, hz1, hz2⟩ := info_parts hinfo
  obtain ⟨A', cap', w', hrun, h2, h3, h4⟩ := run_append_Sl (P := P) w t o.type e i' z size bytes ht hi hz hz1 hz2 hzs hsz A n cap xs hs B m c news hl hrd h1 h63 hbytes
  obtain ⟨hS, hh⟩ := h A' cap' w' h2 h3 h4
  refine runH i hd hr hw (w1 := w') (v := .slice A' (n + m) cap') ?_ hS hh
  unfold execOp
  simp only [ho, resolve, invoke, builtin, Sem.run_bind, Sem.run_pure, Result.andThen_ok, List.map_toArray, List.map_cons, List.map_nil, he, hx, hrun]
end

section
variable {P : Program} {ops : Array Oper} {rest : List Oper} {o : Oper} {a : Act} {Q : Exit → Act → World → Prop} {w : World}
/-- append(s, x): x lies in the block that has just been laid. -/
theorem wpList_append1 (hgd : o.guard = none) (s x : Operand) (t : TypeId)
    (ho : o.op = .call { callee := .builtin .append, args := #[s, x], argTypes := #[t, t] })
    (e : TypeId) {z : Value} {size bytes : Nat} (ht : P.underlying t = some (.slice e)) (hinfo : (P.info? e).map (fun i => (i.zero, i.size, i.bytes)) = some (some z, size, bytes)) (hzs : z.cells.size = size) (hsz : 0 < size)
    {A : Option Addr} {n cap : Nat} {xs : List Value} (he : a.eval s = .slice A n cap) (hs : Sl w e size A n cap xs)
    {cs : Array Value} {G : Nat} (hx : a.eval x = .slice (some ⟨G, 0, none⟩) 1 1) (hG : G = w.heap.size) (hcs : cs.size = size) (h1 : ∀ u ∈ cs.toList, u.oneCell' = true)
    (hn : n ≤ 1000000000) (hb : bytes ≤ 1000)
    (h : ∀ A' cap' w', Sl w' e size A' (n + 1) cap' (xs ++ cs.toList) → (∀ b, b ∈ fpA A' → b ∈ fpA A ∨ w.heap.size ≤ b) → Keeps (· ∈ fpA A) w w' → wpList P ops Q rest (a.put o.dst (.slice A' (n + 1) cap')) w') : wpList P ops Q (o :: rest) a (w.alloc (.cells cs e)) := by
  subst hG
  refine wpList_append_Sl _ hgd s x t ho e ht hinfo hzs hsz he (hs.alloc _) hx (by simpa using hcs) (Sl.rdc (Sl.laid w e size 1 cs (by unfold maxLen; omega) (by omega))) h1 (by unfold maxLen; omega) ?_ (fun A' cap' w' a1 a2 a3 => h A' cap' w' a1 (fun b hb => ?_) ?_)
  · have := Nat.mul_le_mul (show n + 1 ≤ 1000000001 by omega) hb
    omega
  · rcases a2 b hb with h | h
    · exact .inl h
    · right; simp at h; omega
  · exact ((Keeps.refl _ _).alloc _).trans a3
end
end Go.Proofs.YtahnhblodfdfhaaDoor
