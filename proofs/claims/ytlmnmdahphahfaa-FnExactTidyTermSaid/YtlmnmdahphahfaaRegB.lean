/-
  A DRAWN REGION OF CALLS, ONE BEHIND THE OTHER, AND BOXES THAT MAY BE LAID AT ANY TIME: one walk for all orders.
-/
import Derived.Test.YtlmnmdahphahfaaRegC
namespace Go.Proofs.Ytlmnmdahphahfaa
open Go.RowKit

/-- A box that a region lays: the operation, its slot, what is laid. -/
structure BoxS where
  i : Nat
  d : Tmp
  obj : Obj
def putB (a : Act) (bs : List (BoxS × Nat)) : Act := bs.foldl (fun a x => a.put (some x.1.d) (.pointer (some ⟨x.2, 0, none⟩))) a
theorem putB_put (bs : List (BoxS × Nat)) (d : Tmp) (v : Value) : ∀ (a : Act), (∀ x ∈ bs, x.1.d ≠ d) → (putB a bs).put (some d) v = putB (a.put (some d) v) bs := by
  induction bs with
  | nil => intro a _; rfl
  | cons x r ih =>
    intro a h
    show (putB (a.put _ _) r).put _ _ = putB ((a.put _ _).put _ _) r
    rw [ih _ (fun y hy => h y (List.mem_cons_of_mem _ hy)), Act.put_comm a _ _ (fun e he => by obtain rfl := Option.some.inj he; intro h2; exact h x (by simp) (Option.some.inj h2).symm)]
theorem putB_perm {bs cs : List (BoxS × Nat)} (hp : bs.Perm cs) (hn : (bs.map (·.1.d)).Nodup) (a : Act) : putB a bs = putB a cs := by
  unfold putB
  refine List.Perm.foldl_eq' hp (fun x hx y hy z => ?_) a
  by_cases e : x = y
  · subst e; rfl
  · refine Act.put_comm z _ _ (fun d hd h2 => ?_)
    have hd' : x.1.d = y.1.d := by rw [Option.some.inj hd, Option.some.inj h2]
    clear hp
    induction bs with
    | nil => cases hx
    | cons b r ih =>
      simp only [List.map_cons, List.nodup_cons, List.mem_map, not_exists, not_and] at hn
      rcases List.mem_cons.1 hx with h1 | h1 <;> rcases List.mem_cons.1 hy with h3 | h3
      · exact e (h1.trans h3.symm)
      · subst h1; exact hn.1 y h3 hd'.symm
      · subst h3; exact hn.1 x h1 hd'
      · exact ih hn.2 h1 h3
theorem perm_lift : ∀ (zs : List BoxS) (bs : List (BoxS × Nat)), (bs.map (·.1)).Perm zs → ∃ cs, bs.Perm cs ∧ cs.map (·.1) = zs
  | [], bs, h => by
    have : bs = [] := by simpa using h.eq_nil
    exact ⟨[], by rw [this], rfl⟩
  | z :: zs, bs, h => by
    have hz : z ∈ bs.map (·.1) := h.symm.subset (by simp)
    obtain ⟨x, hx, rfl⟩ := List.mem_map.1 hz
    obtain ⟨s, t, rfl⟩ := List.append_of_mem hx
    have h2 : ((s ++ t).map (·.1)).Perm zs := by
      have : ((s ++ x :: t).map (·.1)).Perm (x.1 :: (s ++ t).map (·.1)) := by simp only [List.map_append, List.map_cons]; exact List.perm_middle
      exact (this.symm.trans h).cons_inv
    obtain ⟨cs, hc, he⟩ := perm_lift zs (s ++ t) h2
    exact ⟨x :: cs, List.perm_middle.trans (hc.cons x), by simp [he]⟩

theorem erase_split : ∀ (ps : List BoxS) (j : Nat), j ∈ ps.map (·.i) → ∃ s z t, ps = s ++ z :: t ∧ z.i = j ∧ (ps.map (·.i)).erase j = (s ++ t).map (·.i)
  | [], _, h => by cases h
  | p :: ps, j, h => by
    by_cases e : p.i = j
    · exact ⟨[], p, ps, rfl, e, by rw [List.map_cons, e, List.erase_cons_head]; rfl⟩
    · have h' : j ∈ ps.map (·.i) := by
        rw [List.map_cons] at h
        rcases List.mem_cons.1 h with h | h
        · exact absurd h.symm e
        · exact h
      obtain ⟨s, z, t, h1, h2, h3⟩ := erase_split ps j h'
      exact ⟨p :: s, z, t, by rw [h1]; rfl, h2, by rw [List.map_cons, List.erase_cons_tail (by simpa using e), h3]; rfl⟩
theorem boxB {w w' : World} {B : Nat} {o : Obj} (h : w.heap[B]? = some o) (hb : Below w.heap.size w w') : w'.heap[B]? = some o := (hb.block B (Array.getElem?_eq_some_iff.1 h).1).trans h

section
variable {P : Program} {l : List Oper} {Q : Exit → Act → World → Prop} {md : Region.Mode} {S : World → Prop}
/-- Only the next call or a pending box may come up, until all have. -/
def rdyB (md : Region.Mode) (ops : Array Oper) (fin : Array Bool) : Nat → Array Bool → List Nat → List Nat → Bool
  | 0, L, cs, ps => cs.isEmpty && ps.isEmpty && L.toList == fin.toList
  | n + 1, L, cs, ps =>
    !(Region.ready md ops L).isEmpty && (Region.ready md ops L).all fun j =>
      (match cs with | c :: cs' => c == j && rdyB md ops fin n (L.setIfInBounds j true) cs' ps | [] => false) || (ps.contains j && rdyB md ops fin n (L.setIfInBounds j true) cs (ps.erase j))
/-- The calls, one behind the other: R is what is known of the values so far, K what is to be shown behind them all. -/
def callsB (P : Program) (ops : Array Oper) (zs : List BoxS) (w : World) (R : List Value → World → Prop) (K : Act → List Value → Prop) : List (Nat × Tmp) → Act → List Value → Prop
  | [], A, vs => K A vs
  | c :: cs, A, vs => ∃ o f args, ops[c.1]? = some o ∧ o.dst = some c.2 ∧ (zs.all fun z => !(o.looksAt ops).contains z.d && z.d != c.2) = true ∧ Region.wanted o (yielded ops A.tmps) = true ∧
      (∀ w', (execOp A.eval o).run P w' = .ok (.enter f args) w') ∧
      (∀ w', Below w.heap.size w w' → R vs w' → Calls P f args w' fun e w'' => ∃ v, e = .returned v ∧ Below w'.heap.size w' w'' ∧ R (vs ++ [v]) w'') ∧ ∀ v, callsB P ops zs w R K cs (A.put (some c.2) v) (vs ++ [v])
theorem callsB_cons {ops : Array Oper} {zs : List BoxS} {w : World} {R : List Value → World → Prop} {K : Act → List Value → Prop} {c : Nat × Tmp} {cs : List (Nat × Tmp)} {A : Act} {vs : List Value} {o : Oper} {f : FuncId} {args : Array Value} (ho : ops[c.1]? = some o) (hd : o.dst = some c.2) (hap : (zs.all fun z => !(o.looksAt ops).contains z.d && z.d != c.2) = true) (hw : Region.wanted o (yielded ops A.tmps) = true)
    (hrun : ∀ w', (execOp A.eval o).run P w' = .ok (.enter f args) w') (hcall : ∀ w', Below w.heap.size w w' → R vs w' → Calls P f args w' fun e w'' => ∃ v, e = .returned v ∧ Below w'.heap.size w' w'' ∧ R (vs ++ [v]) w'') (h : ∀ v, callsB P ops zs w R K cs (A.put (some c.2) v) (vs ++ [v])) : callsB P ops zs w R K (c :: cs) A vs :=
  ⟨o, f, args, ho, hd, hap, hw, hrun, hcall, h⟩
theorem wanted_putB {o : Oper} {ops : Array Oper} (bs : List (BoxS × Nat)) : ∀ (a : Act), (∀ x ∈ bs, x.1.d ∉ o.looksAt ops) → Region.wanted o (yielded ops (putB a bs).tmps) = Region.wanted o (yielded ops a.tmps) := by
  induction bs with
  | nil => intro a _; rfl
  | cons x r ih =>
    intro a h
    show Region.wanted o (yielded ops (putB (a.put _ _) r).tmps) = _
    rw [ih _ (fun y hy => h y (List.mem_cons_of_mem _ hy)), wanted_put o a _ _ (fun d hd => by obtain rfl := Option.some.inj hd; exact h x (by simp))]
theorem execOp_putB {o : Oper} {ops : Array Oper} (hs : ∀ cs b, o.op ≠ .select cs b) (bs : List (BoxS × Nat)) : ∀ (a : Act), (∀ x ∈ bs, x.1.d ∉ o.looksAt ops) → execOp (putB a bs).eval o = execOp a.eval o := by
  induction bs with
  | nil => intro a _; rfl
  | cons x r ih =>
    intro a h
    show execOp (putB (a.put _ _) r).eval o = _
    rw [ih _ (fun y hy => h y (List.mem_cons_of_mem _ hy)), execOp_put (ops := ops) o hs a _ _ (fun d hd => by obtain rfl := Option.some.inj hd; exact h x (by simp))]

theorem callsBoxes {zs : List BoxS} {w : World} {R : List Value → World → Prop} {fuel : Nat} {fin : Array Bool} (hsel : Region.noSelect l.toArray = true) (hnd : (zs.map (·.d)).Nodup)
    (hstab : ∀ vs w' w'', R vs w' → Below w'.heap.size w' w'' → R vs w'') (hS : ∀ w', Below w.heap.size w w' → S w')
    (hz : ∀ z ∈ zs, ∃ o, l.toArray[z.i]? = some o ∧ o.dst = some z.d ∧ o.guard = none ∧ ∀ (a : Act) w, (execOp a.eval o).run P w = .ok (.value (.pointer (some ⟨w.heap.size, 0, none⟩))) (w.alloc z.obj)) :
    ∀ (n : Nat) (listed : Array Bool) (cs : List (Nat × Tmp)) (ps : List BoxS) (A : Act) (vs : List Value) (bs : List (BoxS × Nat)) (w' : World),
      rdyB md l.toArray fin n listed (cs.map (·.1)) (ps.map (·.i)) = true → (bs.map (·.1) ++ ps).Perm zs → Below w.heap.size w w' → R vs w' →
      (∀ x ∈ bs, w'.heap[x.2]? = some x.1.obj ∧ w.heap.size ≤ x.2) → (bs.map (·.2)).Nodup →
      callsB P l.toArray zs w R (fun A vs => ∀ (bs : List (BoxS × Nat)) w', bs.map (·.1) = zs → Below w.heap.size w w' → R vs w' → (∀ x ∈ bs, w'.heap[x.2]? = some x.1.obj ∧ w.heap.size ≤ x.2) → (bs.map (·.2)).Nodup → wpAnyH P md l.toArray Q S fuel fin (putB A bs) w') cs A vs →
      wpAnyH P md l.toArray Q S (fuel + n) listed (putB A bs) w' := by
  intro n
  induction n with
  | zero =>
    intro listed cs ps A vs bs w' hr hp hb hR hbx hnb hc
    simp only [rdyB, Bool.and_eq_true, List.isEmpty_iff, List.map_eq_nil_iff, beq_iff_eq] at hr
    obtain ⟨⟨rfl, rfl⟩, hl⟩ := hr
    have hl' : listed = fin := by cases listed; cases fin; simp at hl; rw [hl]
    rw [List.append_nil] at hp
    obtain ⟨cs', h1, h2⟩ := perm_lift zs bs hp
    have hnd' : (bs.map (·.1.d)).Nodup := by
      have : (bs.map (·.1.d)).Perm (zs.map (·.d)) := by have h := hp.map (·.d); rw [List.map_map] at h; exact h
      exact this.symm.nodup hnd
    rw [putB_perm h1 hnd' A, hl']
    exact hc cs' w' h2 hb hR (fun x hx => hbx x (h1.symm.subset hx)) ((h1.map (·.2)).nodup hnb)
  | succ n ih =>
    intro listed cs ps A vs bs w' hr hp hb hR hbx hnb hc
    simp only [rdyB, Bool.and_eq_true, Bool.not_eq_true', List.all_eq_true, Bool.or_eq_true] at hr
    refine wpAnyH_all rfl (fun h => by rw [h] at hr; simp at hr) fun j hj => ?_
    have hbz : ∀ x ∈ bs, x.1 ∈ zs := fun x hx => hp.subset (List.mem_append_left _ (List.mem_map.2 ⟨x, hx, rfl⟩))
    rcases hr.2 j hj with h | h
    · cases cs with
      | nil => cases h
      | cons c cs =>
        simp only [List.map_cons, Bool.and_eq_true, beq_iff_eq] at h
        obtain ⟨hcj, hr'⟩ := h
        obtain ⟨o, f, args, ho, hd, hap, hw, hrun, hcall, hrest⟩ := hc
        rw [hcj] at ho
        simp only [List.all_eq_true, Bool.and_eq_true, Bool.not_eq_true', bne_iff_ne] at hap
        have h1 : ∀ x ∈ bs, x.1.d ∉ o.looksAt l.toArray := fun x hx => by have := (hap _ (hbz x hx)).1; simpa using this
        have h2 : ∀ x ∈ bs, x.1.d ≠ c.2 := fun x hx => (hap _ (hbz x hx)).2
        unfold wpOp
        simp only [ho, wanted_putB bs A h1, hw, if_true]
        refine .inl ?_
        unfold Oper.wp
        rw [execOp_putB (fun cs b => Region.noSelect_spec hsel j o cs b ho) bs A h1, hrun]
        refine (hcall w' hb hR).mono fun e w'' ⟨v, he, hb2, hR2⟩ => ?_
        subst he
        rw [hd]
        have hb3 := below_trans hb hb2 hb.size
        refine ⟨hS _ hb3, ?_⟩
        rw [putB_put bs c.2 v A h2]
        exact ih _ cs ps _ _ bs w'' hr' hp hb3 hR2 (fun x hx => ⟨boxB (hbx x hx).1 hb2, (hbx x hx).2⟩) hnb (hrest v)
    · simp only [List.contains_eq_mem, decide_eq_true_eq] at h
      obtain ⟨hm, hr'⟩ := h
      obtain ⟨s, z, t, rfl, hzi, hse⟩ := erase_split ps j hm
      rw [hse] at hr'
      obtain ⟨o, ho, hd, hg, hrun⟩ := hz z (hp.subset (List.mem_append_right _ (by simp)))
      rw [hzi] at ho
      have hw : ∀ y, Region.wanted o y = true := fun y => by unfold Region.wanted; rw [hg]
      unfold wpOp
      simp only [ho, hw, if_true]
      refine .inl ?_
      unfold Oper.wp
      rw [hrun]
      have hal := (Below.refl w'.heap.size w').alloc (Nat.le_refl _) z.obj
      have hb3 := below_trans hb hal hb.size
      refine ⟨hS _ hb3, ?_⟩
      rw [hd, show (putB A bs).put (some z.d) (.pointer (some ⟨w'.heap.size, 0, none⟩)) = putB A (bs ++ [(z, w'.heap.size)]) by simp [putB]]
      have hlt : ∀ x ∈ bs, x.2 < w'.heap.size := fun x hx => (Array.getElem?_eq_some_iff.1 (hbx x hx).1).1
      refine ih _ cs (s ++ t) A vs _ _ hr' ?_ hb3 (hstab _ _ _ hR hal) (fun x hx => ?_) ?_ hc
      · refine List.Perm.trans ?_ hp
        simp only [List.map_append, List.map_cons, List.map_nil, List.append_assoc, List.cons_append, List.nil_append]
        exact (List.perm_middle.symm).append_left _
      · rcases List.mem_append.1 hx with hx | hx
        · exact ⟨boxB (hbx x hx).1 hal, (hbx x hx).2⟩
        · obtain rfl := List.mem_singleton.1 hx
          exact ⟨heap_alloc_new w' z.obj, hb.size⟩
      · simp only [List.map_append, List.map_cons, List.map_nil]
        rw [List.nodup_append]
        refine ⟨hnb, by simp, fun x hx y hy => ?_⟩
        obtain ⟨q, hq, rfl⟩ := List.mem_map.1 hx
        have := hlt q hq
        have := List.mem_singleton.1 hy
        omega
end
end Go.Proofs.Ytlmnmdahphahfaa
