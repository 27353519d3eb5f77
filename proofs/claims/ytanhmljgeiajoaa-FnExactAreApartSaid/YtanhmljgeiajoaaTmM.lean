/-
  TERMS AS TREES (plain, no program): a list of nodes is a term if a stack machine takes it to one tree; the tree's nodes, type and the places of its parts.
-/
import Derived.Test.YtanhmljgeiajoaaRows
namespace Go.Proofs.Ytanhmljgeiajoaa

/-- A node: kind, value, name. -/
abbrev Nd := Int × Int × ByteArray
def noName : ByteArray := ⟨#[]⟩
inductive Tr where
  | leaf (n : Nd)
  | node (p : Bool) (a b : Tr)

def kd (p : Bool) : Int := if p then 16 else 15
def joinNd (p : Bool) : Nd := (kd p, 0, noName)
def flat : Tr → List Nd
  | .leaf n => [n]
  | .node p a b => flat a ++ (flat b ++ [joinNd p])
def sz (t : Tr) : Nat := (flat t).length

/-- The type of a kind other than the identity. -/
def kindTy (k : Int) : Int × Int :=
  if k = 2 then (2, 2) else if k = 3 ∨ k = 11 then (1, 2) else if k = 4 ∨ k = 12 then (1, 0) else if k = 5 ∨ k = 9 then (2, 1) else if k = 6 ∨ k = 10 then (0, 1) else (1, 1)
def leafTy (n : Nd) : Int × Int := if n.1 = 1 then (n.2.1, n.2.1) else kindTy n.1
/-- Is a node a leaf? -/
def leafB (n : Nd) : Bool := decide (n.2.2 = noName ∧ ((n.1 = 1 ∧ 0 ≤ n.2.1 ∧ n.2.1 ≤ 12) ∨ ((n.1 = 7 ∨ n.1 = 13) ∧ 0 ≤ n.2.1 ∧ n.2.1 ≤ 96) ∨ (2 ≤ n.1 ∧ n.1 ≤ 14 ∧ n.1 ≠ 7 ∧ n.1 ≠ 13 ∧ n.2.1 = 0)))

def joinTy (p : Bool) (a b : Int × Int) : Int × Int := if p then (a.1 + b.1, a.2 + b.2) else (a.1, b.2)
def joinB (p : Bool) (a b : Int × Int) : Bool := if p then decide (a.1 + b.1 ≤ 12 ∧ a.2 + b.2 ≤ 12) else decide (a.2 = b.1)
def ty : Tr → Int × Int
  | .leaf n => leafTy n
  | .node p a b => joinTy p (ty a) (ty b)
def wt : Tr → Prop
  | .leaf n => leafB n = true
  | .node p a b => wt a ∧ wt b ∧ joinB p (ty a) (ty b) = true

theorem flat_ne (t : Tr) : flat t ≠ [] := by cases t <;> simp [flat]
theorem sz_pos (t : Tr) : 0 < sz t := by
  have := flat_ne t
  unfold sz
  cases h : flat t with
  | nil => exact absurd h this
  | cons _ _ => simp
theorem sz_node (p : Bool) (a b : Tr) : sz (.node p a b) = sz a + sz b + 1 := by simp [sz, flat]; omega

theorem leaf_fit {n : Nd} (h : leafB n = true) : 0 ≤ (leafTy n).1 ∧ (leafTy n).1 ≤ 12 ∧ 0 ≤ (leafTy n).2 ∧ (leafTy n).2 ≤ 12 := by
  unfold leafB at h
  simp only [decide_eq_true_eq] at h
  unfold leafTy kindTy
  obtain ⟨_, h⟩ := h
  by_cases h1 : n.1 = 1
  · simp only [h1, if_true]; omega
  · simp only [h1, if_false]
    repeat' split
    all_goals simp
theorem wt_fit : ∀ {t : Tr}, wt t → 0 ≤ (ty t).1 ∧ (ty t).1 ≤ 12 ∧ 0 ≤ (ty t).2 ∧ (ty t).2 ≤ 12
  | .leaf _, h => leaf_fit h
  | .node p a b, h => by
    obtain ⟨ha, hb, hj⟩ := h
    have h1 := wt_fit ha
    have h2 := wt_fit hb
    cases p
    · simp [ty, joinTy]; omega
    · simp [joinB] at hj
      simp [ty, joinTy]; omega

/-! ### The stack machine -/
def isJoin (n : Nd) : Prop := n.1 = 15 ∨ n.1 = 16
instance (n : Nd) : Decidable (isJoin n) := by unfold isJoin; exact inferInstance
/-- One node: the stack's top is the list's head. -/
def stepT (st : List Tr) (n : Nd) : Option (List Tr) :=
  if isJoin n then
    match st with
    | b :: a :: r => if n.2.1 = 0 ∧ n.2.2 = noName ∧ joinB (decide (n.1 = 16)) (ty a) (ty b) = true then some (.node (decide (n.1 = 16)) a b :: r) else none
    | _ => none
  else if leafB n = true then some (.leaf n :: st) else none
def parse (st : List Tr) : List Nd → Option (List Tr)
  | [] => some st
  | n :: r => (stepT st n).bind fun st' => parse st' r

theorem parse_append (l m : List Nd) : ∀ st, parse st (l ++ m) = (parse st l).bind fun st' => parse st' m := by
  induction l with
  | nil => intro st; rfl
  | cons n r ih =>
    intro st
    simp only [List.cons_append, parse]
    cases h : stepT st n with
    | none => rfl
    | some s => simp only [Option.bind_some]; exact ih s
theorem parse_snoc (l : List Nd) (n : Nd) (st : List Tr) : parse st (l ++ [n]) = (parse st l).bind fun st' => stepT st' n := by
  rw [parse_append]
  cases parse st l with
  | none => rfl
  | some s => simp only [Option.bind_some, parse]; cases stepT s n <;> rfl

theorem leafB_kind {n : Nd} (h : leafB n = true) : ¬ isJoin n := by
  unfold leafB at h
  simp only [decide_eq_true_eq] at h
  unfold isJoin
  omega
theorem joinNd_kd (p : Bool) : decide ((joinNd p).1 = 16) = p := by cases p <;> rfl
theorem joinNd_is (p : Bool) : isJoin (joinNd p) := by cases p <;> simp [isJoin, joinNd, kd]
theorem isJoin_eq {n : Nd} (h : isJoin n) (h1 : n.2.1 = 0) (h2 : n.2.2 = noName) : n = joinNd (decide (n.1 = 16)) := by
  obtain ⟨a, b, c⟩ := n
  simp only at h1 h2
  subst h1 h2
  rcases h with h | h
  · simp only at h; subst h; rfl
  · simp only at h; subst h; rfl

theorem parse_flat : ∀ (t : Tr), wt t → ∀ st, parse st (flat t) = some (t :: st)
  | .leaf n, h, st => by
    show (stepT st n).bind (fun st' => parse st' []) = _
    have : leafB n = true := h
    simp [stepT, leafB_kind this, this, parse]
  | .node p a b, h, st => by
    obtain ⟨ha, hb, hj⟩ := h
    show parse st (flat a ++ (flat b ++ [joinNd p])) = _
    rw [parse_append, parse_flat a ha, Option.bind_some, parse_append, parse_flat b hb, Option.bind_some]
    show (stepT _ _).bind _ = _
    unfold stepT
    rw [if_pos (joinNd_is p)]
    simp only [joinNd_kd]
    rw [if_pos ⟨rfl, rfl, hj⟩]
    rfl

/-- The nodes of a stack, the bottom first. -/
def flats : List Tr → List Nd
  | [] => []
  | t :: r => flats r ++ flat t
def wts : List Tr → Prop
  | [] => True
  | t :: r => wt t ∧ wts r

theorem step_spec {st st' : List Tr} {n : Nd} (h : stepT st n = some st') (hw : wts st) : wts st' ∧ flats st' = flats st ++ [n] := by
  unfold stepT at h
  by_cases hj : isJoin n
  · rw [if_pos hj] at h
    match st, h, hw with
    | [], h, _ => cases h
    | [_], h, _ => cases h
    | b :: a :: r, h, hw =>
      simp only at h
      split at h
      · rename_i hc
        obtain ⟨h1, h2, h3⟩ := hc
        obtain rfl := Option.some.inj h
        obtain ⟨hb, ha, hr⟩ := hw
        refine ⟨⟨⟨ha, hb, h3⟩, hr⟩, ?_⟩
        have := isJoin_eq hj h1 h2
        simp only [flats, flat, List.append_assoc]
        rw [← this]
      · cases h
  · rw [if_neg hj] at h
    split at h
    · rename_i hc
      obtain rfl := Option.some.inj h
      exact ⟨⟨hc, hw⟩, rfl⟩
    · cases h
theorem parse_spec : ∀ (l : List Nd) {st st' : List Tr}, parse st l = some st' → wts st → wts st' ∧ flats st' = flats st ++ l
  | [], st, st', h, hw => by obtain rfl := Option.some.inj h; exact ⟨hw, by simp⟩
  | n :: r, st, st', h, hw => by
    simp only [parse, Option.bind_eq_some_iff] at h
    obtain ⟨s, h1, h2⟩ := h
    obtain ⟨hw1, hf1⟩ := step_spec h1 hw
    obtain ⟨hw2, hf2⟩ := parse_spec r h2 hw1
    exact ⟨hw2, by rw [hf2, hf1]; simp⟩

/-- The tree of a term. -/
def treeM (l : List Nd) : Option Tr := if 1 ≤ l.length ∧ l.length ≤ 400 then (match parse [] l with | some [t] => some t | _ => none) else none
theorem treeM_flat {t : Tr} (h : wt t) (hs : sz t ≤ 400) : treeM (flat t) = some t := by
  unfold treeM
  rw [if_pos ⟨sz_pos t, hs⟩, parse_flat t h []]
theorem treeM_some {l : List Nd} {t : Tr} (h : treeM l = some t) : l = flat t ∧ wt t ∧ sz t ≤ 400 := by
  unfold treeM at h
  split at h
  · rename_i hl
    split at h
    · rename_i t' hp
      obtain rfl := Option.some.inj h
      obtain ⟨hw, hf⟩ := parse_spec l hp trivial
      have : l = flat t' := by simpa [flats] using hf.symm
      exact ⟨this, hw.1, by unfold sz; rw [← this]; exact hl.2⟩
    · cases h
  · cases h

/-! ### The places of the parts -/
/-- Where a part begins, and its type: at the last node of each part; the tree begins at o. -/
def info : Tr → Nat → List (Nat × (Int × Int))
  | .leaf n, o => [(o, leafTy n)]
  | .node p a b, o => info a o ++ (info b (o + sz a) ++ [(o, joinTy p (ty a) (ty b))])
/-- Of a stack, its top being the list's head. -/
def infos : List Tr → List (Nat × (Int × Int))
  | [] => []
  | t :: r => infos r ++ info t (flats r).length
theorem info_length : ∀ (t : Tr) (o : Nat), (info t o).length = sz t
  | .leaf _, _ => rfl
  | .node p a b, o => by simp only [info, List.length_append, info_length a, info_length b, sz_node, List.length_cons, List.length_nil]; omega
theorem infos_length : ∀ (st : List Tr), (infos st).length = (flats st).length
  | [] => rfl
  | t :: r => by simp [infos, flats, infos_length r, info_length, sz]
theorem info_last (t : Tr) (o : Nat) : ∃ r, info t o = r ++ [(o, ty t)] ∧ r.length + 1 = sz t := by
  cases t with
  | leaf n => exact ⟨[], rfl, rfl⟩
  | node p a b =>
    refine ⟨info a o ++ info b (o + sz a), by simp [info, ty], ?_⟩
    rw [List.length_append, info_length, info_length, sz_node]
theorem infos_last (t : Tr) (r : List Tr) : (infos (t :: r))[(flats (t :: r)).length - 1]? = some ((flats r).length, ty t) := by
  obtain ⟨q, h, hl⟩ := info_last t (flats r).length
  simp only [infos, h]
  have hp := sz_pos t
  have e : (flats (t :: r)).length - 1 = (infos r ++ q).length := by
    simp only [flats, List.length_append, infos_length]
    have : (flat t).length = sz t := rfl
    omega
  rw [e, ← List.append_assoc, List.getElem?_append_right (Nat.le_refl _)]
  simp
/-- The top but one. -/
theorem infos_last2 (b a : Tr) (r : List Tr) : (infos (b :: a :: r))[(flats (a :: r)).length - 1]? = some ((flats r).length, ty a) := by
  have h := infos_last a r
  have hlt := (List.getElem?_eq_some_iff.1 h).1
  show (infos (a :: r) ++ info b _)[_]? = _
  rw [List.getElem?_append_left hlt]
  exact h
theorem infos_leaf (n : Nd) (st : List Tr) : infos (.leaf n :: st) = infos st ++ [((flats st).length, leafTy n)] := rfl
theorem infos_node (p : Bool) (a b : Tr) (r : List Tr) : infos (.node p a b :: r) = infos (b :: a :: r) ++ [((flats r).length, joinTy p (ty a) (ty b))] := by
  simp only [infos, info, flats, List.length_append, List.append_assoc]
  rfl
theorem flats_node (p : Bool) (a b : Tr) (r : List Tr) : flats (.node p a b :: r) = flats (b :: a :: r) ++ [joinNd p] := by simp [flats, flat]

/-- Each place of a term is the last of a part. -/
theorem part_at : ∀ (t : Tr) (o : Nat), wt t → ∀ k, k < sz t → ∃ pre s post, flat t = pre ++ (flat s ++ post) ∧ k + 1 = pre.length + sz s ∧ (info t o)[k]? = some (o + pre.length, ty s) ∧ wt s
  | .leaf n, o, h, k, hk => by
    have : k = 0 := by simp [sz, flat] at hk; exact hk
    subst this
    exact ⟨[], .leaf n, [], by simp, rfl, rfl, h⟩
  | .node p a b, o, h, k, hk => by
    have hw := h
    obtain ⟨ha, hb, hj⟩ := h
    rw [sz_node] at hk
    by_cases h1 : k < sz a
    · obtain ⟨pre, s, post, e1, e2, e3, e4⟩ := part_at a o ha k h1
      refine ⟨pre, s, post ++ (flat b ++ [joinNd p]), by simp [flat, e1], e2, ?_, e4⟩
      simp only [info]
      rw [List.getElem?_append_left (by rw [info_length]; exact h1)]
      exact e3
    · by_cases h2 : k < sz a + sz b
      · obtain ⟨pre, s, post, e1, e2, e3, e4⟩ := part_at b (o + sz a) hb (k - sz a) (by omega)
        refine ⟨flat a ++ pre, s, post ++ [joinNd p], by simp [flat, e1], ?_, ?_, e4⟩
        · rw [List.length_append]
          have : (flat a).length = sz a := rfl
          omega
        · simp only [info]
          rw [List.getElem?_append_right (by rw [info_length]; omega), info_length, List.getElem?_append_left (by rw [info_length]; omega), e3, List.length_append]
          have : (flat a).length = sz a := rfl
          rw [this, Nat.add_assoc]
      · have : k = sz a + sz b := by omega
        subst this
        refine ⟨[], .node p a b, [], by simp, by simp [sz_node], ?_, hw⟩
        obtain ⟨q, e, hl⟩ := info_last (.node p a b) o
        rw [sz_node] at hl
        have e2 : sz a + sz b = q.length := by omega
        rw [e, e2, List.getElem?_append_right (Nat.le_refl _)]
        simp

/-! ### Where a part begins, sought from its end -/
/-- The list is read from its end: 'open' parts are wanted still; how many nodes they take. -/
def backM : Nat → List Nd → Nat
  | _, [] => 0
  | o, n :: r => let o' := if isJoin n then o + 1 else o - 1; if o' = 0 then 1 else 1 + backM o' r
theorem back_flat : ∀ (t : Tr), wt t → ∀ (o : Nat) (r : List Nd), backM (o + 1) ((flat t).reverse ++ r) = if o = 0 then sz t else sz t + backM o r
  | .leaf n, h, o, r => by
    have := leafB_kind h
    simp only [flat, List.reverse_cons, List.reverse_nil, List.nil_append, List.cons_append, backM, this, if_false, Nat.add_sub_cancel]
    rfl
  | .node p a b, h, o, r => by
    obtain ⟨ha, hb, _⟩ := h
    have hf : (flat (.node p a b)).reverse ++ r = joinNd p :: ((flat b).reverse ++ ((flat a).reverse ++ r)) := by simp [flat]
    rw [hf]
    simp only [backM, joinNd_is, if_true]
    rw [if_neg (by omega), back_flat b hb (o + 1), if_neg (by omega), back_flat a ha o, sz_node]
    split <;> omega
end Go.Proofs.Ytanhmljgeiajoaa
