/-
  TREES: mirror image, width, the tidy form (plain, no program).
-/
import Derived.Test.YtlmnmdahphahfaaTmM
namespace Go.Proofs.Ytlmnmdahphahfaa

/-! ### Width and depth -/
def mx (a b : Int) : Int := if b < a then a else b
def wid : Tr → Int × Int
  | .leaf n => (mx (leafTy n).1 (leafTy n).2, 1)
  | .node p a b => if p then ((wid a).1 + (wid b).1, mx (wid a).2 (wid b).2) else (mx (wid a).1 (wid b).1, (wid a).2 + (wid b).2)
theorem wid_fit : ∀ (t : Tr), wt t → 0 ≤ (wid t).1 ∧ (wid t).1 ≤ 12 * sz t ∧ 0 ≤ (wid t).2 ∧ (wid t).2 ≤ sz t
  | .leaf n, h => by
    have := leaf_fit h
    have e : sz (.leaf n) = 1 := rfl
    simp only [wid, mx, e]
    split <;> omega
  | .node p a b, h => by
    obtain ⟨ha, hb, _⟩ := h
    have h1 := wid_fit a ha
    have h2 := wid_fit b hb
    rw [sz_node]
    cases p <;> simp only [wid, mx, if_true, Bool.false_eq_true, if_false] <;> split <;> omega

/-! ### The mirror image -/
def mirK (k : Int) : Int := if 3 ≤ k ∧ k ≤ 8 then k + 6 else if 9 ≤ k ∧ k ≤ 14 then k - 6 else k
def mirN (n : Nd) : Nd := (mirK n.1, n.2.1, n.2.2)
def mir : Tr → Tr
  | .leaf n => .leaf (mirN n)
  | .node p a b => if p then .node p (mir a) (mir b) else .node p (mir b) (mir a)
theorem mir_sz : ∀ (t : Tr), sz (mir t) = sz t
  | .leaf _ => rfl
  | .node p a b => by cases p <;> simp [mir, sz_node, mir_sz a, mir_sz b]; omega

/-! ### The tidy form -/
/-- Is a node an identity's? -/
def idB (n : Nd) : Bool := decide (n.1 = 1)
def isIdT : Tr → Bool
  | .leaf n => decide (n.1 = 1)
  | .node _ _ _ => false
def valT : Tr → Int
  | .leaf n => n.2.1
  | .node _ _ _ => 0
def idT (v : Int) : Tr := .leaf (1, v, noName)
def factors (p : Bool) : Tr → List Tr
  | .leaf n => [.leaf n]
  | .node q a b => if q = p then factors p a ++ factors p b else [.node q a b]
def chain (p : Bool) : List Tr → Tr
  | [] => .leaf (0, 0, noName)
  | t :: r => r.foldl (.node p) t
def tidyS (a b : Tr) : Tr := if isIdT a then b else if isIdT b then a else chain false (factors false a ++ factors false b)
def lastL (l : List Tr) : Tr := l.getLastD (idT 0)
def headL (l : List Tr) : Tr := l.headD (idT 0)
/-- The factors of a juxtaposition, two identities in the middle made one. -/
def midL (f s : List Tr) : List Tr := if isIdT (lastL f) && isIdT (headL s) then f.dropLast ++ idT (valT (lastL f) + valT (headL s)) :: s.tail else f ++ s
def tidyP (a b : Tr) : Tr :=
  if isIdT a && decide (valT a = 0) then b else if isIdT b && decide (valT b = 0) then a else chain true (midL (factors true a) (factors true b))
def tidy : Tr → Tr
  | .leaf n => .leaf n
  | .node p a b => if p then tidyP (tidy a) (tidy b) else tidyS (tidy a) (tidy b)

theorem factors_ne (p : Bool) : ∀ t, factors p t ≠ []
  | .leaf _ => by simp [factors]
  | .node q a b => by
    unfold factors
    split
    · have := factors_ne p a
      simp [this]
    · simp

/-! Sizes -/
def szL : List Tr → Nat
  | [] => 0
  | t :: r => sz t + szL r
theorem szL_append (l m : List Tr) : szL (l ++ m) = szL l + szL m := by
  induction l with
  | nil => simp [szL]
  | cons t r ih => simp [szL, ih]; omega
theorem chain_sz_go (p : Bool) : ∀ (r : List Tr) (t : Tr), sz (r.foldl (.node p) t) = sz t + szL r + r.length
  | [], t => rfl
  | u :: r, t => by
    simp only [List.foldl_cons, chain_sz_go p r, sz_node, szL, List.length_cons]; omega
theorem chain_sz (p : Bool) {l : List Tr} (h : l ≠ []) : sz (chain p l) + 1 = szL l + l.length := by
  cases l with
  | nil => exact absurd rfl h
  | cons t r => simp only [chain, chain_sz_go, szL, List.length_cons]; omega
theorem factors_sz (p : Bool) : ∀ t, szL (factors p t) + (factors p t).length = sz t + 1
  | .leaf _ => by simp [factors, szL]
  | .node q a b => by
    unfold factors
    split
    · have h1 := factors_sz p a
      have h2 := factors_sz p b
      rw [szL_append, List.length_append, sz_node]; omega
    · simp [szL]

/-! Sequences -/
/-- A row of parts that can be composed, from i to o wires. -/
def comp (i : Int) : List Tr → Int → Prop
  | [], o => i = o
  | t :: r, o => wt t ∧ (ty t).1 = i ∧ comp (ty t).2 r o
theorem comp_append : ∀ {l m : List Tr} {i j o : Int}, comp i l j → comp j m o → comp i (l ++ m) o
  | [], m, i, j, o, h, h' => by obtain rfl : i = j := h; exact h'
  | t :: r, m, i, j, o, h, h' => ⟨h.1, h.2.1, comp_append h.2.2 h'⟩
theorem factors_comp : ∀ {t : Tr}, wt t → comp (ty t).1 (factors false t) (ty t).2
  | .leaf n, h => ⟨h, rfl, rfl⟩
  | .node q a b, h => by
    have hw := h
    obtain ⟨ha, hb, hj⟩ := h
    unfold factors
    split
    · rename_i hq
      subst hq
      have e : (ty a).2 = (ty b).1 := by simpa [joinB] using hj
      have h1 := factors_comp ha
      have h2 := factors_comp hb
      rw [e] at h1
      exact comp_append h1 h2
    · exact ⟨hw, rfl, rfl⟩
theorem chain_comp_go : ∀ (r : List Tr) (t : Tr) (o : Int), wt t → comp (ty t).2 r o → wt (r.foldl (.node false) t) ∧ ty (r.foldl (.node false) t) = ((ty t).1, o)
  | [], t, o, h, hc => by
    have e : (ty t).2 = o := hc
    exact ⟨h, by rw [← e]; rfl⟩
  | u :: r, t, o, h, hc => by
    obtain ⟨hu, e, hc⟩ := hc
    exact chain_comp_go r (.node false t u) o ⟨h, hu, by simp [joinB, e]⟩ hc
theorem chain_comp {l : List Tr} {i o : Int} (hl : l ≠ []) (h : comp i l o) : wt (chain false l) ∧ ty (chain false l) = (i, o) := by
  cases l with
  | nil => exact absurd rfl hl
  | cons t r =>
    obtain ⟨h1, h2, h3⟩ := h
    subst h2
    exact chain_comp_go r t o h1 h3
theorem id_ty {t : Tr} (h : isIdT t = true) : ty t = (valT t, valT t) := by
  cases t with
  | leaf n =>
    have : n.1 = 1 := by simpa [isIdT] using h
    simp [ty, leafTy, this, valT]
  | node _ _ _ => cases h
theorem tidyS_ok {a b : Tr} (ha : wt a) (hb : wt b) (hj : (ty a).2 = (ty b).1) : wt (tidyS a b) ∧ ty (tidyS a b) = ((ty a).1, (ty b).2) ∧ sz (tidyS a b) ≤ sz a + sz b + 1 := by
  unfold tidyS
  split
  · rename_i h
    have e := id_ty h
    refine ⟨hb, ?_, by omega⟩
    have : (ty a).1 = (ty b).1 := by rw [← hj, e]
    rw [this]
  · split
    · rename_i h
      have e := id_ty h
      refine ⟨ha, ?_, by omega⟩
      have : (ty b).2 = (ty a).2 := by rw [hj, e]
      rw [this]
    · have h1 := factors_comp ha
      have h2 := factors_comp hb
      rw [hj] at h1
      have hne : factors false a ++ factors false b ≠ [] := by simp [factors_ne]
      obtain ⟨c1, c2⟩ := chain_comp hne (comp_append h1 h2)
      refine ⟨c1, c2, ?_⟩
      have := chain_sz false hne
      have s1 := factors_sz false a
      have s2 := factors_sz false b
      rw [szL_append, List.length_append] at this
      omega

/-! Juxtapositions -/
def sumL : List Tr → Int × Int
  | [] => (0, 0)
  | t :: r => ((ty t).1 + (sumL r).1, (ty t).2 + (sumL r).2)
def allW : List Tr → Prop
  | [] => True
  | t :: r => wt t ∧ allW r
theorem sumL_append (l m : List Tr) : sumL (l ++ m) = ((sumL l).1 + (sumL m).1, (sumL l).2 + (sumL m).2) := by
  induction l with
  | nil => simp [sumL]
  | cons t r ih => simp only [List.cons_append, sumL, ih, Prod.mk.injEq]; omega
theorem allW_append {l m : List Tr} : allW (l ++ m) ↔ allW l ∧ allW m := by
  induction l with
  | nil => simp [allW]
  | cons t r ih => simp [allW, ih, and_assoc]
theorem sumL_nonneg : ∀ {l : List Tr}, allW l → 0 ≤ (sumL l).1 ∧ 0 ≤ (sumL l).2
  | [], _ => by simp [sumL]
  | t :: r, h => by
    have h1 := wt_fit h.1
    have h2 := sumL_nonneg h.2
    simp only [sumL]; omega
theorem factors_par : ∀ {t : Tr}, wt t → allW (factors true t) ∧ sumL (factors true t) = ty t
  | .leaf n, h => ⟨⟨h, trivial⟩, by simp [factors, sumL]⟩
  | .node q a b, h => by
    have hw := h
    obtain ⟨ha, hb, hj⟩ := h
    unfold factors
    split
    · rename_i hq
      subst hq
      obtain ⟨a1, a2⟩ := factors_par ha
      obtain ⟨b1, b2⟩ := factors_par hb
      refine ⟨allW_append.2 ⟨a1, b1⟩, ?_⟩
      rw [sumL_append, a2, b2]; rfl
    · exact ⟨⟨hw, trivial⟩, by simp [sumL]⟩
theorem chain_par_go : ∀ (r : List Tr) (t : Tr), wt t → allW r → (ty t).1 + (sumL r).1 ≤ 12 → (ty t).2 + (sumL r).2 ≤ 12 → wt (r.foldl (.node true) t) ∧ ty (r.foldl (.node true) t) = ((ty t).1 + (sumL r).1, (ty t).2 + (sumL r).2)
  | [], t, h, _, _, _ => ⟨h, by simp [sumL]⟩
  | u :: r, t, h, hr, h1, h2 => by
    have hn := sumL_nonneg hr.2
    simp only [sumL] at h1 h2
    have hu : wt (.node true t u) := ⟨h, hr.1, by simp [joinB]; omega⟩
    have e : ty (.node true t u) = ((ty t).1 + (ty u).1, (ty t).2 + (ty u).2) := rfl
    obtain ⟨c1, c2⟩ := chain_par_go r (.node true t u) hu hr.2 (by rw [e]; omega) (by rw [e]; omega)
    refine ⟨c1, ?_⟩
    simp only [List.foldl_cons]
    rw [c2, e]
    simp only [sumL, Prod.mk.injEq]; omega
theorem chain_par {l : List Tr} (hl : l ≠ []) (h : allW l) (h1 : (sumL l).1 ≤ 12) (h2 : (sumL l).2 ≤ 12) : wt (chain true l) ∧ ty (chain true l) = sumL l := by
  cases l with
  | nil => exact absurd rfl hl
  | cons t r => exact chain_par_go r t h.1 h.2 h1 h2

theorem last_split {f : List Tr} (h : f ≠ []) : f = f.dropLast ++ [lastL f] := by
  have := List.dropLast_concat_getLast h
  conv => lhs; rw [← this]
  congr 2
  unfold lastL
  cases f with
  | nil => exact absurd rfl h
  | cons a r => rw [List.getLastD_eq_getLast?, List.getLast?_eq_some_getLast h]; rfl
theorem head_split {s : List Tr} (h : s ≠ []) : s = headL s :: s.tail := by
  cases s with
  | nil => exact absurd rfl h
  | cons a r => rfl
theorem midL_ok {f s : List Tr} (hf : f ≠ []) (hs : s ≠ []) (wf : allW f) (ws : allW s) (h1 : (sumL f).1 + (sumL s).1 ≤ 12) (h2 : (sumL f).2 + (sumL s).2 ≤ 12) :
    midL f s ≠ [] ∧ allW (midL f s) ∧ sumL (midL f s) = ((sumL f).1 + (sumL s).1, (sumL f).2 + (sumL s).2) ∧ szL (midL f s) + (midL f s).length ≤ szL f + f.length + (szL s + s.length) := by
  unfold midL
  split
  · rename_i hc
    obtain ⟨i1, i2⟩ := Bool.and_eq_true_iff.1 hc
    have t1 := id_ty i1
    have t2 := id_ty i2
    have ef := last_split hf
    have es := head_split hs
    generalize lastL f = x at *
    generalize headL s = y at *
    generalize f.dropLast = f' at *
    generalize s.tail = s' at *
    subst ef es
    obtain ⟨wf', wx, _⟩ := allW_append.1 wf
    obtain ⟨wy, ws'⟩ := ws
    have n1 := sumL_nonneg wf'
    have n2 := sumL_nonneg ws'
    have fx := wt_fit wx
    have fy := wt_fit wy
    simp only [sumL_append, sumL, t1, t2] at h1 h2 fx fy ⊢
    have wm : wt (idT (valT x + valT y)) := by
      show leafB _ = true
      simp [leafB]
      omega
    have em : ty (idT (valT x + valT y)) = (valT x + valT y, valT x + valT y) := rfl
    refine ⟨by simp, allW_append.2 ⟨wf', wm, ws'⟩, ?_, ?_⟩
    · simp only [em, Prod.mk.injEq]; omega
    · have p1 := sz_pos x
      have p2 := sz_pos y
      have e1 : sz (idT (valT x + valT y)) = 1 := rfl
      simp only [szL_append, szL, List.length_append, List.length_cons, List.length_nil, e1]
      omega
  · refine ⟨by simp [hf], allW_append.2 ⟨wf, ws⟩, sumL_append f s, ?_⟩
    rw [szL_append, List.length_append]; omega
theorem tidyP_ok {a b : Tr} (ha : wt a) (hb : wt b) (hj : (ty a).1 + (ty b).1 ≤ 12 ∧ (ty a).2 + (ty b).2 ≤ 12) : wt (tidyP a b) ∧ ty (tidyP a b) = ((ty a).1 + (ty b).1, (ty a).2 + (ty b).2) ∧ sz (tidyP a b) ≤ sz a + sz b + 1 := by
  unfold tidyP
  split
  · rename_i h
    obtain ⟨h, h0⟩ := Bool.and_eq_true_iff.1 h
    have e := id_ty h
    rw [of_decide_eq_true h0] at e
    refine ⟨hb, by rw [e]; simp, by omega⟩
  · split
    · rename_i h
      obtain ⟨h, h0⟩ := Bool.and_eq_true_iff.1 h
      have e := id_ty h
      rw [of_decide_eq_true h0] at e
      refine ⟨ha, by rw [e]; simp, by omega⟩
    · obtain ⟨a1, a2⟩ := factors_par ha
      obtain ⟨b1, b2⟩ := factors_par hb
      obtain ⟨m1, m2, m3, m4⟩ := midL_ok (factors_ne true a) (factors_ne true b) a1 b1 (by rw [a2, b2]; exact hj.1) (by rw [a2, b2]; exact hj.2)
      rw [a2, b2] at m3
      obtain ⟨c1, c2⟩ := chain_par m1 m2 (by rw [m3]; exact hj.1) (by rw [m3]; exact hj.2)
      refine ⟨c1, by rw [c2, m3], ?_⟩
      have := chain_sz true m1
      have s1 := factors_sz true a
      have s2 := factors_sz true b
      omega
theorem tidy_ok : ∀ {t : Tr}, wt t → wt (tidy t) ∧ ty (tidy t) = ty t ∧ sz (tidy t) ≤ sz t
  | .leaf _, h => ⟨h, rfl, Nat.le_refl _⟩
  | .node p a b, h => by
    obtain ⟨ha, hb, hj⟩ := h
    obtain ⟨a1, a2, a3⟩ := tidy_ok ha
    obtain ⟨b1, b2, b3⟩ := tidy_ok hb
    rw [sz_node]
    cases p
    · have e : (ty (tidy a)).2 = (ty (tidy b)).1 := by rw [a2, b2]; simpa [joinB] using hj
      obtain ⟨c1, c2, c3⟩ := tidyS_ok a1 b1 e
      refine ⟨c1, ?_, ?_⟩
      · show ty (tidyS (tidy a) (tidy b)) = _
        rw [c2, a2, b2]; rfl
      · show sz (tidyS (tidy a) (tidy b)) ≤ _
        omega
    · have e : (ty (tidy a)).1 + (ty (tidy b)).1 ≤ 12 ∧ (ty (tidy a)).2 + (ty (tidy b)).2 ≤ 12 := by rw [a2, b2]; simpa [joinB] using hj
      obtain ⟨c1, c2, c3⟩ := tidyP_ok a1 b1 e
      refine ⟨c1, ?_, ?_⟩
      · show ty (tidyP (tidy a) (tidy b)) = _
        rw [c2, a2, b2]; rfl
      · show sz (tidyP (tidy a) (tidy b)) ≤ _
        omega
end Go.Proofs.Ytlmnmdahphahfaa
