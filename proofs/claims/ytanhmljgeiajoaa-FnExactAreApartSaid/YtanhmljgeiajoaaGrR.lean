/-
  THE PLAIN LAW of graphs whose wires and edges become others.
-/
import Derived.Test.YtanhmljgeiajoaaGrM
import Derived.Test.YtanhmljgeiajoaaTmP
namespace Go.Proofs.Ytanhmljgeiajoaa
open Go.RowKit

/-- A list of wires that become others. -/
def mapL (to : List Int) (l : List Int) : List Int := l.map fun w => to.getD w.toNat 0
def mapE (to : List Int) (e : Eg) : Eg := (e.1, e.2.1, mapL to e.2.2.1, mapL to e.2.2.2)
def mapG (to : List Int) (n : Int) (g : Gr) : Gr := (n, g.2.1.map (mapE to), mapL to g.2.2.1, mapL to g.2.2.2)
@[simp] theorem mapL_length (to l : List Int) : (mapL to l).length = l.length := by simp [mapL]
theorem mapL_take_step {to l : List Int} {k : Nat} {x : Int} (h : l[k]? = some x) : mapL to (l.take (k + 1)) = mapL to (l.take k) ++ [to.getD x.toNat 0] := by
  rw [List.take_add_one, h]; simp [mapL]

theorem perm_in {l : List Int} (h : permB l = true) : ∀ k, k ∈ l → 0 ≤ k ∧ k < l.length := by
  intro k hk
  obtain ⟨h1, h2⟩ := (permGo_nodup h).2 k hk
  refine ⟨h2, ?_⟩
  by_cases hlt : k.toNat < l.length
  · omega
  · rw [List.getD_eq_getElem?_getD, List.getElem?_eq_none (by simp; omega)] at h1
    simp at h1
theorem perm_nodup {l : List Int} (h : permB l = true) : l.Nodup := (permGo_nodup h).1

/-- Things laid at places. -/
def lay {α : Type} (d : α) (p : List Int) (xs : List α) : Nat → List α
  | 0 => List.replicate xs.length d
  | k + 1 => (lay d p xs k).set (p.getD k 0).toNat (xs.getD k d)
section
variable {α β : Type} {d : α} {p : List Int} {xs : List α}
@[simp] theorem lay_length : ∀ k, (lay d p xs k).length = xs.length
  | 0 => by simp [lay]
  | k + 1 => by simp [lay, lay_length k]
theorem lay_map (f : α → β) : ∀ k, (lay d p xs k).map f = lay (f d) p (xs.map f) k
  | 0 => by simp [lay]
  | k + 1 => by
    simp only [lay, List.map_set, lay_map f k]
    congr 1
    rw [List.getD_eq_getElem?_getD, List.getD_eq_getElem?_getD, List.getElem?_map]
    cases xs[k]? <;> rfl
theorem lay_old {j : Nat} (hj : j < xs.length) : ∀ k, (∀ i, i < k → (p.getD i 0).toNat ≠ j) → (lay d p xs k)[j]? = some d
  | 0, _ => by simp [lay, hj]
  | k + 1, h => by
    rw [lay, List.getElem?_set, if_neg (h k (by omega))]
    exact lay_old hj k fun i hi => h i (by omega)
theorem set_perm {l : List α} {i : Nat} {x y : α} (h : l[i]? = some y) : l.Perm (y :: l.eraseIdx i) ∧ (l.set i x).Perm (x :: l.eraseIdx i) := by
  induction l generalizing i with
  | nil => simp at h
  | cons a r ih =>
    cases i with
    | zero =>
      obtain rfl : a = y := by simpa using h
      exact ⟨.refl _, .refl _⟩
    | succ i =>
      obtain ⟨h1, h2⟩ := ih (i := i) (by simpa using h)
      exact ⟨(h1.cons a).trans (.swap _ _ _), (h2.cons a).trans (.swap _ _ _)⟩
theorem lay_perm (hp : permB p = true) (hl : p.length = xs.length) : ∀ k, k ≤ xs.length → (lay d p xs k).Perm (xs.take k ++ List.replicate (xs.length - k) d)
  | 0, _ => by simp [lay]
  | k + 1, hk => by
    have ih := lay_perm hp hl k (by omega)
    have hnd := perm_nodup hp
    have hpk : p[k]? = some (p.getD k 0) := by rw [List.getD_eq_getElem?_getD, List.getElem?_eq_getElem (by omega)]; rfl
    have hin := perm_in hp _ (List.mem_of_getElem? hpk)
    have hxk : xs[k]? = some (xs.getD k d) := by rw [List.getD_eq_getElem?_getD, List.getElem?_eq_getElem (by omega)]; rfl
    have hold : (lay d p xs k)[(p.getD k 0).toNat]? = some d := by
      refine lay_old (by omega) k fun i hi e => ?_
      have hpi : p[i]? = some (p.getD i 0) := by rw [List.getD_eq_getElem?_getD, List.getElem?_eq_getElem (by omega)]; rfl
      have hin' := perm_in hp _ (List.mem_of_getElem? hpi)
      have e2 : p.getD i 0 = p.getD k 0 := by omega
      rw [e2, ← hpk] at hpi
      have := (List.getElem?_inj (by omega) hnd).1 hpi
      omega
    obtain ⟨h1, h2⟩ := set_perm (x := xs.getD k d) hold
    have h3 : (d :: (lay d p xs k).eraseIdx (p.getD k 0).toNat).Perm (d :: (xs.take k ++ List.replicate (xs.length - (k + 1)) d)) := by
      refine h1.symm.trans (ih.trans ?_)
      rw [show xs.length - k = (xs.length - (k + 1)) + 1 by omega, List.replicate_succ]
      exact List.perm_middle
    have h4 := h3.cons_inv
    rw [lay, List.take_add_one, hxk]
    refine h2.trans ((h4.cons _).trans ?_)
    show ((xs.getD k d) :: (xs.take k ++ _)).Perm (xs.take k ++ [xs.getD k d] ++ _)
    rw [List.append_assoc]
    exact List.perm_middle.symm
theorem lay_all (hp : permB p = true) (hl : p.length = xs.length) : (lay d p xs xs.length).Perm xs := by
  have := lay_perm (d := d) hp hl xs.length (Nat.le_refl _)
  simpa using this
end
theorem eh_perm {l m : List EHd} (h : l.Perm m) : (eh l).Perm (eh m) := by
  induction h with
  | nil => exact .refl _
  | cons x _ ih => exact (ih.cons _).cons _
  | swap x y l =>
    simp only [eh]
    exact (List.perm_append_comm (l₁ := [y.2.2.1, y.2.2.2]) (l₂ := [x.2.2.1, x.2.2.2])).append_right (eh l)
  | trans _ _ h1 h2 => exact h1.trans h2

/-- What renumbering makes. -/
def eg0 : Eg := (0, 0, [], [])
def renG (g : Gr) (ws es : List Int) : Gr := (g.1, lay eg0 es (g.2.1.map (mapE ws)) g.2.1.length, mapL ws g.2.2.1, mapL ws g.2.2.2)
def renB (g : Gr) (ws es : List Int) : Bool := grB g && ((decide ((ws.length : Int) = g.1) && permB ws) && (decide (es.length = g.2.1.length) && permB es))
def renM (g : Gr) (ws es : List Int) : Gr × Bool := if renB g ws es then (renG g ws es, true) else ((0, [], [], []), false)
end Go.Proofs.Ytanhmljgeiajoaa
