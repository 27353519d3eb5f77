/-
  THE PLAIN WORDS of relations: what is a relation, a reduced list of rows; parts of rows.
-/
import Derived.Test.YtpfidjegdpkhdaaDoorSySolve
namespace Go.Proofs.YtpfidjegdpkhdaaDoor
open Go.RowKit

/-- A reduced list of rows of n elements. -/
def redB (p n : Int) (L : List (List Int)) : Bool := decide ((L.length : Int) ≤ n) && (rowsB p n L && decide (redM p n.toNat L = L))
/-- A relation. -/
def relB (p : Int) (s : Sys) : Bool := (decide (0 ≤ s.1) && decide (s.1 ≤ 24)) && ((decide (0 ≤ s.2.1) && decide (s.2.1 ≤ 24 - s.1)) && (fieldB p && redB p (s.1 + s.2.1) s.2.2))
structure RelOk (p : Int) (s : Sys) : Prop where
  lo : 0 ≤ s.1
  hi : 0 ≤ s.2.1
  sum : s.1 + s.2.1 ≤ 24
  fld : fieldB p = true
  len : (s.2.2.length : Int) ≤ s.1 + s.2.1
  mat : Mat p s.2.2.length (s.1 + s.2.1).toNat s.2.2
  red : redM p (s.1 + s.2.1).toNat s.2.2 = s.2.2
theorem RelOk.of {p : Int} {s : Sys} (h : relB p s = true) : RelOk p s := by
  unfold relB redB at h
  simp only [Bool.and_eq_true, decide_eq_true_eq] at h
  obtain ⟨⟨h1, h2⟩, ⟨h3, h4⟩, h5, h6, h7, h8⟩ := h
  exact ⟨h1, h3, by omega, h5, h6, rowsB_mat h7 (by omega), h8⟩
theorem RelOk.row {p : Int} {s : Sys} (h : RelOk p s) {v : List Int} (hv : v ∈ s.2.2) : (v.length : Int) = s.1 + s.2.1 ∧ Res p v := by
  have := h.mat.row v hv
  have h1 := h.lo
  have h2 := h.hi
  exact ⟨by omega, this.2⟩
theorem Mat.map {p : Int} {m n k : Nat} {L : List (List Int)} {f : List Int → List Int} (h : Mat p m n L) (hf : ∀ v, v.length = n → Res p v → (f v).length = k ∧ Res p (f v)) : Mat p m k (L.map f) := by
  refine ⟨by rw [List.length_map]; exact h.len, fun v hv => ?_⟩
  obtain ⟨u, hu, rfl⟩ := List.mem_map.1 hv
  exact hf u (h.row u hu).1 (h.row u hu).2
theorem leadV_take {v : List Int} {a : Nat} (ha : a ≤ v.length) : leadV (v.take a) = a ↔ a ≤ leadV v := by
  unfold leadV
  induction v generalizing a with
  | nil => have : a = 0 := by simpa using ha
           subst this; simp
  | cons x r ih =>
    cases a with
    | zero => simp
    | succ a =>
      have := ih (a := a) (by simpa using ha)
      simp only [List.take_succ_cons, List.findIdx_cons]
      cases h : (x != 0)
      · simp only [cond_false]; omega
      · simp
/-- The first columns of the rows; the last ones. -/
def firstM (s : Sys) : List (List Int) := s.2.2.map fun v => v.take s.1.toNat
def secondM (s : Sys) : List (List Int) := s.2.2.map fun v => v.drop s.1.toNat
theorem firstM_mat {p : Int} {s : Sys} (h : RelOk p s) : Mat p s.2.2.length s.1.toNat (firstM s) := by
  have h1 := h.lo
  have h2 := h.hi
  exact h.mat.map fun v hv hr => ⟨by rw [List.length_take]; omega, fun x hx => hr x (List.mem_of_mem_take hx)⟩
theorem secondM_mat {p : Int} {s : Sys} (h : RelOk p s) : Mat p s.2.2.length s.2.1.toNat (secondM s) := by
  have h1 := h.lo
  have h2 := h.hi
  exact h.mat.map fun v hv hr => ⟨by rw [List.length_drop]; omega, fun x hx => hr x (List.mem_of_mem_drop hx)⟩
/-- No row begins behind the left part. -/
def singB (s : Sys) : Bool := s.2.2.all fun v => decide ((leadV v : Int) < s.1)
def singM (p : Int) (s : Sys) : Bool × Bool := if relB p s then (singB s, true) else (false, false)
/-- The space of the left parts has all dimensions. -/
def totB (p : Int) (s : Sys) : Bool := decide (((redM p s.1.toNat (firstM s)).length : Int) = s.1)
def totM (p : Int) (s : Sys) : Bool × Bool := if relB p s then (totB p s, true) else (false, false)
def domM (p : Int) (s : Sys) : (Int × List (List Int)) × Bool := if relB p s then ((s.1, redM p s.1.toNat (firstM s)), true) else ((0, []), false)
def ranM (p : Int) (s : Sys) : (Int × List (List Int)) × Bool := if relB p s then ((s.2.1, redM p s.2.1.toNat (secondM s)), true) else ((0, []), false)
def funM (p : Int) (s : Sys) : (Int × List (List Int)) × Bool := if relB p s && (totB p s && singB s) then ((s.2.1, secondM s), true) else ((0, []), false)
end Go.Proofs.YtpfidjegdpkhdaaDoor
