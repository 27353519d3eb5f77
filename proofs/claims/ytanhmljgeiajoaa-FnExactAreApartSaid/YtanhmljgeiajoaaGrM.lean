/-
  THE PLAIN LAW of valid graphs: what both sides' checks look at.
-/
import Derived.Test.YtanhmljgeiajoaaGd
import Derived.Test.YtanhmljgeiajoaaTmA
namespace Go.Proofs.Ytanhmljgeiajoaa
open Go.RowKit

/-- An edge is a generator. -/
def egB (e : Eg) : Bool := inB e.1 3 14 && (gvB e.1 e.2.1 && decide (((e.2.2.1.length : Int), (e.2.2.2.length : Int)) = kindTy e.1))
/-- All wires of the lists are wires of the graph. -/
def inW (n : Int) (l : List Int) : Bool := l.all fun x => inB x 0 (n - 1)
/-- The lists of edges, one behind the other. -/
def edW : List Eg → List Int
  | [] => []
  | e :: r => e.2.2.1 ++ (e.2.2.2 ++ edW r)
def allW (g : Gr) : List Int := g.2.2.1 ++ (g.2.2.2 ++ edW g.2.1)
/-- Each wire occurs. -/
def fullW (n : Int) (l : List Int) : Bool := (List.range n.toNat).all fun w : Nat => l.contains (w : Int)
/-- A graph is valid. -/
def grB (g : Gr) : Bool := (inB g.1 0 100 && (decide (g.2.1.length ≤ 60) && (decide (g.2.2.1.length ≤ 12) && decide (g.2.2.2.length ≤ 12)))) && (g.2.1.all egB && (inW g.1 (allW g) && fullW g.1 (allW g)))
theorem edW_append (l m : List Eg) : edW (l ++ m) = edW l ++ edW m := by
  induction l with
  | nil => rfl
  | cons e r ih => simp [edW, ih]
theorem inW_append (n : Int) (l m : List Int) : inW n (l ++ m) = (inW n l && inW n m) := by simp [inW]
theorem inW_iff {n : Int} {l : List Int} : inW n l = true ↔ ∀ x, x ∈ l → 0 ≤ x ∧ x < n := by
  unfold inW
  rw [List.all_eq_true]
  constructor
  · intro h x hx
    have := h x hx
    unfold inB at this
    have := of_decide_eq_true this
    omega
  · intro h x hx
    have := h x hx
    unfold inB
    exact decide_eq_true (by omega)
theorem inW_sub {n : Int} {l m : List Int} (h : inW n l = true) (hs : ∀ x, x ∈ m → x ∈ l) : inW n m = true := inW_iff.2 fun x hx => inW_iff.1 h x (hs x hx)
/-- What has been seen. -/
def seenM (n : Nat) (l : List Int) : List Bool := (List.range n).map fun w : Nat => l.contains (w : Int)
@[simp] theorem seenM_length (n : Nat) (l : List Int) : (seenM n l).length = n := by simp [seenM]
theorem seenM_get {n : Nat} {l : List Int} {w : Nat} (h : w < n) : (seenM n l)[w]? = some (l.contains (w : Int)) := by simp [seenM, h]
theorem seenM_nil (n : Nat) : seenM n [] = List.replicate n false := by
  apply List.ext_getElem?
  intro w
  by_cases h : w < n
  · rw [seenM_get h, List.getElem?_replicate, if_pos h]; rfl
  · rw [List.getElem?_eq_none (by simp; omega), List.getElem?_eq_none (by simp; omega)]
theorem contains_snoc (l : List Int) (x y : Int) : (l ++ [x]).contains y = (l.contains y || (x == y)) := by
  rw [Bool.eq_iff_iff, List.contains_iff_mem, Bool.or_eq_true, List.contains_iff_mem, List.mem_append, List.mem_singleton, beq_iff_eq]
  exact ⟨fun h => h.imp id Eq.symm, fun h => h.imp id Eq.symm⟩
theorem seenM_in {n w : Nat} {l : List Int} (h : w < n) : seenM n (l ++ [(w : Int)]) = (seenM n l).set w true := by
  apply List.ext_getElem?
  intro i
  rw [List.getElem?_set]
  by_cases hi : i < n
  · rw [seenM_get hi, contains_snoc]
    by_cases hw : w = i
    · subst hw; simp [hi]
    · rw [if_neg hw, seenM_get hi]
      have : ((w : Int) == (i : Int)) = false := by rw [beq_eq_false_iff_ne]; omega
      rw [this, Bool.or_false]
  · rw [List.getElem?_eq_none (by simp; omega)]
    split
    · rename_i h2; omega
    · rw [List.getElem?_eq_none (by simp; omega)]
theorem seenM_out {n : Nat} {l : List Int} {x : Int} (h : ¬ (0 ≤ x ∧ x < n)) : seenM n (l ++ [x]) = seenM n l := by
  unfold seenM
  apply List.map_congr_left
  intro w hw
  have hw' : w < n := List.mem_range.1 hw
  rw [contains_snoc]
  have : (x == (w : Int)) = false := by rw [beq_eq_false_iff_ne]; omega
  rw [this, Bool.or_false]
theorem seenM_old {n w : Nat} {l : List Int} (h : w < n) (hs : l.contains (w : Int) = true) : seenM n (l ++ [(w : Int)]) = seenM n l := by
  rw [seenM_in h]
  apply List.ext_getElem?
  intro i
  rw [List.getElem?_set]
  split
  · rename_i e; subst e; rw [seenM_get h, hs]; simp [h]
  · rfl
/-- How many wires have been seen. -/
def seenC (n : Nat) (l : List Int) : Nat := (seenM n l).count true
theorem count_set_true : ∀ {s : List Bool} {w : Nat}, s[w]? = some false → (s.set w true).count true = s.count true + 1
  | b :: s, 0, h => by
    obtain rfl : b = false := by simpa using h
    simp
  | b :: s, w + 1, h => by
    have := count_set_true (s := s) (w := w) (by simpa using h)
    simp only [List.set_cons_succ, List.count_cons, this]
    omega
theorem seenC_le (n : Nat) (l : List Int) : seenC n l ≤ n := by
  have := List.count_le_length (a := true) (l := seenM n l)
  rw [seenM_length] at this; exact this
theorem seenC_new {n w : Nat} {l : List Int} (h : w < n) (hs : l.contains (w : Int) = false) : seenC n (l ++ [(w : Int)]) = seenC n l + 1 := by
  unfold seenC
  rw [seenM_in h]
  exact count_set_true (by rw [seenM_get h, hs])
theorem count_all : ∀ (s : List Bool), s.count true = s.length ↔ s.all id = true
  | [] => by simp
  | b :: s => by
    have ih := count_all s
    have hle := List.count_le_length (a := true) (l := s)
    cases b
    · simp; omega
    · simpa using ih
theorem seenC_full (n : Nat) (l : List Int) : (decide (seenC n l = n)) = (List.range n).all fun w : Nat => l.contains (w : Int) := by
  have h := count_all (seenM n l)
  rw [seenM_length] at h
  have e : (seenM n l).all id = (List.range n).all fun w : Nat => l.contains (w : Int) := by
    unfold seenM; rw [List.all_map]; rfl
  rw [Bool.eq_iff_iff, ← e, ← h]
  unfold seenC
  simp
/-- How often each wire occurs. -/
def cntM (n : Nat) (l : List Int) : List Int := (List.range n).map fun w : Nat => (l.count (w : Int) : Int)
@[simp] theorem cntM_length (n : Nat) (l : List Int) : (cntM n l).length = n := by simp [cntM]
theorem cntM_get {n : Nat} {l : List Int} {w : Nat} (h : w < n) : (cntM n l)[w]? = some (l.count (w : Int) : Int) := by simp [cntM, h]
theorem cntM_nil (n : Nat) : cntM n [] = List.replicate n 0 := by
  apply List.ext_getElem?
  intro w
  by_cases h : w < n
  · rw [cntM_get h, List.getElem?_replicate, if_pos h]; rfl
  · rw [List.getElem?_eq_none (by simp; omega), List.getElem?_eq_none (by simp; omega)]
theorem cntM_step {n w : Nat} {l : List Int} (h : w < n) : cntM n (l ++ [(w : Int)]) = (cntM n l).set w ((l.count (w : Int) : Int) + 1) := by
  apply List.ext_getElem?
  intro i
  rw [List.getElem?_set]
  by_cases hi : i < n
  · rw [cntM_get hi, List.count_append]
    by_cases hw : w = i
    · subst hw; simp [hi]
    · rw [if_neg hw, cntM_get hi]
      have : List.count (i : Int) [(w : Int)] = 0 := List.count_eq_zero.2 fun hm => by
        have := List.mem_singleton.1 hm; omega
      rw [this, Nat.add_zero]
  · rw [List.getElem?_eq_none (by simp; omega)]
    split
    · rename_i h2; omega
    · rw [List.getElem?_eq_none (by simp; omega)]
theorem count_le (l : List Int) (x : Int) : l.count x ≤ l.length := List.count_le_length
/-- The wires as origins, and as destinations. -/
def outW : List Eg → List Int
  | [] => []
  | e :: r => e.2.2.2 ++ outW r
def inpW : List Eg → List Int
  | [] => []
  | e :: r => e.2.2.1 ++ inpW r
def orgW (g : Gr) : List Int := g.2.2.1 ++ outW g.2.1
def dstW (g : Gr) : List Int := g.2.2.2 ++ inpW g.2.1
theorem mem_edW {l : List Eg} {x : Int} : x ∈ edW l ↔ x ∈ outW l ∨ x ∈ inpW l := by
  induction l with
  | nil => simp [edW, outW, inpW]
  | cons e r ih => simp only [edW, outW, inpW, List.mem_append, ih]; exact ⟨fun h => by rcases h with h | h | h | h <;> simp [h], fun h => by rcases h with (h | h) | (h | h) <;> simp [h]⟩
theorem mem_allW {g : Gr} {x : Int} : x ∈ allW g ↔ x ∈ orgW g ∨ x ∈ dstW g := by
  simp only [allW, orgW, dstW, List.mem_append, mem_edW]
  exact ⟨fun h => by rcases h with h | h | h | h <;> simp [h], fun h => by rcases h with (h | h) | (h | h) <;> simp [h]⟩
theorem outW_append (l m : List Eg) : outW (l ++ m) = outW l ++ outW m := by
  induction l with
  | nil => rfl
  | cons e r ih => simp [outW, ih]
theorem inpW_append (l m : List Eg) : inpW (l ++ m) = inpW l ++ inpW m := by
  induction l with
  | nil => rfl
  | cons e r ih => simp [inpW, ih]
/-- An edge of a graph with some wires, as the reference looks at it. -/
def hgB (n : Int) (e : Eg) : Bool := egB e && (inW n e.2.2.1 && inW n e.2.2.2)
theorem hgB_all (n : Int) (l : List Eg) : l.all (hgB n) = (l.all egB && inW n (edW l)) := by
  induction l with
  | nil => rfl
  | cons e r ih =>
    rw [List.all_cons, List.all_cons, ih, edW, inW_append, inW_append, hgB]
    cases egB e <;> cases inW n e.2.2.1 <;> cases inW n e.2.2.2 <;> cases r.all egB <;> rfl
theorem kindTy_le {k : Int} (h1 : 3 ≤ k) (h2 : k ≤ 14) : (0 ≤ (kindTy k).1 ∧ (kindTy k).1 ≤ 2) ∧ (0 ≤ (kindTy k).2 ∧ (kindTy k).2 ≤ 2) ∧ 1 ≤ (kindTy k).1 + (kindTy k).2 := by
  have hk : k = 3 ∨ k = 4 ∨ k = 5 ∨ k = 6 ∨ k = 7 ∨ k = 8 ∨ k = 9 ∨ k = 10 ∨ k = 11 ∨ k = 12 ∨ k = 13 ∨ k = 14 := by omega
  rcases hk with rfl | rfl | rfl | rfl | rfl | rfl | rfl | rfl | rfl | rfl | rfl | rfl <;> decide
/-- The kinds that are generators have few wires. -/
theorem egB_len {e : Eg} (h : egB e = true) : (e.2.2.1.length ≤ 2 ∧ e.2.2.2.length ≤ 2) ∧ 1 ≤ e.2.2.1.length + e.2.2.2.length := by
  unfold egB inB at h
  simp only [Bool.and_eq_true, decide_eq_true_eq] at h
  obtain ⟨⟨h1, h2⟩, _, h5⟩ := h
  have h3 : (e.2.2.1.length : Int) = (kindTy e.1).1 := congrArg Prod.fst h5
  have h4 : (e.2.2.2.length : Int) = (kindTy e.1).2 := congrArg Prod.snd h5
  have := kindTy_le h1 h2
  omega
end Go.Proofs.Ytanhmljgeiajoaa
