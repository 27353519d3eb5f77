/-
  THE PLAIN LAW of monogamous graphs and of matches.
-/
import Derived.Test.YtanhmljgeiajoaaGrR
import Derived.Test.YtanhmljgeiajoaaMa
namespace Go.Proofs.Ytanhmljgeiajoaa
open Go.RowKit

theorem permGo_of : ∀ {l : List Int} {seen : List Bool}, l.Nodup → (∀ k, k ∈ l → 0 ≤ k ∧ k < seen.length ∧ seen.getD k.toNat true = false) → permGo l seen = true
  | [], _, _, _ => rfl
  | k :: r, seen, hn, h => by
    unfold permGo
    obtain ⟨h1, h2⟩ := List.nodup_cons.1 hn
    rw [if_pos (h k (by simp))]
    refine permGo_of h2 fun x hx => ?_
    obtain ⟨a, b, c⟩ := h x (by simp [hx])
    refine ⟨a, by simpa using b, ?_⟩
    have hne : ¬ k.toNat = x.toNat := fun e => by
      have hk := (h k (by simp)).1
      have : k = x := by omega
      exact h1 (this ▸ hx)
    rw [List.getD_eq_getElem?_getD, List.getElem?_set, if_neg hne]
    rw [List.getD_eq_getElem?_getD] at c
    exact c
/-- The list has each number below n once. -/
def prmN (n : Int) (l : List Int) : Bool := decide ((l.length : Int) = n) && permB l
theorem permB_of {l : List Int} (hn : l.Nodup) (h : ∀ k, k ∈ l → 0 ≤ k ∧ k < l.length) : permB l = true := by
  refine permGo_of hn fun k hk => ?_
  have := h k hk
  refine ⟨this.1, by simpa using this.2, ?_⟩
  rw [List.getD_eq_getElem?_getD, List.getElem?_replicate, if_pos (by omega)]; rfl
theorem seenC_nodup {n : Nat} {l : List Int} (hn : l.Nodup) (h : ∀ k, k ∈ l → 0 ≤ k ∧ k < (n : Int)) : ∀ k, k ≤ l.length → seenC n (l.take k) = k
  | 0, _ => by
    rw [List.take_zero]
    unfold seenC
    rw [seenM_nil]
    simp [List.count_replicate]
  | k + 1, hk => by
    have ih := seenC_nodup hn h k (by omega)
    have hx : l[k]? = some l[k] := List.getElem?_eq_getElem (by omega)
    have hin := h _ (List.mem_of_getElem? hx)
    obtain ⟨w, hw⟩ : ∃ w : Nat, l[k] = (w : Int) := ⟨l[k].toNat, by omega⟩
    rw [List.take_add_one, hx]
    show seenC n (l.take k ++ [l[k]]) = _
    rw [hw, seenC_new (by omega), ih]
    rw [← hw, Bool.eq_false_iff]
    intro hc
    have hm : l[k] ∈ l.take k := by simpa using hc
    obtain ⟨i, hi, e⟩ := List.getElem_of_mem hm
    rw [List.length_take] at hi
    have e2 : l[i]'(by omega) = l[k] := by rw [← e, List.getElem_take]
    have := (List.getElem_inj hn).1 e2
    omega
theorem perm_full {n : Nat} {l : List Int} (hn : l.Nodup) (h : ∀ k, k ∈ l → 0 ≤ k ∧ k < (n : Int)) (hl : l.length = n) {w : Nat} (hw : w < n) : (w : Int) ∈ l := by
  have h1 := seenC_nodup hn h l.length (Nat.le_refl _)
  rw [List.take_length] at h1
  have h2 := seenC_full n l
  rw [h1, hl, decide_eq_true rfl] at h2
  have := List.all_eq_true.1 h2.symm w (List.mem_range.2 hw)
  simpa using this
theorem full_len {n : Nat} {l : List Int} (hn : l.Nodup) (h : ∀ k, k ∈ l → 0 ≤ k ∧ k < (n : Int)) (hf : ∀ w : Nat, w < n → (w : Int) ∈ l) : l.length = n := by
  have h1 := seenC_nodup hn h l.length (Nat.le_refl _)
  rw [List.take_length] at h1
  have h2 := seenC_full n l
  rw [h1, show ((List.range n).all fun w : Nat => l.contains (w : Int)) = true from List.all_eq_true.2 fun w hw => by simpa using hf w (List.mem_range.1 hw)] at h2
  exact of_decide_eq_true h2
/-- All counts are 1: each number once. -/
theorem prmN_counts {n : Nat} {l : List Int} (h : ∀ k, k ∈ l → 0 ≤ k ∧ k < (n : Int)) : prmN (n : Int) l = (cntM n l).all fun c => decide (c = 1) := by
  rw [Bool.eq_iff_iff]
  unfold prmN
  rw [Bool.and_eq_true, decide_eq_true_eq, List.all_eq_true]
  constructor
  · rintro ⟨h1, h2⟩ c hc
    obtain ⟨w, hw, rfl⟩ := List.mem_map.1 hc
    have hw' := List.mem_range.1 hw
    have hnd := perm_nodup h2
    have hm := perm_full hnd h (by omega) hw'
    have h3 := List.nodup_iff_count.1 hnd (w : Int)
    have h4 := List.count_pos_iff.2 hm
    apply decide_eq_true
    omega
  · intro hc
    have h1 : ∀ w : Nat, w < n → l.count (w : Int) = 1 := fun w hw => by
      have := of_decide_eq_true (hc _ (List.mem_map_of_mem (List.mem_range.2 hw)))
      omega
    have hnd : l.Nodup := List.nodup_iff_count.2 fun a => by
      by_cases ha : a ∈ l
      · have hb := h a ha
        have := h1 a.toNat (by omega)
        rw [show ((a.toNat : Nat) : Int) = a by omega] at this
        omega
      · rw [List.count_eq_zero.2 ha]; omega
    have hl := full_len hnd h fun w hw => List.count_pos_iff.1 (by rw [h1 w hw]; omega)
    exact ⟨by omega, permB_of hnd fun k hk => by have := h k hk; omega⟩
/-- A graph is valid and monogamous. -/
def monoB (g : Gr) : Bool := grB g && (prmN g.1 (orgW g) && prmN g.1 (dstW g))

/-- The numbers are different and below n. -/
def difGo (n : Int) : List Int → List Int → Bool
  | _, [] => true
  | before, x :: r => if inB x 0 (n - 1) && !before.contains x then difGo n (before ++ [x]) r else false
def difB (n : Int) (l : List Int) : Bool := difGo n [] l
theorem difGo_iff {n : Int} : ∀ {l before : List Int}, difGo n before l = true ↔ (∀ x, x ∈ l → (0 ≤ x ∧ x < n) ∧ x ∉ before) ∧ l.Nodup
  | [], before => by simp [difGo]
  | x :: r, before => by
    unfold difGo
    by_cases hc : (inB x 0 (n - 1) && !before.contains x) = true
    · rw [if_pos hc, difGo_iff]
      simp only [Bool.and_eq_true, Bool.not_eq_true', inB, decide_eq_true_eq] at hc
      have hx2 : x ∉ before := fun hm => by have := hc.2; simp [hm] at this
      rw [List.nodup_cons]
      constructor
      · rintro ⟨h1, h2⟩
        refine ⟨fun y hy => ?_, fun hm => (h1 x hm).2 (by simp), h2⟩
        rcases List.mem_cons.1 hy with rfl | hy
        · exact ⟨by omega, hx2⟩
        · exact ⟨(h1 y hy).1, fun hb => (h1 y hy).2 (by simp [hb])⟩
      · rintro ⟨h1, h2, h3⟩
        refine ⟨fun y hy => ⟨(h1 y (by simp [hy])).1, fun hm => ?_⟩, h3⟩
        rcases List.mem_append.1 hm with hm | hm
        · exact (h1 y (by simp [hy])).2 hm
        · obtain rfl := List.mem_singleton.1 hm; exact h2 hy
    · rw [if_neg hc]
      constructor
      · intro h; cases h
      · rintro ⟨h1, _⟩
        obtain ⟨h2, h3⟩ := h1 x (by simp)
        exact absurd (by simp only [Bool.and_eq_true, Bool.not_eq_true', inB, decide_eq_true_eq]; exact ⟨by omega, by simpa using h3⟩) hc
theorem difB_iff {n : Int} {l : List Int} : difB n l = true ↔ (∀ x, x ∈ l → 0 ≤ x ∧ x < n) ∧ l.Nodup := by
  unfold difB
  rw [difGo_iff]
  simp
/-- The edge i of the pattern becomes the edge that the match names. -/
def atB (g pt : Gr) (m : Ma) (i : Nat) : Bool := decide (mapE m.1 (pt.2.1.getD i eg0) = g.2.1.getD (m.2.getD i 0).toNat eg0)
/-- m is a match of pt in g. -/
def maB (g pt : Gr) (m : Ma) : Bool := (decide ((m.1.length : Int) = pt.1) && decide (m.2.length = pt.2.1.length)) && ((difB g.1 m.1 && difB (g.2.1.length : Int) m.2) && (List.range pt.2.1.length).all (atB g pt m))
end Go.Proofs.Ytanhmljgeiajoaa
