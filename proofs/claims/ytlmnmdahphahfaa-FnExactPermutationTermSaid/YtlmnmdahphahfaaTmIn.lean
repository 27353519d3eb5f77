/-
  WHAT CAME IN: a term (a struct of one field, a slice of nodes).
-/
import Derived.Test.YtlmnmdahphahfaaFrameP
import Derived.Test.YtlmnmdahphahfaaNd
import Derived.Deep.Slices
import Derived.Deep.Fields
import Derived.Lib.SmallJoins
namespace Go.Proofs.Ytlmnmdahphahfaa
open Go.ChangeShapes Go.WideShapes Go.ChangeAt Go.RowKit

theorem cellsNodeL : Try.prog.cellsOf 90 = 3 := by kernel_rfl
theorem cellsTermL : Try.prog.cellsOf 24 = 1 := by kernel_rfl
theorem cellsStr : Try.prog.cellsOf 9 = 1 := by kernel_rfl
theorem cellsNodes : Try.prog.cellsOf 22 = 1 := by kernel_rfl
theorem three_of {α : Type} {l : List α} (h : l.length = 3) : ∃ a b c, l = [a, b, c] := by
  match l, h with
  | [a, b, c], _ => exact ⟨a, b, c, rfl⟩
theorem one_of {α : Type} {l : List α} (h : l.length = 1) : ∃ a, l = [a] := by
  match l, h with
  | [a], _ => exact ⟨a, rfl⟩
set_option maxRecDepth 100000 in
/-- One node that came in. -/
theorem in_node {H : Type} {enc : TypeId × Value → H} {W : World} {base fuel : Nat} {cs : List Value} {x : DataW H × List MemPlace} (h : DataW.trod enc Try.prog W base (fun _ => true) true fuel 90 cs = some x) :
    ∃ k v s, cs = [.int .i64 k, .int .i64 v, .string s] ∧ s.size ≤ maxLen := by
  obtain ⟨xs, n, _, _, hlen, hxl, hf⟩ := DataW.trod_struct Try.underlying90 h
  rw [cellsNodeL] at hlen
  obtain ⟨c0, c1, c2, rfl⟩ := three_of hlen
  obtain ⟨y0, y1, y2, rfl⟩ := three_of (show xs.length = 3 from hxl)
  have h0 : DataW.trod enc Try.prog W base (fun _ => true) true n 3 (List.take (Try.prog.cellsOf 3) [c0, c1, c2]) = some y0 := hf 0 _ rfl
  have h1 : DataW.trod enc Try.prog W base (fun _ => true) true n 3 (List.take (Try.prog.cellsOf 3) [c1, c2]) = some y1 := hf 1 _ rfl
  have h2 : DataW.trod enc Try.prog W base (fun _ => true) true n 9 (List.take (Try.prog.cellsOf 9) [c2]) = some y2 := hf 2 _ rfl
  rw [cellsInt] at h0 h1
  rw [cellsStr] at h2
  obtain ⟨k, e0, _⟩ := DataW.trod_int Try.underlying3 h0
  obtain ⟨v, e1, _⟩ := DataW.trod_int Try.underlying3 h1
  obtain ⟨s, e2, _, hs⟩ := DataW.trod_string Try.underlying9 h2
  simp at e0 e1 e2
  exact ⟨k, v, s, by rw [e0, e1, e2], hs⟩
/-- The bounds of what came in. -/
def BigTm (l : List Nd) : Prop := l.length ≤ maxLen ∧ ∀ n, n ∈ l → n.2.2.size ≤ maxLen
set_option maxRecDepth 100000 in
/-- Nodes that came in. -/
theorem in_nodes {H : Type} {enc : TypeId × Value → H} {W : World} {base fuel : Nat} {v : Value} {x : DataW H × List MemPlace} (h : DataW.trod enc Try.prog W base (fun _ => true) true fuel 22 [v] = some x) :
    ∃ A cap l, v = .slice A (l : List Nd).length cap ∧ RdN W A l ∧ BigTm l := by
  rcases Deep.open_slice Try.underlying22 h with ⟨hcs, _⟩ | ⟨a, len, cap, m, n, D, Pl, hcs, _, hl, hm, hmm, _, hi⟩
  · simp at hcs
    subst hcs
    exact ⟨none, 0, [], rfl, RdN.nil _ _, Nat.zero_le _, fun n hn => by cases hn⟩
  · simp at hcs
    subst hcs
    have hmc : m = cap := by simpa using hmm
    have hel : ∀ i, i < len → ∃ nd : Nd, W.cell? (a.add (i * 3)) = some (.int .i64 nd.1) ∧ W.cell? (a.add (i * 3 + 1)) = some (.int .i64 nd.2.1) ∧ W.cell? (a.add (i * 3 + 2)) = some (.string nd.2.2) ∧ nd.2.2.size ≤ maxLen := by
      intro i hlt
      obtain ⟨cs', hc, ht⟩ := hi i (by omega)
      rw [cellsNodeL] at hc
      obtain ⟨_, _, hat⟩ := World.cells?_some hc
      obtain ⟨k, v, s, rfl, hs⟩ := in_node ht
      refine ⟨(k, v, s), ?_, ?_, ?_, hs⟩
      · have := hat 0 (by omega); rw [add_of_add] at this; simpa using this
      · have := hat 1 (by omega); rw [add_of_add] at this; simpa using this
      · have := hat 2 (by omega); rw [add_of_add] at this; simpa using this
    have hall : ∀ k, k ≤ len → ∃ l : List Nd, l.length = k ∧ RdN W (some a) l ∧ ∀ n, n ∈ l → n.2.2.size ≤ maxLen := by
      intro k
      induction k with
      | zero => exact fun _ => ⟨[], rfl, RdN.nil _ _, fun n hn => by cases hn⟩
      | succ k ih =>
        intro hk
        obtain ⟨l, hl1, hl2, hl3⟩ := ih (by omega)
        obtain ⟨nd, c0, c1, c2, hs⟩ := hel k (by omega)
        refine ⟨l ++ [nd], by simp [hl1], fun j u hj => ?_, fun n hn => ?_⟩
        · rw [ncs_append] at hj
          by_cases hjl : j < (ncs l).length
          · rw [List.getElem?_append_left hjl] at hj
            exact hl2 j u hj
          · rw [List.getElem?_append_right (by omega), ncs_length, hl1] at hj
            have hj3 : j - k * 3 < 3 := (List.getElem?_eq_some_iff.1 hj).1
            rw [ncs_length, hl1] at hjl
            have hjc : j = k * 3 ∨ j = k * 3 + 1 ∨ j = k * 3 + 2 := by omega
            refine ⟨a, rfl, ?_⟩
            rcases hjc with rfl | rfl | rfl
            · simp [ncs, nc] at hj; rw [c0, hj]
            · simp [ncs, nc] at hj; rw [c1, hj]
            · simp [ncs, nc] at hj; rw [c2, hj]
        · rcases List.mem_append.1 hn with hn | hn
          · exact hl3 n hn
          · obtain rfl := List.mem_singleton.1 hn; exact hs
    obtain ⟨l, h1, h2, h3⟩ := hall len (Nat.le_refl _)
    exact ⟨some a, cap, l, by rw [h1], h2, by rw [h1]; omega, h3⟩
set_option maxRecDepth 100000 in
/-- A term that came in. -/
theorem in_Term {H : Type} {enc : TypeId × Value → H} {W : World} {base : Nat} {v : Value} {d : DataW H} {p : List MemPlace} (hv : Value.okWide Try.prog W .any base 24 v) (h : DataW.Trod enc Try.prog W 0 (fun _ => true) true 24 v d p) :
    ∃ l, RdTm W v l ∧ BigTm l := by
  obtain ⟨cs, rfl, hsz⟩ := okWide_struct Try.underlying24 hv
  rw [cellsTermL] at hsz
  obtain ⟨fuel, hf⟩ := h
  obtain ⟨xs, n, _, _, hlen, hxl, hg⟩ := DataW.trod_struct Try.underlying24 hf
  obtain ⟨c0, hc⟩ := one_of (show cs.toList.length = 1 by simpa using hsz)
  obtain ⟨y0, rfl⟩ := one_of (show xs.length = 1 from hxl)
  have h0 : DataW.trod enc Try.prog W 0 (fun _ => true) true n 22 (List.take (Try.prog.cellsOf 22) cs.toList) = some y0 := hg 0 _ rfl
  rw [cellsNodes, hc] at h0
  obtain ⟨A, cap, l, rfl, hR, hB⟩ := in_nodes (show DataW.trod enc Try.prog W 0 (fun _ => true) true n 22 [c0] = some y0 from h0)
  refine ⟨l, ⟨A, cap, ?_, hR⟩, hB⟩
  have : cs = #[.slice A l.length cap] := by
    apply Array.ext'
    simpa using hc
  rw [this]
end Go.Proofs.Ytlmnmdahphahfaa
