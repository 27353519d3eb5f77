/-
  WHAT CAME IN: a graph, a match.
-/
import Derived.Test.YtanhmljgeiajoaaTmIn
import Derived.Test.YtanhmljgeiajoaaGd
namespace Go.Proofs.Ytanhmljgeiajoaa
open Go.ChangeShapes Go.WideShapes Go.ChangeAt Go.RowKit

theorem cellsEdgeL : Try.prog.cellsOf 101 = 4 := by kernel_rfl
theorem cellsGraphL : Try.prog.cellsOf 25 = 4 := by kernel_rfl
theorem cellsIntsG : Try.prog.cellsOf 23 = 1 := by kernel_rfl
theorem cellsEdges : Try.prog.cellsOf 22 = 1 := by kernel_rfl
theorem four_of {α : Type} {l : List α} (h : l.length = 4) : ∃ a b c d, l = [a, b, c, d] := by
  match l, h with
  | [a, b, c, d], _ => exact ⟨a, b, c, d, rfl⟩
theorem pair_of {α : Type} {l : List α} (h : l.length = 2) : ∃ a b, l = [a, b] := by
  match l, h with
  | [a, b], _ => exact ⟨a, b, rfl⟩
set_option maxRecDepth 100000 in
/-- A slice of ints that came in, within something else. -/
theorem in_ints1 {H : Type} {enc : TypeId × Value → H} {W : World} {base fuel : Nat} {v : Value} {x : DataW H × List MemPlace} (h : DataW.trod enc Try.prog W base (fun _ => true) true fuel 23 [v] = some x) :
    ∃ h : Hd, v = .slice h.1 h.2.2.length h.2.1 ∧ RdI W h.1 h.2.2 ∧ h.2.2.length ≤ maxLen := by
  rcases open_ints Try.underlying23 Try.underlying3 cellsInt h with ⟨hcs, _⟩ | ⟨a, len', cap', zs, hcs, _, hl, hmx, hz, _, hcell, _⟩
  · simp at hcs
    subst hcs
    exact ⟨(none, 0, []), rfl, fun j x hj => by simp at hj, Nat.zero_le _⟩
  · simp at hcs
    subst hcs
    have hzl : zs.length = cap' := by simpa using hz
    refine ⟨(some a, cap', zs.take len'), by simp; omega, fun j x hj => ⟨a, rfl, ?_⟩, by simp; omega⟩
    have hj0 : (zs.take len')[j]? = some x := hj
    rw [List.getElem?_take] at hj0
    split at hj0
    · have hj' := (List.getElem?_eq_some_iff.1 hj0).1
      rw [hcell j hj']; simp [List.getD, hj0]
    · cases hj0
set_option maxRecDepth 100000 in
theorem in_int1 {H : Type} {enc : TypeId × Value → H} {W : World} {base fuel : Nat} {v : Value} {x : DataW H × List MemPlace} (h : DataW.trod enc Try.prog W base (fun _ => true) true fuel 3 [v] = some x) :
    ∃ n, v = .int .i64 n ∧ -9223372036854775808 ≤ n ∧ n ≤ 9223372036854775807 := by
  obtain ⟨n, hcs, _, wf⟩ := DataW.trod_int Try.underlying3 h
  simp at hcs
  refine ⟨n, hcs, ?_⟩
  simp [Lit.wf, IntKind.min, IntKind.max, IntKind.signed, IntKind.bits] at wf
  omega
/-- The bounds of an edge that came in. -/
def BigE (h : EHd) : Prop := (-9223372036854775808 ≤ h.1 ∧ h.1 ≤ 9223372036854775807) ∧ (-9223372036854775808 ≤ h.2.1 ∧ h.2.1 ≤ 9223372036854775807) ∧ h.2.2.1.2.2.length ≤ maxLen ∧ h.2.2.2.2.2.length ≤ maxLen
set_option maxRecDepth 100000 in
theorem in_edge {H : Type} {enc : TypeId × Value → H} {W : World} {base fuel : Nat} {cs : List Value} {x : DataW H × List MemPlace} (h : DataW.trod enc Try.prog W base (fun _ => true) true fuel 101 cs = some x) :
    ∃ h : EHd, cs = ec h ∧ RdI W h.2.2.1.1 h.2.2.1.2.2 ∧ RdI W h.2.2.2.1 h.2.2.2.2.2 ∧ BigE h := by
  obtain ⟨xs, n, _, _, hlen, hxl, hf⟩ := DataW.trod_struct Try.underlying101 h
  rw [cellsEdgeL] at hlen
  obtain ⟨c0, c1, c2, c3, rfl⟩ := four_of hlen
  obtain ⟨y0, y1, y2, y3, rfl⟩ := four_of (show xs.length = 4 from hxl)
  have h0 : DataW.trod enc Try.prog W base (fun _ => true) true n 3 (List.take (Try.prog.cellsOf 3) [c0, c1, c2, c3]) = some y0 := hf 0 _ rfl
  have h1 : DataW.trod enc Try.prog W base (fun _ => true) true n 3 (List.take (Try.prog.cellsOf 3) [c1, c2, c3]) = some y1 := hf 1 _ rfl
  have h2 : DataW.trod enc Try.prog W base (fun _ => true) true n 23 (List.take (Try.prog.cellsOf 23) [c2, c3]) = some y2 := hf 2 _ rfl
  have h3 : DataW.trod enc Try.prog W base (fun _ => true) true n 23 (List.take (Try.prog.cellsOf 23) [c3]) = some y3 := hf 3 _ rfl
  rw [cellsInt] at h0 h1
  rw [cellsIntsG] at h2 h3
  obtain ⟨k, rfl, hk⟩ := in_int1 (v := c0) h0
  obtain ⟨v, rfl, hv⟩ := in_int1 (v := c1) h1
  obtain ⟨a, rfl, ha, hla⟩ := in_ints1 (v := c2) h2
  obtain ⟨b, rfl, hb, hlb⟩ := in_ints1 (v := c3) h3
  exact ⟨(k, v, a, b), rfl, ha, hb, hk, hv, hla, hlb⟩
set_option maxRecDepth 100000 in
/-- Edges that came in. -/
theorem in_edges {H : Type} {enc : TypeId × Value → H} {W : World} {base fuel : Nat} {v : Value} {x : DataW H × List MemPlace} (h : DataW.trod enc Try.prog W base (fun _ => true) true fuel 22 [v] = some x) :
    ∃ A cap l, v = .slice A (l : List EHd).length cap ∧ RdE W A l ∧ l.length ≤ maxLen ∧ ∀ h, h ∈ l → BigE h := by
  rcases Deep.open_slice Try.underlying22 h with ⟨hcs, _⟩ | ⟨a, len, cap, m, n, D, Pl, hcs, _, hl, hm, hmm, _, hi⟩
  · simp at hcs
    subst hcs
    exact ⟨none, 0, [], rfl, RdE.nil _ _, Nat.zero_le _, fun n hn => by cases hn⟩
  · simp at hcs
    subst hcs
    have hmc : m = cap := by simpa using hmm
    have hel : ∀ i, i < len → ∃ h : EHd, (∀ j u, (ec h)[j]? = some u → W.cell? (a.add (i * 4 + j)) = some u) ∧ RdI W h.2.2.1.1 h.2.2.1.2.2 ∧ RdI W h.2.2.2.1 h.2.2.2.2.2 ∧ BigE h := by
      intro i hlt
      obtain ⟨cs', hc, ht⟩ := hi i (by omega)
      rw [cellsEdgeL] at hc
      obtain ⟨_, hlen, hat⟩ := World.cells?_some hc
      obtain ⟨h, rfl, h1, h2, h3⟩ := in_edge ht
      refine ⟨h, fun j u hj => ?_, h1, h2, h3⟩
      have hj4 : j < 4 := (List.getElem?_eq_some_iff.1 hj).1
      have := hat j hj4
      rw [add_of_add] at this
      rw [this]; simp only [hj]
    have hall : ∀ k, k ≤ len → ∃ l : List EHd, l.length = k ∧ RdE W (some a) l ∧ ∀ h, h ∈ l → BigE h := by
      intro k
      induction k with
      | zero => exact fun _ => ⟨[], rfl, RdE.nil _ _, fun n hn => by cases hn⟩
      | succ k ih =>
        intro hk
        obtain ⟨l, hl1, hl2, hl3⟩ := ih (by omega)
        obtain ⟨nd, c0, r0, r1, hs⟩ := hel k (by omega)
        refine ⟨l ++ [nd], by simp [hl1], ⟨fun j u hj => ?_, fun n hn => ?_⟩, fun n hn => ?_⟩
        · rw [ecs_append] at hj
          by_cases hjl : j < (ecs l).length
          · rw [List.getElem?_append_left hjl] at hj
            exact hl2.1 j u hj
          · rw [List.getElem?_append_right (by omega), ecs_length, hl1] at hj
            rw [ecs_length, hl1] at hjl
            have hj' : (ec nd)[j - k * 4]? = some u := by simpa [ecs] using hj
            have := c0 _ _ hj'
            rw [show k * 4 + (j - k * 4) = j by omega] at this
            exact ⟨a, rfl, this⟩
        · rcases List.mem_append.1 hn with hn | hn
          · exact hl2.2 n hn
          · obtain rfl := List.mem_singleton.1 hn; exact ⟨r0, r1⟩
        · rcases List.mem_append.1 hn with hn | hn
          · exact hl3 n hn
          · obtain rfl := List.mem_singleton.1 hn; exact hs
    obtain ⟨l, h1, h2, h3⟩ := hall len (Nat.le_refl _)
    exact ⟨some a, cap, l, by rw [h1], h2, by rw [h1]; omega, h3⟩
/-- The bounds of a graph that came in. -/
def BigGraph (g : Gr) : Prop := (-9223372036854775808 ≤ g.1 ∧ g.1 ≤ 9223372036854775807) ∧ (g.2.1.length ≤ maxLen ∧ g.2.2.1.length ≤ maxLen ∧ g.2.2.2.length ≤ maxLen) ∧ ∀ e, e ∈ g.2.1 → e.2.2.1.length ≤ maxLen ∧ e.2.2.2.length ≤ maxLen
set_option maxRecDepth 100000 in
theorem in_Graph {H : Type} {enc : TypeId × Value → H} {W : World} {base : Nat} {v : Value} {d : DataW H} {p : List MemPlace} (hv : Value.okWide Try.prog W .any base 25 v) (h : DataW.Trod enc Try.prog W 0 (fun _ => true) true 25 v d p) :
    ∃ g, RdGr W v g ∧ BigGraph g := by
  obtain ⟨cs, rfl, hsz⟩ := okWide_struct Try.underlying25 hv
  rw [cellsGraphL] at hsz
  obtain ⟨fuel, hf⟩ := h
  obtain ⟨xs, n, _, _, hlen, hxl, hg⟩ := DataW.trod_struct Try.underlying25 hf
  obtain ⟨c0, c1, c2, c3, hc⟩ := four_of (show cs.toList.length = 4 by simpa using hsz)
  obtain ⟨y0, y1, y2, y3, rfl⟩ := four_of (show xs.length = 4 from hxl)
  have hc' : (Value.agg cs).cells.toList = [c0, c1, c2, c3] := hc
  rw [hc'] at hg
  have h0 : DataW.trod enc Try.prog W 0 (fun _ => true) true n 3 (List.take (Try.prog.cellsOf 3) [c0, c1, c2, c3]) = some y0 := hg 0 _ rfl
  have h1 : DataW.trod enc Try.prog W 0 (fun _ => true) true n 22 (List.take (Try.prog.cellsOf 22) [c1, c2, c3]) = some y1 := hg 1 _ rfl
  have h2 : DataW.trod enc Try.prog W 0 (fun _ => true) true n 23 (List.take (Try.prog.cellsOf 23) [c2, c3]) = some y2 := hg 2 _ rfl
  have h3 : DataW.trod enc Try.prog W 0 (fun _ => true) true n 23 (List.take (Try.prog.cellsOf 23) [c3]) = some y3 := hg 3 _ rfl
  rw [cellsInt] at h0
  rw [cellsEdges] at h1
  rw [cellsIntsG] at h2 h3
  obtain ⟨k, rfl, hk⟩ := in_int1 (v := c0) h0
  obtain ⟨A, cap, l, rfl, hR, hl, hB⟩ := in_edges (v := c1) h1
  obtain ⟨a, rfl, ha, hla⟩ := in_ints1 (v := c2) h2
  obtain ⟨b, rfl, hb, hlb⟩ := in_ints1 (v := c3) h3
  have : cs = #[.int .i64 k, .slice A l.length cap, .slice a.1 a.2.2.length a.2.1, .slice b.1 b.2.2.length b.2.1] := by
    apply Array.ext'
    simpa using hc
  rw [this]
  exact ⟨(k, l.map egOf, a.2.2, b.2.2), ⟨A, cap, l, a, b, rfl, rfl, rfl, rfl, hR, ha, hb⟩, hk, ⟨by simpa using hl, hla, hlb⟩, fun e he => by
    obtain ⟨h, hh, rfl⟩ := List.mem_map.1 he
    exact (hB h hh).2.2⟩
end Go.Proofs.Ytanhmljgeiajoaa
