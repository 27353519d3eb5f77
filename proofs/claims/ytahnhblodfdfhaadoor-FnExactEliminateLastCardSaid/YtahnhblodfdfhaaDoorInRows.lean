/-
  WHAT CAME IN: [][]int, and a struct of two ints and rows.
-/
import Derived.Test.YtahnhblodfdfhaaDoorFrame
import Derived.Test.YtahnhblodfdfhaaDoorIntss
import Derived.Deep.Matrix
import Derived.Lib.SmallJoins
namespace Go.Proofs.YtahnhblodfdfhaaDoor
open Go.ChangeShapes Go.WideShapes Go.ChangeAt Go.RowKit

theorem cellsInts : Tryd.prog.cellsOf 33 = 1 := by kernel_rfl

/-- Rows that came in. -/
theorem in_rows {H : Type} {enc : TypeId × Value → H} {W : World} {base : Nat} {fuel : Nat} {v : Value} {x : DataW H × List MemPlace} (h : DataW.trod enc Tryd.prog W base (fun _ => true) true fuel 22 [v] = some x) :
    ∃ A cap hs, v = .slice A (hs : List Hd).length cap ∧ RdR W A hs ∧ hs.length ≤ 9223372036854775807 ∧ ∀ y, y ∈ hs → y.2.2.length ≤ 9223372036854775807 := by
  rcases Deep.open_int_rows Tryd.underlying22 Tryd.underlying33 Tryd.underlying3 cellsInts cellsInt h with ⟨hcs, _⟩ | ⟨a, len, cap, A, L, C, Z, hcs, _, hl, hm, _, hr⟩
  · simp at hcs
    subst hcs
    exact ⟨none, 0, [], rfl, ⟨fun i h hh => by simp at hh, fun h hh => by cases hh⟩, by simp, fun y hy => by cases hy⟩
  · simp at hcs
    subst hcs
    have hlen : ((List.range len).map fun r => ((A r, C r, (Z r).take (L r)) : Hd)).length = len := by simp
    refine ⟨some a, cap, (List.range len).map fun r => (A r, C r, (Z r).take (L r)), by rw [hlen], ⟨fun i h hh => ?_, fun h hh => ?_⟩, by unfold maxLen at hm; rw [hlen]; omega, fun y hy => ?_⟩
    · have hi : i < len := by have := (List.getElem?_eq_some_iff.1 hh).1; simpa using this
      obtain ⟨h1, h2, h3, h4, _, _, _⟩ := hr i (by omega)
      rw [List.getElem?_map, List.getElem?_range hi] at hh
      simp at hh
      subst hh
      refine ⟨a, rfl, ?_⟩
      rw [h1]
      show some (Value.slice (A i) (L i) (C i)) = some (Value.slice (A i) ((Z i).take (L i)).length (C i))
      rw [List.length_take, h4, Nat.min_eq_left h2]
    · obtain ⟨r, hr', rfl⟩ := List.mem_map.1 hh
      have hi : r < len := by simpa using hr'
      obtain ⟨h1, h2, h3, h4, _, h6, h7⟩ := hr r (by omega)
      intro j u hj
      show ∃ ad, A r = some ad ∧ _
      have hj' : ((Z r).take (L r))[j]? = some u := hj
      rw [List.getElem?_take] at hj'
      split at hj'
      · rename_i hjl
        cases hA : A r with
        | none => have := h6 hA; omega
        | some a' =>
          obtain ⟨_, h8⟩ := h7 a' hA
          refine ⟨a', rfl, ?_⟩
          rw [h8 j (by omega)]
          simp [List.getD, hj']
      · cases hj'
    · obtain ⟨r, hr', rfl⟩ := List.mem_map.1 hy
      have hi : r < len := by simpa using hr'
      obtain ⟨h1, h2, h3, h4, _, _, _⟩ := hr r (by omega)
      show ((Z r).take (L r)).length ≤ _
      unfold maxLen at h3
      rw [List.length_take]; omega
theorem in_int1 {H : Type} {enc : TypeId × Value → H} {W : World} {base fuel : Nat} {v : Value} {x : DataW H × List MemPlace} (h : DataW.trod enc Tryd.prog W base (fun _ => true) true fuel 3 [v] = some x) :
    ∃ n, v = .int .i64 n ∧ -9223372036854775808 ≤ n ∧ n ≤ 9223372036854775807 := by
  obtain ⟨n, hcs, _, wf⟩ := DataW.trod_int Tryd.underlying3 h
  simp at hcs
  refine ⟨n, hcs, ?_⟩
  simp [Lit.wf, IntKind.min, IntKind.max, IntKind.signed, IntKind.bits] at wf
  omega
end Go.Proofs.YtahnhblodfdfhaaDoor
