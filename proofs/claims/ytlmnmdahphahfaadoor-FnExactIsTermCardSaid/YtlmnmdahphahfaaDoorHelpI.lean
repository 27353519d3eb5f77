/-
  THE LAW's HELPERS OVER []int: toIntS, eqIntS, markIntS, heldIntS: what each does.
-/
import Derived.Test.YtlmnmdahphahfaaDoorBase
import Derived.Deep.QuietTactic
import Derived.BigQuiet
import Derived.Deep.LoopGhost
import Derived.Test.YtlmnmdahphahfaaDoorOps
namespace Go.Proofs.YtlmnmdahphahfaaDoor
open Go.RowKit

theorem info_int : (Tryd.prog.info? 3).map (fun i => (i.zero, i.size, i.bytes)) = some (some (.int .i64 0), 1, 8) := by kernel_rfl

theorem take_replicate_step {l : List Int} {k : Nat} {x : Int} (h : l[k]? = some x) :
    (l.take k ++ List.replicate (l.length - k) 0).set k x = l.take (k + 1) ++ List.replicate (l.length - (k + 1)) 0 := by
  have hk : k < l.length := (List.getElem?_eq_some_iff.1 h).1
  apply List.ext_getElem?
  intro i
  simp only [List.getElem?_set, List.getElem?_append, List.getElem?_take, List.length_take, List.getElem?_replicate, List.length_append, List.length_replicate]
  by_cases hi : k = i
  · subst hi
    have a1 : k < min k l.length + (l.length - k) := by omega
    have a2 : k < min (k + 1) l.length := by omega
    simp [h, a1, a2]
  · simp only [hi, if_false]
    by_cases h1 : i < k
    · have : i < k + 1 := by omega
      have : i < min k l.length := by omega
      have : i < min (k+1) l.length := by omega
      simp [*]
    · have a1 : ¬ i < min k l.length := by omega
      have a2 : ¬ i < min (k+1) l.length := by omega
      simp only [a1, a2, if_false]
      have e1 : (i - min k l.length < l.length - k) = (i - min (k+1) l.length < l.length - (k + 1)) := by
        apply propext; omega
      simp only [e1]

theorem madeZeros (n : Nat) : (madeCells (Value.int .i64 0).cells (n * 1)).toList.take (n * 1) = ints (List.replicate n 0) := by
  show (madeCells #[Value.int .i64 0] (n * 1)).toList.take (n * 1) = _
  rw [toList_madeCells_one]; simp [ints]

/-- What a function leaves that only looks: draws alone. -/
def Qt (w w' : World) : Prop := ∃ n, w' = w.drewN n

theorem take_append_step {α : Type} {l m : List α} {k : Nat} {x : α} (hlen : m.length = l.length) (h : l[k]? = some x) :
    (l.take k ++ m.drop k).set k x = l.take (k + 1) ++ m.drop (k + 1) := by
  have hk : k < l.length := (List.getElem?_eq_some_iff.1 h).1
  have e : (l.take k).length = k := by simp; omega
  rw [List.set_append_right _ _ (by omega), e, Nat.sub_self, List.drop_eq_getElem_cons (by omega), List.set_cons_zero, List.take_add_one, h]
  simp

/-- The marks: k, k + 1, .. -/
def marks (k n : Nat) : List Int := (List.range n).map fun i => ((k + i : Nat) : Int)
@[simp] theorem marks_length (k n : Nat) : (marks k n).length = n := by simp [marks]
theorem marks_get {k n j : Nat} (h : j < n) : (marks k n)[j]? = some ((k + j : Nat) : Int) := by simp [marks, h]

end Go.Proofs.YtlmnmdahphahfaaDoor
