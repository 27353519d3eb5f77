/-
  THE CONTRACTS of SeqTerm and ParTerm in the law generator's shape.
-/
import Derived.Test.YtlmnmdahphahfaaTmJn
namespace Go.Proofs.Ytlmnmdahphahfaa
open Go.RowKit

theorem okM_ok (l : List Nd) : OkN (okM l).1 := by
  unfold okM
  split
  · rename_i h
    exact .of (Nat.le_trans (len_some h.symm) (by omega))
  · exact .of (by simp)
theorem joinM_ok (k : Int) (a b : List Nd) : OkN (joinM k a b).1 := by
  unfold joinM
  split
  · exact okM_ok _
  · exact .of (by simp)
theorem sSeqTerm_law {v v' : Value} {a b : List Nd} {w : World} (h : RdTm w v a) (h' : RdTm w v' b) (_ok : OkN a) (_ok' : OkN b) :
    Calls Try.prog 31 #[v, v'] w fun e w' => ∃ v' fp, e = .returned (.tuple #[v', .bool (joinM 15 a b).2]) ∧ OwTm w' v' (joinM 15 a b).1 fp ∧ FreshL w.heap.size fp ∧ Below w.heap.size w w' := sSeqTerm_any h h'
theorem iSeqTerm_law {v v' : Value} {a b : List Nd} {w : World} (h : RdTm w v a) (h' : RdTm w v' b) (_ok : OkN a) (_ok' : OkN b) :
    Calls Try.prog 32 #[v, v'] w fun e w' => ∃ v' fp, e = .returned (.tuple #[v', .bool (joinM 15 a b).2]) ∧ OwTm w' v' (joinM 15 a b).1 fp ∧ FreshL w.heap.size fp ∧ Below w.heap.size w w' := iSeqTerm_any h h'
theorem sParTerm_law {v v' : Value} {a b : List Nd} {w : World} (h : RdTm w v a) (h' : RdTm w v' b) (_ok : OkN a) (_ok' : OkN b) :
    Calls Try.prog 29 #[v, v'] w fun e w' => ∃ v' fp, e = .returned (.tuple #[v', .bool (joinM 16 a b).2]) ∧ OwTm w' v' (joinM 16 a b).1 fp ∧ FreshL w.heap.size fp ∧ Below w.heap.size w w' := sParTerm_any h h'
theorem iParTerm_law {v v' : Value} {a b : List Nd} {w : World} (h : RdTm w v a) (h' : RdTm w v' b) (_ok : OkN a) (_ok' : OkN b) :
    Calls Try.prog 30 #[v, v'] w fun e w' => ∃ v' fp, e = .returned (.tuple #[v', .bool (joinM 16 a b).2]) ∧ OwTm w' v' (joinM 16 a b).1 fp ∧ FreshL w.heap.size fp ∧ Below w.heap.size w w' := iParTerm_any h h'
end Go.Proofs.Ytlmnmdahphahfaa
