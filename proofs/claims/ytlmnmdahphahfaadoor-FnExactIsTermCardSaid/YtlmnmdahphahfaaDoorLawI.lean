/-
  THE LAW's HELPERS AT []int, FOR A LAW's WALK: values as letters, what each owns as a list of blocks.
-/
import Derived.Test.YtlmnmdahphahfaaDoorHelpI
namespace Go.Proofs.YtlmnmdahphahfaaDoor
open Go.RowKit

/-- All blocks of the list are from B on. -/
def FreshL (B : Nat) (fp : List Nat) : Prop := ∀ b, b ∈ fp → B ≤ b
/-- All blocks of the list are below B. -/
def LtL (B : Nat) (fp : List Nat) : Prop := ∀ b, b ∈ fp → b < B
theorem FreshL.mono {B B' : Nat} {fp : List Nat} (h : FreshL B fp) (hB : B' ≤ B) : FreshL B' fp := fun b hb => Nat.le_trans hB (h b hb)
theorem LtL.mono {B B' : Nat} {fp : List Nat} (h : LtL B fp) (hB : B ≤ B') : LtL B' fp := fun b hb => Nat.lt_of_lt_of_le (h b hb) hB
theorem apart_of {B : Nat} {f1 f2 : List Nat} (h1 : LtL B f1) (h2 : FreshL B f2) : ∀ b, b ∈ f1 → ¬ b ∈ f2 := fun b hb hb' => by
  have := h1 b hb; have := h2 b hb'; omega
theorem apart_of' {B : Nat} {f1 f2 : List Nat} (h1 : LtL B f1) (h2 : FreshL B f2) : ∀ b, b ∈ f2 → ¬ b ∈ f1 := fun b hb hb' => by
  have := h1 b hb'; have := h2 b hb; omega
theorem keeps_below {fp : List Nat} {w w' : World} (h : Keeps (· ∈ fp) w w') {B : Nat} (hB : B ≤ w.heap.size) (hf : FreshL B fp) : Below B w w' := h.below hB hf

/-- v is a slice of ints that reads as l. -/
def RdIV (w : World) (v : Value) (l : List Int) : Prop := ∃ A cap, v = .slice A l.length cap ∧ RdI w A l
/-- v is a slice of ints that reads as l, its row is one of the program's own blocks fp. -/
def OwI (w : World) (v : Value) (l : List Int) (fp : List Nat) : Prop := ∃ A cap, v = .slice A l.length cap ∧ IS w A cap l ∧ fp = fpA A
theorem RdIV.below {w w' : World} {v : Value} {l : List Int} (h : RdIV w v l) (hb : Below w.heap.size w w') : RdIV w' v l := by
  obtain ⟨A, c, rfl, h⟩ := h; exact ⟨A, c, rfl, h.below hb⟩
theorem OwI.rd {w : World} {v : Value} {l : List Int} {fp : List Nat} (h : OwI w v l fp) : RdIV w v l := by
  obtain ⟨A, c, rfl, h, _⟩ := h; exact ⟨A, c, rfl, h.rd⟩
theorem OwI.below {w w' : World} {v : Value} {l : List Int} {fp : List Nat} (h : OwI w v l fp) (hb : Below w.heap.size w w') : OwI w' v l fp := by
  obtain ⟨A, c, rfl, h, e⟩ := h; exact ⟨A, c, rfl, h.below hb, e⟩
theorem OwI.keeps {w w' : World} {v : Value} {l : List Int} {fp : List Nat} (h : OwI w v l fp) {S : Nat → Prop} (hk : Keeps S w w') (hS : ∀ b, b ∈ fp → ¬ S b) : OwI w' v l fp := by
  obtain ⟨A, c, rfl, h, rfl⟩ := h; exact ⟨A, c, rfl, h.keeps hk hS, rfl⟩
theorem OwI.lt {w : World} {v : Value} {l : List Int} {fp : List Nat} (h : OwI w v l fp) : LtL w.heap.size fp := by
  obtain ⟨A, c, rfl, h, rfl⟩ := h; exact h.lt

/-- What heldIntS wants to find: the marks k, k + 1, .. -/
def HeI (w : World) (v : Value) (n k : Nat) (fp : List Nat) : Prop := ∃ A cap, v = .slice A n cap ∧ IS w A cap (marks k n) ∧ fp = fpA A
theorem HeI.below {w w' : World} {v : Value} {n k : Nat} {fp : List Nat} (h : HeI w v n k fp) (hb : Below w.heap.size w w') : HeI w' v n k fp := by
  obtain ⟨A, c, rfl, h, e⟩ := h; exact ⟨A, c, rfl, h.below hb, e⟩
theorem HeI.keeps {w w' : World} {v : Value} {n k : Nat} {fp : List Nat} (h : HeI w v n k fp) {S : Nat → Prop} (hk : Keeps S w w') (hS : ∀ b, b ∈ fp → ¬ S b) : HeI w' v n k fp := by
  obtain ⟨A, c, rfl, h, rfl⟩ := h; exact ⟨A, c, rfl, h.keeps hk hS, rfl⟩

end Go.Proofs.YtlmnmdahphahfaaDoor
