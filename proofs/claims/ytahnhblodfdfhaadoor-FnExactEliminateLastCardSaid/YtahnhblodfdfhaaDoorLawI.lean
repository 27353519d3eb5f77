/-
  THE LAW's HELPERS AT []int, FOR A LAW's WALK: values as letters, what each owns as a list of blocks.
-/
import Derived.Test.YtahnhblodfdfhaaDoorHelpI
namespace Go.Proofs.YtahnhblodfdfhaaDoor
open Go.RowKit

/-- All blocks of the list are from B on. -/
def FreshL (B : Nat) (fp : List Nat) : Prop := ∀ b, b ∈ fp → B ≤ b
/-- All blocks of the list are below B. -/
def LtL (B : Nat) (fp : List Nat) : Prop := ∀ b, b ∈ fp → b < B
theorem FreshL.mono {B B' : Nat} {fp : List Nat} (h : FreshL B fp) (hB : B' ≤ B) : FreshL B' fp := fun b hb => Nat.le_trans hB (h b hb)
theorem LtL.mono {B B' : Nat} {fp : List Nat} (h : LtL B fp) (hB : B ≤ B') : LtL B' fp := fun b hb => Nat.lt_of_lt_of_le (h b hb) hB
theorem apart_of {B : Nat} {f1 f2 : List Nat} (h1 : LtL B f1) (h2 : FreshL B f2) : ∀ b, b ∈ f1 → ¬ b ∈ f2 := fun b hb hb' => by
  have := h1 b hb; have := h2 b hb'; omega
theorem apart_of' {B : Nat} {f1 f2 : List Nat} (h1 : LtL B f1) (h2 : FreshL B f2) : ∀ b, b ∈ f2 → ¬ b ∈ f1 := fun b hb hb' => by
  have := h1 b hb'; have := h2 b hb; omega
theorem keeps_below {fp : List Nat} {w w' : World} (h : Keeps (· ∈ fp) w w') {B : Nat} (hB : B ≤ w.heap.size) (hf : FreshL B fp) : Below B w w' := h.below hB hf

/-- v is a slice of ints that reads as l. -/
def RdIV (w : World) (v : Value) (l : List Int) : Prop := ∃ A cap, v = .slice A l.length cap ∧ RdI w A l
/-- v is a slice of ints that reads as l, its row is one of the program's own blocks fp. -/
def OwI (w : World) (v : Value) (l : List Int) (fp : List Nat) : Prop := ∃ A cap, v = .slice A l.length cap ∧ IS w A cap l ∧ fp = fpA A
theorem RdIV.below {w w' : World} {v : Value} {l : List Int} (h : RdIV w v l) (hb : Below w.heap.size w w') : RdIV w' v l := by
  obtain ⟨A, c, rfl, h⟩ := h; exact ⟨A, c, rfl, h.below hb⟩
theorem OwI.rd {w : World} {v : Value} {l : List Int} {fp : List Nat} (h : OwI w v l fp) : RdIV w v l := by
  obtain ⟨A, c, rfl, h, _⟩ := h; exact ⟨A, c, rfl, h.rd⟩
theorem OwI.below {w w' : World} {v : Value} {l : List Int} {fp : List Nat} (h : OwI w v l fp) (hb : Below w.heap.size w w') : OwI w' v l fp := by
  obtain ⟨A, c, rfl, h, e⟩ := h; exact ⟨A, c, rfl, h.below hb, e⟩
theorem OwI.keeps {w w' : World} {v : Value} {l : List Int} {fp : List Nat} (h : OwI w v l fp) {S : Nat → Prop} (hk : Keeps S w w') (hS : ∀ b, b ∈ fp → ¬ S b) : OwI w' v l fp := by
  obtain ⟨A, c, rfl, h, rfl⟩ := h; exact ⟨A, c, rfl, h.keeps hk hS, rfl⟩
theorem OwI.lt {w : World} {v : Value} {l : List Int} {fp : List Nat} (h : OwI w v l fp) : LtL w.heap.size fp := by
  obtain ⟨A, c, rfl, h, rfl⟩ := h; exact h.lt

/-- What heldIntS wants to find: the marks k, k + 1, .. -/
def HeI (w : World) (v : Value) (n k : Nat) (fp : List Nat) : Prop := ∃ A cap, v = .slice A n cap ∧ IS w A cap (marks k n) ∧ fp = fpA A
theorem HeI.below {w w' : World} {v : Value} {n k : Nat} {fp : List Nat} (h : HeI w v n k fp) (hb : Below w.heap.size w w') : HeI w' v n k fp := by
  obtain ⟨A, c, rfl, h, e⟩ := h; exact ⟨A, c, rfl, h.below hb, e⟩
theorem HeI.keeps {w w' : World} {v : Value} {n k : Nat} {fp : List Nat} (h : HeI w v n k fp) {S : Nat → Prop} (hk : Keeps S w w') (hS : ∀ b, b ∈ fp → ¬ S b) : HeI w' v n k fp := by
  obtain ⟨A, c, rfl, h, rfl⟩ := h; exact ⟨A, c, rfl, h.keeps hk hS, rfl⟩

theorem toI_law {v : Value} {l : List Int} {w : World} (h : RdIV w v l) (hl : l.length ≤ 17592186044416) :
    Calls Tryd.prog 18 #[v] w fun e w' => ∃ v' fp, e = .returned v' ∧ OwI w' v' l fp ∧ FreshL w.heap.size fp ∧ Below w.heap.size w w' := by
  obtain ⟨A, c, rfl, h⟩ := h
  refine (toIntS_any A c l w h hl).mono ?_
  rintro e w' ⟨A', c', rfl, h1, h2, h3⟩
  exact ⟨_, _, rfl, ⟨A', c', rfl, h1, rfl⟩, h2, h3⟩
theorem eqI_law {v v' : Value} {l m : List Int} {w : World} (h : RdIV w v l) (h' : RdIV w v' m) (hl : l.length ≤ 17592186044416) :
    Calls Tryd.prog 20 #[v, v'] w fun e w' => e = .returned (.bool (decide (l = m))) ∧ Below w.heap.size w w' := by
  obtain ⟨A, c, rfl, h⟩ := h
  obtain ⟨B, d, rfl, h'⟩ := h'
  refine (eqIntS_any A B c d l m w h h' hl).mono ?_
  rintro e w' ⟨rfl, n, rfl⟩
  exact ⟨rfl, below_drewN (Below.refl _ _) n⟩
theorem markI_law {v : Value} {l : List Int} {fp : List Nat} {K : Int} {w : World} (k : Nat) (h : OwI w v l fp) (hK : K = (k : Int)) (hl : k + l.length ≤ 17592186044416) :
    Calls Tryd.prog 21 #[v, .int .i64 K] w fun e w' => e = .returned (.int .i64 (K + (l.length : Int))) ∧ HeI w' v l.length k fp ∧ Keeps (· ∈ fp) w w' := by
  obtain ⟨A, c, rfl, h, rfl⟩ := h
  subst hK
  refine (markIntS_any A c l k w h hl).mono ?_
  rintro e w' ⟨rfl, h1, h2⟩
  refine ⟨ret_int (by omega), ⟨A, c, rfl, ?_, rfl⟩, h2⟩
  exact h1
theorem heldI_law {v : Value} {n k : Nat} {fp : List Nat} {K : Int} {w : World} (h : HeI w v n k fp) (hK : K = (k : Int)) (hl : k + n ≤ 17592186044416) :
    Calls Tryd.prog 22 #[v, .int .i64 K] w fun e w' => e = .returned (.int .i64 (K + (n : Int))) ∧ Below w.heap.size w w' := by
  obtain ⟨A, c, rfl, h, rfl⟩ := h
  subst hK
  refine (heldIntS_any A c n k w h.rd hl).mono ?_
  rintro e w' ⟨rfl, rfl⟩
  exact ⟨ret_int (by omega), Below.refl _ _⟩
end Go.Proofs.YtahnhblodfdfhaaDoor
