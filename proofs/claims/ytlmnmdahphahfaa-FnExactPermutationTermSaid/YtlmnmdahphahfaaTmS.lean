/-
  THE WALK: the reference's scan of a term (spec.lbScan without a library).
-/
import Derived.Test.YtlmnmdahphahfaaTmK
import Derived.Deep.DeepCutAuto
namespace Go.Proofs.Ytlmnmdahphahfaa
open Go.RowKit

abbrev tInfo : TypeId := 73
abbrev tTerm : TypeId := 30
def frL (st : List Tr) : List Int := (infos st).map fun x => (x.1 : Int)
def inL (st : List Tr) : List Int := (infos st).map (·.2.1)
def ouL (st : List Tr) : List Int := (infos st).map (·.2.2)

/-- A struct of three slices of ints in the block X. -/
structure Th (w : World) (X : Nat) (A0 A1 A2 : Option Addr) (c0 c1 c2 n0 n1 n2 : Nat) (F I O : List Int) : Prop where
  box : w.heap[X]? = some (.cells #[.slice A0 n0 c0, .slice A1 n1 c1, .slice A2 n2 c2] tInfo)
  f : Sl w tInt 1 A0 n0 c0 (ints F)
  i : Sl w tInt 1 A1 n1 c1 (ints I)
  o : Sl w tInt 1 A2 n2 c2 (ints O)
  fr : ∀ b, b ∈ fpA A0 ∨ b ∈ fpA A1 ∨ b ∈ fpA A2 → X < b
  ap01 : ∀ b, b ∈ fpA A0 → ¬ b ∈ fpA A1
  ap02 : ∀ b, b ∈ fpA A0 → ¬ b ∈ fpA A2
  ap12 : ∀ b, b ∈ fpA A1 → ¬ b ∈ fpA A2
section
variable {w w1 w2 : World} {X : Nat} {A0 A1 A2 A' : Option Addr} {c0 c1 c2 c' n0 n1 n2 : Nat} {F I O : List Int}
theorem Th.below (h : Th w X A0 A1 A2 c0 c1 c2 n0 n1 n2 F I O) (hb : Below w.heap.size w w1) : Th w1 X A0 A1 A2 c0 c1 c2 n0 n1 n2 F I O :=
  ⟨box_below h.box hb, h.f.below hb, h.i.below hb, h.o.below hb, h.fr, h.ap01, h.ap02, h.ap12⟩
theorem set3 {B : Nat} {t : TypeId} {x y z a b c : Value} (h : w.heap[B]? = some (.cells #[x, y, z] t)) : (((w.setCell ⟨B, 0, none⟩ a).setCell ⟨B, 1, none⟩ b).setCell ⟨B, 2, none⟩ c).heap[B]? = some (.cells #[a, b, c] t) ∧ Keeps (· = B) w (((w.setCell ⟨B, 0, none⟩ a).setCell ⟨B, 1, none⟩ b).setCell ⟨B, 2, none⟩ c) := by
  refine ⟨by simp [World.setCell, Array.getElem?_modify, h], ?_⟩
  exact ((((Keeps.refl (fun x => x = B) w).setCell (p := ⟨B, 0, none⟩) rfl _).setCell (p := ⟨B, 1, none⟩) rfl _).setCell (p := ⟨B, 2, none⟩) rfl _)
theorem keeps_one {B i : Nat} {u : Value} : Keeps (· = B) w (w.setCell ⟨B, i, none⟩ u) := (Keeps.refl (fun x => x = B) w).setCell (p := ⟨B, i, none⟩) rfl u
theorem Th.app0 (h : Th w X A0 A1 A2 c0 c1 c2 n0 n1 n2 F I O) {x : Int} (hs : Sl w2 tInt 1 A' (n0 + 1) c' (ints F ++ [.int .i64 x])) (hA : ∀ b, b ∈ fpA A' → b ∈ fpA A0 ∨ w.heap.size ≤ b) (hk : Keeps (· ∈ fpA A0) w w2) :
    Th (w2.setCell ⟨X, 0, none⟩ (.slice A' (n0 + 1) c')) X A' A1 A2 c' c1 c2 (n0 + 1) n1 n2 (F ++ [x]) I O ∧ (w2.heap[X]? = some (.cells #[.slice A0 n0 c0, .slice A1 n1 c1, .slice A2 n2 c2] tInfo)) ∧ (∀ B, B ≤ X → Below B w (w2.setCell ⟨X, 0, none⟩ (.slice A' (n0 + 1) c'))) := by
  have hX := box_lt h.box
  have hb2 := box_keeps h.box hk (fun hm => by have := h.fr X (.inl hm); omega)
  have hX2 := box_lt hb2
  have f' : ∀ b, b ∈ fpA A' → X < b := fun b hb => (hA b hb).elim (fun h1 => h.fr b (.inl h1)) (fun h1 => by omega)
  refine ⟨⟨by simp [World.setCell, Array.getElem?_modify, hb2], ?_, ?_, ?_, ?_, ?_, ?_, h.ap12⟩, hb2, fun B hB => ?_⟩
  · have e : ints (F ++ [x]) = ints F ++ [.int .i64 x] := by simp [ints]
    rw [e]; exact hs.keeps keeps_one fun b hb hx => by have := f' b hb; omega
  · exact (h.i.keeps hk fun b hb hm => h.ap01 b hm hb).keeps keeps_one fun b hb hx => by have := h.fr b (.inr (.inl hb)); omega
  · exact (h.o.keeps hk fun b hb hm => h.ap02 b hm hb).keeps keeps_one fun b hb hx => by have := h.fr b (.inr (.inr hb)); omega
  · rintro b (hb | hb | hb)
    · exact f' b hb
    · exact h.fr b (.inr (.inl hb))
    · exact h.fr b (.inr (.inr hb))
  · intro b hb hm
    rcases hA b hb with h1 | h1
    · exact h.ap01 b h1 hm
    · have := h.i.lt b hm; omega
  · intro b hb hm
    rcases hA b hb with h1 | h1
    · exact h.ap02 b h1 hm
    · have := h.o.lt b hm; omega
  · exact below_keeps (hk.below (by omega) fun b hb => by have := h.fr b (.inl hb); omega) keeps_one (by omega) (fun b hb => by omega)
theorem Th.app1 (h : Th w X A0 A1 A2 c0 c1 c2 n0 n1 n2 F I O) {x : Int} (hs : Sl w2 tInt 1 A' (n1 + 1) c' (ints I ++ [.int .i64 x])) (hA : ∀ b, b ∈ fpA A' → b ∈ fpA A1 ∨ w.heap.size ≤ b) (hk : Keeps (· ∈ fpA A1) w w2) :
    Th (w2.setCell ⟨X, 1, none⟩ (.slice A' (n1 + 1) c')) X A0 A' A2 c0 c' c2 n0 (n1 + 1) n2 F (I ++ [x]) O ∧ (w2.heap[X]? = some (.cells #[.slice A0 n0 c0, .slice A1 n1 c1, .slice A2 n2 c2] tInfo)) ∧ (∀ B, B ≤ X → Below B w (w2.setCell ⟨X, 1, none⟩ (.slice A' (n1 + 1) c'))) := by
  have hX := box_lt h.box
  have hb2 := box_keeps h.box hk (fun hm => by have := h.fr X (.inr (.inl hm)); omega)
  have hX2 := box_lt hb2
  have f' : ∀ b, b ∈ fpA A' → X < b := fun b hb => (hA b hb).elim (fun h1 => h.fr b (.inr (.inl h1))) (fun h1 => by omega)
  refine ⟨⟨by simp [World.setCell, Array.getElem?_modify, hb2], ?_, ?_, ?_, ?_, ?_, h.ap02, ?_⟩, hb2, fun B hB => ?_⟩
  · exact (h.f.keeps hk fun b hb hm => h.ap01 b hb hm).keeps keeps_one fun b hb hx => by have := h.fr b (.inl hb); omega
  · have e : ints (I ++ [x]) = ints I ++ [.int .i64 x] := by simp [ints]
    rw [e]; exact hs.keeps keeps_one fun b hb hx => by have := f' b hb; omega
  · exact (h.o.keeps hk fun b hb hm => h.ap12 b hm hb).keeps keeps_one fun b hb hx => by have := h.fr b (.inr (.inr hb)); omega
  · rintro b (hb | hb | hb)
    · exact h.fr b (.inl hb)
    · exact f' b hb
    · exact h.fr b (.inr (.inr hb))
  · intro b hb hm
    rcases hA b hm with h1 | h1
    · exact h.ap01 b hb h1
    · have := h.f.lt b hb; omega
  · intro b hb hm
    rcases hA b hb with h1 | h1
    · exact h.ap12 b h1 hm
    · have := h.o.lt b hm; omega
  · exact below_keeps (hk.below (by omega) fun b hb => by have := h.fr b (.inr (.inl hb)); omega) keeps_one (by omega) (fun b hb => by omega)
theorem Th.app2 (h : Th w X A0 A1 A2 c0 c1 c2 n0 n1 n2 F I O) {x : Int} (hs : Sl w2 tInt 1 A' (n2 + 1) c' (ints O ++ [.int .i64 x])) (hA : ∀ b, b ∈ fpA A' → b ∈ fpA A2 ∨ w.heap.size ≤ b) (hk : Keeps (· ∈ fpA A2) w w2) :
    Th (w2.setCell ⟨X, 2, none⟩ (.slice A' (n2 + 1) c')) X A0 A1 A' c0 c1 c' n0 n1 (n2 + 1) F I (O ++ [x]) ∧ (w2.heap[X]? = some (.cells #[.slice A0 n0 c0, .slice A1 n1 c1, .slice A2 n2 c2] tInfo)) ∧ (∀ B, B ≤ X → Below B w (w2.setCell ⟨X, 2, none⟩ (.slice A' (n2 + 1) c'))) := by
  have hX := box_lt h.box
  have hb2 := box_keeps h.box hk (fun hm => by have := h.fr X (.inr (.inr hm)); omega)
  have hX2 := box_lt hb2
  have f' : ∀ b, b ∈ fpA A' → X < b := fun b hb => (hA b hb).elim (fun h1 => h.fr b (.inr (.inr h1))) (fun h1 => by omega)
  refine ⟨⟨by simp [World.setCell, Array.getElem?_modify, hb2], ?_, ?_, ?_, ?_, h.ap01, ?_, ?_⟩, hb2, fun B hB => ?_⟩
  · exact (h.f.keeps hk fun b hb hm => h.ap02 b hb hm).keeps keeps_one fun b hb hx => by have := h.fr b (.inl hb); omega
  · exact (h.i.keeps hk fun b hb hm => h.ap12 b hb hm).keeps keeps_one fun b hb hx => by have := h.fr b (.inr (.inl hb)); omega
  · have e : ints (O ++ [x]) = ints O ++ [.int .i64 x] := by simp [ints]
    rw [e]; exact hs.keeps keeps_one fun b hb hx => by have := f' b hb; omega
  · rintro b (hb | hb | hb)
    · exact h.fr b (.inl hb)
    · exact h.fr b (.inr (.inl hb))
    · exact f' b hb
  · intro b hb hm
    rcases hA b hm with h1 | h1
    · exact h.ap02 b hb h1
    · have := h.f.lt b hb; omega
  · intro b hb hm
    rcases hA b hm with h1 | h1
    · exact h.ap12 b hb h1
    · have := h.i.lt b hb; omega
  · exact below_keeps (hk.below (by omega) fun b hb => by have := h.fr b (.inr (.inr hb)); omega) keeps_one (by omega) (fun b hb => by omega)
end
end Go.Proofs.Ytlmnmdahphahfaa
