/-
  WORDS FOR [][]int: read (RdRV), owned (OwRV), marked (HeRV).
-/
import Derived.Test.YtahnhblodfdfhaaDoorLawI
namespace Go.Proofs.YtahnhblodfdfhaaDoor
open Go.RowKit

/-- A slice of ints as it lies in a cell: header, capacity, list. -/
abbrev Hd := Option Addr × Nat × List Int
def Hd.val (h : Hd) : Value := .slice h.1 h.2.2.length h.2.1
theorem Hd.val_one (h : Hd) : h.val.oneCell' = true := rfl

/-- The header (A, ..) may be read as the rows hs. -/
def RdR (w : World) (A : Option Addr) (hs : List Hd) : Prop := (∀ i h, hs[i]? = some h → ∃ ad, A = some ad ∧ w.cell? (ad.add i) = some h.val) ∧ ∀ h, h ∈ hs → RdI w h.1 h.2.2
/-- .. and owned: the outer row and each row whole, all apart. -/
structure OwR (w : World) (A : Option Addr) (cap : Nat) (hs : List Hd) : Prop where
  sl : Sl w 33 1 A hs.length cap (hs.map Hd.val)
  rows : ∀ h, h ∈ hs → IS w h.1 h.2.1 h.2.2
  apart : hs.Pairwise fun h h' => ∀ b, b ∈ fpA h.1 → ¬ b ∈ fpA h'.1
  outer : ∀ h, h ∈ hs → ∀ b, b ∈ fpA h.1 → ¬ b ∈ fpA A

theorem RdR.below {w w' : World} {A : Option Addr} {hs : List Hd} (h : RdR w A hs) (hb : Below w.heap.size w w') : RdR w' A hs :=
  ⟨fun i x hx => let ⟨ad, hA, hc⟩ := h.1 i x hx; ⟨ad, hA, (hb.cell (World.block_lt_of_cell? w _ hc)).trans hc⟩, fun x hx => (h.2 x hx).below hb⟩
theorem OwR.rd {w : World} {A : Option Addr} {cap : Nat} {hs : List Hd} (h : OwR w A cap hs) : RdR w A hs := by
  refine ⟨fun i x hx => ?_, fun x hx => (h.rows x hx).rd⟩
  obtain ⟨ad, hA, _, hc, _⟩ := h.sl.cell (j := i) (u := x.val) (by simp [hx])
  exact ⟨ad, hA, hc⟩
/-- All blocks of the rows. -/
def fpR (hs : List Hd) : List Nat := hs.flatMap fun h => fpA h.1
theorem mem_fpR {hs : List Hd} {b : Nat} : b ∈ fpR hs ↔ ∃ h, h ∈ hs ∧ b ∈ fpA h.1 := by simp [fpR]
theorem OwR.lt {w : World} {A : Option Addr} {cap : Nat} {hs : List Hd} (h : OwR w A cap hs) : ∀ b, b ∈ fpA A ++ fpR hs → b < w.heap.size := by
  intro b hb
  rcases List.mem_append.1 hb with hb | hb
  · exact h.sl.lt b hb
  · obtain ⟨x, hx, hb⟩ := mem_fpR.1 hb
    exact (h.rows x hx).lt b hb
theorem OwR.below {w w' : World} {A : Option Addr} {cap : Nat} {hs : List Hd} (h : OwR w A cap hs) (hb : Below w.heap.size w w') : OwR w' A cap hs :=
  ⟨h.sl.below hb, fun x hx => (h.rows x hx).below hb, h.apart, h.outer⟩
theorem OwR.keeps {w w' : World} {A : Option Addr} {cap : Nat} {hs : List Hd} (h : OwR w A cap hs) {S : Nat → Prop} (hk : Keeps S w w') (hS : ∀ b, b ∈ fpA A ++ fpR hs → ¬ S b) : OwR w' A cap hs :=
  ⟨h.sl.keeps hk fun b hb => hS b (List.mem_append_left _ hb), fun x hx => (h.rows x hx).keeps hk fun b hb => hS b (List.mem_append_right _ (mem_fpR.2 ⟨x, hx, hb⟩)), h.apart, h.outer⟩

/-- v is a slice of rows that reads as L. -/
def RdRV (w : World) (v : Value) (L : List (List Int)) : Prop := ∃ A cap hs, v = .slice A L.length cap ∧ L = hs.map (fun h : Hd => h.2.2) ∧ RdR w A hs
def OwRV (w : World) (v : Value) (L : List (List Int)) (fp : List Nat) : Prop := ∃ A cap hs, v = .slice A L.length cap ∧ L = hs.map (fun h : Hd => h.2.2) ∧ OwR w A cap hs ∧ fp = fpA A ++ fpR hs
theorem RdRV.below {w w' : World} {v : Value} {L : List (List Int)} (h : RdRV w v L) (hb : Below w.heap.size w w') : RdRV w' v L := by
  obtain ⟨A, c, hs, rfl, hL, h⟩ := h; exact ⟨A, c, hs, rfl, hL, h.below hb⟩
theorem OwRV.rd {w : World} {v : Value} {L : List (List Int)} {fp : List Nat} (h : OwRV w v L fp) : RdRV w v L := by
  obtain ⟨A, c, hs, rfl, hL, h, _⟩ := h; exact ⟨A, c, hs, rfl, hL, h.rd⟩
theorem OwRV.below {w w' : World} {v : Value} {L : List (List Int)} {fp : List Nat} (h : OwRV w v L fp) (hb : Below w.heap.size w w') : OwRV w' v L fp := by
  obtain ⟨A, c, hs, rfl, hL, h, e⟩ := h; exact ⟨A, c, hs, rfl, hL, h.below hb, e⟩
theorem OwRV.keeps {w w' : World} {v : Value} {L : List (List Int)} {fp : List Nat} (h : OwRV w v L fp) {S : Nat → Prop} (hk : Keeps S w w') (hS : ∀ b, b ∈ fp → ¬ S b) : OwRV w' v L fp := by
  obtain ⟨A, c, hs, rfl, hL, h, rfl⟩ := h; exact ⟨A, c, hs, rfl, hL, h.keeps hk hS, rfl⟩
theorem OwRV.lt {w : World} {v : Value} {L : List (List Int)} {fp : List Nat} (h : OwRV w v L fp) : LtL w.heap.size fp := by
  obtain ⟨A, c, hs, rfl, hL, h, rfl⟩ := h; exact h.lt

/-- How many elements there are in all. -/
def cntR : List (List Int) → Nat
  | [] => 0
  | l :: L => l.length + cntR L
/-- The rows' marks. -/
def marksR : Nat → List Nat → List (List Int)
  | _, [] => []
  | k, n :: ns => marks k n :: marksR (k + n) ns
/-- What heldIntSS wants to find. -/
def HeRV (w : World) (v : Value) (L : List (List Int)) (k : Nat) (fp : List Nat) : Prop := OwRV w v (marksR k (L.map List.length)) fp
theorem HeRV.below {w w' : World} {v : Value} {L : List (List Int)} {k : Nat} {fp : List Nat} (h : HeRV w v L k fp) (hb : Below w.heap.size w w') : HeRV w' v L k fp := OwRV.below h hb
theorem HeRV.keeps {w w' : World} {v : Value} {L : List (List Int)} {k : Nat} {fp : List Nat} (h : HeRV w v L k fp) {S : Nat → Prop} (hk : Keeps S w w') (hS : ∀ b, b ∈ fp → ¬ S b) : HeRV w' v L k fp := OwRV.keeps h hk hS
end Go.Proofs.YtahnhblodfdfhaaDoor
