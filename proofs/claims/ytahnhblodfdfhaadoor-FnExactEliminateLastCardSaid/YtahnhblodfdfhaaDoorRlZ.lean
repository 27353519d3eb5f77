/-
  THE WALKS: FunctionOf.

  ROWS OF A CALL's OWN behind a box's cell (OMx).
-/
import Derived.Test.YtahnhblodfdfhaaDoorRlY
import Derived.Test.YtahnhblodfdfhaaDoorRegC
namespace Go.Proofs.YtahnhblodfdfhaaDoor
open Go.RowKit

abbrev tMat : TypeId := 91
/-- Rows made since w0, all apart from the block bx. -/
def OMx (w0 : World) (bx : Nat) (w : World) (A : Option Addr) (cap : Nat) (L : List (List Int)) : Prop :=
  ∃ hs : List Hd, L = hs.map (fun h : Hd => h.2.2) ∧ OwR w A cap hs ∧ (∀ b, b ∈ fpA A ++ fpR hs → w0.heap.size ≤ b ∧ b ≠ bx) ∧ Below w0.heap.size w0 w ∧ w0.heap.size ≤ bx ∧ bx < w.heap.size
section
variable {w0 w w' : World} {bx : Nat} {A : Option Addr} {cap : Nat} {L : List (List Int)}
theorem set_f1 {B : Nat} {t : TypeId} {x y b : Value} (h : w.heap[B]? = some (.cells #[x, y] t)) : (w.setCell ⟨B, 1, none⟩ b).heap[B]? = some (.cells #[x, b] t) ∧ Keeps (· = B) w (w.setCell ⟨B, 1, none⟩ b) := by
  refine ⟨by simp [World.setCell, Array.getElem?_modify, h], ?_⟩
  exact (Keeps.refl (fun x => x = B) w).setCell (p := ⟨B, 1, none⟩) rfl _
theorem OMx.om (h : OMx w0 bx w A cap L) : OM w0 w A cap L := by
  obtain ⟨hs, hL, hO, hf, h0, _⟩ := h
  exact ⟨hs, hL, hO, fun b hb => (hf b hb).1, h0⟩
theorem OMx.below_ (h : OMx w0 bx w A cap L) : Below w0.heap.size w0 w := h.om.below_
theorem OMx.nil (h0 : Below w0.heap.size w0 w) (h1 : w0.heap.size ≤ bx) (h2 : bx < w.heap.size) : OMx w0 bx w none 0 [] :=
  ⟨[], rfl, OwR.nil w, fun b hb => by simp [fpR] at hb, h0, h1, h2⟩
theorem OMx.below (h : OMx w0 bx w A cap L) (hb : Below w.heap.size w w') : OMx w0 bx w' A cap L := by
  obtain ⟨hs, hL, hO, hf, h0, h1, h2⟩ := h
  exact ⟨hs, hL, hO.below hb, hf, below_trans h0 hb h0.size, h1, Nat.lt_of_lt_of_le h2 hb.size⟩
theorem OMx.store (h : OMx w0 bx w A cap L) (hk : Keeps (· = bx) w w') : OMx w0 bx w' A cap L := by
  obtain ⟨hs, hL, hO, hf, h0, h1, h2⟩ := h
  exact ⟨hs, hL, hO.keeps hk fun b hb e => (hf b hb).2 e, hf, below_keeps h0 hk h0.size fun k e => by subst e; exact h1, h1, Nat.lt_of_lt_of_le h2 hk.size⟩
theorem OMx.snoc {w1 w2 : World} {hs : List Hd} (hL : L = hs.map (fun h : Hd => h.2.2)) (hO : OwR w A cap hs) (hf : ∀ b, b ∈ fpA A ++ fpR hs → w0.heap.size ≤ b ∧ b ≠ bx) (h0 : Below w0.heap.size w0 w) (h1 : w0.heap.size ≤ bx) (h2 : bx < w.heap.size) {l : List Int} {B : Option Addr} {c : Nat} (hb : Below w.heap.size w w1) (hx : IS w1 B c l) (hf1 : Fresh w.heap.size B)
    {A' : Option Addr} {cap' n : Nat} (hn : n = hs.length + 1) (hs' : Sl w2 33 1 A' n cap' (hs.map Hd.val ++ [.slice B l.length c])) (hA' : ∀ b, b ∈ fpA A' → b ∈ fpA A ∨ w1.heap.size ≤ b) (hk : Keeps (· ∈ fpA A) w1 w2) : OMx w0 bx w2 A' cap' (L ++ [l]) := by
  subst hL hn
  have hbw := below_trans h0 hb h0.size
  have hz := hb.size
  have hz2 := hk.size
  refine ⟨hs ++ [(B, c, l)], by simp, hO.snoc hb (x := (B, c, l)) hx hf1 (by simpa [Hd.val] using hs') hA' hk, fun b hb' => ?_, below_keeps hbw hk hbw.size fun b hb' => (hf b (List.mem_append_left _ hb')).1, h1, by omega⟩
  rcases List.mem_append.1 hb' with hb' | hb'
  · rcases hA' b hb' with h3 | h3
    · exact hf b (List.mem_append_left _ h3)
    · have := hbw.size; omega
  · rcases fpR_snoc hs (B, c, l) b hb' with h3 | h3
    · exact hf b (List.mem_append_right _ h3)
    · have := hf1 b h3; have := h0.size; omega
end
/-- The matrix of a relation, or none. -/
def foM (p : Int) (s : Sys) : (Int × List (List Int)) × Bool := if totB p s && singB s then ((s.2.1, secondM s), true) else ((0, []), false)
theorem funM_eq {p : Int} {s : Sys} : funM p s = if relB p s then foM p s else ((0, []), false) := by
  unfold funM foM
  cases relB p s <;> simp

theorem funM_ok {p : Int} {s : Sys} : OkR (funM p s).1.2 := by
  unfold funM
  split
  · rename_i h
    have hs := RelOk.of (by simp only [Bool.and_eq_true] at h; exact h.1)
    have hm := secondM_mat hs
    have := hs.len; have := hs.sum; have := hs.hi; have := hs.lo
    exact okR_mat hm (by omega) (by omega)
  · exact okR_nil
end Go.Proofs.YtahnhblodfdfhaaDoor
