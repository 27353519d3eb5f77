/-
  AN OUTER ROW OF A CALL's OWN, whose rows are read: OuR w0 w A cap hs: the rows lie in w0 as they are; the outer row is new.
-/
import Derived.Test.YtomekicglojhhaaDoorOM
namespace Go.Proofs.YtomekicglojhhaaDoor
open Go.RowKit

structure OuR (w0 w : World) (A : Option Addr) (cap : Nat) (hs : List Hd) : Prop where
  sl : Sl w 47 1 A hs.length cap (hs.map Hd.val)
  rows : ∀ h, h ∈ hs → RdI w0 h.1 h.2.2
  new : ∀ b, b ∈ fpA A → w0.heap.size ≤ b
  below_ : Below w0.heap.size w0 w
section
variable {w0 w w' : World} {A : Option Addr} {cap : Nat} {hs : List Hd}
theorem OuR.nil (w : World) : OuR w w none 0 [] := ⟨Sl.nil _ _ _, fun h hh => (by cases hh), fun b hb => by simp at hb, Below.refl _ _⟩
theorem OuR.below (h : OuR w0 w A cap hs) (hb : Below w.heap.size w w') : OuR w0 w' A cap hs := ⟨h.sl.below hb, h.rows, h.new, below_trans h.below_ hb h.below_.size⟩
theorem OuR.rdr (h : OuR w0 w A cap hs) : RdR w A hs := by
  refine ⟨fun i x hx => ?_, fun x hx => (h.rows x hx).below h.below_⟩
  obtain ⟨ad, hA, _, hc, _⟩ := h.sl.cell (j := i) (u := x.val) (by simp [hx])
  exact ⟨ad, hA, hc⟩
theorem OuR.snoc {w1 w2 : World} (h : OuR w0 w A cap hs) (hb : Below w.heap.size w w1) {x : Hd} (hx : RdI w0 x.1 x.2.2) {A' : Option Addr} {cap' n : Nat} (hn : n = hs.length + 1) (hs' : Sl w2 47 1 A' n cap' (hs.map Hd.val ++ [x.val])) (hA' : ∀ b, b ∈ fpA A' → b ∈ fpA A ∨ w1.heap.size ≤ b) (hk : Keeps (· ∈ fpA A) w1 w2) : OuR w0 w2 A' cap' (hs ++ [x]) := by
  subst hn
  have hbw := below_trans h.below_ hb h.below_.size
  refine ⟨by simpa using hs', fun y hy => ?_, fun b hb' => ?_, below_keeps hbw hk hbw.size h.new⟩
  · rcases List.mem_append.1 hy with hy | hy
    · exact h.rows y hy
    · obtain rfl := List.mem_singleton.1 hy; exact hx
  · rcases hA' b hb' with h1 | h1
    · exact h.new b h1
    · have := hbw.size; omega
/-- A part of a row that lay in w0, as a slice expression leaves it. -/
theorem RdI.back {B A' : Option Addr} {l : List Int} {c : Nat} (hI : IS w0 B c l) (hb : Below w0.heap.size w0 w) {k m : Nat} {m' : List Int} (hcut : Sl w 3 1 A' k m (ints m')) (hfp : ∀ b, b ∈ fpA A' → b ∈ fpA B) : RdI w0 A' m' := by
  have hr : RdI w A' m' := fun j x hj => by
    obtain ⟨ad, hA, _, hc, _⟩ := hcut.cell (ints_get hj)
    exact ⟨ad, hA, hc⟩
  exact hr.frame fun b hb' => (hb.block b (hI.lt b (hfp b hb'))).symm
end
theorem ints_take (l : List Int) (k : Nat) : (ints l).take k = ints (l.take k) := by simp [ints, List.map_take]
theorem ints_drop (l : List Int) (k : Nat) : (ints l).drop k = ints (l.drop k) := by simp [ints, List.map_drop]
/-- What a function leaves that returns rows to be read. -/
def RetRd (w : World) (L : List (List Int)) (e : Ending) (w' : World) : Prop := ∃ A cap hs, e = .returned (.slice A L.length cap) ∧ L = hs.map (fun h : Hd => h.2.2) ∧ RdR w' A hs ∧ Below w.heap.size w w'
theorem RetSS.rd_ {w w' : World} {L : List (List Int)} {e : Ending} (h : RetSS w L e w') : RetRd w L e w' := by
  obtain ⟨A, cap, hs, rfl, hL, hO, _, h0⟩ := h; exact ⟨A, cap, hs, rfl, hL, hO.rd, h0⟩
end Go.Proofs.YtomekicglojhhaaDoor
