/-
  THE WALKS: spec.sySolved, spec.syCanon, spec.CanonicalSystem.

  AN OUTER ROW OF A CALL's OWN, whose rows are read: OuR w0 w A cap hs: the rows lie in w0 as they are; the outer row is new.
-/
import Derived.Test.YtahnhblodfdfhaaDoorOM
import Derived.Test.YtahnhblodfdfhaaDoorNull
import Derived.Test.YtahnhblodfdfhaaDoorSysB
import Derived.Test.YtahnhblodfdfhaaDoorRegH
import Derived.Test.YtahnhblodfdfhaaDoorKSystem
namespace Go.Proofs.YtahnhblodfdfhaaDoor
open Go.RowKit

structure OuR (w0 w : World) (A : Option Addr) (cap : Nat) (hs : List Hd) : Prop where
  sl : Sl w 33 1 A hs.length cap (hs.map Hd.val)
  rows : ∀ h, h ∈ hs → RdI w0 h.1 h.2.2
  new : ∀ b, b ∈ fpA A → w0.heap.size ≤ b
  below_ : Below w0.heap.size w0 w
section
variable {w0 w w' : World} {A : Option Addr} {cap : Nat} {hs : List Hd}
theorem OuR.nil (w : World) : OuR w w none 0 [] := ⟨Sl.nil _ _ _, fun h hh => (by cases hh), fun b hb => by simp at hb, Below.refl _ _⟩
theorem OuR.below (h : OuR w0 w A cap hs) (hb : Below w.heap.size w w') : OuR w0 w' A cap hs := ⟨h.sl.below hb, h.rows, h.new, below_trans h.below_ hb h.below_.size⟩
theorem OuR.rdr (h : OuR w0 w A cap hs) : RdR w A hs := by
  refine ⟨fun i x hx => ?_, fun x hx => (h.rows x hx).below h.below_⟩
  obtain ⟨ad, hA, _, hc, _⟩ := h.sl.cell (j := i) (u := x.val) (by simp [hx])
  exact ⟨ad, hA, hc⟩
theorem OuR.snoc {w1 w2 : World} (h : OuR w0 w A cap hs) (hb : Below w.heap.size w w1) {x : Hd} (hx : RdI w0 x.1 x.2.2) {A' : Option Addr} {cap' n : Nat} (hn : n = hs.length + 1) (hs' : Sl w2 33 1 A' n cap' (hs.map Hd.val ++ [x.val])) (hA' : ∀ b, b ∈ fpA A' → b ∈ fpA A ∨ w1.heap.size ≤ b) (hk : Keeps (· ∈ fpA A) w1 w2) : OuR w0 w2 A' cap' (hs ++ [x]) := by
  subst hn
  have hbw := below_trans h.below_ hb h.below_.size
  refine ⟨by simpa using hs', fun y hy => ?_, fun b hb' => ?_, below_keeps hbw hk hbw.size h.new⟩
  · rcases List.mem_append.1 hy with hy | hy
    · exact h.rows y hy
    · obtain rfl := List.mem_singleton.1 hy; exact hx
  · rcases hA' b hb' with h1 | h1
    · exact h.new b h1
    · have := hbw.size; omega
/-- A part of a row that lay in w0, as a slice expression leaves it. -/
theorem RdI.back {B A' : Option Addr} {l : List Int} {c : Nat} (hI : IS w0 B c l) (hb : Below w0.heap.size w0 w) {k m : Nat} {m' : List Int} (hcut : Sl w 3 1 A' k m (ints m')) (hfp : ∀ b, b ∈ fpA A' → b ∈ fpA B) : RdI w0 A' m' := by
  have hr : RdI w A' m' := fun j x hj => by
    obtain ⟨ad, hA, _, hc, _⟩ := hcut.cell (ints_get hj)
    exact ⟨ad, hA, hc⟩
  exact hr.frame fun b hb' => (hb.block b (hI.lt b (hfp b hb'))).symm
end
theorem ints_take (l : List Int) (k : Nat) : (ints l).take k = ints (l.take k) := by simp [ints, List.map_take]
theorem ints_drop (l : List Int) (k : Nat) : (ints l).drop k = ints (l.drop k) := by simp [ints, List.map_drop]
/-- What a function leaves that returns rows to be read. -/
def RetRd (w : World) (L : List (List Int)) (e : Ending) (w' : World) : Prop := ∃ A cap hs, e = .returned (.slice A L.length cap) ∧ L = hs.map (fun h : Hd => h.2.2) ∧ RdR w' A hs ∧ Below w.heap.size w w'
theorem RetSS.rd_ {w w' : World} {L : List (List Int)} {e : Ending} (h : RetSS w L e w') : RetRd w L e w' := by
  obtain ⟨A, cap, hs, rfl, hL, hO, _, h0⟩ := h; exact ⟨A, cap, hs, rfl, hL, hO.rd, h0⟩
end Go.Proofs.YtahnhblodfdfhaaDoor
namespace Go.Proofs.YtahnhblodfdfhaaDoor
open Go.RowKit

theorem rowsB_mat {p n : Int} {L : List (List Int)} {k : Nat} (h : rowsB p n L = true) (hk : n = (k : Int)) : Mat p L.length k L := by
  refine ⟨rfl, fun v hv => ?_⟩
  have := List.all_eq_true.1 h v hv
  simp only [Bool.and_eq_true, decide_eq_true_eq] at this
  refine ⟨by omega, fun x hx => ?_⟩
  have := inB_iff.1 this.2 x hx
  omega
/-- What is known of a system that is one. -/
structure SysOk (p : Int) (s : Sys) : Prop where
  fld : fieldB p = true
  vis : 0 ≤ s.1 ∧ s.1 ≤ 24
  hid : 0 ≤ s.2.1 ∧ s.2.1 ≤ 100
  len : s.2.2.length ≤ 160
  mat : Mat p s.2.2.length (s.1 + s.2.1).toNat s.2.2
theorem SysOk.of {p : Int} {s : Sys} (h : sysB p s = true) : SysOk p s := by
  unfold sysB at h
  simp only [Bool.and_eq_true, decide_eq_true_eq] at h
  obtain ⟨h1, h2, h3, h4, h5⟩ := h
  exact ⟨h1, h2, h3, h4, rowsB_mat h5 (by omega)⟩
theorem SysOk.ok {p : Int} {s : Sys} (h : SysOk p s) : s.2.2.length ≤ 1048576 ∧ ∀ x, x ∈ s.2.2 → x.length ≤ 1048576 :=
  ⟨by have := h.len; omega, fun x hx => by have := (h.mat.row x hx).1; have := h.vis; have := h.hid; omega⟩

theorem ou_alloc {w0 w : World} {A : Option Addr} {cap k : Nat} {ys : List Hd} (h : OuR w0 w A cap ys) (hk : ys.length = k) (o : Obj) : Sl (w.alloc o) 33 1 A k cap (ys.map Hd.val) := by
  have := h.sl.alloc o; rwa [hk] at this
/-- The parts of the solutions that are visible. -/
def solvM (p : Int) (s : Sys) : List (List Int) := (nullM p (s.1 + s.2.1).toNat s.2.2).map fun v => v.take s.1.toNat
theorem nullM_red {p : Int} (hp : fieldB p = true) (n : Nat) (L : List (List Int)) : RedL p n (nullM p n L) := by
  have hpb := fieldB_bounds hp
  unfold nullM
  refine (redM_spec hp ?_).1
  exact nvTo_mat (by omega) n _ n
theorem red_len {p : Int} {n : Nat} {R : List (List Int)} (hr : RedL p n R) : R.length ≤ n := by
  obtain ⟨_, ld, h⟩ := hr
  have key : ∀ i, i < R.length → i ≤ ld i := by
    intro i
    induction i with
    | zero => intro _; omega
    | succ i ih => intro hi; have := ih (by omega); have := h.mono i (i + 1) (by omega) hi; omega
  rcases Nat.eq_zero_or_pos R.length with h0 | h0
  · omega
  · have h1 := key (R.length - 1) (by omega)
    have h2 := h.lt (R.length - 1) (by omega)
    omega
theorem solvM_mat {p : Int} {s : Sys} (h : SysOk p s) : Mat p (solvM p s).length s.1.toNat (solvM p s) ∧ (solvM p s).length ≤ 124 := by
  have hr := nullM_red h.fld (s.1 + s.2.1).toNat s.2.2
  have hv := h.vis
  have hh := h.hid
  refine ⟨⟨rfl, fun v hv' => ?_⟩, ?_⟩
  · obtain ⟨u, hu, rfl⟩ := List.mem_map.1 hv'
    obtain ⟨h1, h2⟩ := hr.1.row u hu
    exact ⟨by rw [List.length_take, h1]; omega, h2.take _⟩
  · have := red_len hr
    unfold solvM
    rw [List.length_map]; omega

end Go.Proofs.YtahnhblodfdfhaaDoor
