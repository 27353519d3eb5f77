/-
  THE WALKS: FunctionOf.

  ROWS OF A CALL's OWN behind a box's cell (OMx).
-/
import Derived.Test.YtpfidjegdpkhdaaDoorRlY
import Derived.Test.YtpfidjegdpkhdaaDoorRegC
namespace Go.Proofs.YtpfidjegdpkhdaaDoor
open Go.RowKit

abbrev tMat : TypeId := 65
/-- Rows made since w0, all apart from the block bx. -/
def OMx (w0 : World) (bx : Nat) (w : World) (A : Option Addr) (cap : Nat) (L : List (List Int)) : Prop :=
  ∃ hs : List Hd, L = hs.map (fun h : Hd => h.2.2) ∧ OwR w A cap hs ∧ (∀ b, b ∈ fpA A ++ fpR hs → w0.heap.size ≤ b ∧ b ≠ bx) ∧ Below w0.heap.size w0 w ∧ w0.heap.size ≤ bx ∧ bx < w.heap.size
section
variable {w0 w w' : World} {bx : Nat} {A : Option Addr} {cap : Nat} {L : List (List Int)}
theorem set_f1 {B : Nat} {t : TypeId} {x y b : Value} (h : w.heap[B]? = some (.cells #[x, y] t)) : (w.setCell ⟨B, 1, none⟩ b).heap[B]? = some (.cells #[x, b] t) ∧ Keeps (· = B) w (w.setCell ⟨B, 1, none⟩ b) := by
  refine ⟨by simp [World.setCell, Array.getElem?_modify, h], ?_⟩
  exact (Keeps.refl (fun x => x = B) w).setCell (p := ⟨B, 1, none⟩) rfl _
theorem OMx.om (h : OMx w0 bx w A cap L) : OM w0 w A cap L := by
  obtain ⟨hs, hL, hO, hf, h0, _⟩ := h
  exact ⟨hs, hL, hO, fun b hb => (hf b hb).1, h0⟩
theorem OMx.below_ (h : OMx w0 bx w A cap L) : Below w0.heap.size w0 w := h.om.below_
theorem OMx.nil (h0 : Below w0.heap.size w0 w) (h1 : w0.heap.size ≤ bx) (h2 : bx < w.heap.size) : OMx w0 bx w none 0 [] :=
  ⟨[], rfl, OwR.nil w, fun b hb => by simp [fpR] at hb, h0, h1, h2⟩
theorem OMx.below (h : OMx w0 bx w A cap L) (hb : Below w.heap.size w w') : OMx w0 bx w' A cap L := by
  obtain ⟨hs, hL, hO, hf, h0, h1, h2⟩ := h
  exact ⟨hs, hL, hO.below hb, hf, below_trans h0 hb h0.size, h1, Nat.lt_of_lt_of_le h2 hb.size⟩
theorem OMx.store (h : OMx w0 bx w A cap L) (hk : Keeps (· = bx) w w') : OMx w0 bx w' A cap L := by
  obtain ⟨hs, hL, hO, hf, h0, h1, h2⟩ := h
  exact ⟨hs, hL, hO.keeps hk fun b hb e => (hf b hb).2 e, hf, below_keeps h0 hk h0.size fun k e => by subst e; exact h1, h1, Nat.lt_of_lt_of_le h2 hk.size⟩
theorem OMx.snoc {w1 w2 : World} {hs : List Hd} (hL : L = hs.map (fun h : Hd => h.2.2)) (hO : OwR w A cap hs) (hf : ∀ b, b ∈ fpA A ++ fpR hs → w0.heap.size ≤ b ∧ b ≠ bx) (h0 : Below w0.heap.size w0 w) (h1 : w0.heap.size ≤ bx) (h2 : bx < w.heap.size) {l : List Int} {B : Option Addr} {c : Nat} (hb : Below w.heap.size w w1) (hx : IS w1 B c l) (hf1 : Fresh w.heap.size B)
    {A' : Option Addr} {cap' n : Nat} (hn : n = hs.length + 1) (hs' : Sl w2 37 1 A' n cap' (hs.map Hd.val ++ [.slice B l.length c])) (hA' : ∀ b, b ∈ fpA A' → b ∈ fpA A ∨ w1.heap.size ≤ b) (hk : Keeps (· ∈ fpA A) w1 w2) : OMx w0 bx w2 A' cap' (L ++ [l]) := by
  subst hL hn
  have hbw := below_trans h0 hb h0.size
  have hz := hb.size
  have hz2 := hk.size
  refine ⟨hs ++ [(B, c, l)], by simp, hO.snoc hb (x := (B, c, l)) hx hf1 (by simpa [Hd.val] using hs') hA' hk, fun b hb' => ?_, below_keeps hbw hk hbw.size fun b hb' => (hf b (List.mem_append_left _ hb')).1, h1, by omega⟩
  rcases List.mem_append.1 hb' with hb' | hb'
  · rcases hA' b hb' with h3 | h3
    · exact hf b (List.mem_append_left _ h3)
    · have := hbw.size; omega
  · rcases fpR_snoc hs (B, c, l) b hb' with h3 | h3
    · exact hf b (List.mem_append_right _ h3)
    · have := hf1 b h3; have := h0.size; omega
end
/-- The matrix of a relation, or none. -/
def foM (p : Int) (s : Sys) : (Int × List (List Int)) × Bool := if totB p s && singB s then ((s.2.1, secondM s), true) else ((0, []), false)
theorem funM_eq {p : Int} {s : Sys} : funM p s = if relB p s then foM p s else ((0, []), false) := by
  unfold funM foM
  cases relB p s <;> simp

set_option maxRecDepth 100000 in
set_option maxHeartbeats 2000000 in
theorem functionOf_any (p : Int) {v : Value} {s : Sys} {fp : List Nat} (w : World) (h : OwSys w v s fp) (hs : RelOk p s) :
    Calls Tryd.prog 109 #[.int .i64 p, v] w fun e w' => ∃ v' fp', e = .returned (.tuple #[v', .bool (foM p s).2]) ∧ OwMt w' v' (foM p s).1 fp' ∧ FreshL w.heap.size fp' ∧ Below w.heap.size w w' := by
  obtain ⟨C, hC0⟩ : ∃ C, C = foM p s := ⟨_, rfl⟩
  rw [← hC0]
  unfold foM at hC0
  obtain ⟨A, n, c, rfl⟩ := h.shape
  obtain ⟨W, hW, b0, k0, k1⟩ := alloc2 w (.cells #[.int .i64 s.1, .int .i64 s.2.1, .slice A n c] tRel) (.cells #[.int .i64 0, .slice none 0 0] tMat)
  have hT := isTotal_any p W (h.below b0) hs
  have hS := fun W' (hb : Below W.heap.size W W') => isSingleValued_any p W' ((h.below b0).below hb) hs
  have hE := fun W' (hb : Below W.heap.size W W') => eachSecond_any p W' ((h.below b0).below hb) hs
  obtain ⟨⟨c0, c1, c2⟩, f0, f1, f2⟩ := box3 k0
  by_cases ht : totB p s = true
  · rw [ht] at hT hC0
    by_cases hg : singB s = true
    · rw [hg] at hC0
      simp only [hg] at hS
      have hms := secondM_mat hs
      have hC1 : C = ((s.2.1, secondM s), true) := hC0
      subst hC1
      have hsl : ∀ x, x ∈ secondM s → x.length ≤ 1048576 := fun x hx => by have := (hms.row x hx).1; have := hs.sum; have := hs.lo; omega
      clear h hs ht hg hC0 hms
      have hT_h := Lib.hid hT
      have hS_h := Lib.hid hS
      have hE_h := Lib.hid hE
      have k0_h := Lib.hid k0
      have k1_h := Lib.hid k1
      have b0_h := Lib.hid b0
      have hsl_h := Lib.hid hsl
      clear hT hS hE k0 k1 b0 hsl
      go_enter Tryd.func109, Tryd.ntmps109
      go_upto_region 1 with (fail)
      rw [← hW]
      clear hW
      go_wp2_with (fail)
      refine (hT_h.out).mono ?_
      rintro e w1 ⟨rfl, hb1⟩
      clear c0 c1 c2 f0 f1 f2
      replace k0_h := Lib.hid (box_below k0_h.out hb1)
      replace k1_h := Lib.hid (box_below k1_h.out hb1)
      obtain ⟨⟨c0, c1, c2⟩, f0, f1, f2⟩ := box3 k0_h.out
      have hS1 := hS_h.out w1 hb1
      have hS1_h := Lib.hid hS1
      have hb1_h := Lib.hid hb1
      clear hS1 hb1
      go_wp2_with (fail)
      refine (hS1_h.out).mono ?_
      rintro e w2 ⟨rfl, hb2⟩
      clear c0 c1 c2 f0 f1 f2
      replace k0_h := Lib.hid (box_below k0_h.out hb2)
      replace k1_h := Lib.hid (box_below k1_h.out hb2)
      obtain ⟨⟨c0, c1, c2⟩, f0, f1, f2⟩ := box3 k0_h.out
      have hbW := below_trans hb1_h.out hb2 hb1_h.out.size
      have hbd : Below w2.heap.size w2 w2.drew := below_drewN (Below.refl _ _) 1
      have hmf : ∀ (fn : Fn) (first cap : Array Value) (w : World), (Instr.makeFunc fn first cap).run Tryd.prog w = .ok (.func fn first cap) w := fun _ _ _ _ => rfl
      have hE1 := hE_h.out w2.drew (below_trans hbW hbd hbW.size)
      have hB2 := below_trans (below_trans b0_h.out hbW b0_h.out.size) hbd (Nat.le_trans b0_h.out.size hbW.size)
      obtain ⟨X, hX⟩ : ∃ X, X = secondM s := ⟨_, rfl⟩
      rw [← hX] at hE1
      clear hbW
      have hE1_h := Lib.hid hE1
      have hB2_h := Lib.hid hB2
      have hX_h := Lib.hid hX
      have hb2_h := Lib.hid hb2
      clear hE1 hB2 hX hb2
      go_wp2_with (fail)
      refine beginH (fun w' => w'.heap[w.heap.size]? = some (.cells #[.int .i64 s.1, .int .i64 s.2.1, .slice A n c] tRel)) (by kernel_rfl) ?_
      clear c0 c1 c2 f0 f1 f2
      generalize w2.drew = W1 at hbd hE1_h hB2_h ⊢
      replace k0_h := Lib.hid (box_below k0_h.out hbd)
      replace k1_h := Lib.hid (box_below k1_h.out hbd)
      have hz1 := box_lt k1_h.out
      refine takeH 0 (v := ?_) rfl (by kernel_rfl) (by kernel_rfl) (by kernel_rfl) (fun _ _ _ h => h) k0_h.out (by rfl) (fun W' hW' => ?_) ?_; rotate_left; · (obtain ⟨⟨y0, y1, y2⟩, y3, y4, y5⟩ := box3 hW'; clear hW'; go_simp; first | done | with_reducible rfl)
      simp only [Act.put, List.setIfInBounds_toArray, List.set_cons_zero, List.set_cons_succ]
      refine takeH 1 (v := ?_) rfl (by kernel_rfl) (by kernel_rfl) (by kernel_rfl) (fun _ _ _ h => h) k0_h.out (by rfl) (fun W' hW' => ?_) ?_; rotate_left; · (obtain ⟨⟨y0, y1, y2⟩, y3, y4, y5⟩ := box3 hW'; clear hW'; go_simp; first | done | with_reducible rfl)
      simp only [Act.put, List.setIfInBounds_toArray, List.set_cons_zero, List.set_cons_succ]
      refine takeH 2 (v := ?_) rfl (by kernel_rfl) (by kernel_rfl) (by kernel_rfl) (fun _ _ _ h => h) k0_h.out (by rfl) (fun W' hW' => ?_) ?_; rotate_left; · (obtain ⟨⟨y0, y1, y2⟩, y3, y4, y5⟩ := box3 hW'; clear hW'; go_simp; first | done | with_reducible rfl)
      simp only [Act.put, List.setIfInBounds_toArray, List.set_cons_zero, List.set_cons_succ]
      refine takeH 3 (v := ?_) rfl (by kernel_rfl) (by kernel_rfl) (by kernel_rfl) (fun _ _ _ h => h) k0_h.out (by rfl) (fun W' hW' => ?_) ?_; rotate_left; · (obtain ⟨⟨y0, y1, y2⟩, y3, y4, y5⟩ := box3 hW'; clear hW'; go_simp; first | done | with_reducible rfl)
      simp only [Act.put, List.setIfInBounds_toArray, List.set_cons_zero, List.set_cons_succ]
      refine takeH 4 (v := ?_) rfl (by kernel_rfl) (by kernel_rfl) (by kernel_rfl) (fun _ _ _ h => h) k0_h.out (by rfl) (fun W' hW' => ?_) ?_; rotate_left; · (skip; clear hW'; go_simp; first | done | with_reducible rfl)
      simp only [Act.put, List.setIfInBounds_toArray, List.set_cons_zero, List.set_cons_succ]
      refine' callH 5 (f := _) (args := _) rfl (by kernel_rfl) (by rfl) ?_ ?_; rotate_left 2; · (go_simp; first | done | with_reducible rfl | (constructor <;> with_reducible rfl))
      refine (hE1_h.out).mono ?_
      rintro e w3 ⟨A1, c1, g1, m, rfl, hgl, hm24, hgm, hO1⟩
      replace k0_h := Lib.hid (box_below k0_h.out hO1.below_)
      replace k1_h := Lib.hid (box_below k1_h.out hO1.below_)
      have hw3 := box_lt k1_h.out
      refine ⟨_, rfl, k0_h.out, ?_⟩
      simp only [Act.put, List.setIfInBounds_toArray, List.set_cons_zero, List.set_cons_succ]
      have hC := clones_any A1 c1 g1 w3 hO1.rdr (by omega) (fun x hx => hsl_h.out _ (by rw [← hX_h.out, ← hgm]; exact List.mem_map_of_mem hx))
      rw [hgm, hgl] at hC
      have hB3 := below_trans hB2_h.out hO1.below_ hB2_h.out.size
      clear hgl hgm hO1
      have hC_h := Lib.hid hC
      have hB3_h := Lib.hid hB3
      clear hC hB3
      refine' callH 6 (f := _) (args := _) rfl (by kernel_rfl) (by rfl) ?_ ?_; rotate_left 2; · (go_simp; first | done | with_reducible rfl | (constructor <;> with_reducible rfl))
      refine (hC_h.out).mono ?_
      rintro e w4 hret
      obtain ⟨A3, c3, rfl, hO3⟩ := hret.om
      replace k0_h := Lib.hid (box_below k0_h.out hO3.below_)
      replace k1_h := Lib.hid (box_below k1_h.out hO3.below_)
      refine ⟨_, rfl, k0_h.out, ?_⟩
      simp only [Act.put, List.setIfInBounds_toArray, List.set_cons_zero, List.set_cons_succ]
      have hB4 := below_trans hB3_h.out hO3.below_ hB3_h.out.size
      have hz4 := box_lt k1_h.out
      have hBs := hB3_h.out.size
      have hz5 := hO3.below_.size
      obtain ⟨⟨d0, d1⟩, g0, g1'⟩ := box2 k1_h.out
      obtain ⟨s1, s2⟩ := set2 (a := .int .i64 s.2.1) (b := .slice A3 X.length c3) k1_h.out
      have k0' := box_keeps k0_h.out s2 (by omega)
      obtain ⟨fp3, hO4, hf3⟩ := OwMt.of_ret (a := s.2.1) hO3 s2 (fun k hk => by omega) rfl
      have hB5 := below_keeps hB4 s2 hB4.size (fun k hk => by omega)
      have hf4 := hf3.mono hBs
      clear hO3 hf3 hB4 hret
      have s1_h := Lib.hid s1
      have s2_h := Lib.hid s2
      have k0'_h := Lib.hid k0'
      have hO4_h := Lib.hid hO4
      have hB5_h := Lib.hid hB5
      have hf4_h := Lib.hid hf4
      clear s1 s2 k0' hO4 hB5 hf4
      refine takeH 7 (v := ?_) rfl (by kernel_rfl) (by kernel_rfl) (by kernel_rfl) (fun _ _ _ h => h) k0_h.out (by rfl) (fun W' hW' => ?_) ?_; rotate_left; · (skip; clear hW'; go_simp; first | done | with_reducible rfl)
      simp only [Act.put, List.setIfInBounds_toArray, List.set_cons_zero, List.set_cons_succ]
      refine oneH 8 rfl (by kernel_rfl) (by rfl) (fun K hK => ?_)
      go_simp
      refine hK _ _ k0'_h.out ?_
      clear hK K
      refine takeH 9 (v := ?_) rfl (by kernel_rfl) (by kernel_rfl) (by kernel_rfl) (fun _ _ _ h => h) k0'_h.out (by rfl) (fun W' hW' => ?_) ?_; rotate_left; · (skip; clear hW'; go_simp; first | done | with_reducible rfl)
      simp only [Act.put, List.setIfInBounds_toArray, List.set_cons_zero, List.set_cons_succ]
      refine doneH (by kernel_rfl) ?_
      go_wp2_with (fail)
      refine bodyPost_ret (results_cell_tmp rfl _ _ (w.heap.size + 1) _ _ (0, 0) _ rfl s1_h.out Tryd.underlying65 rfl (by kernel_rfl)) rfl ?_
      exact ⟨_, fp3, rfl, by rw [← hX_h.out]; exact hO4_h.out, hf4_h.out, hB5_h.out⟩
    · have hg' : singB s = false := by simpa using hg
      rw [hg'] at hC0
      simp only [hg'] at hS
      have hC1 : C = ((0, []), false) := hC0
      subst hC1
      clear h hs ht hg hg' hC0 hE
      have hT_h := Lib.hid hT
      have hS_h := Lib.hid hS
      have k0_h := Lib.hid k0
      have k1_h := Lib.hid k1
      have b0_h := Lib.hid b0
      clear hT hS k0 k1 b0
      go_enter Tryd.func109, Tryd.ntmps109
      go_upto_region 1 with (fail)
      rw [← hW]
      clear hW
      go_wp2_with (fail)
      refine (hT_h.out).mono ?_
      rintro e w1 ⟨rfl, hb1⟩
      clear c0 c1 c2 f0 f1 f2
      replace k0_h := Lib.hid (box_below k0_h.out hb1)
      replace k1_h := Lib.hid (box_below k1_h.out hb1)
      obtain ⟨⟨c0, c1, c2⟩, f0, f1, f2⟩ := box3 k0_h.out
      have hS1 := hS_h.out w1 hb1
      have hS1_h := Lib.hid hS1
      have hb1_h := Lib.hid hb1
      clear hS1 hb1
      go_wp2_with (fail)
      refine (hS1_h.out).mono ?_
      rintro e w2 ⟨rfl, hb2⟩
      clear c0 c1 c2 f0 f1 f2
      replace k0_h := Lib.hid (box_below k0_h.out hb2)
      replace k1_h := Lib.hid (box_below k1_h.out hb2)
      have hB2 := below_trans (below_trans b0_h.out hb1_h.out b0_h.out.size) hb2 (Nat.le_trans b0_h.out.size hb1_h.out.size)
      have hb2_h := Lib.hid hb2
      have hB2_h := Lib.hid hB2
      clear hb2 hB2
      obtain ⟨⟨d0, d1⟩, g0, g1⟩ := box2 k1_h.out
      obtain ⟨s1, s2⟩ := set2 (a := .int .i64 0) (b := .slice none 0 0) k1_h.out
      have hz1 : w.heap.size + 1 < w2.heap.size := (Array.getElem?_eq_some_iff.1 k1_h.out).1
      have hB3 := below_keeps hB2_h.out s2 (hB2_h.out).size (fun k hk => by omega)
      have s1_h := Lib.hid s1
      have s2_h := Lib.hid s2
      have hB3_h := Lib.hid hB3
      clear s1 s2 hB3
      go_wp2_with (fail)
      refine bodyPost_ret (results_cell_tmp rfl _ _ (w.heap.size + 1) _ _ (0, 0) _ rfl s1_h.out Tryd.underlying65 rfl (by kernel_rfl)) rfl ?_
      exact ⟨_, [], rfl, OwMt.zero _ 0, FreshL.nil _, hB3_h.out⟩
  · have ht' : totB p s = false := by simpa using ht
    rw [ht'] at hT hC0
    have hC1 : C = ((0, []), false) := hC0
    subst hC1
    clear h hs ht ht' hC0 hE hS
    have hT_h := Lib.hid hT
    have k0_h := Lib.hid k0
    have k1_h := Lib.hid k1
    have b0_h := Lib.hid b0
    clear hT k0 k1 b0
    go_enter Tryd.func109, Tryd.ntmps109
    go_upto_region 1 with (fail)
    rw [← hW]
    clear hW
    go_wp2_with (fail)
    refine (hT_h.out).mono ?_
    rintro e w1 ⟨rfl, hb1⟩
    clear c0 c1 c2 f0 f1 f2
    replace k0_h := Lib.hid (box_below k0_h.out hb1)
    replace k1_h := Lib.hid (box_below k1_h.out hb1)
    have hB2 := below_trans b0_h.out hb1 b0_h.out.size
    have hb1_h := Lib.hid hb1
    have hB2_h := Lib.hid hB2
    clear hb1 hB2
    obtain ⟨⟨d0, d1⟩, g0, g1⟩ := box2 k1_h.out
    obtain ⟨s1, s2⟩ := set2 (a := .int .i64 0) (b := .slice none 0 0) k1_h.out
    have hz1 : w.heap.size + 1 < w1.heap.size := (Array.getElem?_eq_some_iff.1 k1_h.out).1
    have hB3 := below_keeps hB2_h.out s2 (hB2_h.out).size (fun k hk => by omega)
    have s1_h := Lib.hid s1
    have s2_h := Lib.hid s2
    have hB3_h := Lib.hid hB3
    clear s1 s2 hB3
    go_wp2_with (fail)
    refine bodyPost_ret (results_cell_tmp rfl _ _ (w.heap.size + 1) _ _ (0, 0) _ rfl s1_h.out Tryd.underlying65 rfl (by kernel_rfl)) rfl ?_
    exact ⟨_, [], rfl, OwMt.zero _ 0, FreshL.nil _, hB3_h.out⟩
set_option maxRecDepth 100000 in
set_option maxHeartbeats 4000000 in
theorem iFunctionOf_law (p : Int) {v : Value} {s : Sys} {fp : List Nat} {w : World} (h : OwSys w v s fp) (ok : OkR s.2.2) (hT : Tab w) :
    Calls Tryd.prog 53 #[.int .i64 p, v] w fun e w' => ∃ v' fp', e = .returned (.tuple #[v', .bool (funM p s).2]) ∧ OwMt w' v' (funM p s).1 fp' ∧ FreshL w.heap.size fp' ∧ Below w.heap.size w w' := by
  obtain ⟨C, hC0⟩ : ∃ C, C = funM p s := ⟨_, rfl⟩
  rw [← hC0]
  rw [funM_eq] at hC0
  obtain ⟨A, n, c, rfl⟩ := h.shape
  obtain ⟨W, hW, b0, k0, k1⟩ := alloc2 w (.cells #[.int .i64 s.1, .int .i64 s.2.1, .slice A n c] tRel) (.cells #[.int .i64 0, .slice none 0 0] tMat)
  have hG := isRelation_any p W (h.rd.below b0) (hT.below b0 hT.lt) ok.1 ok.2.1
  have hF := fun W' (hb : Below W.heap.size W W') (hs : RelOk p s) => functionOf_any p W' ((h.below b0).below hb) hs
  obtain ⟨⟨c0, c1, c2⟩, f0, f1, f2⟩ := box3 k0
  by_cases hb : relB p s = true
  · rw [hb] at hG hC0
    have hof := RelOk.of hb
    have hC1 : C = foM p s := hC0
    simp only [← hC1] at hF
    clear h ok hb hC0 hC1 hT
    have hG_h := Lib.hid hG
    have hF_h := Lib.hid hF
    have k0_h := Lib.hid k0
    have k1_h := Lib.hid k1
    have b0_h := Lib.hid b0
    have hof_h := Lib.hid hof
    clear hG hF k0 k1 b0 hof
    go_enter Tryd.func53, Tryd.ntmps53
    go_upto_region 1 with (fail)
    rw [← hW]
    clear hW
    go_wp2_with (fail)
    refine (hG_h.out).mono ?_
    rintro e w1 ⟨rfl, hb1⟩
    clear c0 c1 c2 f0 f1 f2
    replace k0_h := Lib.hid (box_below k0_h.out hb1)
    replace k1_h := Lib.hid (box_below k1_h.out hb1)
    have hB1 := below_trans b0_h.out hb1 b0_h.out.size
    have hF1 := hF_h.out w1 hb1 hof_h.out
    obtain ⟨⟨c0, c1, c2⟩, f0, f1, f2⟩ := box3 k0_h.out
    have hF1_h := Lib.hid hF1
    have hB1_h := Lib.hid hB1
    have hb1_h := Lib.hid hb1
    clear hF1 hB1 hb1
    go_wp2_with (fail)
    refine (hF1_h.out).mono ?_
    rintro e w2 ⟨v2, fp2, rfl, hO2, hf2, hb2⟩
    have hw1 := box_lt k1_h.out
    obtain ⟨A2, n2, c2', rfl⟩ := hO2.shape
    replace k0_h := Lib.hid (box_below k0_h.out hb2)
    replace k1_h := Lib.hid (box_below k1_h.out hb2)
    obtain ⟨⟨d0, d1⟩, g0, g1⟩ := box2 k1_h.out
    obtain ⟨s1, s2⟩ := set2 (a := .int .i64 C.1.1) (b := .slice A2 n2 c2') k1_h.out
    have hB2 := below_trans hB1_h.out hb2 hB1_h.out.size
    have hB3 := below_keeps hB2 s2 hB2.size (fun k hk => by omega)
    have hO3 := hO2.keeps s2 (fun k hk e => by have := hf2 k hk; omega)
    have hf3 := hf2.mono hB1_h.out.size
    clear hB2 hO2 hf2 hb2 c0 c1 c2 f0 f1 f2
    have s1_h := Lib.hid s1
    have s2_h := Lib.hid s2
    have hB3_h := Lib.hid hB3
    have hO3_h := Lib.hid hO3
    have hf3_h := Lib.hid hf3
    clear s1 s2 hB3 hO3 hf3
    go_wp2_with (fail)
    refine bodyPost_ret (results_cell_tmp rfl _ _ (w.heap.size + 1) _ _ (0, 0) _ rfl s1_h.out Tryd.underlying65 rfl (by kernel_rfl)) rfl ?_
    exact ⟨_, fp2, rfl, hO3_h.out, hf3_h.out, hB3_h.out⟩
  · have hb' : relB p s = false := by simpa using hb
    rw [hb'] at hG hC0
    have hC1 : C = ((0, []), false) := hC0
    subst hC1
    clear h ok hb hb' hC0 hT hF
    have hG_h := Lib.hid hG
    have k0_h := Lib.hid k0
    have k1_h := Lib.hid k1
    have b0_h := Lib.hid b0
    clear hG k0 k1 b0
    go_enter Tryd.func53, Tryd.ntmps53
    go_upto_region 1 with (fail)
    rw [← hW]
    clear hW
    go_wp2_with (fail)
    refine (hG_h.out).mono ?_
    rintro e w1 ⟨rfl, hb1⟩
    clear c0 c1 c2 f0 f1 f2
    replace k0_h := Lib.hid (box_below k0_h.out hb1)
    replace k1_h := Lib.hid (box_below k1_h.out hb1)
    have hB1 := below_trans b0_h.out hb1 b0_h.out.size
    have hB1_h := Lib.hid hB1
    have hb1_h := Lib.hid hb1
    clear hB1 hb1
    obtain ⟨⟨d0, d1⟩, g0, g1⟩ := box2 k1_h.out
    obtain ⟨s1, s2⟩ := set2 (a := .int .i64 0) (b := .slice none 0 0) k1_h.out
    have hz1 : w.heap.size + 1 < w1.heap.size := (Array.getElem?_eq_some_iff.1 k1_h.out).1
    have hB3 := below_keeps hB1_h.out s2 (hB1_h.out).size (fun k hk => by omega)
    have s1_h := Lib.hid s1
    have s2_h := Lib.hid s2
    have hB3_h := Lib.hid hB3
    clear s1 s2 hB3
    go_wp2_with (fail)
    refine bodyPost_ret (results_cell_tmp rfl _ _ (w.heap.size + 1) _ _ (0, 0) _ rfl s1_h.out Tryd.underlying65 rfl (by kernel_rfl)) rfl ?_
    exact ⟨_, [], rfl, OwMt.zero _ 0, FreshL.nil _, hB3_h.out⟩
set_option maxRecDepth 100000 in
set_option maxHeartbeats 4000000 in
theorem sFunctionOf_law (p : Int) {v : Value} {s : Sys} {fp : List Nat} {w : World} (h : OwSys w v s fp) (ok : OkR s.2.2) :
    Calls Tryd.prog 52 #[.int .i64 p, v] w fun e w' => ∃ v' fp', e = .returned (.tuple #[v', .bool (funM p s).2]) ∧ OwMt w' v' (funM p s).1 fp' ∧ FreshL w.heap.size fp' ∧ Below w.heap.size w w' := by
  obtain ⟨C, hC0⟩ : ∃ C, C = funM p s := ⟨_, rfl⟩
  rw [← hC0]
  rw [funM_eq] at hC0
  obtain ⟨A, n, c, rfl⟩ := h.shape
  obtain ⟨W, hW, b0, k0, k1⟩ := alloc2 w (.cells #[.int .i64 s.1, .int .i64 s.2.1, .slice A n c] tRel) (.cells #[.int .i64 0, .slice none 0 0] tMat)
  have hG := rlGood_any p W (h.rd.below b0) ok.1 ok.2.1
  have hT := fun W' (hb : Below W.heap.size W W') (hs : RelOk p s) => rlTotal_any p W' ((h.below b0).below hb) hs
  have hS := fun W' (hb : Below W.heap.size W W') (hs : RelOk p s) => rlSingle_any p W' ((h.below b0).below hb) hs
  have hOw := h.below b0
  obtain ⟨⟨c0, c1, c2⟩, f0, f1, f2⟩ := box3 k0
  by_cases hb : relB p s = true
  · rw [hb] at hG hC0
    have hof := RelOk.of hb
    have hC1 : C = foM p s := hC0
    unfold foM at hC1
    clear h ok hb hC0
    by_cases ht : totB p s = true
    · rw [ht] at hC1
      simp only [ht] at hT
      clear ht
      by_cases hg : singB s = true
      · rw [hg] at hC1
        simp only [hg] at hS
        clear hg
        have hC2 : C = ((s.2.1, secondM s), true) := hC1
        subst hC2
        clear hC1
        have hG_h := Lib.hid hG
        have hT_h := Lib.hid hT
        have hS_h := Lib.hid hS
        have k0_h := Lib.hid k0
        have k1_h := Lib.hid k1
        have b0_h := Lib.hid b0
        have hof_h := Lib.hid hof
        have hOw_h := Lib.hid hOw
        clear hG hT hS k0 k1 b0 hof hOw
        go_enter Tryd.func52, Tryd.ntmps52
        go_upto_region 1 with (fail)
        rw [← hW]
        clear hW
        go_wp2_with (fail)
        refine (hG_h.out).mono ?_
        rintro e w1 ⟨rfl, hb1⟩
        clear c0 c1 c2 f0 f1 f2
        replace k0_h := Lib.hid (box_below k0_h.out hb1)
        replace k1_h := Lib.hid (box_below k1_h.out hb1)
        have hB1 := below_trans b0_h.out hb1 b0_h.out.size
        obtain ⟨⟨c0, c1, c2⟩, f0, f1, f2⟩ := box3 k0_h.out
        have hT1 := hT_h.out w1 hb1 hof_h.out
        have hT1_h := Lib.hid hT1
        have hB1_h := Lib.hid hB1
        have hb1_h := Lib.hid hb1
        clear hT1 hB1 hb1
        go_wp2_with (fail)
        refine (hT1_h.out).mono ?_
        rintro e w2 ⟨rfl, hb2⟩
        clear c0 c1 c2 f0 f1 f2
        replace k0_h := Lib.hid (box_below k0_h.out hb2)
        replace k1_h := Lib.hid (box_below k1_h.out hb2)
        have hB2 := below_trans hB1_h.out hb2 hB1_h.out.size
        have hb12 := below_trans hb1_h.out hb2 hb1_h.out.size
        obtain ⟨⟨c0, c1, c2⟩, f0, f1, f2⟩ := box3 k0_h.out
        have hS1 := hS_h.out w2 hb12 hof_h.out
        have hS1_h := Lib.hid hS1
        have hB2_h := Lib.hid hB2
        have hb2_h := Lib.hid hb2
        have hb12_h := Lib.hid hb12
        clear hS1 hB2 hb2 hb12
        go_wp2_with (fail)
        refine (hS1_h.out).mono ?_
        rintro e w3 ⟨rfl, hb3⟩
        clear c0 c1 c2 f0 f1 f2
        replace k0_h := Lib.hid (box_below k0_h.out hb3)
        replace k1_h := Lib.hid (box_below k1_h.out hb3)
        have hB3' := below_trans hB2_h.out hb3 hB2_h.out.size
        have hb13 := below_trans hb12_h.out hb3 hb12_h.out.size
        have hw0 : w.heap.size + 1 < w3.heap.size := box_lt k1_h.out
        have hz0 := box_lt k0_h.out
        obtain ⟨⟨c0, c1, c2⟩, f0, f1, f2⟩ := box3 k0_h.out
        have hb3_h := Lib.hid hb3
        have hB3'_h := Lib.hid hB3'
        have hb13_h := Lib.hid hb13
        clear hb3 hB3' hb13
        go_upto_region 4 with (fail)
        obtain ⟨W4, hW4⟩ : ∃ W4, W4 = w3.alloc (.cells #[.int .i64 s.2.1, .slice none 0 0] tMat) := ⟨_, rfl⟩
        have b4 := below_alloc w3 (.cells #[.int .i64 s.2.1, .slice none 0 0] tMat)
        have k4 := heap_alloc_new w3 (.cells #[.int .i64 s.2.1, .slice none 0 0] tMat)
        rw [← hW4] at b4 k4
        have hW4s : W4.heap.size ≤ w3.heap.size + 1 := by rw [hW4]; simp
        obtain ⟨bx, hbx⟩ : ∃ bx, bx = w3.heap.size := ⟨_, rfl⟩
        rw [← hbx] at k4 hW4s
        rw [show w3.alloc (Obj.cells #[.int .i64 s.2.1, .slice none 0 0] 65) = W4 from hW4.symm]
        rw [← hbx]
        have hz4 := box_lt k4
        have hN4 : OMx w3 bx W4 none 0 [] := OMx.nil b4 (by omega) hz4
        have hO4 := (hOw_h.out.below hb13_h.out).below b4
        replace k0_h := Lib.hid (box_below k0_h.out b4)
        replace k1_h := Lib.hid (box_below k1_h.out b4)
        clear c0 c1 c2 f0 f1 f2 hW4
        obtain ⟨A0, c0', gs, hv, hL, hO, hfpe⟩ := hO4
        have hlt0 := hOw_h.out.lt
        have hpf := part_second hof_h.out
        have hBs := hb13_h.out.size
        injection hv with hv
        simp only [Array.mk.injEq, List.cons.injEq, Value.slice.injEq, and_true, true_and] at hv
        obtain ⟨rfl, rfl, rfl⟩ := hv
        obtain ⟨a, b, L⟩ := s
        have h0 : 0 ≤ a := hof_h.out.lo
        have h1 : 0 ≤ b := hof_h.out.hi
        have h2 : a + b ≤ 24 := hof_h.out.sum
        have hrow : ∀ u, u ∈ L → (u.length : Int) = a + b ∧ Res p u := fun u hu => hof_h.out.row hu
        have hlen : (L.length : Int) ≤ a + b := hof_h.out.len
        clear hof_h hG_h hT_h hS_h hOw_h
        obtain ⟨na, rfl⟩ : ∃ na : Nat, a = (na : Int) := ⟨a.toNat, by omega⟩
        obtain ⟨nb, rfl⟩ : ∃ nb : Nat, b = (nb : Int) := ⟨b.toNat, by omega⟩
        have hL' : L = gs.map (fun h : Hd => h.2.2) := hL
        clear hL
        obtain ⟨m, hm⟩ : ∃ m, m = gs.length := ⟨_, rfl⟩
        have hLm : L.length = m := by rw [hL', List.length_map, hm]
        have hm24 : (m : Int) ≤ 24 := by have := hlen; rw [hLm] at this; omega
        obtain ⟨n, hn⟩ : ∃ n, n = na + nb := ⟨_, rfl⟩
        have hn24 : n ≤ 24 := by omega
        have hna : na ≤ n := by omega
        have hnb : n - na = nb := by omega
        simp only [← hm] at k0_h ⊢
        obtain ⟨⟨c0, c1, c2⟩, f0, f1, f2⟩ := box3 k0_h.out
        have hbxw : w.heap.size + 1 < bx := by omega
        have hlt : ∀ b, b ∈ fpA A ++ fpR gs → b < bx := fun b hb => by rw [← hfpe] at hb; have := hlt0 b hb; omega
        have hpf' : secondM ((na : Int), (nb : Int), L) = L.map (partV na nb) := hpf.symm
        clear hlt0 hfpe hpf
        have hm_h := Lib.hid hm
        have hL'_h := Lib.hid hL'
        have hLm_h := Lib.hid hLm
        have hrow_h := Lib.hid hrow
        have hlen_h := Lib.hid hlen
        have hO_h := Lib.hid hO
        have hN4_h := Lib.hid hN4
        have b4_h := Lib.hid b4
        have k4_h := Lib.hid k4
        have hn_h := Lib.hid hn
        have hnb_h := Lib.hid hnb
        have hbx_h := Lib.hid hbx
        have hlt_h := Lib.hid hlt
        have hpf'_h := Lib.hid hpf'
        clear hm hL' hLm hrow hlen hO hN4 b4 k4 hn hnb hbx hlt hpf'
        go_wp2_with (fail)
        clear c0 c1 c2 f0 f1 f2
        go_loopw [31] (fun i wr => ∃ (k : Nat) (A' : Option Addr) (c' : Nat), k ≤ m ∧ i = .int .i64 k ∧ wr.heap[bx]? = some (.cells #[.int .i64 (nb : Int), .slice A' k c'] tMat) ∧ OMx w3 bx wr A' c' ((L.take k).map (partV na nb)) ∧ Keeps (fun b => W4.heap.size ≤ b ∨ b = bx) W4 wr) (fun i _ => m - (intOf i).toNat)
        case atStart => exact ⟨0, none, 0, Nat.zero_le _, rfl, k4_h.out, hN4_h.out, Keeps.refl _ _⟩
        case round =>
          clear hN4_h k4_h
          obtain ⟨k, A', c', hk, rfl, kbx, hOM, hkw⟩ := hrel
          have k0r := box_keeps k0_h.out hkw (by omega)
          have k1r := box_keeps k1_h.out hkw (by omega)
          have hzr := hkw.size
          by_cases hlt2 : k < m
          · have hOr := hO_h.out.keeps hkw (fun b hb h => by have := hlt_h.out b hb; have := b4_h.out.size; omega)
            obtain ⟨ad, B, d, u, rfl, hx, hc, _⟩ := hOr.rd.at_ (k := k) (by rw [← hm_h.out]; exact hlt2)
            have hyL : L[k]? = some u := by rw [hL'_h.out, List.getElem?_map, hx]; rfl
            have hul : u.length = n := by have := (hrow_h.out _ (List.mem_of_getElem? hyL)).1; have := hn_h.out; omega
            have hI : Sl wr.drew 3 1 B n d (ints u) := by have := hOr.rows _ (List.mem_of_getElem? hx); unfold IS at this; rw [hul] at this; exact this
            have hcap := hI.2.1
            rw [hul] at hc
            have hkI : (k : Int) < (m : Int) := by omega
            obtain ⟨A2, hr2, hS2, hf2⟩ := hI.sliced (P := Tryd.prog) 37 Tryd.underlying37 info_int (some (.int .i64 (na : Int))) none none na n d (optSome rfl) (optNone ⟨rfl, rfl⟩) (optNone rfl) hna (Nat.le_refl _) hcap (Nat.le_refl _)
            rw [hnb_h.out] at hr2 hS2
            have hpv : partV na nb u = u.drop na := by unfold partV; rw [List.take_of_length_le (by rw [List.length_drop, hul, hnb_h.out]; exact Nat.le_refl _)]
            have hpl : (partV na nb u).length = nb := partV_len hul (by have := hn_h.out; omega)
            have hd2 : RdI wr.drew A2 (partV na nb u) := by
              have e : ((ints u).drop (na * 1)).take (nb * 1) = ints (partV na nb u) := by simp [ints, partV, List.map_take, List.map_drop]
              rw [e] at hS2
              intro j x hj
              obtain ⟨ad, hA, _, hc, _⟩ := hS2.cell (ints_get hj)
              exact ⟨ad, hA, hc⟩
            have hC := l1Own_any A2 (d - na) (partV na nb u) wr.drew hd2 (by omega)
            rw [hpl] at hC
            have hbd : Below wr.heap.size wr wr.drew := below_drewN (Below.refl _ _) 1
            clear hOr hx hS2 hf2 hI hd2 hpv
            have hyL_h := Lib.hid hyL
            have hul_h := Lib.hid hul
            have hr2_h := Lib.hid hr2
            have hpl_h := Lib.hid hpl
            have hC_h := Lib.hid hC
            have hbd_h := Lib.hid hbd
            have hOM_h := Lib.hid hOM
            have hkw_h := Lib.hid hkw
            have k0r_h := Lib.hid k0r
            have k1r_h := Lib.hid k1r
            clear hyL hul hr2 hpl hC hbd hOM hkw k0r k1r
            obtain ⟨⟨y0, y1, y2⟩, y3, y4, y5⟩ := box3 k0r_h.out
            go_wp2_with (fail)
            refine beginZw 10 (fun w' => w'.heap[w.heap.size]? = some (.cells #[.int .i64 (na : Int), .int .i64 (nb : Int), .slice (some ad) m c] tRel) ∧ w'.heap[bx]? = some (.cells #[.int .i64 (nb : Int), .slice A' k c'] tMat)) (by kernel_rfl) (fun W1 hW1 => ?_)
            rw [← hW1] at hC_h hbd_h
            clear hc hW1 y0 y1 y2 y3 y4 y5
            have k0a := box_below k0r_h.out hbd_h.out
            have kbxa := box_below kbx hbd_h.out
            have hF := And.intro k0a kbxa
            clear k0a kbxa
            have hF_h := Lib.hid hF
            have kbx_h := Lib.hid kbx
            clear hF kbx
            refine takeC 0 (v := ?_) rfl (by kernel_rfl) (by kernel_rfl) (by kernel_rfl) (by kernel_rfl) (fun _ _ _ h => h) hF_h.out (by rfl) (fun W' hW' => ?_) ?_; rotate_left; · (obtain ⟨⟨y0, y1, y2⟩, y3, y4, y5⟩ := box3 hW'.1; obtain ⟨⟨x0, x1⟩, x2, x3⟩ := box2 hW'.2; clear hW'; go_simp; first | done | with_reducible rfl)
            simp only [Act.put, List.setIfInBounds_toArray, List.set_cons_zero, List.set_cons_succ]
            refine takeC 1 (v := ?_) rfl (by kernel_rfl) (by kernel_rfl) (by kernel_rfl) (by kernel_rfl) (fun _ _ _ h => h) hF_h.out (by rfl) (fun W' hW' => ?_) ?_; rotate_left; · (obtain ⟨⟨y0, y1, y2⟩, y3, y4, y5⟩ := box3 hW'.1; obtain ⟨⟨x0, x1⟩, x2, x3⟩ := box2 hW'.2; clear hW'; go_simp; first | done | with_reducible rfl)
            simp only [Act.put, List.setIfInBounds_toArray, List.set_cons_zero, List.set_cons_succ]
            refine takeC 2 (v := ?_) rfl (by kernel_rfl) (by kernel_rfl) (by kernel_rfl) (by kernel_rfl) (fun _ _ _ h => h) hF_h.out (by rfl) (fun W' hW' => ?_) ?_; rotate_left; · (obtain ⟨⟨y0, y1, y2⟩, y3, y4, y5⟩ := box3 hW'.1; obtain ⟨⟨x0, x1⟩, x2, x3⟩ := box2 hW'.2; clear hW'; go_simp; first | done | with_reducible rfl)
            simp only [Act.put, List.setIfInBounds_toArray, List.set_cons_zero, List.set_cons_succ]
            refine takeC 3 (v := ?_) rfl (by kernel_rfl) (by kernel_rfl) (by kernel_rfl) (by kernel_rfl) (fun _ _ _ h => h) hF_h.out (by rfl) (fun W' hW' => ?_) ?_; rotate_left; · (obtain ⟨⟨y0, y1, y2⟩, y3, y4, y5⟩ := box3 hW'.1; obtain ⟨⟨x0, x1⟩, x2, x3⟩ := box2 hW'.2; clear hW'; go_simp; first | done | with_reducible rfl)
            simp only [Act.put, List.setIfInBounds_toArray, List.set_cons_zero, List.set_cons_succ]
            refine takeC 4 (v := ?_) rfl (by kernel_rfl) (by kernel_rfl) (by kernel_rfl) (by kernel_rfl) (fun _ _ _ h => h) hF_h.out (by rfl) (fun W' hW' => ?_) ?_; rotate_left; · (obtain ⟨⟨y0, y1, y2⟩, y3, y4, y5⟩ := box3 hW'.1; obtain ⟨⟨x0, x1⟩, x2, x3⟩ := box2 hW'.2; clear hW'; go_simp; first | done | with_reducible rfl)
            simp only [Act.put, List.setIfInBounds_toArray, List.set_cons_zero, List.set_cons_succ]
            refine takeC 5 (v := .slice A2 nb (d - na)) rfl (by kernel_rfl) (by kernel_rfl) (by kernel_rfl) (by kernel_rfl) (fun _ _ _ h => h) hF_h.out (by rfl) (fun W' _ => xop_sliceW rfl (hr2_h.out W')) ?_
            simp only [Act.put, List.setIfInBounds_toArray, List.set_cons_zero, List.set_cons_succ]
            refine callZ 6 (f := ?f1) (args := ?args1) rfl (by kernel_rfl) (by rfl) ?hrun1 ?hcall1
            case hrun1 => (go_simp; first | done | with_reducible rfl | (constructor <;> with_reducible rfl))
            case hcall1 =>
              refine (hC_h.out).mono ?_
              rintro e w5 ⟨A4, c4, rfl, hi4, hf4, hb4⟩
              rw [hpl_h.out]
              have hF5 := And.intro (box_below hF_h.out.1 hb4) (box_below hF_h.out.2 hb4)
              refine ⟨_, rfl, fun _ => hF5, ?_⟩
              have hF6 := And.intro (box_below hF5.1 (below_alloc w5 (.cells #[.slice A4 nb c4] 37))) (box_below hF5.2 (below_alloc w5 (.cells #[.slice A4 nb c4] 37)))
              have hB5 := below_trans hbd_h.out hb4 hbd_h.out.size
              have hz5 := hB5.size
              have hzd := hbd_h.out.size
              obtain ⟨ys, hLy, hOy, hfy, h0y, h1y, h2y⟩ := hOM_h.out
              have hyl : ys.length = k := by
                have := congrArg List.length hLy
                rw [List.length_map, List.length_map, List.length_take, hLm_h.out] at this; omega
              have hsl : Sl (w5.alloc (.cells #[.slice A4 nb c4] 37)) 37 1 A' k c' (ys.map Hd.val) := by
                have := (hOy.sl.below hB5).alloc (.cells #[.slice A4 nb c4] 37)
                rwa [hyl] at this
              clear hF5 hb4
              have hF6_h := Lib.hid hF6
              have hB5_h := Lib.hid hB5
              have hi4_h := Lib.hid hi4
              have hf4_h := Lib.hid hf4
              have hsl_h := Lib.hid hsl
              have hLy_h := Lib.hid hLy
              have hOy_h := Lib.hid hOy
              have hfy_h := Lib.hid hfy
              have h0y_h := Lib.hid h0y
              have hyl_h := Lib.hid hyl
              clear hF6 hB5 hi4 hf4 hsl hLy hOy hfy h0y hyl
              simp only [Act.put, List.setIfInBounds_toArray, List.set_cons_zero, List.set_cons_succ]
              refine oneZ 7 rfl (by kernel_rfl) (by rfl) (fun K hK => ?_)
              go_simp
              refine hK _ _ (fun _ => hF6_h.out) ?_
              clear hK K
              refine appZ 8 rfl (by kernel_rfl) (by rfl) _ _ _ rfl 37 Tryd.underlying22 info_ints rfl (by omega) rfl hsl_h.out rfl (news := [.slice A4 nb c4]) rfl (Sl.rdc (Sl.laid w5 37 1 1 #[.slice A4 nb c4] (by unfold maxLen; omega) rfl)) (by intro u hu; simp at hu; subst hu; rfl) (by unfold maxLen; omega) (by omega) ?_
              intro A6 c6 w6 hsA6 hA6 hkA6 hrdA6
              clear hrdA6
              have hal : Below w5.heap.size w5 (w5.alloc (.cells #[.slice A4 nb c4] 37)) := below_alloc _ _
              have hO6 := OMx.snoc (w1 := w5.alloc (.cells #[.slice A4 nb c4] 37)) hLy_h.out hOy_h.out hfy_h.out h0y_h.out h1y h2y (below_trans hB5_h.out hal hB5_h.out.size) (hi4_h.out.below hal) (hf4_h.out.mono hzd) (by rw [hyl_h.out]) (by rw [hpl_h.out]; exact hsA6) hA6 hkA6
              have hF7 := And.intro (box_keeps hF6_h.out.1 hkA6 (fun h => by have := (hfy_h.out _ (List.mem_append_left _ h)).1; have := hbx_h.out; omega)) (box_keeps hF6_h.out.2 hkA6 (fun h => (hfy_h.out _ (List.mem_append_left _ h)).2 rfl))
              refine ⟨fun _ => hF7, ?_⟩
              obtain ⟨s1, s2⟩ := set_f1 (b := .slice A6 (k + 1) c6) hF7.2
              have hO7 := hO6.store s2
              have hkq : Keeps (fun b => W4.heap.size ≤ b ∨ b = bx) W4 w6 := by
                refine ((hkw_h.out.trans ((Keeps.of_below hB5_h.out _).mono fun _ _ h => h)).trans (Keeps.of_below hal _)).trans (hkA6.mono fun b _ hb => ?_)
                have := hfy_h.out b (List.mem_append_left _ hb)
                have := hbx_h.out
                left; omega
              have hkr := hkq.trans (s2.mono fun b _ hb => .inr hb)
              obtain ⟨⟨x0, x1⟩, x2, x3⟩ := box2 hF7.2
              clear hsA6 hA6 hkA6 hO6 s2 hkq hal
              have hF7_h := Lib.hid hF7
              have hO7_h := Lib.hid hO7
              have s1_h := Lib.hid s1
              have hkr_h := Lib.hid hkr
              clear hF7 hO7 s1 hkr
              simp only [Act.put, List.setIfInBounds_toArray, List.set_cons_zero, List.set_cons_succ]
              refine takeC 9 (v := ?_) rfl (by kernel_rfl) (by kernel_rfl) (by kernel_rfl) (by kernel_rfl) (fun _ _ _ h => h) hF7_h.out (by rfl) (fun W' hW' => ?_) ?_; rotate_left; · (skip; clear hW'; go_simp; first | done | with_reducible rfl)
              simp only [Act.put, List.setIfInBounds_toArray, List.set_cons_zero, List.set_cons_succ]
              refine oneZ 10 rfl (by kernel_rfl) (by rfl) (fun K hK => ?_)
              go_simp
              refine hK _ _ (fun h => by cases h) ?_
              clear hK K
              refine doneZ (by kernel_rfl) ?_
              go_wp2_with (fail)
              go_roundw
              case rel => exact ⟨k + 1, A6, c6, by omega, by go_num, s1_h.out, by rw [List.take_add_one, hyL_h.out, List.map_append]; exact hO7_h.out, hkr_h.out⟩
              case measure => simp [intOf]; omega
          · obtain rfl : k = m := by omega
            have hOM2 : OMx w3 bx wr A' c' (L.map (partV na nb)) := by rwa [List.take_of_length_le (by rw [hLm_h.out]; exact Nat.le_refl _)] at hOM
            have hB5 := below_trans hB3'_h.out hOM2.below_ hB3'_h.out.size
            have hz5 := hB5.size
            obtain ⟨⟨x0, x1⟩, x2, x3⟩ := box2 kbx
            obtain ⟨⟨d0, d1⟩, g0, g1⟩ := box2 k1r
            obtain ⟨s1, s2⟩ := set2 (a := .int .i64 (nb : Int)) (b := .slice A' k c') k1r
            obtain ⟨fp3, hO5, hf5⟩ := OwMt.of_ret (a := (nb : Int)) hOM2.om s2 (fun k hk => by omega) (by rw [List.length_map, hLm_h.out])
            have hB6 := below_keeps hB5 s2 hB5.size (fun k hk => by omega)
            have hf6 := hf5.mono hB3'_h.out.size
            clear hOM hOM2 hkw hf5 s2 kbx
            have s1_h := Lib.hid s1
            have hO5_h := Lib.hid hO5
            have hf6_h := Lib.hid hf6
            have hB6_h := Lib.hid hB6
            clear s1 hO5 hf6 hB6
            go_wp2_with (fail)
            refine bodyPost_ret (results_cell_tmp rfl _ _ (w.heap.size + 1) _ _ (0, 0) _ rfl s1_h.out Tryd.underlying65 rfl (by kernel_rfl)) rfl ?_
            exact ⟨_, rfl, fp3, by rw [hpf'_h.out]; exact hO5_h.out, hf6_h.out, hB6_h.out⟩
      · have hg' : singB s = false := by simpa using hg
        rw [hg'] at hC1
        simp only [hg'] at hS
        have hC2 : C = ((0, []), false) := hC1
        subst hC2
        clear hC1 hg hg' hOw
        have hG_h := Lib.hid hG
        have hT_h := Lib.hid hT
        have hS_h := Lib.hid hS
        have k0_h := Lib.hid k0
        have k1_h := Lib.hid k1
        have b0_h := Lib.hid b0
        have hof_h := Lib.hid hof
        clear hG hT hS k0 k1 b0 hof
        go_enter Tryd.func52, Tryd.ntmps52
        go_upto_region 1 with (fail)
        rw [← hW]
        clear hW
        go_wp2_with (fail)
        refine (hG_h.out).mono ?_
        rintro e w1 ⟨rfl, hb1⟩
        clear c0 c1 c2 f0 f1 f2
        replace k0_h := Lib.hid (box_below k0_h.out hb1)
        replace k1_h := Lib.hid (box_below k1_h.out hb1)
        have hB1 := below_trans b0_h.out hb1 b0_h.out.size
        obtain ⟨⟨c0, c1, c2⟩, f0, f1, f2⟩ := box3 k0_h.out
        have hT1 := hT_h.out w1 hb1 hof_h.out
        have hT1_h := Lib.hid hT1
        have hB1_h := Lib.hid hB1
        have hb1_h := Lib.hid hb1
        clear hT1 hB1 hb1
        go_wp2_with (fail)
        refine (hT1_h.out).mono ?_
        rintro e w2 ⟨rfl, hb2⟩
        clear c0 c1 c2 f0 f1 f2
        replace k0_h := Lib.hid (box_below k0_h.out hb2)
        replace k1_h := Lib.hid (box_below k1_h.out hb2)
        have hB2 := below_trans hB1_h.out hb2 hB1_h.out.size
        have hb12 := below_trans hb1_h.out hb2 hb1_h.out.size
        obtain ⟨⟨c0, c1, c2⟩, f0, f1, f2⟩ := box3 k0_h.out
        have hS1 := hS_h.out w2 hb12 hof_h.out
        have hS1_h := Lib.hid hS1
        have hB2_h := Lib.hid hB2
        have hb2_h := Lib.hid hb2
        have hb12_h := Lib.hid hb12
        clear hS1 hB2 hb2 hb12
        go_wp2_with (fail)
        refine (hS1_h.out).mono ?_
        rintro e w3 ⟨rfl, hb3⟩
        clear c0 c1 c2 f0 f1 f2
        replace k0_h := Lib.hid (box_below k0_h.out hb3)
        replace k1_h := Lib.hid (box_below k1_h.out hb3)
        have hB3' := below_trans hB2_h.out hb3 hB2_h.out.size
        have hb13 := below_trans hb12_h.out hb3 hb12_h.out.size
        have hb3_h := Lib.hid hb3
        have hB3'_h := Lib.hid hB3'
        have hb13_h := Lib.hid hb13
        clear hb3 hB3' hb13
        obtain ⟨⟨d0, d1⟩, g0, g1⟩ := box2 k1_h.out
        obtain ⟨s1, s2⟩ := set2 (a := .int .i64 0) (b := .slice none 0 0) k1_h.out
        have hz1 : w.heap.size + 1 < w3.heap.size := (Array.getElem?_eq_some_iff.1 k1_h.out).1
        have hB3 := below_keeps hB3'_h.out s2 (hB3'_h.out).size (fun k hk => by omega)
        have s1_h := Lib.hid s1
        have s2_h := Lib.hid s2
        have hB3_h := Lib.hid hB3
        clear s1 s2 hB3
        go_wp2_with (fail)
        refine bodyPost_ret (results_cell_tmp rfl _ _ (w.heap.size + 1) _ _ (0, 0) _ rfl s1_h.out Tryd.underlying65 rfl (by kernel_rfl)) rfl ?_
        exact ⟨_, [], rfl, OwMt.zero _ 0, FreshL.nil _, hB3_h.out⟩
    · have ht' : totB p s = false := by simpa using ht
      rw [ht'] at hC1
      simp only [ht'] at hT
      have hC2 : C = ((0, []), false) := hC1
      subst hC2
      clear hC1 ht ht' hS hOw
      have hG_h := Lib.hid hG
      have hT_h := Lib.hid hT
      have k0_h := Lib.hid k0
      have k1_h := Lib.hid k1
      have b0_h := Lib.hid b0
      have hof_h := Lib.hid hof
      clear hG hT k0 k1 b0 hof
      go_enter Tryd.func52, Tryd.ntmps52
      go_upto_region 1 with (fail)
      rw [← hW]
      clear hW
      go_wp2_with (fail)
      refine (hG_h.out).mono ?_
      rintro e w1 ⟨rfl, hb1⟩
      clear c0 c1 c2 f0 f1 f2
      replace k0_h := Lib.hid (box_below k0_h.out hb1)
      replace k1_h := Lib.hid (box_below k1_h.out hb1)
      have hB1 := below_trans b0_h.out hb1 b0_h.out.size
      obtain ⟨⟨c0, c1, c2⟩, f0, f1, f2⟩ := box3 k0_h.out
      have hT1 := hT_h.out w1 hb1 hof_h.out
      have hT1_h := Lib.hid hT1
      have hB1_h := Lib.hid hB1
      have hb1_h := Lib.hid hb1
      clear hT1 hB1 hb1
      go_wp2_with (fail)
      refine (hT1_h.out).mono ?_
      rintro e w2 ⟨rfl, hb2⟩
      clear c0 c1 c2 f0 f1 f2
      replace k0_h := Lib.hid (box_below k0_h.out hb2)
      replace k1_h := Lib.hid (box_below k1_h.out hb2)
      have hB2 := below_trans hB1_h.out hb2 hB1_h.out.size
      have hb12 := below_trans hb1_h.out hb2 hb1_h.out.size
      have hb2_h := Lib.hid hb2
      have hB2_h := Lib.hid hB2
      have hb12_h := Lib.hid hb12
      clear hb2 hB2 hb12
      obtain ⟨⟨d0, d1⟩, g0, g1⟩ := box2 k1_h.out
      obtain ⟨s1, s2⟩ := set2 (a := .int .i64 0) (b := .slice none 0 0) k1_h.out
      have hz1 : w.heap.size + 1 < w2.heap.size := (Array.getElem?_eq_some_iff.1 k1_h.out).1
      have hB3 := below_keeps hB2_h.out s2 (hB2_h.out).size (fun k hk => by omega)
      have s1_h := Lib.hid s1
      have s2_h := Lib.hid s2
      have hB3_h := Lib.hid hB3
      clear s1 s2 hB3
      go_wp2_with (fail)
      refine bodyPost_ret (results_cell_tmp rfl _ _ (w.heap.size + 1) _ _ (0, 0) _ rfl s1_h.out Tryd.underlying65 rfl (by kernel_rfl)) rfl ?_
      exact ⟨_, [], rfl, OwMt.zero _ 0, FreshL.nil _, hB3_h.out⟩
  · have hb' : relB p s = false := by simpa using hb
    rw [hb'] at hG hC0
    have hC1 : C = ((0, []), false) := hC0
    subst hC1
    clear h ok hb hb' hC0 hT hS hOw
    have hG_h := Lib.hid hG
    have k0_h := Lib.hid k0
    have k1_h := Lib.hid k1
    have b0_h := Lib.hid b0
    clear hG k0 k1 b0
    go_enter Tryd.func52, Tryd.ntmps52
    go_upto_region 1 with (fail)
    rw [← hW]
    clear hW
    go_wp2_with (fail)
    refine (hG_h.out).mono ?_
    rintro e w1 ⟨rfl, hb1⟩
    clear c0 c1 c2 f0 f1 f2
    replace k0_h := Lib.hid (box_below k0_h.out hb1)
    replace k1_h := Lib.hid (box_below k1_h.out hb1)
    have hB1 := below_trans b0_h.out hb1 b0_h.out.size
    have hB1_h := Lib.hid hB1
    have hb1_h := Lib.hid hb1
    clear hB1 hb1
    obtain ⟨⟨d0, d1⟩, g0, g1⟩ := box2 k1_h.out
    obtain ⟨s1, s2⟩ := set2 (a := .int .i64 0) (b := .slice none 0 0) k1_h.out
    have hz1 : w.heap.size + 1 < w1.heap.size := (Array.getElem?_eq_some_iff.1 k1_h.out).1
    have hB3 := below_keeps hB1_h.out s2 (hB1_h.out).size (fun k hk => by omega)
    have s1_h := Lib.hid s1
    have s2_h := Lib.hid s2
    have hB3_h := Lib.hid hB3
    clear s1 s2 hB3
    go_wp2_with (fail)
    refine bodyPost_ret (results_cell_tmp rfl _ _ (w.heap.size + 1) _ _ (0, 0) _ rfl s1_h.out Tryd.underlying65 rfl (by kernel_rfl)) rfl ?_
    exact ⟨_, [], rfl, OwMt.zero _ 0, FreshL.nil _, hB3_h.out⟩

theorem funM_ok {p : Int} {s : Sys} : OkR (funM p s).1.2 := by
  unfold funM
  split
  · rename_i h
    have hs := RelOk.of (by simp only [Bool.and_eq_true] at h; exact h.1)
    have hm := secondM_mat hs
    have := hs.len; have := hs.sum; have := hs.hi; have := hs.lo
    exact okR_mat hm (by omega) (by omega)
  · exact okR_nil
end Go.Proofs.YtpfidjegdpkhdaaDoor
