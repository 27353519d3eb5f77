/-
  THE LAW's HELPERS OVER GRAPHS: to.

  SLICES OF EDGES: made, written in their places, grown.
-/
import Derived.Test.YtanhmljgeiajoaaGrM
import Derived.Test.YtanhmljgeiajoaaGrSz
namespace Go.Proofs.Ytanhmljgeiajoaa
open Go.RowKit

theorem info_ed : (Try.prog.info? tEd).map (fun i => (i.zero, i.size, i.bytes)) = some (some (.agg #[.int .i64 0, .int .i64 0, .slice none 0 0, .slice none 0 0]), 4, 64) := by kernel_rfl
def eh0 : EHd := (0, 0, (none, 0, []), (none, 0, []))
theorem madeEdges (n : Nat) : (madeCells (Value.agg #[.int .i64 0, .int .i64 0, .slice none 0 0, .slice none 0 0]).cells (n * 4)).toList.take (n * 4) = ecs (List.replicate n eh0) := by
  have hs : (madeCells (Value.agg #[.int .i64 0, .int .i64 0, .slice none 0 0, .slice none 0 0]).cells (n * 4)).toList.length = n * 4 := by rw [Array.length_toList, size_madeCells]
  rw [List.take_of_length_le (by omega)]
  apply List.ext_getElem?
  intro j
  by_cases hj : j < n * 4
  · have key : ∀ q r, q * 4 + r < n * 4 → r < 4 → (madeCells (Value.agg #[.int .i64 0, .int .i64 0, .slice none 0 0, .slice none 0 0]).cells (n * 4)).toList[q * 4 + r]? = (ec eh0)[r]? := by
      intro q r h hr
      have hm : (q * 4 + r) % 4 = r := by omega
      have hr' : r = 0 ∨ r = 1 ∨ r = 2 ∨ r = 3 := by omega
      simp only [madeCells, Value.cells, Array.toList_map, List.getElem?_map, Array.toList_range, List.getElem?_range h, Option.map_some]
      show some (_[(q * 4 + r) % 4]!) = _
      rw [hm]
      rcases hr' with rfl | rfl | rfl | rfl <;> rfl
    have hq : j / 4 < n := by omega
    have hg := ecs_get (l := List.replicate n eh0) (j := j / 4) (n := eh0) (by simp [hq])
    have e : j = j / 4 * 4 + j % 4 := by omega
    have hr' : j % 4 = 0 ∨ j % 4 = 1 ∨ j % 4 = 2 ∨ j % 4 = 3 := by omega
    rw [e]
    rcases hr' with h | h | h | h <;> rw [h] at e ⊢
    · rw [key _ 0 (by omega) (by omega)]; exact hg.1.symm
    · rw [key _ 1 (by omega) (by omega)]; exact hg.2.1.symm
    · rw [key _ 2 (by omega) (by omega)]; exact hg.2.2.1.symm
    · rw [key _ 3 (by omega) (by omega)]; exact hg.2.2.2.symm
  · rw [List.getElem?_eq_none (by omega), List.getElem?_eq_none (by simp; omega)]
section
variable {w : World} {A : Option Addr} {n cap : Nat} {hs : List EHd}
theorem ES.set (h : Sl w tEd 4 A n cap (ecs hs)) (hn : hs.length = n) {ad : Addr} (hA : A = some ad) {j : Nat} (k v : Int) (B C : Option Addr) (b c : Nat) (l m : List Int) (hj : j < n) :
    Sl ((((w.setCell (ad.add (j * 4)) (.int .i64 k)).setCell ⟨(ad.add (j * 4)).block, (ad.add (j * 4)).off + 1, none⟩ (.int .i64 v)).setCell ⟨(ad.add (j * 4)).block, (ad.add (j * 4)).off + 2, none⟩ (.slice B l.length b)).setCell ⟨(ad.add (j * 4)).block, (ad.add (j * 4)).off + 3, none⟩ (.slice C m.length c)) tEd 4 A n cap (ecs (hs.set j (k, v, (B, b, l), (C, c, m)))) ∧
    Keeps (· ∈ fpA A) w ((((w.setCell (ad.add (j * 4)) (.int .i64 k)).setCell ⟨(ad.add (j * 4)).block, (ad.add (j * 4)).off + 1, none⟩ (.int .i64 v)).setCell ⟨(ad.add (j * 4)).block, (ad.add (j * 4)).off + 2, none⟩ (.slice B l.length b)).setCell ⟨(ad.add (j * 4)).block, (ad.add (j * 4)).off + 3, none⟩ (.slice C m.length c)) := by
  have hl : (ecs hs).length = n * 4 := by rw [ecs_length, hn]
  have s1 := Sl.set h hA (j * 4) (.int .i64 k) (by omega)
  have s2 := Sl.set s1 hA (j * 4 + 1) (.int .i64 v) (by rw [List.length_set]; omega)
  have s3 := Sl.set s2 hA (j * 4 + 2) (.slice B l.length b) (by rw [List.length_set, List.length_set]; omega)
  have s4 := Sl.set s3 hA (j * 4 + 3) (.slice C m.length c) (by rw [List.length_set, List.length_set, List.length_set]; omega)
  have e := ecs_set (l := hs) (j := j) (k, v, (B, b, l), (C, c, m)) (by omega)
  simp only [Hd.val] at e
  rw [e, add_next ad (j * 4) 1 (by omega), add_next ad (j * 4) 2 (by omega), add_next ad (j * 4) 3 (by omega)] at s4
  refine ⟨s4, ?_⟩
  have hb : (ad.add (j * 4)).block ∈ fpA A := by rw [block_of_add, hA]; simp
  exact ((((Keeps.refl _ w).setCell (p := ad.add (j * 4)) hb _).setCell (p := ⟨(ad.add (j * 4)).block, (ad.add (j * 4)).off + 1, none⟩) hb _).setCell (p := ⟨(ad.add (j * 4)).block, (ad.add (j * 4)).off + 2, none⟩) hb _).setCell (p := ⟨(ad.add (j * 4)).block, (ad.add (j * 4)).off + 3, none⟩) hb _
/-- The worlds on the way may be written in too. -/
theorem ES.mid {ad : Addr} (h : Sl w tEd 4 (some ad) n cap (ecs hs)) (hn : hs.length = n) {j : Nat} (k v : Int) (s : Value) (hj : j < n) :
    ((∃ x, w.cell? (ad.add (j * 4)) = some x) ∧ w.frozen? (ad.add (j * 4)) = false) ∧
    ((∃ x, (w.setCell (ad.add (j * 4)) (.int .i64 k)).cell? ⟨(ad.add (j * 4)).block, (ad.add (j * 4)).off + 1, none⟩ = some x) ∧ (w.setCell (ad.add (j * 4)) (.int .i64 k)).frozen? ⟨(ad.add (j * 4)).block, (ad.add (j * 4)).off + 1, none⟩ = false) ∧
    ((∃ x, ((w.setCell (ad.add (j * 4)) (.int .i64 k)).setCell ⟨(ad.add (j * 4)).block, (ad.add (j * 4)).off + 1, none⟩ (.int .i64 v)).cell? ⟨(ad.add (j * 4)).block, (ad.add (j * 4)).off + 2, none⟩ = some x) ∧
    ((w.setCell (ad.add (j * 4)) (.int .i64 k)).setCell ⟨(ad.add (j * 4)).block, (ad.add (j * 4)).off + 1, none⟩ (.int .i64 v)).frozen? ⟨(ad.add (j * 4)).block, (ad.add (j * 4)).off + 2, none⟩ = false) ∧
    ((∃ x, (((w.setCell (ad.add (j * 4)) (.int .i64 k)).setCell ⟨(ad.add (j * 4)).block, (ad.add (j * 4)).off + 1, none⟩ (.int .i64 v)).setCell ⟨(ad.add (j * 4)).block, (ad.add (j * 4)).off + 2, none⟩ s).cell? ⟨(ad.add (j * 4)).block, (ad.add (j * 4)).off + 3, none⟩ = some x) ∧
    (((w.setCell (ad.add (j * 4)) (.int .i64 k)).setCell ⟨(ad.add (j * 4)).block, (ad.add (j * 4)).off + 1, none⟩ (.int .i64 v)).setCell ⟨(ad.add (j * 4)).block, (ad.add (j * 4)).off + 2, none⟩ s).frozen? ⟨(ad.add (j * 4)).block, (ad.add (j * 4)).off + 3, none⟩ = false) := by
  have hl : (ecs hs).length = n * 4 := by rw [ecs_length, hn]
  have s1 := Sl.set h rfl (j * 4) (.int .i64 k) (by omega)
  have s2 := Sl.set s1 rfl (j * 4 + 1) (.int .i64 v) (by rw [List.length_set]; omega)
  have s3 := Sl.set s2 rfl (j * 4 + 2) s (by rw [List.length_set, List.length_set]; omega)
  rw [← add_next ad (j * 4) 1 (by omega), ← add_next ad (j * 4) 2 (by omega), ← add_next ad (j * 4) 3 (by omega)]
  obtain ⟨a0, h0, _, c0, f0⟩ := Sl.cell h (j := j * 4) (u := _) (List.getElem?_eq_getElem (by omega))
  obtain ⟨a1, h1, _, c1, f1⟩ := Sl.cell s1 (j := j * 4 + 1) (u := _) (List.getElem?_eq_getElem (by rw [List.length_set]; omega))
  obtain ⟨a2, h2, _, c2, f2⟩ := Sl.cell s2 (j := j * 4 + 2) (u := _) (List.getElem?_eq_getElem (by rw [List.length_set, List.length_set]; omega))
  obtain ⟨a3, h3, _, c3, f3⟩ := Sl.cell s3 (j := j * 4 + 3) (u := _) (List.getElem?_eq_getElem (by rw [List.length_set, List.length_set, List.length_set]; omega))
  obtain rfl := Option.some.inj h0
  obtain rfl := Option.some.inj h1
  obtain rfl := Option.some.inj h2
  obtain rfl := Option.some.inj h3
  exact ⟨⟨⟨_, c0⟩, f0 _⟩, ⟨⟨_, c1⟩, f1 _⟩, ⟨⟨_, c2⟩, f2 _⟩, ⟨_, c3⟩, f3 _⟩
end
theorem egs_take_step {l : List EHd} {ys : List EHd} {k : Nat} {x y : EHd} (hx : l[k]? = some x) (h : ys.map egOf = (l.take k).map egOf) (he : egOf y = egOf x) : (ys ++ [y]).map egOf = (l.take (k + 1)).map egOf := by
  rw [List.map_append, h, List.take_add_one, hx]; simp [he]
theorem set_rep_step {α : Type} (hs : List α) (x d : α) {n k : Nat} (hk : hs.length = k) (h : k < n) : (hs ++ List.replicate (n - k) d).set k x = (hs ++ [x]) ++ List.replicate (n - (k + 1)) d := by
  subst hk
  rw [List.set_append_right _ _ (Nat.le_refl _), Nat.sub_self, show n - hs.length = (n - (hs.length + 1)) + 1 by omega, List.replicate_succ, List.set_cons_zero, List.append_assoc]
  rfl
end Go.Proofs.Ytanhmljgeiajoaa
namespace Go.Proofs.Ytanhmljgeiajoaa
open Go.RowKit

theorem box_set {w : World} {B : Nat} {cs : Array Value} {t : TypeId} (h : w.heap[B]? = some (.cells cs t)) (i : Nat) (x : Value) : (w.setCell ⟨B, i, none⟩ x).heap[B]? = some (.cells (cs.setIfInBounds i x) t) ∧ Keeps (· = B) w (w.setCell ⟨B, i, none⟩ x) :=
  ⟨by simp [World.setCell, Array.getElem?_modify, h], (Keeps.refl (fun x => x = B) w).setCell (p := ⟨B, i, none⟩) rfl _⟩
theorem allocs3 (w : World) (o o' o'' : Obj) : ∃ W, W = ((w.alloc o).alloc o').alloc o'' ∧ Below w.heap.size w W ∧ W.heap[w.heap.size]? = some o ∧ W.heap[w.heap.size + 1]? = some o' ∧ W.heap[w.heap.size + 1 + 1]? = some o'' := by
  refine ⟨_, rfl, ((below_alloc w o).alloc (by simp) _).alloc (by simp; omega) _, ?_, ?_, ?_⟩
  · exact box_below (box_below (heap_alloc_new w o) (below_alloc _ _)) (below_alloc _ _)
  · have := heap_alloc_new (w.alloc o) o'
    rw [World.size_alloc] at this
    exact box_below this (below_alloc _ _)
  · have := heap_alloc_new ((w.alloc o).alloc o') o''
    rw [World.size_alloc, World.size_alloc] at this
    exact this
theorem set4 {w : World} {B : Nat} {t : TypeId} {x y z u a b c d : Value} (h : w.heap[B]? = some (.cells #[x, y, z, u] t)) : ((((w.setCell ⟨B, 0, none⟩ a).setCell ⟨B, 1, none⟩ b).setCell ⟨B, 2, none⟩ c).setCell ⟨B, 3, none⟩ d).heap[B]? = some (.cells #[a, b, c, d] t) ∧ Keeps (· = B) w ((((w.setCell ⟨B, 0, none⟩ a).setCell ⟨B, 1, none⟩ b).setCell ⟨B, 2, none⟩ c).setCell ⟨B, 3, none⟩ d) := by
  obtain ⟨h1, k1⟩ := box_set h 0 a
  obtain ⟨h2, k2⟩ := box_set h1 1 b
  obtain ⟨h3, k3⟩ := box_set h2 2 c
  obtain ⟨h4, k4⟩ := box_set h3 3 d
  exact ⟨h4, ((k1.trans k2).trans k3).trans k4⟩
/-- Lists of ints, whole, in a call's own memory. -/
def NewLs (w w' : World) (ls : List Hd) : Prop := OwLs w' [] ls ∧ FreshL w.heap.size (fpR ls)
set_option maxRecDepth 100000 in
set_option maxHeartbeats 1000000 in
theorem toEdge_any (k v : Int) (B C : Option Addr) (b c : Nat) (l m : List Int) (w : World) (hB : RdI w B l) (hC : RdI w C m) (hl : l.length ≤ 1048576) (hm : m.length ≤ 1048576) :
    Calls Try.prog 89 #[.agg #[.int .i64 k, .int .i64 v, .slice B l.length b, .slice C m.length c]] w fun e w' => ∃ (x y : Hd), e = .returned (.agg #[.int .i64 k, .int .i64 v, .slice x.1 l.length x.2.1, .slice y.1 m.length y.2.1]) ∧ x.2.2 = l ∧ y.2.2 = m ∧ NewLs w w' [x, y] ∧ Below w.heap.size w w' := by
  obtain ⟨p, hp⟩ : ∃ p, p = l.length := ⟨_, rfl⟩
  obtain ⟨q, hq⟩ : ∃ q, q = m.length := ⟨_, rfl⟩
  have hC1 := fun (W : World) (hb : Below w.heap.size w W) => toIntS_any B b l W (hB.below hb) (by omega)
  have hC2 := fun (W : World) (hb : Below w.heap.size w W) => toIntS_any C c m W (hC.below hb) (by omega)
  simp only [← hp] at hC1
  simp only [← hq] at hC2
  rw [← hp, ← hq]
  obtain ⟨W, hW, bW, k0, k1, k2⟩ := allocs3 w (.cells #[.int .i64 k, .int .i64 v, .slice B p b, .slice C q c] 101) (.cells #[.int .i64 0, .int .i64 0, .slice none 0 0, .slice none 0 0] tEd) (.cells #[.int .i64 0, .int .i64 0, .slice none 0 0, .slice none 0 0] tEd)
  obtain ⟨W1, hW1⟩ : ∃ W1, W1 = W.setCell ⟨w.heap.size + 1 + 1, 0, none⟩ (.int .i64 k) := ⟨_, rfl⟩
  obtain ⟨j2, s1⟩ := box_set k2 0 (.int .i64 k)
  rw [← hW1] at j2 s1
  have j0 := box_keeps k0 s1 (by omega)
  have j1 := box_keeps k1 s1 (by omega)
  have bW1 := below_keeps bW s1 bW.size (fun x hx => by omega)
  obtain ⟨W2, hW2⟩ : ∃ W2, W2 = W1.setCell ⟨w.heap.size + 1 + 1, 1, none⟩ (.int .i64 v) := ⟨_, rfl⟩
  obtain ⟨i2, s2⟩ := box_set j2 1 (.int .i64 v)
  rw [← hW2] at i2 s2
  have i2' : W2.heap[w.heap.size + 1 + 1]? = some (.cells #[.int .i64 k, .int .i64 v, .slice none 0 0, .slice none 0 0] tEd) := i2
  have j2' : W1.heap[w.heap.size + 1 + 1]? = some (.cells #[.int .i64 k, .int .i64 0, .slice none 0 0, .slice none 0 0] tEd) := j2
  have i0 := box_keeps j0 s2 (by omega)
  have i1 := box_keeps j1 s2 (by omega)
  have bW2 := below_keeps bW1 s2 bW1.size (fun x hx => by omega)
  have hz2 := box_lt i2'
  obtain ⟨⟨c0, c1, c2, c3⟩, f0, f1, f2, f3⟩ := box4 k0
  obtain ⟨⟨d0, d1, d2, d3⟩, g0, g1, g2, g3⟩ := box4 k2
  clear hB hC j2 i2 bW bW1
  have hC1_h := Lib.hid hC1
  have hC2_h := Lib.hid hC2
  have hp_h := Lib.hid hp
  have hq_h := Lib.hid hq
  have k0_h := Lib.hid k0
  have k1_h := Lib.hid k1
  have k2_h := Lib.hid k2
  have j0_h := Lib.hid j0
  have j1_h := Lib.hid j1
  have j2'_h := Lib.hid j2'
  have i0_h := Lib.hid i0
  have i1_h := Lib.hid i1
  have i2'_h := Lib.hid i2'
  have bW2_h := Lib.hid bW2
  have s1_h := Lib.hid s1
  have s2_h := Lib.hid s2
  clear hC1 hC2 hp hq k0 k1 k2 j0 j1 j2' i0 i1 i2' bW2 s1 s2
  go_enter Try.func89, Try.ntmps89
  go_upto_region 2 with (fail)
  rw [← hW]
  clear hW
  go_upto_region 3 with (fail)
  rw [← hW1]
  clear hW1 c0 c1 c2 c3 f0 f1 f2 f3 d0 d1 d2 d3 g0 g1 g2 g3
  obtain ⟨⟨c0, c1, c2, c3⟩, f0, f1, f2, f3⟩ := box4 j0_h.out
  obtain ⟨⟨d0, d1, d2, d3⟩, g0, g1, g2, g3⟩ := box4 j2'_h.out
  go_upto_region 4 with (fail)
  rw [← hW2]
  clear hW2 c0 c1 c2 c3 f0 f1 f2 f3 d0 d1 d2 d3 g0 g1 g2 g3
  obtain ⟨⟨c0, c1, c2, c3⟩, f0, f1, f2, f3⟩ := box4 i0_h.out
  go_wp2_with (fail)
  refine (hC1_h.out W2 bW2_h.out).mono ?_
  rintro e w3 ⟨A3, q3, rfl, hi3, hf3, hb3⟩
  rw [← hp_h.out]
  have k0' := box_below i0_h.out hb3
  have k1' := box_below i1_h.out hb3
  have k2' := box_below i2'_h.out hb3
  have hz3 := box_lt k2'
  obtain ⟨W4, hW4⟩ : ∃ W4, W4 = w3.setCell ⟨w.heap.size + 1 + 1, 2, none⟩ (.slice A3 p q3) := ⟨_, rfl⟩
  obtain ⟨l2, s3⟩ := box_set k2' 2 (.slice A3 p q3)
  rw [← hW4] at l2 s3
  have l2' : W4.heap[w.heap.size + 1 + 1]? = some (.cells #[.int .i64 k, .int .i64 v, .slice A3 p q3, .slice none 0 0] tEd) := l2
  have l0 := box_keeps k0' s3 (by omega)
  have l1 := box_keeps k1' s3 (by omega)
  have hi4 := hi3.keeps s3 (fun x hx e => by have := hf3 x hx; omega)
  have bW4 := below_keeps (below_trans bW2_h.out hb3 bW2_h.out.size) s3 (Nat.le_trans bW2_h.out.size hb3.size) (fun x hx => by omega)
  have hz4 : W2.heap.size ≤ W4.heap.size := Nat.le_trans hb3.size s3.size
  have hf4 := hf3
  clear c0 c1 c2 c3 f0 f1 f2 f3 l2 hi3 hf3 hb3 s3 k0'
  obtain ⟨⟨d0, d1, d2, d3⟩, g0, g1, g2, g3⟩ := box4 k2'
  have k1'_h := Lib.hid k1'
  have k2'_h := Lib.hid k2'
  have l0_h := Lib.hid l0
  have l1_h := Lib.hid l1
  have l2'_h := Lib.hid l2'
  have hi4_h := Lib.hid hi4
  have bW4_h := Lib.hid bW4
  have hf4_h := Lib.hid hf4
  clear k1' k2' l0 l1 l2' hi4 bW4 hf4
  go_upto_region 5 with (fail)
  rw [← hW4]
  clear hW4 d0 d1 d2 d3 g0 g1 g2 g3
  obtain ⟨⟨c0, c1, c2, c3⟩, f0, f1, f2, f3⟩ := box4 l0_h.out
  go_wp2_with (fail)
  refine (hC2_h.out W4 bW4_h.out).mono ?_
  rintro e w5 ⟨A5, q5, rfl, hi5, hf5, hb5⟩
  rw [← hq_h.out]
  have m1 := box_below l1_h.out hb5
  have m2 := box_below l2'_h.out hb5
  have hz5 := box_lt m2
  have hw4 := box_lt l2'_h.out
  obtain ⟨W6, hW6⟩ : ∃ W6, W6 = w5.setCell ⟨w.heap.size + 1 + 1, 3, none⟩ (.slice A5 q q5) := ⟨_, rfl⟩
  obtain ⟨n2, s5⟩ := box_set m2 3 (.slice A5 q q5)
  rw [← hW6] at n2 s5
  have n2' : W6.heap[w.heap.size + 1 + 1]? = some (.cells #[.int .i64 k, .int .i64 v, .slice A3 p q3, .slice A5 q q5] tEd) := n2
  have n1 := box_keeps m1 s5 (by omega)
  have hL := (OwLs.two (x := (A3, q3, l)) (y := (A5, q5, m)) hi4_h.out hb5 hi5 hf5)
  have hLf : FreshL W2.heap.size (fpR [((A3, q3, l) : Hd), (A5, q5, m)]) := fun x hx => by
    rw [fpR_cons, fpR_cons] at hx
    rcases List.mem_append.1 hx with hx | hx
    · exact hf4_h.out x hx
    · rcases List.mem_append.1 hx with hx | hx
      · have := hf5 x hx; omega
      · simp [fpR] at hx
  have bW6 := below_keeps (below_trans bW4_h.out hb5 bW4_h.out.size) s5 (Nat.le_trans bW4_h.out.size hb5.size) (fun x hx => by omega)
  have hL6 := hL.keeps s5 (fun x hx e => by have := hLf x hx; omega)
  obtain ⟨t1, t2⟩ := set4 (a := .int .i64 k) (b := .int .i64 v) (c := .slice A3 p q3) (d := .slice A5 q q5) n1
  have hL7 := hL6.keeps t2 (fun x hx e => by have := hLf x hx; omega)
  have bW7 := below_keeps bW6 t2 bW6.size (fun x hx => by omega)
  have hLw : FreshL w.heap.size (fpR [((A3, q3, l) : Hd), (A5, q5, m)]) := hLf.mono bW2_h.out.size
  clear c0 c1 c2 c3 f0 f1 f2 f3 n2 hi5 hf5 hb5 m1 s5 hL hL6 hLf bW6 t2
  obtain ⟨⟨d0, d1, d2, d3⟩, g0, g1, g2, g3⟩ := box4 m2
  have m2_h := Lib.hid m2
  have n1_h := Lib.hid n1
  have n2'_h := Lib.hid n2'
  have t1_h := Lib.hid t1
  have hL7_h := Lib.hid hL7
  have bW7_h := Lib.hid bW7
  have hLw_h := Lib.hid hLw
  clear m2 n1 n2' t1 hL7 bW7 hLw
  go_upto_region 6 with (fail)
  rw [← hW6]
  clear hW6 d0 d1 d2 d3 g0 g1 g2 g3
  obtain ⟨⟨d0, d1, d2, d3⟩, g0, g1, g2, g3⟩ := box4 n2'_h.out
  obtain ⟨⟨c0, c1, c2, c3⟩, f0, f1, f2, f3⟩ := box4 n1_h.out
  go_wp2_with (fail)
  refine bodyPost_ret (results_cell_row rfl _ _ (w.heap.size + 1) _ _ (0, 0) _ rfl t1_h.out Try.underlying85 rfl (by kernel_rfl)) rfl ?_
  exact ⟨(A3, q3, l), (A5, q5, m), rfl, rfl, rfl, ⟨hL7_h.out, hLw_h.out⟩, bW7_h.out⟩

set_option maxRecDepth 100000 in
set_option maxHeartbeats 2000000 in
theorem toEdgeS_any (A : Option Addr) (c : Nat) (l : List EHd) (w : World) (h : RdE w A l) (hl : l.length ≤ 1048576) (hr : ∀ x, x ∈ l → x.2.2.1.2.2.length ≤ 1048576 ∧ x.2.2.2.2.2.length ≤ 1048576) :
    Calls Try.prog 47 #[.slice A l.length c] w fun e w' => ∃ (A' : Option Addr) (cap : Nat) (ys : List EHd), e = .returned (.slice A' l.length cap) ∧ ys.map egOf = l.map egOf ∧ Sl w' tEd 4 A' l.length cap (ecs ys) ∧ OwLs w' (fpA A') (eh ys) ∧ FreshL w.heap.size (fpA A' ++ fpR (eh ys)) ∧ Below w.heap.size w w' := by
  obtain ⟨m, hm⟩ : ∃ m, m = l.length := ⟨_, rfl⟩
  rw [← hm] at hl ⊢
  have hm_h := Lib.hid hm
  have hr_h := Lib.hid hr
  clear hm hr
  go_enter Try.func47, Try.ntmps47
  go_wp2_with (at_make; refine wpList_make_Sl _ rfl _ _ _ rfl tEd Try.underlying29 info_ed m m rfl rfl rfl rfl (Nat.le_refl _) (by omega) (by unfold maxLen; omega) ?_; intro G w1 hs hG hb1)
  have hs0 : Sl w1 tEd 4 (some G) m m (ecs (List.replicate m eh0)) := by rw [← madeEdges]; exact hs
  have hGl : G.block < w1.heap.size := hs0.lt G.block (by simp)
  clear hs
  have hs0_h := Lib.hid hs0
  clear hs0
  go_loopw [4] (fun i wr => ∃ (k : Nat) (ys : List EHd), k ≤ m ∧ i = .int .i64 k ∧ ys.length = k ∧ ys.map egOf = (l.take k).map egOf ∧ Sl wr tEd 4 (some G) m m (ecs (ys ++ List.replicate (m - k) eh0)) ∧ OwLs wr [G.block] (eh ys) ∧ FreshL w.heap.size (fpR (eh ys)) ∧ Below w.heap.size w wr ∧ w1.heap.size ≤ wr.heap.size)
    (fun i _ => m - (intOf i).toNat)
  case atStart => exact ⟨0, [], Nat.zero_le _, rfl, rfl, rfl, by simpa using hs0_h.out, OwLs.nil _ _, fun b hb => by simp [eh, fpR] at hb, hb1, Nat.le_refl _⟩
  case round =>
    clear hs0_h
    obtain ⟨k, ys, hk, rfl, hyl, hye, his, hO, hfr, hb, hsz⟩ := hrel
    by_cases hlt : k < m
    · obtain ⟨ad, κ, v, B, b, s, C, d, t, rfl, hn, ⟨d0, d1, d2, d3⟩, hrB, hrC⟩ := (h.below hb).at_ (j := k) (by rw [← hm_h.out]; exact hlt)
      have hrr := hr_h.out _ (List.mem_of_getElem? hn)
      have hC := toEdge_any κ v B C b d s t wr hrB hrC hrr.1 hrr.2
      obtain ⟨p, hp⟩ : ∃ p, p = s.length := ⟨_, rfl⟩
      obtain ⟨q, hq⟩ : ∃ q, q = t.length := ⟨_, rfl⟩
      rw [← hp, ← hq] at hC
      rw [← hp] at d2
      rw [← hq] at d3
      have hkI : (k : Int) < (m : Int) := by omega
      have hC_h := Lib.hid hC
      have hp_h := Lib.hid hp
      have hq_h := Lib.hid hq
      have hn_h := Lib.hid hn
      have his_h := Lib.hid his
      have hye_h := Lib.hid hye
      have hyl_h := Lib.hid hyl
      have hfr_h := Lib.hid hfr
      have hO_h := Lib.hid hO
      clear hC hp hq hn his hye hyl hfr hO
      clear h hrB hrC hrr
      go_wp2_with (fail)
      refine (hC_h.out).mono ?_
      rintro e w2 ⟨⟨B', b', s'⟩, ⟨C', c', t'⟩, rfl, rfl, rfl, hN, hb2⟩
      have his2 := his_h.out.below hb2
      have hlen : (ys ++ List.replicate (m - k) eh0).length = m := by rw [List.length_append, List.length_replicate, hyl_h.out]; omega
      obtain ⟨⟨⟨x0, e0⟩, g0⟩, ⟨⟨x1, e1⟩, g1⟩, ⟨⟨x2, e2⟩, g2⟩, ⟨x3, e3⟩, g3⟩ := ES.mid his2 hlen (j := k) κ v (.slice B' p b') hlt
      obtain ⟨hset, hks⟩ := ES.set his2 hlen (ad := G) rfl (j := k) κ v B' C' b' c' s' t' hlt
      rw [set_rep_step ys _ eh0 hyl_h.out hlt] at hset
      have hO2 := (hO_h.out.app hb2 hN.1 hN.2 (fun x hx => by obtain rfl := List.mem_singleton.1 hx; omega)).grow (fp' := [G.block]) (fun x hx => .inl hx) hks
      have hfr2 : FreshL w.heap.size (fpR (eh (ys ++ [(κ, v, (B', b', s'), (C', c', t'))]))) := fun x hx => by
        rw [eh_append, fpR_append] at hx
        rcases List.mem_append.1 hx with hx | hx
        · exact hfr_h.out x hx
        · have := hN.2 x hx; have := hb.size; omega
      have hb3 := below_keeps (below_trans hb hb2 hb.size) hks (Nat.le_trans hb.size hb2.size) (fun b hb => by simp at hb; omega)
      have hye2 := egs_take_step (y := (κ, v, (B', b', s'), (C', c', t'))) hn_h.out hye_h.out rfl
      have hsz2 := Nat.le_trans hsz (Nat.le_trans hb2.size hks.size)
      rw [← hp_h.out, ← hq_h.out] at hset hks hO2 hb3 hsz2
      clear hks hN his2 hlen d0 d1 d2 d3
      have hset_h := Lib.hid hset
      have hO2_h := Lib.hid hO2
      have hfr2_h := Lib.hid hfr2
      have hb3_h := Lib.hid hb3
      have hye2_h := Lib.hid hye2
      have hb2_h := Lib.hid hb2
      have hsz2_h := Lib.hid hsz2
      clear hset hO2 hfr2 hb3 hye2 hb2 hsz2
      go_wp2_with (fail)
      go_roundw
      case rel => exact ⟨k + 1, _, by omega, by go_num, by rw [List.length_append, hyl_h.out]; rfl, hye2_h.out, hset_h.out, by rw [eh_append]; exact hO2_h.out, hfr2_h.out, hb3_h.out, hsz2_h.out⟩
      case measure => simp [intOf]; omega
    · obtain rfl : k = m := by omega
      have hfin : Sl wr tEd 4 (some G) k k (ecs ys) := by rw [Nat.sub_self] at his; simpa using his
      have hye2 : ys.map egOf = l.map egOf := by rw [hye, List.take_of_length_le (by rw [← hm_h.out]; exact Nat.le_refl _)]
      have hff : FreshL w.heap.size (fpA (some G) ++ fpR (eh ys)) := fun x hx => by
        rcases List.mem_append.1 hx with hx | hx
        · simp at hx; omega
        · exact hfr x hx
      have hfin_h := Lib.hid hfin
      have hye2_h := Lib.hid hye2
      have hff_h := Lib.hid hff
      have hO_h := Lib.hid hO
      clear hfin hye2 hff hO
      clear h his hye hyl hfr
      go_wp2_with (fail)
      go_ret
      exact ⟨some G, k, ys, rfl, hye2_h.out, hfin_h.out, hO_h.out, hff_h.out, hb⟩

set_option maxRecDepth 100000 in
set_option maxHeartbeats 2000000 in
theorem toGraph_law {v : Value} {g : Gr} {w : World} (h : RdGr w v g) (ok : OkG g) :
    Calls Try.prog 14 #[v] w fun e w' => ∃ v' fp, e = .returned v' ∧ OwGr w' v' g fp ∧ FreshL w.heap.size fp ∧ Below w.heap.size w w' := by
  obtain ⟨A, c, hs, ⟨B, b, s⟩, ⟨C, d, t⟩, rfl, e1, e2, e3, hE, hRa, hRb⟩ := h
  obtain ⟨z, es, s', t'⟩ := g
  have e1' : es = hs.map egOf := e1
  have e2' : s = s' := e2
  have e3' : t = t' := e3
  subst e1' e2' e3'
  obtain ⟨⟨ok1, ok2, ok3⟩, ok4, -⟩ := ok
  have ok1' : hs.length ≤ 1048576 := by have : (hs.map egOf).length ≤ 1048576 := ok1; simpa using this
  have ok2' : s.length ≤ 1048576 := ok2
  have ok3' : t.length ≤ 1048576 := ok3
  obtain ⟨n, hn⟩ : ∃ n, n = hs.length := ⟨_, rfl⟩
  obtain ⟨p, hp⟩ : ∃ p, p = s.length := ⟨_, rfl⟩
  obtain ⟨q, hq⟩ : ∃ q, q = t.length := ⟨_, rfl⟩
  have hC0 := fun (W : World) (hb : Below w.heap.size w W) => toEdgeS_any A c hs W (hE.below hb) ok1' (fun x hx => ok4 _ (List.mem_map_of_mem hx))
  have hC1 := fun (W : World) (hb : Below w.heap.size w W) => toIntS_any B b s W (RdI.below hRa hb) (by omega)
  have hC2 := fun (W : World) (hb : Below w.heap.size w W) => toIntS_any C d t W (RdI.below hRb hb) (by omega)
  simp only [← hn] at hC0
  simp only [← hp] at hC1
  simp only [← hq] at hC2
  show Calls Try.prog _ #[.agg #[.int .i64 z, .slice A hs.length c, .slice B s.length b, .slice C t.length d]] w fun e w' => ∃ v' fp, e = .returned v' ∧ OwGr w' v' (z, hs.map egOf, s, t) fp ∧ FreshL w.heap.size fp ∧ Below w.heap.size w w'
  rw [← hn, ← hp, ← hq]
  obtain ⟨W, hW, bW, k0, k1, k2⟩ := allocs3 w (.cells #[.int .i64 z, .slice A n c, .slice B p b, .slice C q d] 25) (.cells #[.int .i64 0, .slice none 0 0, .slice none 0 0, .slice none 0 0] tGr) (.cells #[.int .i64 0, .slice none 0 0, .slice none 0 0, .slice none 0 0] tGr)
  obtain ⟨W1, hW1⟩ : ∃ W1, W1 = W.setCell ⟨w.heap.size + 1 + 1, 0, none⟩ (.int .i64 z) := ⟨_, rfl⟩
  obtain ⟨j2, s1⟩ := box_set k2 0 (.int .i64 z)
  rw [← hW1] at j2 s1
  have j2' : W1.heap[w.heap.size + 1 + 1]? = some (.cells #[.int .i64 z, .slice none 0 0, .slice none 0 0, .slice none 0 0] tGr) := j2
  have j0 := box_keeps k0 s1 (by omega)
  have j1 := box_keeps k1 s1 (by omega)
  have bW1 := below_keeps bW s1 bW.size (fun x hx => by omega)
  have hz1 := box_lt j2'
  obtain ⟨⟨c0, c1, c2, c3⟩, f0, f1, f2, f3⟩ := box4 k0
  obtain ⟨⟨d0, d1, d2, d3⟩, g0, g1, g2, g3⟩ := box4 k2
  clear hE hRa hRb j2 bW e1 e2 e3 ok1 ok2 ok3 ok4
  have hC0_h := Lib.hid hC0
  have hC1_h := Lib.hid hC1
  have hC2_h := Lib.hid hC2
  have hn_h := Lib.hid hn
  have hp_h := Lib.hid hp
  have hq_h := Lib.hid hq
  have k0_h := Lib.hid k0
  have k1_h := Lib.hid k1
  have k2_h := Lib.hid k2
  have j0_h := Lib.hid j0
  have j1_h := Lib.hid j1
  have j2'_h := Lib.hid j2'
  have bW1_h := Lib.hid bW1
  have s1_h := Lib.hid s1
  clear hC0 hC1 hC2 hn hp hq k0 k1 k2 j0 j1 j2' bW1 s1
  go_enter Try.func14, Try.ntmps14
  go_upto_region 2 with (fail)
  rw [← hW]
  clear hW
  go_upto_region 3 with (fail)
  rw [← hW1]
  clear hW1 c0 c1 c2 c3 f0 f1 f2 f3 d0 d1 d2 d3 g0 g1 g2 g3
  obtain ⟨⟨c0, c1, c2, c3⟩, f0, f1, f2, f3⟩ := box4 j0_h.out
  go_wp2_with (fail)
  refine (hC0_h.out W1 bW1_h.out).mono ?_
  rintro e w3 ⟨A3, q3, ys, rfl, hye, hsl3, hO3, hf3, hb3⟩
  have k0' := box_below j0_h.out hb3
  have k1' := box_below j1_h.out hb3
  have k2' := box_below j2'_h.out hb3
  obtain ⟨W4, hW4⟩ : ∃ W4, W4 = w3.setCell ⟨w.heap.size + 1 + 1, 1, none⟩ (.slice A3 n q3) := ⟨_, rfl⟩
  obtain ⟨l2, s3⟩ := box_set k2' 1 (.slice A3 n q3)
  rw [← hW4] at l2 s3
  have l2' : W4.heap[w.heap.size + 1 + 1]? = some (.cells #[.int .i64 z, .slice A3 n q3, .slice none 0 0, .slice none 0 0] tGr) := l2
  have l0 := box_keeps k0' s3 (by omega)
  have l1 := box_keeps k1' s3 (by omega)
  have hz4 : W1.heap.size ≤ W4.heap.size := Nat.le_trans hb3.size s3.size
  have hsl4 := hsl3.keeps s3 (fun x hx e => by have := hf3 x (List.mem_append_left _ hx); omega)
  have hO4 := hO3.keeps s3 (fun x hx e => by have := hf3 x (List.mem_append_right _ hx); omega)
  have bW4 := below_keeps (below_trans bW1_h.out hb3 bW1_h.out.size) s3 (Nat.le_trans bW1_h.out.size hb3.size) (fun x hx => by omega)
  have hylen : ys.length = n := by have := congrArg List.length hye; rw [List.length_map, List.length_map, ← hn_h.out] at this; exact this
  clear c0 c1 c2 c3 f0 f1 f2 f3 l2 hb3 s3 k0' hsl3 hO3
  obtain ⟨⟨d0, d1, d2, d3⟩, g0, g1, g2, g3⟩ := box4 k2'
  have k1'_h := Lib.hid k1'
  have k2'_h := Lib.hid k2'
  have l0_h := Lib.hid l0
  have l1_h := Lib.hid l1
  have l2'_h := Lib.hid l2'
  have hsl4_h := Lib.hid hsl4
  have hO4_h := Lib.hid hO4
  have bW4_h := Lib.hid bW4
  have hf3_h := Lib.hid hf3
  have hye_h := Lib.hid hye
  have hylen_h := Lib.hid hylen
  clear k1' k2' l0 l1 l2' hsl4 hO4 bW4 hf3 hye hylen
  go_upto_region 4 with (fail)
  rw [← hW4]
  clear hW4 d0 d1 d2 d3 g0 g1 g2 g3
  obtain ⟨⟨c0, c1, c2, c3⟩, f0, f1, f2, f3⟩ := box4 l0_h.out
  go_wp2_with (fail)
  refine (hC1_h.out W4 bW4_h.out).mono ?_
  rintro e w5 ⟨A5, q5, rfl, hi5, hf5, hb5⟩
  rw [← hp_h.out]
  have m0 := box_below l0_h.out hb5
  have m1 := box_below l1_h.out hb5
  have m2 := box_below l2'_h.out hb5
  obtain ⟨W6, hW6⟩ : ∃ W6, W6 = w5.setCell ⟨w.heap.size + 1 + 1, 2, none⟩ (.slice A5 p q5) := ⟨_, rfl⟩
  obtain ⟨n2, s5⟩ := box_set m2 2 (.slice A5 p q5)
  rw [← hW6] at n2 s5
  have n2' : W6.heap[w.heap.size + 1 + 1]? = some (.cells #[.int .i64 z, .slice A3 n q3, .slice A5 p q5, .slice none 0 0] tGr) := n2
  have n0 := box_keeps m0 s5 (by omega)
  have n1 := box_keeps m1 s5 (by omega)
  have hz6 : W4.heap.size ≤ W6.heap.size := Nat.le_trans hb5.size s5.size
  have hsl6 := (hsl4_h.out.below hb5).keeps s5 (fun x hx e => by have := hf3_h.out x (List.mem_append_left _ hx); omega)
  have hO5 := (hO4_h.out.cons hb5 (x := (A5, q5, s)) hi5 hf5 (fun x hx => hsl4_h.out.lt x hx))
  have hff5 : FreshL W1.heap.size (fpA A3 ++ fpR (((A5, q5, s) : Hd) :: eh ys)) := fun x hx => by
    rw [fpR_cons] at hx
    rcases List.mem_append.1 hx with hx | hx
    · exact hf3_h.out x (List.mem_append_left _ hx)
    · rcases List.mem_append.1 hx with hx | hx
      · have := hf5 x hx; omega
      · exact hf3_h.out x (List.mem_append_right _ hx)
  have hO6 := hO5.keeps s5 (fun x hx e => by have := hff5 x (List.mem_append_right _ hx); omega)
  have bW6 := below_keeps (below_trans bW4_h.out hb5 bW4_h.out.size) s5 (Nat.le_trans bW4_h.out.size hb5.size) (fun x hx => by omega)
  clear c0 c1 c2 c3 f0 f1 f2 f3 n2 hb5 s5 m0 m1 hi5 hf5 hO5
  obtain ⟨⟨d0, d1, d2, d3⟩, g0, g1, g2, g3⟩ := box4 m2
  have m2_h := Lib.hid m2
  have n0_h := Lib.hid n0
  have n1_h := Lib.hid n1
  have n2'_h := Lib.hid n2'
  have hsl6_h := Lib.hid hsl6
  have hO6_h := Lib.hid hO6
  have bW6_h := Lib.hid bW6
  have hff5_h := Lib.hid hff5
  clear m2 n0 n1 n2' hsl6 hO6 bW6 hff5
  go_upto_region 5 with (fail)
  rw [← hW6]
  clear hW6 d0 d1 d2 d3 g0 g1 g2 g3
  obtain ⟨⟨c0, c1, c2, c3⟩, f0, f1, f2, f3⟩ := box4 n0_h.out
  go_wp2_with (fail)
  refine (hC2_h.out W6 bW6_h.out).mono ?_
  rintro e w7 ⟨A7, q7, rfl, hi7, hf7, hb7⟩
  rw [← hq_h.out]
  have o1 := box_below n1_h.out hb7
  have o2 := box_below n2'_h.out hb7
  obtain ⟨W8, hW8⟩ : ∃ W8, W8 = w7.setCell ⟨w.heap.size + 1 + 1, 3, none⟩ (.slice A7 q q7) := ⟨_, rfl⟩
  obtain ⟨r2, s7⟩ := box_set o2 3 (.slice A7 q q7)
  rw [← hW8] at r2 s7
  have r2' : W8.heap[w.heap.size + 1 + 1]? = some (.cells #[.int .i64 z, .slice A3 n q3, .slice A5 p q5, .slice A7 q q7] tGr) := r2
  have r1 := box_keeps o1 s7 (by omega)
  have hsl8 := (hsl6_h.out.below hb7).keeps s7 (fun x hx e => by have := hf3_h.out x (List.mem_append_left _ hx); omega)
  have hO7 := (hO6_h.out.cons hb7 (x := (A7, q7, t)) hi7 hf7 (fun x hx => hsl6_h.out.lt x hx)).perm (ms := (A5, q5, s) :: (A7, q7, t) :: eh ys) (.swap _ _ _)
  have hff7 : FreshL W1.heap.size (fpA A3 ++ fpR (((A5, q5, s) : Hd) :: (A7, q7, t) :: eh ys)) := fun x hx => by
    rw [fpR_cons, fpR_cons] at hx
    rcases List.mem_append.1 hx with hx | hx
    · exact hff5_h.out x (List.mem_append_left _ hx)
    · rcases List.mem_append.1 hx with hx | hx
      · exact hff5_h.out x (List.mem_append_right _ (by rw [fpR_cons]; exact List.mem_append_left _ hx))
      · rcases List.mem_append.1 hx with hx | hx
        · have := hf7 x hx; omega
        · exact hff5_h.out x (List.mem_append_right _ (by rw [fpR_cons]; exact List.mem_append_right _ hx))
  have hO8 := hO7.keeps s7 (fun x hx e => by have := hff7 x (List.mem_append_right _ hx); omega)
  have bW8 := below_keeps (below_trans bW6_h.out hb7 bW6_h.out.size) s7 (Nat.le_trans bW6_h.out.size hb7.size) (fun x hx => by omega)
  obtain ⟨t1, t2⟩ := set4 (a := .int .i64 z) (b := .slice A3 n q3) (c := .slice A5 p q5) (d := .slice A7 q q7) r1
  have hsl9 := hsl8.keeps t2 (fun x hx e => by have := hff7 x (List.mem_append_left _ hx); omega)
  have hO9 := hO8.keeps t2 (fun x hx e => by have := hff7 x (List.mem_append_right _ hx); omega)
  have bW9 := below_keeps bW8 t2 bW8.size (fun x hx => by omega)
  have hffw := hff7.mono bW1_h.out.size
  clear c0 c1 c2 c3 f0 f1 f2 f3 r2 hb7 s7 o1 hi7 hf7 hO7 hO8 hsl8 bW8 t2 hff7
  obtain ⟨⟨d0, d1, d2, d3⟩, g0, g1, g2, g3⟩ := box4 o2
  have o2_h := Lib.hid o2
  have r1_h := Lib.hid r1
  have r2'_h := Lib.hid r2'
  have hsl9_h := Lib.hid hsl9
  have hO9_h := Lib.hid hO9
  have bW9_h := Lib.hid bW9
  have hffw_h := Lib.hid hffw
  have t1_h := Lib.hid t1
  clear o2 r1 r2' hsl9 hO9 bW9 hffw t1
  go_upto_region 6 with (fail)
  rw [← hW8]
  clear hW8 d0 d1 d2 d3 g0 g1 g2 g3
  obtain ⟨⟨d0, d1, d2, d3⟩, g0, g1, g2, g3⟩ := box4 r2'_h.out
  obtain ⟨⟨c0, c1, c2, c3⟩, f0, f1, f2, f3⟩ := box4 r1_h.out
  go_wp2_with (fail)
  refine bodyPost_ret (results_cell_row rfl _ _ (w.heap.size + 1) _ _ (0, 0) _ rfl t1_h.out Try.underlying31 rfl (by kernel_rfl)) rfl ?_
  refine ⟨_, fpA A3 ++ fpR (((A5, q5, s) : Hd) :: (A7, q7, t) :: eh ys), rfl, ⟨A3, q3, ys, (A5, q5, s), (A7, q7, t), ?_, hye_h.out.symm, rfl, rfl, ?_, hO9_h.out, rfl⟩, hffw_h.out, bW9_h.out⟩
  · rw [hylen_h.out, hp_h.out, hq_h.out]
  · rw [hylen_h.out]; exact hsl9_h.out
end Go.Proofs.Ytanhmljgeiajoaa
