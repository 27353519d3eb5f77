/-
  SLICES OF EDGES: made, written in their places, grown.
-/
import Derived.Test.YtanhmljgeiajoaaGrM
namespace Go.Proofs.Ytanhmljgeiajoaa
open Go.RowKit

theorem info_ed : (Try.prog.info? tEd).map (fun i => (i.zero, i.size, i.bytes)) = some (some (.agg #[.int .i64 0, .int .i64 0, .slice none 0 0, .slice none 0 0]), 4, 64) := by kernel_rfl
def eh0 : EHd := (0, 0, (none, 0, []), (none, 0, []))
theorem madeEdges (n : Nat) : (madeCells (Value.agg #[.int .i64 0, .int .i64 0, .slice none 0 0, .slice none 0 0]).cells (n * 4)).toList.take (n * 4) = ecs (List.replicate n eh0) := by
  have hs : (madeCells (Value.agg #[.int .i64 0, .int .i64 0, .slice none 0 0, .slice none 0 0]).cells (n * 4)).toList.length = n * 4 := by rw [Array.length_toList, size_madeCells]
  rw [List.take_of_length_le (by omega)]
  apply List.ext_getElem?
  intro j
  by_cases hj : j < n * 4
  · have key : ∀ q r, q * 4 + r < n * 4 → r < 4 → (madeCells (Value.agg #[.int .i64 0, .int .i64 0, .slice none 0 0, .slice none 0 0]).cells (n * 4)).toList[q * 4 + r]? = (ec eh0)[r]? := by
      intro q r h hr
      have hm : (q * 4 + r) % 4 = r := by omega
      have hr' : r = 0 ∨ r = 1 ∨ r = 2 ∨ r = 3 := by omega
      simp only [madeCells, Value.cells, Array.toList_map, List.getElem?_map, Array.toList_range, List.getElem?_range h, Option.map_some]
      show some (_[(q * 4 + r) % 4]!) = _
      rw [hm]
      rcases hr' with rfl | rfl | rfl | rfl <;> rfl
    have hq : j / 4 < n := by omega
    have hg := ecs_get (l := List.replicate n eh0) (j := j / 4) (n := eh0) (by simp [hq])
    have e : j = j / 4 * 4 + j % 4 := by omega
    have hr' : j % 4 = 0 ∨ j % 4 = 1 ∨ j % 4 = 2 ∨ j % 4 = 3 := by omega
    rw [e]
    rcases hr' with h | h | h | h <;> rw [h] at e ⊢
    · rw [key _ 0 (by omega) (by omega)]; exact hg.1.symm
    · rw [key _ 1 (by omega) (by omega)]; exact hg.2.1.symm
    · rw [key _ 2 (by omega) (by omega)]; exact hg.2.2.1.symm
    · rw [key _ 3 (by omega) (by omega)]; exact hg.2.2.2.symm
  · rw [List.getElem?_eq_none (by omega), List.getElem?_eq_none (by simp; omega)]
section
variable {w : World} {A : Option Addr} {n cap : Nat} {hs : List EHd}
theorem ES.set (h : Sl w tEd 4 A n cap (ecs hs)) (hn : hs.length = n) {ad : Addr} (hA : A = some ad) {j : Nat} (k v : Int) (B C : Option Addr) (b c : Nat) (l m : List Int) (hj : j < n) :
    Sl ((((w.setCell (ad.add (j * 4)) (.int .i64 k)).setCell ⟨(ad.add (j * 4)).block, (ad.add (j * 4)).off + 1, none⟩ (.int .i64 v)).setCell ⟨(ad.add (j * 4)).block, (ad.add (j * 4)).off + 2, none⟩ (.slice B l.length b)).setCell ⟨(ad.add (j * 4)).block, (ad.add (j * 4)).off + 3, none⟩ (.slice C m.length c)) tEd 4 A n cap (ecs (hs.set j (k, v, (B, b, l), (C, c, m)))) ∧
    Keeps (· ∈ fpA A) w ((((w.setCell (ad.add (j * 4)) (.int .i64 k)).setCell ⟨(ad.add (j * 4)).block, (ad.add (j * 4)).off + 1, none⟩ (.int .i64 v)).setCell ⟨(ad.add (j * 4)).block, (ad.add (j * 4)).off + 2, none⟩ (.slice B l.length b)).setCell ⟨(ad.add (j * 4)).block, (ad.add (j * 4)).off + 3, none⟩ (.slice C m.length c)) := by
  have hl : (ecs hs).length = n * 4 := by rw [ecs_length, hn]
  have s1 := Sl.set h hA (j * 4) (.int .i64 k) (by omega)
  have s2 := Sl.set s1 hA (j * 4 + 1) (.int .i64 v) (by rw [List.length_set]; omega)
  have s3 := Sl.set s2 hA (j * 4 + 2) (.slice B l.length b) (by rw [List.length_set, List.length_set]; omega)
  have s4 := Sl.set s3 hA (j * 4 + 3) (.slice C m.length c) (by rw [List.length_set, List.length_set, List.length_set]; omega)
  have e := ecs_set (l := hs) (j := j) (k, v, (B, b, l), (C, c, m)) (by omega)
  simp only [Hd.val] at e
  rw [e, add_next ad (j * 4) 1 (by omega), add_next ad (j * 4) 2 (by omega), add_next ad (j * 4) 3 (by omega)] at s4
  refine ⟨s4, ?_⟩
  have hb : (ad.add (j * 4)).block ∈ fpA A := by rw [block_of_add, hA]; simp
  exact ((((Keeps.refl _ w).setCell (p := ad.add (j * 4)) hb _).setCell (p := ⟨(ad.add (j * 4)).block, (ad.add (j * 4)).off + 1, none⟩) hb _).setCell (p := ⟨(ad.add (j * 4)).block, (ad.add (j * 4)).off + 2, none⟩) hb _).setCell (p := ⟨(ad.add (j * 4)).block, (ad.add (j * 4)).off + 3, none⟩) hb _
/-- The worlds on the way may be written in too. -/
theorem ES.mid {ad : Addr} (h : Sl w tEd 4 (some ad) n cap (ecs hs)) (hn : hs.length = n) {j : Nat} (k v : Int) (s : Value) (hj : j < n) :
    ((∃ x, w.cell? (ad.add (j * 4)) = some x) ∧ w.frozen? (ad.add (j * 4)) = false) ∧
    ((∃ x, (w.setCell (ad.add (j * 4)) (.int .i64 k)).cell? ⟨(ad.add (j * 4)).block, (ad.add (j * 4)).off + 1, none⟩ = some x) ∧ (w.setCell (ad.add (j * 4)) (.int .i64 k)).frozen? ⟨(ad.add (j * 4)).block, (ad.add (j * 4)).off + 1, none⟩ = false) ∧
    ((∃ x, ((w.setCell (ad.add (j * 4)) (.int .i64 k)).setCell ⟨(ad.add (j * 4)).block, (ad.add (j * 4)).off + 1, none⟩ (.int .i64 v)).cell? ⟨(ad.add (j * 4)).block, (ad.add (j * 4)).off + 2, none⟩ = some x) ∧
    ((w.setCell (ad.add (j * 4)) (.int .i64 k)).setCell ⟨(ad.add (j * 4)).block, (ad.add (j * 4)).off + 1, none⟩ (.int .i64 v)).frozen? ⟨(ad.add (j * 4)).block, (ad.add (j * 4)).off + 2, none⟩ = false) ∧
    ((∃ x, (((w.setCell (ad.add (j * 4)) (.int .i64 k)).setCell ⟨(ad.add (j * 4)).block, (ad.add (j * 4)).off + 1, none⟩ (.int .i64 v)).setCell ⟨(ad.add (j * 4)).block, (ad.add (j * 4)).off + 2, none⟩ s).cell? ⟨(ad.add (j * 4)).block, (ad.add (j * 4)).off + 3, none⟩ = some x) ∧
    (((w.setCell (ad.add (j * 4)) (.int .i64 k)).setCell ⟨(ad.add (j * 4)).block, (ad.add (j * 4)).off + 1, none⟩ (.int .i64 v)).setCell ⟨(ad.add (j * 4)).block, (ad.add (j * 4)).off + 2, none⟩ s).frozen? ⟨(ad.add (j * 4)).block, (ad.add (j * 4)).off + 3, none⟩ = false) := by
  have hl : (ecs hs).length = n * 4 := by rw [ecs_length, hn]
  have s1 := Sl.set h rfl (j * 4) (.int .i64 k) (by omega)
  have s2 := Sl.set s1 rfl (j * 4 + 1) (.int .i64 v) (by rw [List.length_set]; omega)
  have s3 := Sl.set s2 rfl (j * 4 + 2) s (by rw [List.length_set, List.length_set]; omega)
  rw [← add_next ad (j * 4) 1 (by omega), ← add_next ad (j * 4) 2 (by omega), ← add_next ad (j * 4) 3 (by omega)]
  obtain ⟨a0, h0, _, c0, f0⟩ := Sl.cell h (j := j * 4) (u := _) (List.getElem?_eq_getElem (by omega))
  obtain ⟨a1, h1, _, c1, f1⟩ := Sl.cell s1 (j := j * 4 + 1) (u := _) (List.getElem?_eq_getElem (by rw [List.length_set]; omega))
  obtain ⟨a2, h2, _, c2, f2⟩ := Sl.cell s2 (j := j * 4 + 2) (u := _) (List.getElem?_eq_getElem (by rw [List.length_set, List.length_set]; omega))
  obtain ⟨a3, h3, _, c3, f3⟩ := Sl.cell s3 (j := j * 4 + 3) (u := _) (List.getElem?_eq_getElem (by rw [List.length_set, List.length_set, List.length_set]; omega))
  obtain rfl := Option.some.inj h0
  obtain rfl := Option.some.inj h1
  obtain rfl := Option.some.inj h2
  obtain rfl := Option.some.inj h3
  exact ⟨⟨⟨_, c0⟩, f0 _⟩, ⟨⟨_, c1⟩, f1 _⟩, ⟨⟨_, c2⟩, f2 _⟩, ⟨_, c3⟩, f3 _⟩
end
theorem egs_take_step {l : List EHd} {ys : List EHd} {k : Nat} {x y : EHd} (hx : l[k]? = some x) (h : ys.map egOf = (l.take k).map egOf) (he : egOf y = egOf x) : (ys ++ [y]).map egOf = (l.take (k + 1)).map egOf := by
  rw [List.map_append, h, List.take_add_one, hx]; simp [he]
theorem set_rep_step {α : Type} (hs : List α) (x d : α) {n k : Nat} (hk : hs.length = k) (h : k < n) : (hs ++ List.replicate (n - k) d).set k x = (hs ++ [x]) ++ List.replicate (n - (k + 1)) d := by
  subst hk
  rw [List.set_append_right _ _ (Nat.le_refl _), Nat.sub_self, show n - hs.length = (n - (hs.length + 1)) + 1 by omega, List.replicate_succ, List.set_cons_zero, List.append_assoc]
  rfl
end Go.Proofs.Ytanhmljgeiajoaa
