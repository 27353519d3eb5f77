/-
  What the texts above it need, part 4.
-/
import Derived.Test.YtjompikdkhhlgaaGreatKIsomorphismOf3
import Derived.Maps.RangeWalk
import Derived.Maps.OwnSet
import Derived.Deep.LoopGhost
namespace Go.Proofs.YtjompikdkhhlgaaGreat
open Go.RowKit
def RetLp (w : World) (p : Prt) (e : Ending) (w' : World) : Prop :=
 ∃ (D : Option Addr) (dc : Nat) (A : Option Addr) (ac : Nat) (G : Option Addr) (gc : Nat), e = .returned (.agg #[.slice D p.1.length dc, .slice A p.2.1.1.length ac, .slice G p.2.1.2.length gc, .int .i64 p.2.2]) ∧ IS w' D dc p.1 ∧ IS w' A ac p.2.1.1 ∧ IS w' G gc p.2.1.2 ∧ Fresh w.heap.size D ∧ Fresh w.heap.size A ∧ Fresh w.heap.size G ∧ Below w.heap.size w w'
theorem twoBoxesC (w : World) (o1 o2 : Obj) : ∃ W, W = (w.alloc o1).alloc o2 ∧ Below w.heap.size w W ∧ W.heap[w.heap.size]? = some o1 ∧ W.heap[w.heap.size + 1]? = some o2 := by
 refine ⟨_, rfl, below_trans (t_below_alloc _ _) (t_below_alloc _ _) (by simp), t_box_below (heap_alloc_new _ _) (t_below_alloc _ _), ?_⟩
 have := heap_alloc_new (w.alloc o1) o2
 simpa using this
theorem set4_0 {w : World} {B : Nat} {t : TypeId} {x y z u b : Value} (h : w.heap[B]? = some (.cells #[x, y, z, u] t)) : (w.setCell ⟨B, 0, none⟩ b).heap[B]? = some (.cells #[b, y, z, u] t) ∧ Keeps (· = B) w (w.setCell ⟨B, 0, none⟩ b) := by
 refine ⟨?_, Keeps.setCell (S := (· = B)) (Keeps.refl _ w) (p := ⟨B, 0, none⟩) rfl b⟩
 simp [World.setCell, Array.getElem?_modify, h]
theorem Keeps.free {S T : Nat → Prop} {a w w' : World} (h : Keeps S a w) (hk : Keeps T w w') (hT : ∀ b, b < a.heap.size → T b → S b) : Keeps S a w' :=
 ⟨hk.os.trans h.os, hk.tape.trans h.tape, hk.output.trans h.output, Nat.le_trans h.size hk.size, fun k h1 h2 => (hk.block k (Nat.lt_of_lt_of_le h1 h.size) fun ht => h2 (hT k h1 ht)).trans (h.block k h1 h2)⟩
theorem mapL_len (t l : List Int) : (mapL t l).length = l.length := by simp [mapL]
structure CdS (wo wi : World) (lb : Nat) (y z u : Value) (eb : Obj) (A : Option Addr) (c ln : Nat) (L : List Int) (wx : World) : Prop where
 box : wx.heap[lb]? = some (.cells #[.slice A ln c, y, z, u] 90)
 edge : wx.heap[wi.heap.size]? = some eb
 is : IS wx A c L
 len : L.length = ln
 fresh : Fresh wo.heap.size A
 keep : Keeps (fun b => b = lb) wo wx
 off : ∀ b, b ∈ fpA A → b ≠ wi.heap.size
 base : lb < wo.heap.size ∧ wo.heap.size ≤ wi.heap.size
section
variable {wo wi wx w' : World} {lb c ln : Nat} {y z u : Value} {eb : Obj} {A : Option Addr} {L : List Int}
theorem CdS.below (h : CdS wo wi lb y z u eb A c ln L wx) (hb : Below wx.heap.size wx w') : CdS wo wi lb y z u eb A c ln L w' :=
 ⟨t_box_below h.box hb, t_box_below h.edge hb, h.is.below hb, h.len, h.fresh, h.keep.free (Keeps.of_below hb (fun _ => False)) (fun _ _ h => h.elim), h.off, h.base⟩
theorem CdS.sl (h : CdS wo wi lb y z u eb A c ln L wx) : Sl wx tInt 1 A ln c (ints L) := by
 have := h.is
 unfold IS at this
 rwa [h.len] at this
theorem CdS.app (h : CdS wo wi lb y z u eb A c ln L wx) {A' : Option Addr} {c' m : Nat} {M : List Int} (hm : M.length = m) (hs : Sl w' tInt 1 A' (ln + m) c' (ints L ++ ints M)) (hA : ∀ b, b ∈ fpA A' → b ∈ fpA A ∨ wx.heap.size ≤ b) (hk : Keeps (· ∈ fpA A) wx w') :
  (w'.heap[lb]? = some (.cells #[.slice A ln c, y, z, u] 90) ∧ w'.heap[wi.heap.size]? = some eb) ∧ CdS wo wi lb y z u eb A' c' (ln + m) (L ++ M) (w'.setCell ⟨lb, 0, none⟩ (.slice A' (ln + m) c')) := by
 have hb1 := t_box_keeps h.box hk (fun x => by have := h.fresh _ x; have := h.base; omega)
 have hb2 := t_box_keeps h.edge hk (fun x => h.off _ x rfl)
 have hf : Fresh wo.heap.size A' := fun b hb => by
  rcases hA b hb with h1 | h1
  · exact h.fresh b h1
  · have := h.keep.size; omega
 obtain ⟨s1, s2⟩ := set4_0 (b := .slice A' (ln + m) c') hb1
 have hI : IS w' A' c' (L ++ M) := by
  unfold IS
  rw [List.length_append, h.len, hm, show ints (L ++ M) = ints L ++ ints M by simp [ints]]
  exact hs
 exact ⟨⟨hb1, hb2⟩, s1, t_box_keeps hb2 s2 (fun e => by have := h.base; omega), hI.keeps s2 fun b hb e => by have := hf b hb; have := h.base; omega, by rw [List.length_append, h.len, hm], hf,
  (h.keep.free hk fun b h1 h2 => by have := h.fresh b h2; omega).free s2 fun b _ e => e, fun b hb e => by
   rcases hA b hb with h1 | h1
   · exact h.off b h1 e
   · have := t_box_lt h.edge; omega, h.base⟩
end
set_option maxRecDepth 100000 in
set_option maxHeartbeats 8000000 in
theorem cnFrom_any {v : Value} {g : Gr} (w : World) (n m ee : Nat) (h : RdGr w v g) (hMo : Mono g n) (hm : g.2.1.length = m) (hee : ee < m) :
  Calls Tryz.prog 93 #[v, .int .i64 (ee : Int)] w (RetLp w (prtOf g (ee : Int))) := by
 have hn100 := hMo.n100
 have hm60 := hMo.m60
 have hgn := hMo.hn
 have hwi := fun (h0 : (0 : Int) ≤ (ee : Int)) (he : (ee : Int) < (g.2.1.length : Int)) => hMo.wires h0 he
 have hstart := startE_inv hMo (e := (ee : Int)) (by omega)
 have hsteq := startE_eq (g := g) (e := (ee : Int)) (by omega)
 have hkind := hMo.kind
 have hW0 := h
 obtain ⟨A, c, hs, ⟨B, b, s⟩, ⟨C', d', t⟩, rfl, e1, e2, e3, hE, hRa, hRb⟩ := h
 have hml : hs.length = m := by rw [← hm, e1, List.length_map]
 simp only [hml, hgn] at hW0 ⊢
 obtain ⟨pp, hpp⟩ : ∃ p, s.length = p := ⟨_, rfl⟩
 obtain ⟨r, hr⟩ : ∃ r, t.length = r := ⟨_, rfl⟩
 rw [hpp, hr] at hW0 ⊢
 obtain ⟨W, hWe, bW, k0, kr⟩ := twoBoxesC w (.cells #[.int .i64 (n : Int), .slice A m c, .slice B pp b, .slice C' r d'] tGr) (.cells #[.slice none 0 0, .slice none 0 0, .slice none 0 0, .int .i64 0] 90)
 have hWW := hW0.below bW
 have hEW := hE.below bW
 have bWd : Below W.heap.size W W.drew := below_drewN (Below.refl _ _) 1
 have hC1 := cnNone_any n W.drew (by omega)
 have hC2 := fun (W : World) => cnNone_any m W (by omega)
 obtain ⟨ad0, κ, vl, B1, b1, l1, C1, b2, l2, rfl, hn, ⟨d0, d1, d2, d3⟩, hr1, hr2⟩ := hEW.at_ (j := ee) (by rw [hml]; exact hee)
 have hed : edgeAt g (ee : Int) = (κ, vl, l1, l2) := by
  unfold edgeAt
  rw [Int.toNat_natCast, List.getD_eq_getElem?_getD, e1, List.getElem?_map, hn]
  rfl
 have hwl := hwi (by omega) (by omega)
 rw [hed] at hwl hsteq
 have hwl1 : ∀ x, x ∈ l1 → 0 ≤ x ∧ x < (n : Int) := fun x hx => hwl x (List.mem_append_left _ hx)
 have hwl2 : ∀ x, x ∈ l2 → 0 ≤ x ∧ x < (n : Int) := fun x hx => hwl x (List.mem_append_right _ hx)
 obtain ⟨⟨g1, g2⟩, _⟩ := egB_len (hkind (κ, vl, l1, l2) (by rw [e1]; exact List.mem_map.2 ⟨_, List.mem_of_getElem? hn, rfl⟩))
 simp only at g1 g2
 obtain ⟨p1, hp1⟩ : ∃ p1, l1.length = p1 := ⟨_, rfl⟩
 obtain ⟨p2, hp2⟩ : ∃ p2, l2.length = p2 := ⟨_, rfl⟩
 rw [hp1] at g1 d2
 rw [hp2] at g2 d3
 have heI : (ee : Int) < (m : Int) := by omega
 clear e2 e3 hE hRa hRb hW0 hwi hwl; have e1_h := lH e1; have hMo_h := lH hMo; have hgn_h := lH hgn; have hm_h := lH hm; have hml_h := lH hml; have hpp_h := lH hpp; have hr_h := lH hr; have bW_h := lH bW; have k0_h := lH k0; have kr_h := lH kr; have hWW_h := lH hWW; have hEW_h := lH hEW; have bWd_h := lH bWd; have hC1_h := lH hC1; have hC2_h := lH hC2; have hstart_h := lH hstart; have hsteq_h := lH hsteq; have hkind_h := lH hkind; have hn_h := lH hn; have hed_h := lH hed; have hwl1_h := lH hwl1; have hwl2_h := lH hwl2; have hp1_h := lH hp1; have hp2_h := lH hp2; have hr1_h := lH hr1; have hr2_h := lH hr2; have d0_h := lH d0; have d1_h := lH d1; have d2_h := lH d2; have d3_h := lH d3; clear e1 hMo hgn hm hml hpp hr bW k0 kr hWW hEW bWd hC1 hC2 hstart hsteq hkind hn hed hwl1 hwl2 hp1 hp2 hr1 hr2 d0 d1 d2 d3
 go_enter Tryz.func93, Tryz.ntmps93
 go_upto_region 1 with (fail)
 rw [← hWe]
 clear hWe
 refine beginH (fun w' => w'.heap[w.heap.size]? = some (.cells #[.int .i64 (n : Int), .slice (some ad0) m c, .slice B pp b, .slice C' r d'] tGr)) (by kernel_rfl) ?_
 have k1 := t_box_below k0_h.out bWd_h.out
 refine tkH 0 ?_ rfl k1 (fun W' hW' => ?_) ?_; rotate_left; · (obtain ⟨⟨y0, y1, y2, y3⟩, y4, y5, y6, y7⟩ := t_box4 hW'; clear hW'; go_simp; first | done | with_reducible rfl)
 simp only [Act.put, nS]
 refine tkH 1 ?_ rfl k1 (fun W' hW' => ?_) ?_; rotate_left; · (obtain ⟨⟨y0, y1, y2, y3⟩, y4, y5, y6, y7⟩ := t_box4 hW'; clear hW'; go_simp; first | done | with_reducible rfl)
 simp only [Act.put, nS]
 refine tkH 3 ?_ rfl k1 (fun W' hW' => ?_) ?_; rotate_left; · (obtain ⟨⟨y0, y1, y2, y3⟩, y4, y5, y6, y7⟩ := t_box4 hW'; clear hW'; go_simp; first | done | with_reducible rfl)
 simp only [Act.put, nS]
 refine tkH 4 ?_ rfl k1 (fun W' hW' => ?_) ?_; rotate_left; · (obtain ⟨⟨y0, y1, y2, y3⟩, y4, y5, y6, y7⟩ := t_box4 hW'; clear hW'; go_simp; first | done | with_reducible rfl)
 simp only [Act.put, nS]
 refine tkH 5 ?_ rfl k1 (fun W' hW' => ?_) ?_; rotate_left; · (obtain ⟨⟨y0, y1, y2, y3⟩, y4, y5, y6, y7⟩ := t_box4 hW'; clear hW'; go_simp; first | done | with_reducible rfl)
 simp only [Act.put, nS]
 refine' callH 2 (f := _) (args := _) rfl (by kernel_rfl) (by rfl) ?_ ?_; rotate_left 2; · (go_simp; first | done | with_reducible rfl | (constructor <;> with_reducible rfl))
 refine (hC1_h.out).mono ?_
 rintro e w1 ⟨N, rfl, hI1, hG1, hb1⟩
 have k2 := t_box_below k1 hb1
 have hbW1 := below_trans bWd_h.out hb1 bWd_h.out.size
 refine ⟨_, rfl, k2, ?_⟩
 simp only [Act.put, nS]
 refine' callH 6 (f := _) (args := _) rfl (by kernel_rfl) (by rfl) ?_ ?_; rotate_left 2; · (go_simp; first | done | with_reducible rfl | (constructor <;> with_reducible rfl))
 refine ((hC2_h.out _)).mono ?_
 rintro e w2 ⟨E, rfl, hI2, hG2, hb2⟩
 have k3 := t_box_below k2 hb2
 refine ⟨_, rfl, k3, ?_⟩
 simp only [Act.put, nS]
 refine tkH 7 ?_ rfl k3 (fun W' hW' => ?_) ?_; rotate_left; · (skip; clear hW'; go_simp; first | done | with_reducible rfl)
 simp only [Act.put, nS]
 refine tkH 8 ?_ rfl k3 (fun W' hW' => ?_) ?_; rotate_left; · (skip; clear hW'; go_simp; first | done | with_reducible rfl)
 simp only [Act.put, nS]
 refine doneH (by kernel_rfl) ?_
 have hI1' := hI1.below hb2
 have hN2 : N.block < w1.heap.size := hI1.lt N.block (by simp)
 have hdz : W.drew.heap.size = W.heap.size := rfl
 have hz1 := hb1.size
 have hBW2 := below_trans hbW1 hb2 hbW1.size
 have hC0 : CnW W n m N E w2 none 0 ([], []) := ⟨by show IS w2 (some N) n (numsL n []); rw [numsL_zero]; exact hI1', by show IS w2 (some E) m (numsL m []); rw [numsL_zero]; exact hI2, Sl.nil _ _ _, by omega, by omega, Fresh.none_ _, by omega, fun b hb => by simp at hb, hBW2⟩
 obtain ⟨zd, zv, ze, zy, _, pd, zf⟩ := hC0.edg.at_ (j := ee) (by rw [numsL_length]; exact hee)
 obtain rfl := Option.some.inj ze
 have zfe := zf ee
 have hC3 := hC0.mark (e := ee) hee (by simp)
 obtain ⟨w3, hw3⟩ : ∃ w3, w3 = w2.setCell (E.add ee) (.int .i64 0) := ⟨_, rfl⟩
 have hC3' : CnW W n m N E w3 none 0 ([], [(ee : Int)]) := by rw [hw3]; exact hC3
 have hB3 := hC3'.bel
 have c1 := cnGive_any N n none B1 0 b1 p1 0 [] l1 w3 hC3'.num hC3'.ord (fun b hb => (hC3'.an b hb).1) (hr1_h.out.below hB3) (hC3'.apart hr1_h.out hp1_h.out) hn100 List.nodup_nil (fun x hx => by cases hx) hwl1_h.out hp1_h.out rfl (by omega)
 obtain ⟨q1, hq1⟩ : ∃ q1, (giveL [] l1).length = q1 := ⟨_, rfl⟩
 rw [hq1] at c1
 have k4 := t_box_below k0_h.out hB3
 have y2' := (hB3.cell (World.block_lt_of_cell? _ _ d2_h.out)).trans d2_h.out
 obtain ⟨⟨y0, y1, y2, y3⟩, y4, y5, y6, y7⟩ := t_box4 k4
 clear hI1 hI2 hI1' hb1 hb2 hbW1 hC1_h hC2_h k1 k2 k3 k4 hC0 hC3 zf ze zy; have hC3'_h := lH hC3'; have c1_h := lH c1; have hq1_h := lH hq1; have hBW2_h := lH hBW2; have hB3_h := lH hB3; clear hC3' c1 hq1 hBW2 hB3
 go_upto_region 3 with (fail)
 rw [← hw3]
 clear hw3 pd zfe
 go_wp2_with (fail)
 refine (c1_h.out).mono ?_
 rintro e w4 ⟨A1, cap1, rfl, hR1⟩
 have hC4 : CnW W n m N E w4 A1 cap1 (giveL [] l1, [(ee : Int)]) := hC3'_h.out.give hR1
 have h1n := giveL_nodup (l := l1) (o := []) List.nodup_nil
 have h1r : ∀ x, x ∈ giveL [] l1 → 0 ≤ x ∧ x < (n : Int) := fun x hx => by
  rcases mem_giveL.1 hx with hx | hx
  · cases hx
  · exact hwl1_h.out x hx
 have c2 := cnGive_any N n A1 C1 cap1 b2 p2 q1 (giveL [] l1) l2 w4 hC4.num hC4.ord (fun b hb => (hC4.an b hb).1) (hr2_h.out.below hC4.bel) (hC4.apart hr2_h.out hp2_h.out) hn100 h1n h1r hwl2_h.out hp2_h.out hq1_h.out (by omega)
 have hst : giveL (giveL [] l1) l2 = (startE g (ee : Int)).1 := by rw [hsteq_h.out, ← giveL_append]; rfl
 have hst2 : (startE g (ee : Int)).2 = [(ee : Int)] := by rw [hsteq_h.out]
 rw [hst] at c2
 obtain ⟨q2, hq2⟩ : ∃ q2, (startE g (ee : Int)).1.length = q2 := ⟨_, rfl⟩
 rw [hq2] at c2
 have k4 := t_box_below k0_h.out hC4.bel
 have y3' := (hC4.bel.cell (World.block_lt_of_cell? _ _ d3_h.out)).trans d3_h.out
 clear y0 y1 y2 y3 y4 y5 y6 y7 y2' hC3'_h c1_h hR1
 obtain ⟨⟨y0, y1, y2, y3⟩, y4, y5, y6, y7⟩ := t_box4 k4
 clear k4; have hC4_h := lH hC4; have c2_h := lH c2; have hq2_h := lH hq2; have h1n_h := lH h1n; have h1r_h := lH h1r; have hst_h := lH hst; have hst2_h := lH hst2; clear hC4 c2 hq2 h1n h1r hst hst2
 go_wp2_with (fail)
 refine (c2_h.out).mono ?_
 rintro e w5 ⟨A2, cap2, rfl, hR2⟩
 have hC5 : CnW W n m N E w5 A2 cap2 (startE g (ee : Int)) := by
  have := hC4_h.out.give hR2
  rw [show startE g (ee : Int) = ((startE g (ee : Int)).1, (startE g (ee : Int)).2) from rfl, hst2_h.out]
  exact this
 have cw := cnWalk_any W w5 n m 1 q2 N E A2 cap2 (startE g (ee : Int)) hWW_h.out hMo_h.out hstart_h.out hC5 hm_h.out hq2_h.out (by rw [hst2_h.out]; rfl)
 rw [show finW g (startE g (ee : Int)) = fromM g (ee : Int) from rfl, show ((1 : Nat) : Int) = 1 from rfl] at cw
 have hinv := fromM_inv hMo_h.out (e := (ee : Int)) (by rw [hm_h.out]; exact heI)
 obtain ⟨sv, hsv⟩ : ∃ sv, sv = fromM g (ee : Int) := ⟨_, rfl⟩
 rw [← hsv] at cw hinv
 obtain ⟨q3, hq3⟩ : ∃ q3, sv.1.length = q3 := ⟨_, rfl⟩
 obtain ⟨p3, hp3⟩ : ∃ p3, sv.2.length = p3 := ⟨_, rfl⟩
 have hle := hinv.le
 rw [hq3, hp3, hm_h.out] at hle
 rw [hm_h.out] at hm60
 rw [hq3, hp3] at cw
 have k4 := t_box_below k0_h.out hC5.bel
 clear y0 y1 y2 y3 y4 y5 y6 y7 y3' hC4_h c2_h hR2
 obtain ⟨⟨y0, y1, y2, y3⟩, y4, y5, y6, y7⟩ := t_box4 k4
 clear k4 hC5; have cw_h := lH cw; have hq3_h := lH hq3; have hp3_h := lH hp3; have hinv_h := lH hinv; have hsv_h := lH hsv; clear cw hq3 hp3 hinv hsv
 go_wp2_with (fail)
 refine (cw_h.out).mono ?_
 rintro e w6 ⟨A3, cap3, rfl, hC6⟩
 clear y0 y1 y2 y3 y4 y5 y6 y7 cw_h; have hC6_h := lH hC6; clear hC6
 go_wp2_with (at_make; refine wpList_make_Sl _ rfl _ _ _ rfl tInt Tryz.underlying23 info_int p3 p3 rfl rfl rfl rfl (Nat.le_refl _) (by omega) (by unfold maxLen; omega) ?_; intro G w7 hs7 hG hb7)
 have hI7 : IS w7 (some G) p3 (List.replicate p3 0) := IS.of_made hs7
 obtain ⟨W8, hW8, b8, k8⟩ : ∃ W8, W8 = w7.alloc (.cells #[.slice none 0 0, .slice A3 q3 cap3, .slice (some G) p3 p3, .int .i64 1] 90) ∧ Below w7.heap.size w7 W8 ∧ W8.heap[w7.heap.size]? = some (.cells #[.slice none 0 0, .slice A3 q3 cap3, .slice (some G) p3 p3, .int .i64 1] 90) := ⟨_, rfl, t_below_alloc _ _, heap_alloc_new _ _⟩
 rw [← hW8]
 have hC8 := (hC6_h.out.below hb7).below b8
 have hI8 := hI7.below b8
 have hGl : G.block < w7.heap.size := hI7.lt G.block (by simp)
 have hGE : E.block < w6.heap.size := hC6_h.out.edg.lt E.block (by simp)
 rw [← hp3_h.out, ← invL_zero (fun x hx => (hinv_h.out.rg2 x hx).1)] at hI8
 rw [hp3_h.out] at hI8
 have hC6l := fun b (hb : b ∈ fpA A3) => Nat.lt_of_lt_of_le (hC6_h.out.ord.lt b hb) hb7.size
 have hG6 : w6.heap.size ≤ G.block := hG
 have hN6 := hC6_h.out.num.lt N.block (by simp)
 have hA6 := hC6_h.out.ord.lt
 have hW6 := hC6_h.out.bel.size
 clear hs7 hI7 hW8 hC6_h; have hC8_h := lH hC8; have hI8_h := lH hI8; have k8_h := lH k8; have b8_h := lH b8; clear hC8 hI8 k8 b8
 go_loopw [56] (fun i wr => ∃ k : Nat, k ≤ m ∧ i = .int .i64 k ∧ IS wr (some G) p3 (invL sv.2 k) ∧ Keeps (fun b => b = G.block) W8 wr) (fun i _ => m - (intOf i).toNat)
 case atStart => exact ⟨0, Nat.zero_le _, rfl, hI8_h.out, Keeps.refl _ _⟩
 case round =>
  clear hI8_h
  obtain ⟨k, hk, rfl, hIS, hKe⟩ := hrel
  obtain ⟨wo, rfl⟩ : ∃ x, x = wr := ⟨_, rfl⟩
  have hEo := hC8_h.out.edg.keeps hKe (fun b hb h => by simp at hb; omega)
  have k8o := t_box_keeps k8_h.out hKe (by omega)
  obtain ⟨⟨y0, y1, y2, y3⟩, y4, y5, y6, y7⟩ := t_box4 k8o
  by_cases hlt : k < m
  · have hkI : (k : Int) < (m : Int) := by omega
    by_cases hmem : (k : Int) ∈ sv.2
    · have hst' := invL_set hinv_h.out.nd2 hmem
      have hir := idx_lt hmem
      obtain ⟨dd, hdd⟩ : ∃ dd : Nat, idx sv.2 (k : Int) = (dd : Int) := ⟨(idx sv.2 (k : Int)).toNat, by omega⟩
      rw [hdd, Int.toNat_natCast] at hst'
      rw [hdd, hp3_h.out] at hir
      obtain ⟨zd, ze, pk⟩ := hEo.rd k (dd : Int) (by rw [numsL_get hlt, if_pos hmem, hdd])
      obtain rfl := Option.some.inj ze
      obtain ⟨zd, zv, ze, zy, _, pd, zf⟩ := hIS.at_ (j := dd) (by rw [invL_length, hp3_h.out]; omega)
      obtain rfl := Option.some.inj ze
      have zfe := zf dd
      have hset := hIS.set (ad := G) rfl (j := dd) (k : Int) (by rw [invL_length, hp3_h.out]; omega)
      rw [← hst'] at hset
      have hK2 := hKe.setCell (p := G.add dd) (by rw [block_of_add]) (.int .i64 (k : Int))
      have hdI : (dd : Int) < (p3 : Int) := by omega
      clear hIS hKe hEo zf ze zy hst' hdd hmem k8o hir; have hset_h := lH hset; have hK2_h := lH hK2; clear hset hK2
      go_wp2_with (fail)
      go_roundw
      case rel => exact ⟨k + 1, by omega, by go_num, hset_h.out, hK2_h.out⟩
      case measure => simp [intOf]; omega
    · obtain ⟨zd, ze, pk⟩ := hEo.rd k (-1) (numsL_of_not hlt hmem)
      obtain rfl := Option.some.inj ze
      rw [← invL_skip hmem] at hIS
      clear hEo ze hmem k8o; have hIS_h := lH hIS; have hKe_h := lH hKe; clear hIS hKe
      go_wp2_with (fail)
      go_roundw
      case rel => exact ⟨k + 1, by omega, by go_num, hIS_h.out, hKe_h.out⟩
      case measure => simp [intOf]; omega
  · obtain rfl : m = k := by omega
    rw [invL_end (fun x hx => by have := (hinv_h.out.rg2 x hx).2; rw [hm_h.out] at this; exact this)] at hIS
    have hC9 : CnW W n m N E wo A3 cap3 sv := by
     have h := hC8_h.out
     have hne : ∀ b, b ∈ fpA A3 → b ≠ G.block := fun b hb => by
      have := hA6 b hb
      omega
     exact ⟨h.num.keeps hKe fun b hb hh => by simp at hb; omega, hEo, h.ord.keeps hKe fun b hb hh => hne b hb hh, h.nf, h.ef, h.af, h.ne, h.an, below_keeps h.bel hKe h.bel.size fun b hb => by omega⟩
    have hL := t_box_lt k8o
    have hcl := codeTo_len (g := g) (s := sv) (fun x hx => by
     have hr := hinv_h.out.rg2 x hx
     have he := hkind_h.out _ (edge_mem (g := g) (i := x.toNat) (by omega))
     obtain ⟨⟨l1, l2⟩, _⟩ := egB_len he
     unfold edgeAt wiresE
     rw [List.length_append]
     omega)
    have hcl_h := lH hcl; clear hcl; clear k8_h hC8_h hKe hEo; have hIS_h := lH hIS; have hC9_h := lH hC9; have k8o_h := lH k8o; clear hIS hC9 k8o
    go_wp2_with (fail)
    clear y0 y1 y2 y3 y4 y5 y6 y7
    go_loopw [72] (fun i wr => ∃ (k : Nat) (D : Option Addr) (dc dl : Nat), k ≤ p3 ∧ i = .int .i64 k ∧ dl = (codeTo g sv k).length ∧ wr.heap[w7.heap.size]? = some (.cells #[.slice D dl dc, .slice A3 q3 cap3, .slice (some G) p3 p3, .int .i64 1] 90) ∧ IS wr D dc (codeTo g sv k) ∧ Fresh wo.heap.size D ∧ Keeps (fun b => b = w7.heap.size) wo wr) (fun i _ => p3 - (intOf i).toNat)
    case atStart => exact ⟨0, none, 0, 0, Nat.zero_le _, rfl, rfl, k8o_h.out, Sl.nil _ _ _, Fresh.none_ _, Keeps.refl _ _⟩
    case round =>
     clear k8o_h
     obtain ⟨k, D, dc, dl, hk, rfl, hdl, kL, hD, hDf, hKe⟩ := hrel
     obtain ⟨wi, rfl⟩ : ∃ x, x = wr := ⟨_, rfl⟩
     obtain ⟨⟨y0, y1, y2, y3⟩, y4, y5, y6, y7⟩ := t_box4 kL
     by_cases hlt : k < p3
     · obtain ⟨x, hx⟩ : ∃ x, sv.2[k]? = some x := ⟨_, List.getElem?_eq_getElem (by rw [hp3_h.out]; exact hlt)⟩
       have hxm := List.mem_of_getElem? hx
       have hxr := hinv_h.out.rg2 x hxm
       rw [hm_h.out] at hxr
       obtain ⟨ff, rfl⟩ : ∃ ff : Nat, x = (ff : Int) := ⟨x.toNat, by omega⟩
       have hGi := hIS_h.out.keeps hKe (fun b hb h => by simp at hb; omega)
       have hNi := hC9_h.out.num.keeps hKe (fun b hb h => by simp at hb; omega)
       have hBi := below_keeps hC9_h.out.bel hKe hC9_h.out.bel.size fun b hb => by omega
       obtain ⟨zd, ze, pg⟩ := hGi.rd k _ hx
       obtain rfl := Option.some.inj ze
       obtain ⟨ad1, κ1, vl1, B2, bb1, m1, C2, bb2, m2, hae, hn1, ⟨d0, d1, d2, d3⟩, hr3, hr4⟩ := (hEW_h.out.below hBi).at_ (j := ff) (by rw [hml_h.out]; omega)
       obtain rfl := Option.some.inj hae
       have hffI : (ff : Int) < (m : Int) := by omega
       have hkI : (k : Int) < (p3 : Int) := by omega
       obtain ⟨r1, hr1'⟩ : ∃ r1, m1.length = r1 := ⟨_, rfl⟩
       obtain ⟨r2, hr2'⟩ : ∃ r2, m2.length = r2 := ⟨_, rfl⟩
       rw [hr1'] at d2
       rw [hr2'] at d3
       have hdl360 : dl ≤ 360 := by have := hcl_h.out k; omega
       have hnLD : ¬ w7.heap.size ∈ fpA D := fun h => by have := hDf _ h; omega
       have hg := t_box_below k0_h.out hBi
       obtain ⟨⟨u0, u1, u2, u3⟩, f0, f1, f2, f3⟩ := t_box4 hg
       obtain ⟨W10, hW10, b10, k10⟩ : ∃ W10, W10 = wi.alloc (.cells #[.int .i64 κ1, .int .i64 vl1, .slice B2 r1 bb1, .slice C2 r2 bb2] tEd) ∧ Below wi.heap.size wi W10 ∧ W10.heap[wi.heap.size]? = some (.cells #[.int .i64 κ1, .int .i64 vl1, .slice B2 r1 bb1, .slice C2 r2 bb2] tEd) := ⟨_, rfl, t_below_alloc _ _, heap_alloc_new _ _⟩
       have hD10 := (hD.below b10).alloc (.cells #[.int .i64 κ1, .int .i64 vl1] tInt)
       rw [← hdl] at hD10
       have kL10 := t_box_below kL b10
       obtain ⟨⟨i0, i1, i2, i3⟩, j0, j1, j2, j3⟩ := t_box4 k10
       obtain ⟨⟨x0, x1, x2, x3⟩, z0, z1, z2, z3⟩ := t_box4 kL10
       clear hg ze hxr; have hGi_h := lH hGi; have hNi_h := lH hNi; have hBi_h := lH hBi; have hx_h := lH hx; have hxm_h := lH hxm; have hr1'_h := lH hr1'; have hr2'_h := lH hr2'; have hr3_h := lH hr3; have hr4_h := lH hr4; have hn1_h := lH hn1; have hD_h := lH hD; have hDf_h := lH hDf; have hKe_h := lH hKe; have hdl_h := lH hdl; have kL_h := lH kL; have b10_h := lH b10; have k10_h := lH k10; have hD10_h := lH hD10; have kL10_h := lH kL10; clear hGi hNi hBi hx hxm hr1' hr2' hr3 hr4 hn1 hD hDf hKe hdl kL b10 k10 hD10 kL10
       go_upto_region 17 with (fail)
       rw [← hW10]
       clear hW10 pg d0 d1 d2 d3 u0 u1 u2 u3 f0 f1 f2 f3 y0 y1 y2 y3 y4 y5 y6 y7
       go_wp2_with (at_builtin; refine wpList_append_Sl _ rfl _ _ _ rfl 3 Tryz.underlying23 info_int rfl (by omega) rfl hD10_h.out rfl (news := [.int .i64 κ1, .int .i64 vl1]) rfl (Sl.rdc (Sl.laid W10 3 1 2 #[.int .i64 κ1, .int .i64 vl1] (by unfold maxLen; omega) rfl)) (by intro u hu; simp at hu; rcases hu with rfl | rfl <;> rfl) (by unfold maxLen; omega) (by omega) ?_; intro A5 c5 w11 hs11 hA11 hk11; have kL11 := t_box_keeps (t_box_below kL10_h.out (t_below_alloc W10 (.cells #[.int .i64 κ1, .int .i64 vl1] tInt))) hk11 hnLD; obtain ⟨⟨v0, v1, v2, v3⟩, t0, t1, t2, t3⟩ := t_box4 kL11)
       have hed1 : edgeAt g (ff : Int) = (κ1, vl1, m1, m2) := by
        unfold edgeAt
        rw [Int.toNat_natCast, List.getD_eq_getElem?_getD, e1_h.out, List.getElem?_map, hn1_h.out]
        rfl
       have hcode := codeE_mem hinv_h.out hxm_h.out hed1
       have hwl' := hMo_h.out.wires (e := (ff : Int)) (by omega) (by rw [hm_h.out]; exact hffI)
       rw [hed1] at hwl'
       have hwm1 : ∀ x, x ∈ m1 → 0 ≤ x ∧ x < (n : Int) := fun x hx => hwl' x (List.mem_append_left _ hx)
       have hwm2 : ∀ x, x ∈ m2 → 0 ≤ x ∧ x < (n : Int) := fun x hx => hwl' x (List.mem_append_right _ hx)
       obtain ⟨⟨g3, g4⟩, _⟩ := egB_len (hkind_h.out (κ1, vl1, m1, m2) (by rw [e1_h.out]; exact List.mem_map.2 ⟨_, List.mem_of_getElem? hn1_h.out, rfl⟩))
       simp only at g3 g4
       rw [hr1'_h.out] at g3
       rw [hr2'_h.out] at g4
       have hnl : (numsL n sv.1).length = n := numsL_length _ _
       have hnW : W10.heap[w7.heap.size]? = some (.cells #[.slice D dl dc, .slice A3 q3 cap3, .slice (some G) p3 p3, .int .i64 1] 90) := t_box_below kL_h.out b10_h.out
       have hS10 : CdS wo wi w7.heap.size (.slice A3 q3 cap3) (.slice (some G) p3 p3) (.int .i64 1) (.cells #[.int .i64 κ1, .int .i64 vl1, .slice B2 r1 bb1, .slice C2 r2 bb2] tEd) D dc dl (codeTo g sv k) W10 :=
        ⟨hnW, k10_h.out, hD_h.out.below b10_h.out, hdl_h.out.symm, hDf_h.out, hKe_h.out.free (Keeps.of_below b10_h.out (fun _ => False)) (fun _ _ h => h.elim), fun b hb e => by have := hD_h.out.lt b hb; omega, hL, hKe_h.out.size⟩
       have hS12 := ((hS10.below (t_below_alloc W10 (.cells #[.int .i64 κ1, .int .i64 vl1] tInt))).app (M := [κ1, vl1]) (m := 2) rfl hs11 hA11 hk11).2
       generalize (w11.setCell ⟨w7.heap.size, 0, none⟩ (.slice A5 (dl + 2) c5)) = w12 at hS12 ⊢
       clear hs11 hA11 hk11 kL11 v0 v1 v2 v3 t0 t1 t2 t3 hwl' x0 x1 x2 x3 z0 z1 z2 z3 i0 i1 i2 i3 j0 j1 j2 j3 hnW hS10; clear hGi_h hNi_h hBi_h hD10_h kL10_h kL_h hD_h hDf_h hKe_h b10_h k10_h
       have hl1 := mapL_len (numsL n sv.1) m1
       have hl2 := mapL_len (numsL n sv.1) m2
       rw [hr1'_h.out] at hl1
       rw [hr2'_h.out] at hl2
       have hed1_h := lH hed1; have hcode_h := lH hcode; have hwm1_h := lH hwm1; have hwm2_h := lH hwm2; have hS12_h := lH hS12; have hl1_h := lH hl1; have hl2_h := lH hl2; have hnl_h := lH hnl; clear hed1 hcode hwm1 hwm2 hS12 hl1 hl2 hnl
       go_wp2_with (fail)
       refine beginZw 8 (fun w' => w'.heap[w7.heap.size]? = some (.cells #[.slice A5 (dl + 2) c5, .slice A3 q3 cap3, .slice (some G) p3 p3, .int .i64 1] 90) ∧ w'.heap[wi.heap.size]? = some (.cells #[.int .i64 κ1, .int .i64 vl1, .slice B2 r1 bb1, .slice C2 r2 bb2] tEd)) (by kernel_rfl) (fun W1 hW1 => ?_)
       have hSd := hS12_h.out.below (w' := W1) (by rw [hW1]; exact below_drewN (Below.refl _ _) 1)
       have hBd := below_keeps hC9_h.out.bel hSd.keep hC9_h.out.bel.size fun b hb => by omega
       have hrd := ((hEW_h.out.below hBd).2 _ (List.mem_of_getElem? hn1_h.out)).1
       have hrn := (hC9_h.out.num.keeps hSd.keep (fun b hb h => by simp at hb; omega)).rd
       have cH := hgList_any B2 (some N) bb1 n r1 n m1 (numsL n sv.1) W1 hrd hrn hr1'_h.out hnl_h.out hwm1_h.out (by omega)
       clear hW1 hrd hrn hBd hS12_h; have hSd_h := lH hSd; have cH_h := lH cH; clear hSd cH
       refine tkC 0 ?_ rfl (⟨hSd_h.out.box, hSd_h.out.edge⟩ : _ ∧ _) (fun W' hW' => ?_) ?_; rotate_left; · (obtain ⟨⟨⟨y0, y1, y2, y3⟩, y4, y5, y6, y7⟩, ⟨i0, i1, i2, i3⟩, i4, i5, i6, i7⟩ := (⟨t_box4 hW'.1, t_box4 hW'.2⟩ : _ ∧ _); clear hW'; go_simp; first | done | with_reducible rfl)
       simp only [Act.put, nS]
       refine tkC 1 ?_ rfl (⟨hSd_h.out.box, hSd_h.out.edge⟩ : _ ∧ _) (fun W' hW' => ?_) ?_; rotate_left; · (obtain ⟨⟨⟨y0, y1, y2, y3⟩, y4, y5, y6, y7⟩, ⟨i0, i1, i2, i3⟩, i4, i5, i6, i7⟩ := (⟨t_box4 hW'.1, t_box4 hW'.2⟩ : _ ∧ _); clear hW'; go_simp; first | done | with_reducible rfl)
       simp only [Act.put, nS]
       refine tkC 2 ?_ rfl (⟨hSd_h.out.box, hSd_h.out.edge⟩ : _ ∧ _) (fun W' hW' => ?_) ?_; rotate_left; · (obtain ⟨⟨⟨y0, y1, y2, y3⟩, y4, y5, y6, y7⟩, ⟨i0, i1, i2, i3⟩, i4, i5, i6, i7⟩ := (⟨t_box4 hW'.1, t_box4 hW'.2⟩ : _ ∧ _); clear hW'; go_simp; first | done | with_reducible rfl)
       simp only [Act.put, nS]
       refine tkC 3 ?_ rfl (⟨hSd_h.out.box, hSd_h.out.edge⟩ : _ ∧ _) (fun W' hW' => ?_) ?_; rotate_left; · (obtain ⟨⟨⟨y0, y1, y2, y3⟩, y4, y5, y6, y7⟩, ⟨i0, i1, i2, i3⟩, i4, i5, i6, i7⟩ := (⟨t_box4 hW'.1, t_box4 hW'.2⟩ : _ ∧ _); clear hW'; go_simp; first | done | with_reducible rfl)
       simp only [Act.put, nS]
       refine tkC 4 ?_ rfl (⟨hSd_h.out.box, hSd_h.out.edge⟩ : _ ∧ _) (fun W' hW' => ?_) ?_; rotate_left; · (obtain ⟨⟨⟨y0, y1, y2, y3⟩, y4, y5, y6, y7⟩, ⟨i0, i1, i2, i3⟩, i4, i5, i6, i7⟩ := (⟨t_box4 hW'.1, t_box4 hW'.2⟩ : _ ∧ _); clear hW'; go_simp; first | done | with_reducible rfl)
       simp only [Act.put, nS]
       refine callZ 5 (f := ?f1) (args := ?args1) rfl (by kernel_rfl) (by rfl) ?hrun1 ?hcall1
       case hrun1 => (go_simp; first | done | with_reducible rfl | (constructor <;> with_reducible rfl))
       case hcall1 =>
        refine (cH_h.out).mono ?_
        rintro e w13 ⟨A9, c9, rfl, hO9⟩
        have hI9 := hO9.is
        have hb9 := hO9.below_
        have hS13 := hSd_h.out.below hb9
        refine ⟨_, rfl, fun _ => ⟨hS13.box, hS13.edge⟩, ?_⟩
        simp only [Act.put, nS]
        have hr9 := hI9.rd.rdc
        have hl9 : (ints (mapL (numsL n sv.1) m1)).length = r1 * 1 := by rw [ints_length, hl1_h.out, Nat.mul_one]
        clear hI9 cH_h hSd_h hO9 hb9; have hS13_h := lH hS13; have hr9_h := lH hr9; have hl9_h := lH hl9; clear hS13 hr9 hl9
        refine appZ 6 rfl (by kernel_rfl) (by rfl) _ _ _ rfl tInt Tryz.underlying23 info_int rfl (by omega) rfl hS13_h.out.sl rfl hl9_h.out hr9_h.out (ints_one (mapL (numsL n sv.1) m1)) (by unfold maxLen; omega) (by omega) ?_
        intro A6 c6 w14 hsA6 hA6 hkA6 hrdA6
        clear hrdA6
        obtain ⟨hF4, hS18⟩ := hS13_h.out.app hl1_h.out hsA6 hA6 hkA6
        refine ⟨fun _ => hF4, ?_⟩
        simp only [Act.put, nS]
        obtain ⟨⟨y0, y1, y2, y3⟩, y4, y5, y6, y7⟩ := t_box4 hF4.1
        clear hsA6 hA6 hkA6 hS13_h hr9_h hl9_h; have hS18_h := lH hS18; have hF4_h := lH hF4; clear hS18 hF4
        refine tkC 7 ?_ rfl hF4_h.out (fun W' hW' => ?_) ?_; rotate_left; · (skip; clear hW'; go_simp; first | done | with_reducible rfl)
        simp only [Act.put, nS]
        clear hF4_h
        refine oneZ 8 rfl (by kernel_rfl) (by rfl) (fun K hK => ?_)
        go_simp
        refine hK _ _ (fun h => by cases h) ?_
        clear hK K
        refine doneZ (by kernel_rfl) ?_
        clear y0 y1 y2 y3 y4 y5 y6 y7
        generalize (w14.setCell ⟨w7.heap.size, 0, none⟩ (.slice A6 (dl + 2 + r1) c6)) = w18 at hS18_h ⊢
        obtain ⟨A7, rfl⟩ : ∃ x, x = A6 := ⟨_, rfl⟩
        obtain ⟨c7, rfl⟩ : ∃ x, x = c6 := ⟨_, rfl⟩
        go_wp2_with (fail)
        refine beginZw 8 (fun w' => w'.heap[w7.heap.size]? = some (.cells #[.slice A7 (dl + 2 + r1) c7, .slice A3 q3 cap3, .slice (some G) p3 p3, .int .i64 1] 90) ∧ w'.heap[wi.heap.size]? = some (.cells #[.int .i64 κ1, .int .i64 vl1, .slice B2 r1 bb1, .slice C2 r2 bb2] tEd)) (by kernel_rfl) (fun W1 hW1 => ?_)
        have hSd := hS18_h.out.below (w' := W1) (by rw [hW1]; exact below_drewN (Below.refl _ _) 1)
        have hBd := below_keeps hC9_h.out.bel hSd.keep hC9_h.out.bel.size fun b hb => by omega
        have hrd := ((hEW_h.out.below hBd).2 _ (List.mem_of_getElem? hn1_h.out)).2
        have hrn := (hC9_h.out.num.keeps hSd.keep (fun b hb h => by simp at hb; omega)).rd
        have cH := hgList_any C2 (some N) bb2 n r2 n m2 (numsL n sv.1) W1 hrd hrn hr2'_h.out hnl_h.out hwm2_h.out (by omega)
        clear hW1 hrd hrn hBd hS18_h; have hSd_h := lH hSd; have cH_h := lH cH; clear hSd cH
        refine tkC 0 ?_ rfl (⟨hSd_h.out.box, hSd_h.out.edge⟩ : _ ∧ _) (fun W' hW' => ?_) ?_; rotate_left; · (obtain ⟨⟨⟨y0, y1, y2, y3⟩, y4, y5, y6, y7⟩, ⟨i0, i1, i2, i3⟩, i4, i5, i6, i7⟩ := (⟨t_box4 hW'.1, t_box4 hW'.2⟩ : _ ∧ _); clear hW'; go_simp; first | done | with_reducible rfl)
        simp only [Act.put, nS]
        refine tkC 1 ?_ rfl (⟨hSd_h.out.box, hSd_h.out.edge⟩ : _ ∧ _) (fun W' hW' => ?_) ?_; rotate_left; · (obtain ⟨⟨⟨y0, y1, y2, y3⟩, y4, y5, y6, y7⟩, ⟨i0, i1, i2, i3⟩, i4, i5, i6, i7⟩ := (⟨t_box4 hW'.1, t_box4 hW'.2⟩ : _ ∧ _); clear hW'; go_simp; first | done | with_reducible rfl)
        simp only [Act.put, nS]
        refine tkC 2 ?_ rfl (⟨hSd_h.out.box, hSd_h.out.edge⟩ : _ ∧ _) (fun W' hW' => ?_) ?_; rotate_left; · (obtain ⟨⟨⟨y0, y1, y2, y3⟩, y4, y5, y6, y7⟩, ⟨i0, i1, i2, i3⟩, i4, i5, i6, i7⟩ := (⟨t_box4 hW'.1, t_box4 hW'.2⟩ : _ ∧ _); clear hW'; go_simp; first | done | with_reducible rfl)
        simp only [Act.put, nS]
        refine tkC 3 ?_ rfl (⟨hSd_h.out.box, hSd_h.out.edge⟩ : _ ∧ _) (fun W' hW' => ?_) ?_; rotate_left; · (obtain ⟨⟨⟨y0, y1, y2, y3⟩, y4, y5, y6, y7⟩, ⟨i0, i1, i2, i3⟩, i4, i5, i6, i7⟩ := (⟨t_box4 hW'.1, t_box4 hW'.2⟩ : _ ∧ _); clear hW'; go_simp; first | done | with_reducible rfl)
        simp only [Act.put, nS]
        refine tkC 4 ?_ rfl (⟨hSd_h.out.box, hSd_h.out.edge⟩ : _ ∧ _) (fun W' hW' => ?_) ?_; rotate_left; · (obtain ⟨⟨⟨y0, y1, y2, y3⟩, y4, y5, y6, y7⟩, ⟨i0, i1, i2, i3⟩, i4, i5, i6, i7⟩ := (⟨t_box4 hW'.1, t_box4 hW'.2⟩ : _ ∧ _); clear hW'; go_simp; first | done | with_reducible rfl)
        simp only [Act.put, nS]
        refine callZ 5 (f := ?f2) (args := ?args2) rfl (by kernel_rfl) (by rfl) ?hrun2 ?hcall2
        case hrun2 => (go_simp; first | done | with_reducible rfl | (constructor <;> with_reducible rfl))
        case hcall2 =>
         refine (cH_h.out).mono ?_
         rintro e w13 ⟨A9, c9, rfl, hO9⟩
         have hI9 := hO9.is
         have hb9 := hO9.below_
         have hS13 := hSd_h.out.below hb9
         refine ⟨_, rfl, fun _ => ⟨hS13.box, hS13.edge⟩, ?_⟩
         simp only [Act.put, nS]
         have hr9 := hI9.rd.rdc
         have hl9 : (ints (mapL (numsL n sv.1) m2)).length = r2 * 1 := by rw [ints_length, hl2_h.out, Nat.mul_one]
         clear hI9 cH_h hSd_h hO9 hb9; have hS13_h := lH hS13; have hr9_h := lH hr9; have hl9_h := lH hl9; clear hS13 hr9 hl9
         refine appZ 6 rfl (by kernel_rfl) (by rfl) _ _ _ rfl tInt Tryz.underlying23 info_int rfl (by omega) rfl hS13_h.out.sl rfl hl9_h.out hr9_h.out (ints_one (mapL (numsL n sv.1) m2)) (by unfold maxLen; omega) (by omega) ?_
         intro A6 c6 w14 hsA6 hA6 hkA6 hrdA6
         clear hrdA6
         obtain ⟨hF4, hS24⟩ := hS13_h.out.app hl2_h.out hsA6 hA6 hkA6
         refine ⟨fun _ => hF4, ?_⟩
         simp only [Act.put, nS]
         obtain ⟨⟨y0, y1, y2, y3⟩, y4, y5, y6, y7⟩ := t_box4 hF4.1
         clear hsA6 hA6 hkA6 hS13_h hr9_h hl9_h; have hS24_h := lH hS24; have hF4_h := lH hF4; clear hS24 hF4
         refine tkC 7 ?_ rfl hF4_h.out (fun W' hW' => ?_) ?_; rotate_left; · (skip; clear hW'; go_simp; first | done | with_reducible rfl)
         simp only [Act.put, nS]
         clear hF4_h
         refine oneZ 8 rfl (by kernel_rfl) (by rfl) (fun K hK => ?_)
         go_simp
         refine hK _ _ (fun h => by cases h) ?_
         clear hK K
         refine doneZ (by kernel_rfl) ?_
         clear y0 y1 y2 y3 y4 y5 y6 y7
         generalize (w14.setCell ⟨w7.heap.size, 0, none⟩ (.slice A6 (dl + 2 + r1 + r2) c6)) = w24 at hS24_h ⊢
         obtain ⟨A8, rfl⟩ : ∃ x, x = A6 := ⟨_, rfl⟩
         obtain ⟨c8, rfl⟩ : ∃ x, x = c6 := ⟨_, rfl⟩
         have hlen := hS24_h.out.len
         have hfin := hS24_h.out
         have hcs := codeTo_step (g := g) hx_h.out
         rw [hcode_h.out, ← List.append_assoc, ← List.append_assoc] at hcs
         rw [← hcs] at hfin hlen
         have hfin_h := lH hfin; have hlen_h := lH hlen; clear hfin hlen
         go_wp2_with (fail)
         go_roundw
         case rel => exact ⟨k + 1, _, _, _, by omega, by go_num, hlen_h.out.symm, hfin_h.out.box, hfin_h.out.is, hfin_h.out.fresh, hfin_h.out.keep⟩
         case measure => simp [intOf]; omega
     · obtain rfl : p3 = k := by omega
       rw [codeTo_all g sv (by rw [hp3_h.out]; exact Nat.le_refl _)] at hD hdl
       have hGi := hIS_h.out.keeps hKe (fun b hb h => by simp at hb; omega)
       have hAi := hC9_h.out.ord.keeps hKe (fun b hb h => by have := hC6l b hb; omega)
       have hBi := below_keeps hC9_h.out.bel hKe hC9_h.out.bel.size fun b hb => by omega
       have kR := t_box_below kr_h.out hBi
       obtain ⟨⟨u0, u1, u2, u3⟩, f0, f1, f2, f3⟩ := t_box4 kR
       have hWl := t_box_lt kr_h.out
       obtain ⟨s1, s2⟩ := set4 (a := .slice D dl dc) (b := .slice A3 q3 cap3) (c := .slice (some G) p3 p3) (d := .int .i64 1) kR
       have hD2 := hD.keeps s2 fun b hb e => by have := hDf b hb; have := hC9_h.out.bel.size; omega
       have hG2 := hGi.keeps s2 fun b hb e => by simp at hb; omega
       have hA2 := hAi.keeps s2 fun b hb e => by have := hC9_h.out.af b hb; omega
       have hB2 := below_keeps (below_trans bW_h.out hBi bW_h.out.size) s2 (by have := bW_h.out.size; have := hBi.size; omega) fun b hb => by omega
       have hDf2 : Fresh w.heap.size D := hDf.mono (by have := hC9_h.out.bel.size; omega)
       have hAf2 : Fresh w.heap.size A3 := hC9_h.out.af.mono bW_h.out.size
       have hGf2 : Fresh w.heap.size (some G) := fun b hb => by simp at hb; omega
       clear hD hGi hAi hBi hKe kR kL s2 hDf; have s1_h := lH s1; have hD2_h := lH hD2; have hG2_h := lH hG2; have hA2_h := lH hA2; have hB2_h := lH hB2; have hDf2_h := lH hDf2; have hAf2_h := lH hAf2; have hGf2_h := lH hGf2; have hdl_h := lH hdl; clear s1 hD2 hG2 hA2 hB2 hDf2 hAf2 hGf2 hdl
       go_wp2_with (fail)
       refine bodyPost_ret (results_cell_row rfl _ _ (w.heap.size + 1) _ _ (0, 0) _ rfl s1_h.out Tryz.underlying90 rfl (by kernel_rfl)) rfl ?_
       refine ⟨D, dc, A3, cap3, some G, p3, ?_, ?_⟩
       · unfold prtOf
         rw [← hsv_h.out]
         show _ = Ending.returned (.agg #[.slice D (codeM g sv).length dc, .slice A3 sv.1.length cap3, .slice (some G) sv.2.length p3, .int .i64 1])
         rw [← hdl_h.out, hq3_h.out, hp3_h.out]
       · unfold prtOf
         rw [← hsv_h.out]
         exact ⟨hD2_h.out, hA2_h.out, hG2_h.out, hDf2_h.out, hAf2_h.out, hGf2_h.out, hB2_h.out⟩
section
variable {P : Program} {ops : Array Oper} {Q : Exit → Act → World → Prop} {md : Region.Mode} {S : World → Prop}
def putZ (a : Act) (Z : List (Nat × Tmp)) (xs : Tmp → Value) : Act := Z.foldl (fun a z => a.put (some z.2) (xs z.2)) a
def updZ (xs : Tmp → Value) (d : Tmp) (v : Value) : Tmp → Value := fun t => if t = d then v else xs t
theorem put_put (a : Act) (d : Tmp) (x v : Value) : (a.put (some d) x).put (some d) v = a.put (some d) v := by
 simp [Act.put, Array.setIfInBounds_setIfInBounds]
theorem putZ_put (Z : List (Nat × Tmp)) (xs : Tmp → Value) (d : Tmp) (v : Value) : ∀ (a : Act), (∀ z ∈ Z, z.2 ≠ d) → (putZ a Z xs).put (some d) v = putZ (a.put (some d) v) Z xs := by
 induction Z with
 | nil => intro a _; rfl
 | cons z r ih =>
   intro a h
   show (putZ (a.put _ _) r xs).put _ _ = putZ ((a.put _ _).put _ _) r xs
   rw [ih _ (fun y hy => h y (List.mem_cons_of_mem _ hy)), Act.put_comm a _ _ (fun e he => by obtain rfl := Option.some.inj he; intro h2; exact h z (by simp) (Option.some.inj h2).symm)]
theorem putZ_congr (Z : List (Nat × Tmp)) {xs ys : Tmp → Value} : ∀ (a : Act), (∀ z ∈ Z, xs z.2 = ys z.2) → putZ a Z xs = putZ a Z ys := by
 induction Z with
 | nil => intro a _; rfl
 | cons z r ih =>
   intro a h
   show putZ (a.put _ _) r xs = putZ (a.put _ _) r ys
   rw [h z (by simp)]
   exact ih _ fun y hy => h y (List.mem_cons_of_mem _ hy)
theorem putZ_upd (Z : List (Nat × Tmp)) (xs : Tmp → Value) (d : Tmp) (v : Value) : ∀ (a : Act), (Z.map (·.2)).Nodup → d ∈ Z.map (·.2) → putZ a Z (updZ xs d v) = (putZ a Z xs).put (some d) v := by
 induction Z with
 | nil => intro a _ h; cases h
 | cons z r ih =>
   intro a hn h
   simp only [List.map_cons, List.nodup_cons, List.mem_map, not_exists, not_and] at hn
   show putZ (a.put _ _) r _ = (putZ (a.put _ _) r xs).put _ _
   by_cases e : z.2 = d
   · have hne : ∀ y ∈ r, y.2 ≠ d := fun y hy h2 => hn.1 y hy (h2.trans e.symm)
     rw [putZ_put r xs d v _ hne, putZ_congr r _ (ys := xs) (fun y hy => by unfold updZ; rw [if_neg (hne y hy)]), e]
     have : updZ xs d v d = v := by unfold updZ; rw [if_pos rfl]
     rw [this, put_put]
   · have : updZ xs d v z.2 = xs z.2 := by unfold updZ; rw [if_neg e]
     rw [this]
     refine ih _ hn.2 ?_
     rcases List.mem_cons.1 h with h | h
     · exact absurd h.symm e
     · exact h
theorem wp_callZ {o : Oper} {a : Act} {w : World} {f : FuncId} {args : Array Value} {K : Act → World → Prop} (hr : (execOp a.eval o).run P w = .ok (.enter f args) w) (h : Calls P f args w fun e w' => ∃ v, e = .returned v ∧ K (a.put o.dst v) w') : o.wp P a w K Q := by
 unfold Oper.wp
 rw [hr]
 exact Calls.mono h fun e w' ⟨v, he, hK⟩ => by subst he; exact hK
theorem putZ_self (Z : List (Nat × Tmp)) : ∀ (a : Act), putZ a Z (fun t => a.tmps.getD t undef) = a := by
 have h1 : ∀ (a : Act) (d : Tmp), a.put (some d) (a.tmps.getD d undef) = a := fun a d => by
  unfold Act.put
  have : a.tmps.setIfInBounds d (a.tmps.getD d undef) = a.tmps := by
   refine Array.ext_getElem? fun i => ?_
   rw [Array.getElem?_setIfInBounds]
   by_cases e : d = i
   · subst e
     rw [if_pos rfl]
     by_cases h : d < a.tmps.size
     · rw [if_pos h, Array.getElem?_eq_getElem h, Array.getD_eq_getD_getElem?, Array.getElem?_eq_getElem h]; rfl
     · rw [if_neg h, Array.getElem?_eq_none (Nat.le_of_not_lt h)]
   · rw [if_neg e]
  simp only [this]
 induction Z with
 | nil => intro a; rfl
 | cons z r ih =>
   intro a
   show putZ (a.put (some z.2) (a.tmps.getD z.2 undef)) r (fun t => a.tmps.getD t undef) = a
   rw [h1]; exact ih a
def Stb (p : Value → World → Prop) : Prop := ∀ v w w', p v w → Below w.heap.size w w' → p v w'
theorem Stb.ite {c : Prop} [Decidable c] {p q : Value → World → Prop} (hp : Stb p) (hq : Stb q) : Stb fun v w => if c then p v w else q v w := by
 intro v w w' h hb
 by_cases e : c
 · simp only [if_pos e] at h ⊢; exact hp v w w' h hb
 · simp only [if_neg e] at h ⊢; exact hq v w w' h hb
theorem Stb.true : Stb fun _ _ => True := fun _ _ _ h _ => h
end
section
variable {P : Program} {ops : Array Oper} {Q : Exit → Act → World → Prop} {md : Region.Mode} {S : World → Prop}
theorem strike_one {α : Type} [DecidableEq α] : ∀ {l : List α} {z : α}, l.Nodup → z ∈ l → (l.filter fun y => !decide (y = z)).length + 1 = l.length
 | [], _, _, h => by cases h
 | a :: r, z, hn, h => by
   obtain ⟨h1, h2⟩ := List.nodup_cons.1 hn
   by_cases e : a = z
   · subst e
     rw [List.filter_cons, if_neg (by simp), List.filter_eq_self.2 (fun y hy => by
      have : y ≠ a := fun e => h1 (e ▸ hy)
      simpa using this)]
     rfl
   · have hm : z ∈ r := by
      rcases List.mem_cons.1 h with h | h
      · exact absurd h.symm e
      · exact h
     rw [List.filter_cons, if_pos (by simpa using e), List.length_cons, strike_one h2 hm]
     rfl
def mkZ (L0 : Array Bool) (S : List (Nat × Tmp)) : Array Bool := S.foldl (fun L z => L.setIfInBounds z.1 true) L0
theorem mkZ_size : ∀ (S : List (Nat × Tmp)) (L0 : Array Bool), (mkZ L0 S).size = L0.size
 | [], _ => rfl
 | z :: r, L0 => by
   show (mkZ (L0.setIfInBounds z.1 true) r).size = _
   rw [mkZ_size r]; simp
theorem mkZ_get (i : Nat) : ∀ (S : List (Nat × Tmp)) (L0 : Array Bool), (mkZ L0 S)[i]? = if i < L0.size ∧ (S.any fun z => z.1 == i) = true then some true else L0[i]?
 | [], L0 => by simp [mkZ]
 | z :: r, L0 => by
   show (mkZ (L0.setIfInBounds z.1 true) r)[i]? = _
   rw [mkZ_get i r, Array.size_setIfInBounds, List.any_cons, Array.getElem?_setIfInBounds]
   by_cases h : i < L0.size
   · by_cases e : z.1 = i
     · subst e
       simp [h]
     · have e' : (z.1 == i) = false := by simpa using e
       rw [e', Bool.false_or, if_neg e]
   · have h1 : L0[i]? = none := Array.getElem?_eq_none (Nat.le_of_not_lt h)
     rw [h1]
     simp [h]
     intro e
     omega
def subsL {α : Type} : List α → List (List α)
 | [] => [[]]
 | a :: r => subsL r ++ (subsL r).map (a :: ·)
theorem mem_subs {α : Type} (p : α → Bool) : ∀ Z : List α, Z.filter p ∈ subsL Z
 | [] => by simp [subsL]
 | a :: r => by
   have ih := mem_subs p r
   unfold subsL
   rw [List.filter_cons]
   split
   · exact List.mem_append_right _ (List.mem_map.2 ⟨_, ih, rfl⟩)
   · exact List.mem_append_left _ ih
def closedZ (md : Region.Mode) (ops : Array Oper) (L0 : Array Bool) (S : List (Nat × Tmp)) : Bool :=
 S.all fun z => ((ops[z.1]?).map fun o => o.after.all fun e => !(Region.binds md e) || (mkZ L0 S).getD e.on false).getD true
def chkT (md : Region.Mode) (ops : Array Oper) (L0 : Array Bool) (Z : List (Nat × Tmp)) (deps : Nat → List Tmp) : Bool :=
 ((subsL Z).all fun S => decide (S.length = Z.length) || (!(closedZ md ops L0 S) || (!(Region.ready md ops (mkZ L0 S)).isEmpty && (Region.ready md ops (mkZ L0 S)).all fun j => Z.any fun z => z.1 == j))) &&
 (Z.all fun z => (decide (z.1 < L0.size) && !L0.getD z.1 true) && ((ops[z.1]?).map fun o => (o.dst == some z.2) && o.guard.isNone && (deps z.1).all fun d => Z.any fun y => y.2 == d && o.after.any fun e => Region.binds md e && e.on == y.1).getD false) &&
 decide ((Z.map (·.1)).Nodup) && decide ((Z.map (·.2)).Nodup)
theorem getD_mk {L0 : Array Bool} {S : List (Nat × Tmp)} {i : Nat} {b : Bool} (h : i < L0.size) : (mkZ L0 S).getD i b = ((S.any fun z => z.1 == i) || L0.getD i b) := by
 rw [Array.getD_eq_getD_getElem?, mkZ_get, Array.getD_eq_getD_getElem?]
 cases hb : S.any fun z => z.1 == i
 · simp
 · simp [h]
theorem wpAnyH_relT {Z : List (Nat × Tmp)} {L0 : Array Bool} {deps : Nat → List Tmp} {a0 : Act} {w0 : World} (f : Nat) (R : Tmp → (Tmp → Value) → Value → World → Prop) (own : Tmp → Value → List Nat) (hz : chkT md ops L0 Z deps = true)
  (hstab : ∀ d xs v w w', R d xs v w → Below w.heap.size w w' → R d xs v w') (hcong : ∀ z ∈ Z, ∀ xs ys v w, (∀ d ∈ deps z.1, xs d = ys d) → R z.2 xs v w → R z.2 ys v w) (hS : ∀ w', Below w0.heap.size w0 w' → S w')
  (hstep : ∀ z ∈ Z, ∀ o, ops[z.1]? = some o → ∀ xs w, Below w0.heap.size w0 w → (∀ d ∈ deps z.1, R d xs (xs d) w) → ∀ K, (∀ v w', Below w.heap.size w w' → R z.2 xs v w' → (∀ b, b ∈ own z.2 v → w.heap.size ≤ b ∧ b < w'.heap.size) → K ((putZ a0 Z xs).put (some z.2) v) w') → o.wp P (putZ a0 Z xs) w K Q)
  (hend : ∀ xs w, Below w0.heap.size w0 w → (∀ z ∈ Z, R z.2 xs (xs z.2) w) → (∀ z ∈ Z, ∀ b, b ∈ own z.2 (xs z.2) → w0.heap.size ≤ b ∧ b < w.heap.size) → (∀ z ∈ Z, ∀ y ∈ Z, z.2 ≠ y.2 → ∀ b, b ∈ own z.2 (xs z.2) → ¬ b ∈ own y.2 (xs y.2)) → wpAnyH P md ops Q S f (mkZ L0 Z) (putZ a0 Z xs) w) :
  ∀ (k : Nat) (p : Nat × Tmp → Bool) (xs : Tmp → Value) (w : World), (Z.filter fun z => !p z).length = k → closedZ md ops L0 (Z.filter p) = true → Below w0.heap.size w0 w →
    (∀ z ∈ Z, p z = true → R z.2 xs (xs z.2) w) → (∀ z ∈ Z, p z = true → ∀ b, b ∈ own z.2 (xs z.2) → w0.heap.size ≤ b ∧ b < w.heap.size) → (∀ z ∈ Z, ∀ y ∈ Z, p z = true → p y = true → z.2 ≠ y.2 → ∀ b, b ∈ own z.2 (xs z.2) → ¬ b ∈ own y.2 (xs y.2)) → wpAnyH P md ops Q S (k + f) (mkZ L0 (Z.filter p)) (putZ a0 Z xs) w := by
 unfold chkT at hz
 simp only [Bool.and_eq_true, List.all_eq_true, decide_eq_true_eq] at hz
 obtain ⟨⟨⟨hsub, hops⟩, hnd1⟩, hnd2⟩ := hz
 have huniq : ∀ z ∈ Z, ∀ y ∈ Z, z.1 = y.1 → z = y := fun z hz y hy h => by
  obtain ⟨i, hi, rfl⟩ := List.getElem_of_mem hz
  obtain ⟨k, hk, rfl⟩ := List.getElem_of_mem hy
  have hpw := List.pairwise_iff_getElem.1 hnd1
  rcases Nat.lt_trichotomy i k with h1 | h1 | h1
  · exact absurd (by rw [List.getElem_map, List.getElem_map]; exact h) (hpw i k (by simpa using hi) (by simpa using hk) h1)
  · subst h1; rfl
  · exact absurd (by rw [List.getElem_map, List.getElem_map]; exact h.symm) (hpw k i (by simpa using hk) (by simpa using hi) h1)
 have hdl : ∀ (p : Nat × Tmp → Bool), ∀ y ∈ Z, ∀ o, ops[y.1]? = some o → (∀ e ∈ o.after, Region.binds md e = true → (mkZ L0 (Z.filter p)).getD e.on false = true) → ∀ d ∈ deps y.1, ∃ y' ∈ Z, y'.2 = d ∧ p y' = true := fun p z hz oj hoj hdeps d hd => by
  have hopz := hops z hz
  rw [hoj] at hopz
  simp only [Option.map_some, Option.getD_some, beq_iff_eq, Option.isNone_iff_eq_none, List.all_eq_true, List.any_eq_true, Bool.and_eq_true] at hopz
  obtain ⟨_, _, hdp⟩ := hopz
  obtain ⟨y, hy, rfl, he⟩ := hdp d hd
  obtain ⟨i, hi, he⟩ := Array.any_eq_true.1 he
  simp only [Bool.and_eq_true, beq_iff_eq] at he
  obtain ⟨hbi, hon⟩ := he
  obtain ⟨e, hee⟩ : ∃ e, e = oj.after[i] := ⟨_, rfl⟩
  have he : e ∈ oj.after := by rw [hee]; exact Array.getElem_mem hi
  rw [← hee] at hbi hon
  have h2 := hdeps e he hbi
  rw [hon] at h2
  have hopy := (hops y hy).1
  have hyl : y.1 < L0.size := hopy.1
  have hy0 : L0.getD y.1 true = false := by simpa using hopy.2
  rw [getD_mk hyl] at h2
  have hy1 : L0.getD y.1 false = false := by
   rw [Array.getD_eq_getD_getElem?, Array.getElem?_eq_getElem hyl] at hy0 ⊢
   exact hy0
  rw [hy1, Bool.or_false] at h2
  obtain ⟨y', hy', e2⟩ := List.any_eq_true.1 h2
  obtain ⟨h3, h4⟩ := List.mem_filter.1 hy'
  obtain rfl := huniq y' h3 y hy (by simpa using e2)
  exact ⟨y', hy, rfl, h4⟩
 intro k
 induction k with
 | zero =>
   intro p xs w hc hcl hb hR hO hP
   have hall : ∀ z ∈ Z, p z = true := fun z hz => by
    cases hx : p z with
    | true => rfl
    | false =>
      exfalso
      have : z ∈ Z.filter fun z => !p z := List.mem_filter.2 ⟨hz, by rw [hx]; rfl⟩
      have := List.length_pos_of_mem this
      omega
   rw [List.filter_eq_self.2 hall, Nat.zero_add]
   exact hend xs w hb (fun z hz => hR z hz (hall z hz)) (fun z hz => hO z hz (hall z hz)) fun z hz y hy => hP z hz y hy (hall z hz) (hall y hy)
 | succ k ih =>
   intro p xs w hc hcl hb hR hO hP
   obtain ⟨x, hx⟩ : ∃ x, x ∈ Z.filter fun z => !p z := List.exists_mem_of_ne_nil _ (fun h => by rw [h] at hc; simp at hc)
   obtain ⟨hxZ, hxp⟩ := List.mem_filter.1 hx
   have hne : ¬ (Z.filter p).length = Z.length := fun h => by
    have := List.length_filter_eq_length_iff.1 h x hxZ
    rw [this] at hxp; cases hxp
   have h1 := hsub _ (mem_subs p Z)
   rw [Bool.or_eq_true, Bool.or_eq_true, hcl] at h1
   have h2 := (h1.resolve_left (fun h => hne (of_decide_eq_true h))).resolve_left (by simp)
   rw [Bool.and_eq_true] at h2
   obtain ⟨hne0, hin⟩ := h2
   rw [show k + 1 + f = (k + f) + 1 by omega]
   refine ⟨fun hr => (by rw [hr] at hne0; simp at hne0), fun j hj => ?_⟩
   obtain ⟨z, hz, hzj⟩ := List.any_eq_true.1 (List.all_eq_true.1 hin j hj)
   obtain rfl : z.1 = j := by simpa using hzj
   obtain ⟨hjun, oj, hoj, hdeps⟩ := mem_ready.1 hj
   have hopz := hops z hz
   rw [hoj] at hopz
   simp only [Option.map_some, Option.getD_some, beq_iff_eq, Option.isNone_iff_eq_none, List.all_eq_true, List.any_eq_true, Bool.and_eq_true] at hopz
   obtain ⟨⟨hzl, hz0⟩, ⟨hdst, hg⟩, hdp⟩ := hopz
   have hzl : z.1 < L0.size := hzl
   have hpz : p z = false := by
    cases hpz : p z with
    | false => rfl
    | true =>
      rw [getD_mk hzl] at hjun
      have : (List.any (Z.filter p) fun y => y.1 == z.1) = true := List.any_eq_true.2 ⟨z, List.mem_filter.2 ⟨hz, hpz⟩, by simp⟩
      rw [this] at hjun; cases hjun
   have hw : Region.wanted oj (yielded ops (putZ a0 Z xs).tmps) = true := by unfold Region.wanted; rw [hg]
   unfold wpOp
   simp only [hoj, hw, if_true]
   refine .inl ?_
   refine hstep z hz oj hoj xs w hb (fun d hd => ?_) _ fun v w' hb' hRv hOv => ?_
   · obtain ⟨y, hy, rfl, h4⟩ := hdl p z hz oj hoj hdeps d hd
     exact hR y hy h4
   · have hb2 := below_trans hb hb' hb.size
     refine ⟨hS _ hb2, ?_⟩
     rw [← putZ_upd Z xs z.2 v a0 hnd2 (List.mem_map.2 ⟨z, hz, rfl⟩)]
     have hmk : (mkZ L0 (Z.filter p)).setIfInBounds z.1 true = mkZ L0 (Z.filter fun y => p y || decide (y = z)) := by
      apply Array.ext_getElem?
      intro i
      rw [Array.getElem?_setIfInBounds, mkZ_get, mkZ_get, mkZ_size]
      by_cases e : z.1 = i
      · subst e
        have : (List.any (Z.filter fun y => p y || decide (y = z)) fun y => y.1 == z.1) = true := List.any_eq_true.2 ⟨z, List.mem_filter.2 ⟨hz, by simp⟩, by simp⟩
        rw [if_pos rfl, if_pos hzl, this, if_pos ⟨hzl, rfl⟩]
      · rw [if_neg e]
        have : (List.any (Z.filter p) fun y => y.1 == i) = (List.any (Z.filter fun y => p y || decide (y = z)) fun y => y.1 == i) := by
         rw [Bool.eq_iff_iff, List.any_eq_true, List.any_eq_true]
         constructor
         · rintro ⟨y, hy, h⟩
           obtain ⟨h3, h4⟩ := List.mem_filter.1 hy
           exact ⟨y, List.mem_filter.2 ⟨h3, by simp [h4]⟩, h⟩
         · rintro ⟨y, hy, h⟩
           obtain ⟨h3, h4⟩ := List.mem_filter.1 hy
           rcases (Bool.or_eq_true _ _).mp h4 with h5 | h5
           · exact ⟨y, List.mem_filter.2 ⟨h3, h5⟩, h⟩
           · have : y = z := of_decide_eq_true h5
             subst this
             exact absurd (by simpa using h) e
        rw [this]
     have hmono : ∀ i, (mkZ L0 (Z.filter p)).getD i false = true → (mkZ L0 (Z.filter fun y => p y || decide (y = z))).getD i false = true := fun i hi => by
      rw [← hmk]
      rw [Array.getD_eq_getD_getElem?] at hi ⊢
      rw [Array.getElem?_setIfInBounds]
      split
      · split
        · rfl
        · rename_i e h; subst e; rw [mkZ_size] at h; exact absurd hzl h
      · exact hi
     rw [hmk]
     have hcz : ∀ d ∈ deps z.1, xs d = updZ xs z.2 v d := fun d hd => by
      obtain ⟨y, hy, rfl, h4⟩ := hdl p z hz oj hoj hdeps d hd
      unfold updZ
      rw [if_neg fun e => ?_]
      have : y = z := by
       obtain ⟨i, hi, rfl⟩ := List.getElem_of_mem hy
       obtain ⟨k, hk, rfl⟩ := List.getElem_of_mem hz
       have hpw := List.pairwise_iff_getElem.1 hnd2
       rcases Nat.lt_trichotomy i k with h1 | h1 | h1
       · exact absurd (by rw [List.getElem_map, List.getElem_map]; exact e) (hpw i k (by simpa using hi) (by simpa using hk) h1)
       · subst h1; rfl
       · exact absurd (by rw [List.getElem_map, List.getElem_map]; exact e.symm) (hpw k i (by simpa using hk) (by simpa using hi) h1)
      rw [this, hpz] at h4
      cases h4
     have hcy : ∀ y ∈ Z, p y = true → ∀ d ∈ deps y.1, xs d = updZ xs z.2 v d := fun y hy hp d hd => by
      unfold closedZ at hcl
      have h6 := List.all_eq_true.1 hcl y (List.mem_filter.2 ⟨hy, hp⟩)
      cases ho : ops[y.1]? with
      | none =>
        have := (hops y hy).2
        rw [ho] at this
        cases this
      | some o =>
        rw [ho] at h6
        simp only [Option.map_some, Option.getD_some, Array.all_eq_true_iff_forall_mem, Bool.or_eq_true, Bool.not_eq_true'] at h6
        obtain ⟨x, hx, rfl, h4⟩ := hdl p y hy o ho (fun e he hb => (h6 e he).resolve_left (by rw [hb]; simp)) d hd
        unfold updZ
        rw [if_neg fun e => ?_]
        have : x = z := by
         obtain ⟨i, hi, rfl⟩ := List.getElem_of_mem hx
         obtain ⟨k, hk, rfl⟩ := List.getElem_of_mem hz
         have hpw := List.pairwise_iff_getElem.1 hnd2
         rcases Nat.lt_trichotomy i k with h1 | h1 | h1
         · exact absurd (by rw [List.getElem_map, List.getElem_map]; exact e) (hpw i k (by simpa using hi) (by simpa using hk) h1)
         · subst h1; rfl
         · exact absurd (by rw [List.getElem_map, List.getElem_map]; exact e.symm) (hpw k i (by simpa using hk) (by simpa using hi) h1)
        rw [this, hpz] at h4
        cases h4
     have hpy : ∀ y ∈ Z, (p y || decide (y = z)) = true → ¬ y.2 = z.2 → p y = true := fun y hy h e => by
      rcases (Bool.or_eq_true _ _).mp h with h | h
      · exact h
      · exact absurd (by rw [of_decide_eq_true h]) e
     refine ih _ _ w' ?_ ?_ hb2 (fun y hy hl => ?_) (fun y hy hl b hbo => ?_) fun y hy x hx hl hl' hne b hb1 hb2' => ?_
     · have hsub : (Z.filter fun y => !(p y || decide (y = z))) = (Z.filter fun y => !p y).filter fun y => !decide (y = z) := by
        rw [List.filter_filter]
        refine List.filter_congr fun y _ => ?_
        cases p y <;> simp
       have hndZ : (Z.filter fun y => !p y).Nodup := by
        have : Z.Nodup := by
         unfold List.Nodup at hnd1 ⊢
         rw [List.pairwise_map] at hnd1
         exact hnd1.imp fun h e => h (by rw [e])
        exact this.filter _
       have hzf : z ∈ Z.filter fun y => !p y := List.mem_filter.2 ⟨hz, by rw [hpz]; rfl⟩
       rw [hsub]
       have h7 := strike_one hndZ hzf
       omega
     · unfold closedZ at hcl ⊢
       rw [List.all_eq_true] at hcl ⊢
       intro y hy
       obtain ⟨h3, h4⟩ := List.mem_filter.1 hy
       rcases (Bool.or_eq_true _ _).mp h4 with h5 | h5
       · have h6 := hcl y (List.mem_filter.2 ⟨h3, h5⟩)
         cases ho : ops[y.1]? with
         | none => rfl
         | some o =>
           rw [ho] at h6
           simp only [Option.map_some, Option.getD_some, Array.all_eq_true_iff_forall_mem, Bool.or_eq_true, Bool.not_eq_true'] at h6 ⊢
           exact fun e he => (h6 e he).imp id (hmono e.on)
       · have : y = z := of_decide_eq_true h5
         subst this
         rw [hoj]
         simp only [Option.map_some, Option.getD_some, Array.all_eq_true_iff_forall_mem, Bool.or_eq_true, Bool.not_eq_true']
         intro e he
         cases hbe : Region.binds md e with
         | false => exact .inl rfl
         | true => exact .inr (hmono e.on (hdeps e he hbe))
     · by_cases e : y.2 = z.2
       · have h8 : updZ xs z.2 v y.2 = v := by unfold updZ; rw [if_pos e]
         rw [h8, e]
         exact hcong z hz _ _ _ _ hcz hRv
       · have h8 : updZ xs z.2 v y.2 = xs y.2 := by unfold updZ; rw [if_neg e]
         rw [h8]
         exact hcong y hy _ _ _ _ (hcy y hy (hpy y hy hl e)) (hstab _ _ _ _ _ (hR y hy (hpy y hy hl e)) hb')
     · unfold updZ at hbo
       by_cases e : y.2 = z.2
       · rw [if_pos e, e] at hbo
         have := hOv b hbo
         have := hb.size
         omega
       · rw [if_neg e] at hbo
         have := hO y hy (hpy y hy hl e) b hbo
         have := hb'.size
         omega
     · unfold updZ at hb1 hb2'
       by_cases e : y.2 = z.2
       · have e2 : ¬ x.2 = z.2 := fun h => hne (e.trans h.symm)
         rw [if_pos e, e] at hb1
         rw [if_neg e2] at hb2'
         have h1 := hOv b hb1
         have h2 := hO x hx (hpy x hx hl' e2) b hb2'
         omega
       · rw [if_neg e] at hb1
         by_cases e2 : x.2 = z.2
         · rw [if_pos e2, e2] at hb2'
           have h1 := hOv b hb2'
           have h2 := hO y hy (hpy y hy hl e) b hb1
           omega
         · rw [if_neg e2] at hb2'
           exact hP y hy x hx (hpy y hy hl e) (hpy x hx hl' e2) hne b hb1 hb2'
def stepsT (P : Program) (ops : Array Oper) (Q : Exit → Act → World → Prop) (a0 : Act) (w0 : World) (Z : List (Nat × Tmp)) (deps : Nat → List Tmp) (R : Tmp → (Tmp → Value) → Value → World → Prop) (own : Tmp → Value → List Nat) : List (Nat × Tmp) → Prop
 | [] => True
 | z :: r => (∃ o, ops[z.1]? = some o ∧ ∀ xs w, Below w0.heap.size w0 w → (∀ d ∈ deps z.1, R d xs (xs d) w) → ∀ K : Act → World → Prop, (∀ v w', Below w.heap.size w w' → R z.2 xs v w' → (∀ b, b ∈ own z.2 v → w.heap.size ≤ b ∧ b < w'.heap.size) → K ((putZ a0 Z xs).put (some z.2) v) w') → o.wp P (putZ a0 Z xs) w K Q) ∧ stepsT P ops Q a0 w0 Z deps R own r
theorem stepsT_get {a0 : Act} {w0 : World} {Z : List (Nat × Tmp)} {deps : Nat → List Tmp} {R : Tmp → (Tmp → Value) → Value → World → Prop} {own : Tmp → Value → List Nat} : ∀ {Y : List (Nat × Tmp)}, stepsT P ops Q a0 w0 Z deps R own Y → ∀ z ∈ Y, ∀ o, ops[z.1]? = some o → ∀ xs w, Below w0.heap.size w0 w → (∀ d ∈ deps z.1, R d xs (xs d) w) → ∀ K : Act → World → Prop, (∀ v w', Below w.heap.size w w' → R z.2 xs v w' → (∀ b, b ∈ own z.2 v → w.heap.size ≤ b ∧ b < w'.heap.size) → K ((putZ a0 Z xs).put (some z.2) v) w') → o.wp P (putZ a0 Z xs) w K Q
 | y :: r, h, z, hz, o, ho => by
   rcases List.mem_cons.1 hz with rfl | hz
   · obtain ⟨o', ho', hh⟩ := h.1
     rw [ho] at ho'
     obtain rfl := Option.some.inj ho'
     exact hh
   · exact stepsT_get h.2 z hz o ho
theorem relT (Z : List (Nat × Tmp)) (deps : Nat → List Tmp) (R : Tmp → (Tmp → Value) → Value → World → Prop) (own : Tmp → Value → List Nat) (f : Nat) {L : Array Bool} {a : Act} {w : World} {fuel : Nat} (hf : fuel = Z.length + f) (hz : chkT md ops L Z deps = true)
  (hstab : ∀ d xs, Stb (R d xs)) (hcong : ∀ z ∈ Z, ∀ xs ys v w, (∀ d ∈ deps z.1, xs d = ys d) → R z.2 xs v w → R z.2 ys v w) (hS : ∀ w', Below w.heap.size w w' → S w') (hstep : stepsT P ops Q a w Z deps R own Z)
  (hend : ∀ xs w', Below w.heap.size w w' → (∀ z ∈ Z, R z.2 xs (xs z.2) w') → (∀ z ∈ Z, ∀ b, b ∈ own z.2 (xs z.2) → w.heap.size ≤ b ∧ b < w'.heap.size) → (∀ z ∈ Z, ∀ y ∈ Z, z.2 ≠ y.2 → ∀ b, b ∈ own z.2 (xs z.2) → ¬ b ∈ own y.2 (xs y.2)) → wpAnyH P md ops Q S f (mkZ L Z) (putZ a Z xs) w') : wpAnyH P md ops Q S fuel L a w := by
 have h := wpAnyH_relT (P := P) (Q := Q) (S := S) (a0 := a) (w0 := w) f R own hz (fun d xs v w w' => hstab d xs v w w') hcong hS (fun z hz o ho xs w hb hd K hK => stepsT_get hstep z hz o ho xs w hb hd K hK) hend Z.length (fun _ => false) (fun t => a.tmps.getD t undef) w (by rw [List.filter_eq_self.2 (by simp)]) (by rw [List.filter_eq_nil_iff.2 (by simp)]; rfl) (Below.refl _ _) (fun z _ h => by cases h) (fun z _ h => by cases h) (fun z _ y _ h => by cases h)
 rw [putZ_self, List.filter_eq_nil_iff.2 (by simp)] at h
 rw [hf]
 exact h
end
set_option maxHeartbeats 400000 in
theorem repeated_any (a : Int) (n : Nat) (w : World) (hn : n ≤ 1048576) :
  Calls Tryz.prog 83 #[.int .i64 a, .int .i64 n] w fun e w' => ∃ G, e = .returned (.slice (some G) n n) ∧ IS w' (some G) n (List.replicate n a) ∧ w.heap.size ≤ G.block ∧ Below w.heap.size w w' := by
 have hC := t_zeros_any n w hn
 go_enter Tryz.func83, Tryz.ntmps83
 go_wp2_with (fail)
 refine (hC).mono ?_
 rintro e w1 ⟨G, rfl, his0, hfG, hb1⟩
 clear hC
 go_wp2_with (fail)
 go_loopw [11] (fun i wr => ∃ k : Nat, k ≤ n ∧ i = .int .i64 k ∧ IS wr (some G) n ((List.replicate n a).take k ++ (List.replicate n (0 : Int)).drop k) ∧ Below w.heap.size w wr) (fun i _ => n - (intOf i).toNat)
 case atStart => exact ⟨0, Nat.zero_le _, rfl, by simpa using his0, hb1⟩
 case round =>
  clear his0 hb1
  obtain ⟨k, hk, rfl, his, hb⟩ := hrel
  have hlen : ((List.replicate n a).take k ++ (List.replicate n (0 : Int)).drop k).length = n := by simp; omega
  by_cases hlt : k < n
  · obtain ⟨ad, y, hA, hy, _, hc', hf'⟩ := his.at_ (j := k) (by rw [hlen]; exact hlt)
    obtain rfl := Option.some.inj hA
    have hfz := hf' k
    have his' := his.set (ad := G) rfl (j := k) a (by rw [hlen]; exact hlt)
    rw [take_append_step (x := a) (by simp) (by simp [hlt])] at his'
    have HI := lH his'
    have hb' := lH (hb.setCell (p := G.add k) (by rw [block_of_add]; exact hfG) (.int .i64 a))
    have hkI : (k : Int) < (n : Int) := by omega
    clear his' hf' his hy hlen hb
    go_wp2_with (fail)
    go_roundw
    case rel => exact ⟨k + 1, by omega, by go_num, HI.out, hb'.out⟩
    case measure => simp [intOf]; omega
  · obtain rfl : n = k := by omega
    have his2 : IS wr (some G) n (List.replicate n a) := by
     have := his
     rwa [List.take_of_length_le (by simp), List.drop_of_length_le (by simp), List.append_nil] at this
    clear his hlen
    go_wp2_with (fail)
    go_ret
    exact ⟨G, rfl, his2, hfG, hb⟩
abbrev tEnds : TypeId := 107
structure EdS (W : World) (lb : Nat) (Bf Bh : Addr) (n : Nat) (t1 t2 : List Int) (w : World) : Prop where
 box : w.heap[lb]? = some (.cells #[.slice (some Bf) n n, .slice (some Bh) n n] tEnds)
 bef : IS w (some Bf) n t1
 beh : IS w (some Bh) n t2
 lbn : W.heap.size ≤ lb
 bfn : W.heap.size ≤ Bf.block
 bhn : W.heap.size ≤ Bh.block
 ne : Bf.block ≠ Bh.block
 bel : Below W.heap.size W w
section
variable {W w w' : World} {lb n : Nat} {Bf Bh : Addr} {t1 t2 : List Int}
theorem EdS.below (h : EdS W lb Bf Bh n t1 t2 w) (hb : Below w.heap.size w w') : EdS W lb Bf Bh n t1 t2 w' :=
 ⟨t_box_below h.box hb, h.bef.below hb, h.beh.below hb, h.lbn, h.bfn, h.bhn, h.ne, below_trans h.bel hb h.bel.size⟩
theorem is_ne_box {w : World} {A : Addr} {c b : Nat} {l : List Int} {cs : Array Value} {t : TypeId} (h : IS w (some A) c l) (hb : w.heap[b]? = some (.cells cs t)) (ht : tInt ≠ t) : A.block ≠ b := fun e => by
 rcases h.2.2.2 with ⟨h0, _⟩ | ⟨g, off, cur, hA, hg, _⟩
 · cases h0
 · obtain rfl := Option.some.inj hA
   simp only at e
   subst e
   rw [hg] at hb
   injection hb with hb
   injection hb with _ h1
   exact ht h1
theorem EdS.set1 (h : EdS W lb Bf Bh n t1 t2 w) {j : Nat} (x : Int) (hj : j < t1.length) : EdS W lb Bf Bh n (t1.set j x) t2 (w.setCell (Bf.add j) (.int .i64 x)) := by
 have hk : Keeps (fun b => b = Bf.block) w (w.setCell (Bf.add j) (.int .i64 x)) := Keeps.setCell (S := fun b => b = Bf.block) (Keeps.refl _ w) (p := Bf.add j) (by rw [block_of_add]) _
 refine ⟨t_box_keeps h.box hk fun e => is_ne_box h.bef h.box (by decide) e.symm, h.bef.set rfl x hj, h.beh.keeps hk fun b hb e => ?_, h.lbn, h.bfn, h.bhn, h.ne, below_keeps h.bel hk h.bel.size fun b e => by rw [e]; exact h.bfn⟩
 have : b = Bh.block := by simpa using hb
 exact h.ne (e.symm.trans this)
theorem EdS.set2 (h : EdS W lb Bf Bh n t1 t2 w) {j : Nat} (x : Int) (hj : j < t2.length) : EdS W lb Bf Bh n t1 (t2.set j x) (w.setCell (Bh.add j) (.int .i64 x)) := by
 have hk : Keeps (fun b => b = Bh.block) w (w.setCell (Bh.add j) (.int .i64 x)) := Keeps.setCell (S := fun b => b = Bh.block) (Keeps.refl _ w) (p := Bh.add j) (by rw [block_of_add]) _
 refine ⟨t_box_keeps h.box hk fun e => is_ne_box h.beh h.box (by decide) e.symm, h.bef.keeps hk fun b hb e => ?_, h.beh.set rfl x hj, h.lbn, h.bfn, h.bhn, h.ne, below_keeps h.bel hk h.bel.size fun b e => by rw [e]; exact h.bhn⟩
 have : b = Bf.block := by simpa using hb
 exact h.ne (this.symm.trans e)
end
def RepV (n : Nat) (a : Int) (v : Value) (w : World) : Prop := ∃ G, v = .slice (some G) n n ∧ IS w (some G) n (List.replicate n a)
def blkV : Value → List Nat
 | .slice (some a) _ _ => [a.block]
 | .pointer (some a) => [a.block]
 | .map (some b) => [b]
 | _ => []
theorem RepV.stb (n : Nat) (a : Int) : Stb (RepV n a) := fun _ _ _ ⟨G, e, h⟩ hb => ⟨G, e, h.below hb⟩
set_option maxRecDepth 100000 in
set_option maxHeartbeats 8000000 in
theorem ends_any {v : Value} {g : Gr} (w : World) (n : Nat) (h : RdGr w v g) (hm : Mono g n) :
  Calls Tryz.prog 117 #[v] w fun e w' => ∃ (Bf Bh : Addr), e = .returned (.agg #[.slice (some Bf) n n, .slice (some Bh) n n]) ∧ IS w' (some Bf) n (tabK outE g.2.1 n g.2.1.length) ∧ IS w' (some Bh) n (tabK inE g.2.1 n g.2.1.length) ∧ w.heap.size ≤ Bf.block ∧ w.heap.size ≤ Bh.block ∧ Bf.block ≠ Bh.block ∧ Below w.heap.size w w' := by
 obtain ⟨A, c, hs, ⟨B, b, s⟩, ⟨C', d', t⟩, rfl, e1, e2, e3, hE, hRa, hRb⟩ := h
 have hwr : ∀ i : Nat, i < g.2.1.length → ∀ x, x ∈ wiresE (g.2.1.getD i eg0) → 0 ≤ x ∧ x < (n : Int) := fun i hi x hx => hm.wires (e := (i : Int)) (by omega) (by omega) x (by unfold edgeAt; rw [Int.toNat_natCast]; exact hx)
 have hk' := hm.kind
 have hn100 := hm.n100
 have hm60 := hm.m60
 have hgn := hm.hn
 clear hm
 obtain ⟨z, es, s0, t0⟩ := g
 have a1 : es = hs.map egOf := e1
 have a4 : z = (n : Int) := hgn
 subst a4
 have hegB : ∀ e, e ∈ es → egB e = true := hk'
 have hwr' : ∀ i : Nat, i < es.length → ∀ x, x ∈ wiresE (es.getD i eg0) → 0 ≤ x ∧ x < (n : Int) := hwr
 obtain ⟨m, hm⟩ : ∃ m, m = hs.length := ⟨_, rfl⟩
 have hLm : es.length = m := by rw [a1, List.length_map, hm]
 have hm60' : es.length ≤ 60 := hm60
 show Calls Tryz.prog _ #[.agg #[.int .i64 (n : Int), .slice A hs.length c, .slice B s.length b, .slice C' t.length d']] w fun e w' => ∃ (Bf Bh : Addr), e = .returned (.agg #[.slice (some Bf) n n, .slice (some Bh) n n]) ∧ IS w' (some Bf) n (tabK outE es n es.length) ∧ IS w' (some Bh) n (tabK inE es n es.length) ∧ w.heap.size ≤ Bf.block ∧ w.heap.size ≤ Bh.block ∧ Bf.block ≠ Bh.block ∧ Below w.heap.size w w'
 rw [hLm] at hwr' hm60' ⊢
 rw [← hm]
 obtain ⟨p, hp⟩ : ∃ p, p = s.length := ⟨_, rfl⟩
 obtain ⟨r, hr⟩ : ∃ r, r = t.length := ⟨_, rfl⟩
 rw [← hp, ← hr]
 obtain ⟨W, hW, bW, k0, kr⟩ := twoBoxesC w (.cells #[.int .i64 (n : Int), .slice A m c, .slice B p b, .slice C' r d'] tGr) (.cells #[.slice none 0 0, .slice none 0 0] tEnds)
 have hC := fun W => repeated_any (-1) n W (by omega)
 clear hRa hRb e1 e2 e3 hgn hwr hk' hm60; have hE_h := lH hE; have hegB_h := lH hegB; have hwr'_h := lH hwr'; have hm_h := lH hm; have hLm_h := lH hLm; have a1_h := lH a1; have hp_h := lH hp; have hr_h := lH hr; have bW_h := lH bW; have k0_h := lH k0; have kr_h := lH kr; have hC_h := lH hC; clear hE hegB hwr' hm hLm a1 hp hr bW k0 kr hC
 go_enter Tryz.func117, Tryz.ntmps117
 go_upto_region 1 with (fail)
 rw [← hW]
 clear hW
 go_cut [3] (fun s3 wx => ∃ (lb : Nat) (Bf Bh : Addr), s3 = .pointer (some ⟨lb, 0, none⟩) ∧ EdS W lb Bf Bh n (tabK outE es n 0) (tabK inE es n 0) wx)
 case first =>
  refine beginH (fun w' => Below W.heap.size W w' ) (by kernel_rfl) ?_
  have hbd : Below W.heap.size W W.drew := below_drewN (Below.refl _ _) 1
  generalize W.drew = W1 at hbd ⊢
  have k1 := t_box_below k0_h.out hbd
  have k1_h := lH k1; clear k1
  refine tkH 0 ?_ rfl hbd (fun W' hW' => ?_) ?_; rotate_left; · (obtain ⟨⟨y0, y1, y2, y3⟩, y4, y5, y6, y7⟩ := t_box4 (t_box_below k0_h.out hW'); clear hW'; go_simp; first | done | with_reducible rfl)
  simp only [Act.put, nS]
  refine tkH 1 ?_ rfl hbd (fun W' hW' => ?_) ?_; rotate_left; · (obtain ⟨⟨y0, y1, y2, y3⟩, y4, y5, y6, y7⟩ := t_box4 (t_box_below k0_h.out hW'); clear hW'; go_simp; first | done | with_reducible rfl)
  simp only [Act.put, nS]
  refine tkH 3 ?_ rfl hbd (fun W' hW' => ?_) ?_; rotate_left; · (obtain ⟨⟨y0, y1, y2, y3⟩, y4, y5, y6, y7⟩ := t_box4 (t_box_below k0_h.out hW'); clear hW'; go_simp; first | done | with_reducible rfl)
  simp only [Act.put, nS]
  refine tkH 4 ?_ rfl hbd (fun W' hW' => ?_) ?_; rotate_left; · (obtain ⟨⟨y0, y1, y2, y3⟩, y4, y5, y6, y7⟩ := t_box4 (t_box_below k0_h.out hW'); clear hW'; go_simp; first | done | with_reducible rfl)
  simp only [Act.put, nS]
  refine relT [(2, 12), (5, 15), (6, 16), (7, 3)] (fun i => if i = 6 then [12, 15] else []) (fun d xs v w => if d = 12 then RepV n (-1) v w else if d = 15 then RepV n (-1) v w else if d = 16 then v = .agg #[xs 12, xs 15] else ∃ lb, v = .pointer (some ⟨lb, 0, none⟩) ∧ w.heap[lb]? = some (.cells #[.slice none 0 0, .slice none 0 0] tEnds)) (fun _ => blkV) 1 rfl (by kernel_rfl) ?st1 ?co1 (fun w' hw' => below_trans hbd hw' hbd.size) ?sp1 ?fi1
  case st1 => exact fun d xs => (RepV.stb n (-1)).ite ((RepV.stb n (-1)).ite (Stb.ite (fun _ _ _ h _ => h) fun v w w' ⟨lb, e, h⟩ hb => ⟨lb, e, t_box_below h hb⟩))
  case co1 =>
   intro z hz xs ys v w hd h
   simp only [List.mem_cons, List.not_mem_nil, or_false] at hz
   rcases hz with rfl | rfl | rfl | rfl
   · exact h
   · exact h
   · have h1 := hd 12 (by decide)
     have h2 := hd 15 (by decide)
     show v = .agg #[ys 12, ys 15]
     rw [← h1, ← h2]
     exact h
   · exact h
  case sp1 =>
   refine ⟨⟨_, rfl, fun xs w5 hb5 hd K hK => ?_⟩, ⟨_, rfl, fun xs w5 hb5 hd K hK => ?_⟩, ⟨_, rfl, fun xs w5 hb5 hd K hK => ?_⟩, ⟨_, rfl, fun xs w5 hb5 hd K hK => ?_⟩, trivial⟩
   · simp only [putZ, List.foldl_cons, List.foldl_nil, Act.put, nS] at hK ⊢
     refine wp_callZ (f := ?f_1) (args := ?args_1) ?hr_1 ?hc_1
     case hr_1 => (go_simp; first | done | with_reducible rfl | (constructor <;> with_reducible rfl))
     case hc_1 =>
      refine (hC_h.out w5).mono ?_
      rintro e w6 ⟨G, rfl, hI, hG, hb6⟩
      exact ⟨_, rfl, hK _ _ hb6 ⟨G, rfl, hI⟩ fun b hb => by
       obtain rfl : b = G.block := by simpa [blkV] using hb
       exact ⟨hG, hI.lt G.block (by simp)⟩⟩
   · simp only [putZ, List.foldl_cons, List.foldl_nil, Act.put, nS] at hK ⊢
     refine wp_callZ (f := ?f_2) (args := ?args_2) ?hr_2 ?hc_2
     case hr_2 => (go_simp; first | done | with_reducible rfl | (constructor <;> with_reducible rfl))
     case hc_2 =>
      refine (hC_h.out w5).mono ?_
      rintro e w6 ⟨G, rfl, hI, hG, hb6⟩
      exact ⟨_, rfl, hK _ _ hb6 ⟨G, rfl, hI⟩ fun b hb => by
       obtain rfl : b = G.block := by simpa [blkV] using hb
       exact ⟨hG, hI.lt G.block (by simp)⟩⟩
   · obtain ⟨G1, h1, _⟩ := (hd 12 (by decide) : RepV n (-1) (xs 12) w5)
     obtain ⟨G2, h2, _⟩ := (hd 15 (by decide) : RepV n (-1) (xs 15) w5)
     simp only [putZ, List.foldl_cons, List.foldl_nil, Act.put, nS] at hK ⊢
     simp only [h1, h2] at hK ⊢
     go_simp
     exact hK _ _ (Below.refl _ _) (by simp) fun b hb => by cases hb
   · simp only [putZ, List.foldl_cons, List.foldl_nil, Act.put, nS] at hK ⊢
     go_simp
     exact hK _ _ (t_below_alloc _ _) ⟨_, rfl, heap_alloc_new _ _⟩ fun b hb => by
      obtain rfl : b = w5.heap.size := by simpa [blkV] using hb
      simp
  case fi1 =>
   intro xs w6 hb6 hR hO hD
   obtain ⟨G1, h1, hI1⟩ := (hR (2, 12) (by simp) : RepV n (-1) (xs 12) w6)
   obtain ⟨G2, h2, hI2⟩ := (hR (5, 15) (by simp) : RepV n (-1) (xs 15) w6)
   have h3 := (hR (6, 16) (by simp) : xs 16 = .agg #[xs 12, xs 15])
   obtain ⟨lb, h4, hbx⟩ := (hR (7, 3) (by simp) : ∃ lb, xs 3 = .pointer (some ⟨lb, 0, none⟩) ∧ w6.heap[lb]? = some (.cells #[.slice none 0 0, .slice none 0 0] tEnds))
   have o1 := hO (2, 12) (by simp) G1.block (by show _ ∈ blkV (xs 12); rw [h1]; simp [blkV])
   have o2 := hO (5, 15) (by simp) G2.block (by show _ ∈ blkV (xs 15); rw [h2]; simp [blkV])
   have o4 := hO (7, 3) (by simp) lb (by show _ ∈ blkV (xs 3); rw [h4]; simp [blkV])
   have d12 := hD (2, 12) (by simp) (5, 15) (by simp) (by decide) G1.block (by show _ ∈ blkV (xs 12); rw [h1]; simp [blkV])
   have d12' : G1.block ≠ G2.block := fun e => d12 (by show _ ∈ blkV (xs 15); rw [h2, e]; simp [blkV])
   rw [h1, h2] at h3
   have hbW := below_trans hbd hb6 hbd.size
   have hz1 := hbd.size
   obtain ⟨s1, s2⟩ := t_set2 (a := .slice (some G1) n n) (b := .slice (some G2) n n) hbx
   have hE0 : EdS W lb G1 G2 n (tabK outE es n 0) (tabK inE es n 0) ((w6.setCell ⟨lb, 0, none⟩ (.slice (some G1) n n)).setCell ⟨lb, 1, none⟩ (.slice (some G2) n n)) := by
    rw [tabK_zero, tabK_zero]
    refine ⟨s1, hI1.keeps s2 fun b hb e => ?_, hI2.keeps s2 fun b hb e => ?_, by omega, by omega, by omega, d12', below_keeps hbW s2 hbW.size fun b e => by omega⟩
    · have hb' : b = G1.block := by simpa using hb
      exact is_ne_box hI1 hbx (by decide) (hb'.symm.trans e)
    · have hb' : b = G2.block := by simpa using hb
      exact is_ne_box hI2 hbx (by decide) (hb'.symm.trans e)
   obtain ⟨⟨x0, x1⟩, x2, x3⟩ := t_box2 hbx
   clear hR hO hD hI1 hI2 hbx s1 s2 d12 o1 o2 o4; have hE0_h := lH hE0; clear hE0
   simp only [putZ, List.foldl_cons, List.foldl_nil, Act.put, nS, h1, h2, h4, mkZ]
   rw [h3]
   refine oneH 8 rfl (by kernel_rfl) (by rfl) (fun K hK => ?_)
   go_simp
   refine hK _ _ (hE0_h.out.bel) ?_
   clear hK K
   refine doneH (by kernel_rfl) ?_
   go_wp2_with (fail)
   go_meet
   exact ⟨lb, G1, G2, rfl, hE0_h.out⟩
 case rest =>
  obtain ⟨lb, Bf, Bh, rfl, hE0⟩ := hcut
  have k1 := t_box_below k0_h.out hE0.bel
  obtain ⟨⟨c0, c1, c2, c3⟩, f0, f1, f2, f3⟩ := t_box4 k1
  clear k1; have hE0_h := lH hE0; clear hE0
  go_wp2_with (fail)
  clear c0 c1 c2 c3 f0 f1 f2 f3
  go_loopw [20] (fun i wr => ∃ k : Nat, k ≤ m ∧ i = .int .i64 k ∧ EdS W lb Bf Bh n (tabK outE es n k) (tabK inE es n k) wr) (fun i _ => m - (intOf i).toNat)
  case atStart => exact ⟨0, Nat.zero_le _, rfl, hE0_h.out⟩
  case round =>
   clear hE0_h
   obtain ⟨k, hk, rfl, hEd⟩ := hrel
   obtain ⟨wo, rfl⟩ : ∃ x, x = wr := ⟨_, rfl⟩
   have hBw := below_trans bW_h.out hEd.bel bW_h.out.size
   by_cases hlt : k < m
   · obtain ⟨ad, κ, vv, B1, b1, s1, C1, b2, t1, rfl, hn, ⟨d0, d1, d2, d3⟩, _⟩ := (hE_h.out.below hBw).at_ (j := k) (by rw [← hm_h.out]; exact hlt)
     have hr1 := hE_h.out.2 _ (List.mem_of_getElem? hn)
     have hek : es[k]? = some (κ, vv, s1, t1) := by rw [a1_h.out, List.getElem?_map, hn]; rfl
     have hed : es.getD k eg0 = (κ, vv, s1, t1) := by rw [List.getD_eq_getElem?_getD, hek]; rfl
     obtain ⟨⟨l1, l2⟩, l3⟩ := egB_len (hegB_h.out _ (List.mem_of_getElem? hek))
     simp only at l1 l2 l3
     have hwk := hwr'_h.out k hlt
     rw [hed] at hwk
     have hwt : ∀ x, x ∈ t1 → 0 ≤ x ∧ x < (n : Int) := fun x hx => hwk x (List.mem_append_right _ hx)
     have hws : ∀ x, x ∈ s1 → 0 ≤ x ∧ x < (n : Int) := fun x hx => hwk x (List.mem_append_left _ hx)
     clear hwk
     obtain ⟨p1, hp1⟩ : ∃ p1, p1 = s1.length := ⟨_, rfl⟩
     obtain ⟨r1, hr1'⟩ : ∃ r1, r1 = t1.length := ⟨_, rfl⟩
     rw [← hp1] at d2 l1
     rw [← hr1'] at d3 l2
     obtain ⟨W6, hW6, bW6, k6⟩ := (⟨_, rfl, t_below_alloc _ _, heap_alloc_new _ _⟩ : ∃ W, W = wo.alloc (.cells #[.int .i64 κ, .int .i64 vv, .slice B1 p1 b1, .slice C1 r1 b2] tEd) ∧ Below wo.heap.size wo W ∧ W.heap[wo.heap.size]? = some (.cells #[.int .i64 κ, .int .i64 vv, .slice B1 p1 b1, .slice C1 r1 b2] tEd))
     have kr := t_box_below k0_h.out hEd.bel
     have hE6 := hEd.below bW6
     obtain ⟨⟨c0, c1, c2, c3⟩, f0, f1, f2, f3⟩ := t_box4 k6
     obtain ⟨⟨y0, y1, y2, y3⟩, g0, g1, g2, g3⟩ := t_box4 kr
     have hkI : (k : Int) < (m : Int) := by omega
     have hr1_h' := lH hr1'; clear hr1' hn kr l3 hEd; have hek_h := lH hek; have hed_h := lH hed; have hp1_h := lH hp1; have bW6_h := lH bW6; have k6_h := lH k6; have hBw_h := lH hBw; have hwt_h := lH hwt; have hws_h := lH hws; have hE6_h := lH hE6; have hr1_h := lH hr1; clear hek hed hp1 bW6 k6 hBw hwt hws hE6 hr1
     go_upto_region 5 with (fail)
     rw [← hW6]
     clear hW6 d0 d1 d2 d3 y0 y1 y2 y3 g0 g1 g2 g3
     go_wp2_with (fail)
     clear c0 c1 c2 c3 f0 f1 f2 f3
     go_loopw [28] (fun i wr => ∃ j : Nat, j ≤ r1 ∧ i = .int .i64 j ∧ EdS W lb Bf Bh n (tabJ outE es n k j) (tabK inE es n k) wr ∧ wr.heap[wo.heap.size]? = some (.cells #[.int .i64 κ, .int .i64 vv, .slice B1 p1 b1, .slice C1 r1 b2] tEd)) (fun i _ => r1 - (intOf i).toNat)
     case atStart => exact ⟨0, Nat.zero_le _, rfl, by rw [tabJ_zero]; exact hE6_h.out, k6_h.out⟩
     case round =>
      clear hE6_h k6_h
      obtain ⟨j, hj, rfl, hEj, kj⟩ := hrel
      obtain ⟨wi, rfl⟩ : ∃ x, x = wr := ⟨_, rfl⟩
      obtain ⟨⟨x0, x1⟩, x2, x3⟩ := t_box2 hEj.box
      by_cases hltj : j < r1
      · obtain ⟨x, hx⟩ : ∃ x, t1[j]? = some x := ⟨_, List.getElem?_eq_getElem (by rw [← hr1_h'.out]; exact hltj)⟩
        have hxr := hwt_h.out x (List.mem_of_getElem? hx)
        obtain ⟨bb, rfl⟩ : ∃ bb : Nat, x = (bb : Int) := ⟨x.toNat, by omega⟩
        obtain ⟨cd, rfl, yj⟩ := (hr1_h.out.2.below (below_trans bW_h.out hEj.bel bW_h.out.size)) j _ hx
        have hstep : tabJ outE es n k (j + 1) = _ := tabJ_step (x := bb) (n := n) (by rw [hed_h.out]; exact hx)
        obtain ⟨zd, z0, ze, _, _, zc, zf⟩ := hEj.bef.at_ (j := bb) (by rw [tabJ_length]; omega)
        obtain rfl := Option.some.inj ze
        have zfk := zf bb
        have hset := hEj.set1 (j := bb) (k : Int) (by rw [tabJ_length]; omega)
        rw [← hstep] at hset
        have kk := t_box_keeps kj (Keeps.setCell (S := fun b => b = Bf.block) (Keeps.refl _ wi) (p := Bf.add bb) (by rw [block_of_add]) (.int .i64 (k : Int))) (fun e => is_ne_box hEj.bef kj (by decide) e.symm)
        have hjI : (j : Int) < (r1 : Int) := by omega
        have hbI : (bb : Int) < (n : Int) := by omega
        clear hEj zf ze hstep hxr kj; have hset_h := lH hset; have hx_h := lH hx; have kk_h := lH kk; clear hset hx kk
        go_wp2_with (fail)
        go_roundw
        case rel => exact ⟨j + 1, by omega, by go_num, hset_h.out, kk_h.out⟩
        case measure => simp [intOf]; omega
      · obtain rfl : r1 = j := by omega
        have hE2 : EdS W lb Bf Bh n (tabK outE es n (k + 1)) (tabK inE es n k) wi := by
         rw [← tabJ_all (j := r1) (by rw [hed_h.out]; show t1.length ≤ _; rw [← hr1_h'.out]; exact Nat.le_refl _)]
         exact hEj
        obtain ⟨⟨c0, c1, c2, c3⟩, f0, f1, f2, f3⟩ := t_box4 kj
        clear hEj kj x0 x1 x2 x3; have hE2_h := lH hE2; clear hE2
        go_wp2_with (fail)
        clear c0 c1 c2 c3 f0 f1 f2 f3
        go_loopw [41] (fun i wr => ∃ j : Nat, j ≤ p1 ∧ i = .int .i64 j ∧ EdS W lb Bf Bh n (tabK outE es n (k + 1)) (tabJ inE es n k j) wr) (fun i _ => p1 - (intOf i).toNat)
        case atStart => exact ⟨0, Nat.zero_le _, rfl, by rw [tabJ_zero]; exact hE2_h.out⟩
        case round =>
         clear hE2_h
         obtain ⟨j, hj, rfl, hEj⟩ := hrel
         obtain ⟨wu, rfl⟩ : ∃ x, x = wr := ⟨_, rfl⟩
         obtain ⟨⟨x0, x1⟩, x2, x3⟩ := t_box2 hEj.box
         by_cases hltj : j < p1
         · obtain ⟨x, hx⟩ : ∃ x, s1[j]? = some x := ⟨_, List.getElem?_eq_getElem (by rw [← hp1_h.out]; exact hltj)⟩
           have hxr := hws_h.out x (List.mem_of_getElem? hx)
           obtain ⟨bb, rfl⟩ : ∃ bb : Nat, x = (bb : Int) := ⟨x.toNat, by omega⟩
           obtain ⟨cd, rfl, yj⟩ := (hr1_h.out.1.below (below_trans bW_h.out hEj.bel bW_h.out.size)) j _ hx
           have hstep : tabJ inE es n k (j + 1) = _ := tabJ_step (x := bb) (n := n) (by rw [hed_h.out]; exact hx)
           obtain ⟨zd, z0, ze, _, _, zc, zf⟩ := hEj.beh.at_ (j := bb) (by rw [tabJ_length]; omega)
           obtain rfl := Option.some.inj ze
           have zfk := zf bb
           have hset := hEj.set2 (j := bb) (k : Int) (by rw [tabJ_length]; omega)
           rw [← hstep] at hset
           have hjI : (j : Int) < (p1 : Int) := by omega
           have hbI : (bb : Int) < (n : Int) := by omega
           clear hEj zf ze hstep hxr; have hset_h := lH hset; have hx_h := lH hx; clear hset hx
           go_wp2_with (fail)
           go_roundw
           case rel => exact ⟨j + 1, by omega, by go_num, hset_h.out⟩
           case measure => simp [intOf]; omega
         · obtain rfl : p1 = j := by omega
           have hE3 : EdS W lb Bf Bh n (tabK outE es n (k + 1)) (tabK inE es n (k + 1)) wu := by
            rw [← tabJ_all (f := inE) (j := p1) (by rw [hed_h.out]; show s1.length ≤ _; rw [← hp1_h.out]; exact Nat.le_refl _)]
            exact hEj
           clear hEj x0 x1 x2 x3; have hE3_h := lH hE3; clear hE3
           go_wp2_with (fail)
           go_roundw
           case rel => exact ⟨k + 1, by omega, by go_num, hE3_h.out⟩
           case measure => simp [intOf]; omega
   · obtain rfl : m = k := by omega
     have kR := t_box_below kr_h.out hEd.bel
     obtain ⟨⟨u0, u1⟩, u2, u3⟩ := t_box2 kR
     obtain ⟨⟨x0, x1⟩, x2, x3⟩ := t_box2 hEd.box
     obtain ⟨q1, q2⟩ := t_set2 (a := .slice (some Bf) n n) (b := .slice (some Bh) n n) kR
     have hlbn := hEd.lbn
     have g1 := hEd.bef.keeps q2 fun b hb e => is_ne_box hEd.bef kR (by decide) ((by simpa using hb : b = Bf.block).symm.trans e)
     have g2 := hEd.beh.keeps q2 fun b hb e => is_ne_box hEd.beh kR (by decide) ((by simpa using hb : b = Bh.block).symm.trans e)
     have hB2 := below_keeps hBw q2 (by have := hBw.size; omega) (fun b hb => by omega)
     have hn1 := hEd.bfn
     have hn2 := hEd.bhn
     have hne := hEd.ne
     have hbz := bW_h.out.size
     clear kR q2 hEd hBw; have q1_h := lH q1; have g1_h := lH g1; have g2_h := lH g2; have hB2_h := lH hB2; have hne_h := lH hne; clear q1 g1 g2 hB2 hne
     go_wp2_with (fail)
     refine bodyPost_ret (results_cell_row rfl _ _ (w.heap.size + 1) _ _ (0, 0) _ rfl q1_h.out Tryz.underlying107 rfl (by kernel_rfl)) rfl ?_
     exact ⟨Bf, Bh, rfl, g1_h.out, g2_h.out, by omega, by omega, hne_h.out, hB2_h.out⟩
abbrev tMI : TypeId := 108
theorem lawI : Maps.Keyed Tryz.prog tInt := Maps.int_keyed Tryz.underlying3
theorem zeroI (w : World) : (zeroValue tInt).run Tryz.prog w = .ok (.int .i64 0) w := by kernel_rfl
def kI (x : Int) : Lit := .int .i64 x
def vI (x : Int) : DataW Unit := .lit (.int .i64 x)
theorem kI_key (x : Int) : WideAt.IsKeyLit (kI x) := True.intro
theorem kI_inj {x y : Int} (h : kI x = kI y) : x = y := by cases h; rfl
def revD : List Int → DataW Unit
 | [] => .map []
 | w :: r => (revD r).put (kI w) (vI r.length)
def numD (l : List Int) : DataW Unit := revD l.reverse
theorem numD_snoc (l : List Int) (w : Int) : numD (l ++ [w]) = (numD l).put (kI w) (vI l.length) := by simp [numD, revD]
theorem revD_tidy : ∀ r, Maps.Tidy (revD r)
 | [] => Maps.tidy_empty
 | w :: r => (revD_tidy r).put (kI_key w) _
theorem revD_has (x : Int) : ∀ r : List Int, Maps.has (revD r) (kI x) = decide (x ∈ r)
 | [] => rfl
 | w :: r => by
   show Maps.has ((revD r).put _ _) _ = _
   by_cases e : x = w
   · subst e
     rw [Maps.has_put_same (revD_tidy r).isMap (kI_key x)]
     simp
   · rw [Maps.has_put_other (fun h => e (kI_inj h)), revD_has x r]
     simp [e]
theorem revD_size : ∀ r : List Int, r.Nodup → Maps.size (revD r) = r.length
 | [], _ => rfl
 | w :: r, h => by
   obtain ⟨h1, h2⟩ := List.nodup_cons.1 h
   show Maps.size ((revD r).put _ _) = _
   rw [Maps.size_put (revD_tidy r), revD_has, revD_size r h2]
   simp [h1]
theorem revD_at (x : Int) (z : DataW Unit) : ∀ r : List Int, r.Nodup → x ∈ r → (revD r).atKey (kI x) z = vI (idx r.reverse x)
 | [], _, h => by cases h
 | w :: r, hn, h => by
   obtain ⟨h1, h2⟩ := List.nodup_cons.1 hn
   show ((revD r).put _ _).atKey _ _ = _
   rw [List.reverse_cons, idx_append]
   by_cases e : x = w
   · subst e
     rw [Maps.atKey_put_same (revD_tidy r).isMap (kI_key x), if_neg (by simpa using h1)]
     simp [idx]
   · have hm : x ∈ r := by
      rcases List.mem_cons.1 h with h | h
      · exact absurd h e
      · exact h
     rw [Maps.atKey_put_other (fun h => e (kI_inj h)), revD_at x z r h2 hm, if_pos (by simpa using hm)]
theorem numD_has (l : List Int) (x : Int) : Maps.has (numD l) (kI x) = decide (x ∈ l) := by
 unfold numD
 rw [revD_has]
 simp
theorem numD_size {l : List Int} (h : l.Nodup) : Maps.size (numD l) = l.length := by
 unfold numD
 rw [revD_size _ (by rw [List.nodup_iff_pairwise_ne] at h ⊢; exact List.pairwise_reverse.2 (h.imp Ne.symm)), List.length_reverse]
theorem nodup_rev {l : List Int} (h : l.Nodup) : l.reverse.Nodup := by
 unfold List.Nodup at h ⊢
 exact List.pairwise_reverse.2 (h.imp Ne.symm)
theorem numD_at {l : List Int} (h : l.Nodup) {x : Int} (hx : x ∈ l) (z : DataW Unit) : (numD l).atKey (kI x) z = vI (idx l x) := by
 unfold numD
 rw [revD_at x z _ (nodup_rev h) (by simpa using hx), List.reverse_reverse]
def look (l : List Int) (x : Int) : Int := if x ∈ l then idx l x else 0
theorem look_mem {l : List Int} {x : Int} (h : x ∈ l) : look l x = idx l x := if_pos h
theorem numD_look {l : List Int} (h : l.Nodup) (x : Int) : (numD l).atKey (kI x) (vI 0) = vI (look l x) := by
 unfold look
 split
 · rename_i hx
   exact numD_at h hx _
 · rename_i hx
   exact Maps.atKey_of_not_has (by rw [numD_has]; simpa using hx) _
def MI (w : World) (b : Nat) (l : List Int) : Prop := w.ownsMap (H := Unit) Tryz.prog tInt (plainElem Tryz.prog tInt) b l.length (numD l)
def MR (w : World) (b r : Nat) (l : List Int) (L : Int → Bool) (cnt : Nat) : Prop := ∃ left : Lit → Bool, w.ranges (H := Unit) Tryz.prog tInt (plainElem Tryz.prog tInt) b r l.length (numD l) left cnt ∧ ∀ x, left (kI x) = L x
theorem keeps_of_grown {w w' : World} {row : Option Nat} (h : w.grownBy w' row) : Keeps (fun b => some b = row) w w' := ⟨h.os, h.tape, h.output, h.size, fun k hk hs => h.block k hk hs⟩
section
variable {w w' : World} {b r cnt : Nat} {l : List Int} {L : Int → Bool}
theorem MI.lt (h : MI w b l) : b < w.heap.size := World.ownsMap.lt h
theorem MI.frame (h : MI w b l) (hs : w'.heap[b]? = w.heap[b]?) : MI w' b l := by
 obtain ⟨es, clock, hb, q⟩ := h
 exact ⟨es, clock, hs.trans hb, q⟩
theorem MI.below (h : MI w b l) (hb : Below w.heap.size w w') : MI w' b l := h.frame (hb.block b h.lt)
theorem MI.keeps (h : MI w b l) {S : Nat → Prop} (hk : Keeps S w w') (hS : ¬ S b) : MI w' b l := h.frame (hk.block b h.lt hS)
theorem MI.made (w : World) : MI (w.alloc (.map #[] 0)) w.heap.size [] := World.ownsMap_made w _ _ _
theorem MR.owns (h : MR w b r l L cnt) : MI w b l := h.choose_spec.1.owns
theorem MR.frame (h : MR w b r l L cnt) (hs : w'.heap[b]? = w.heap[b]?) (hr : w'.heap[r]? = w.heap[r]?) : MR w' b r l L cnt := by
 obtain ⟨left, ⟨es, clock, since, seen, c0, h1, h2, h3, h4, h5, q⟩, hL⟩ := h
 exact ⟨left, ⟨es, clock, since, seen, c0, hs.trans h1, h2, h3, h4, hr.trans h5, q⟩, hL⟩
theorem MR.lt (h : MR w b r l L cnt) : r < w.heap.size := h.choose_spec.1.lt
theorem MR.keeps (h : MR w b r l L cnt) {S : Nat → Prop} (hk : Keeps S w w') (hS : ¬ S b) (hr : ¬ S r) : MR w' b r l L cnt := h.frame (hk.block b h.owns.lt hS) (hk.block r h.lt hr)
theorem MR.below (h : MR w b r l L cnt) (hb : Below w.heap.size w w') : MR w' b r l L cnt := h.frame (hb.block b h.owns.lt) (hb.block r h.lt)
theorem MR.ne (h : MR w b r l L cnt) : r ≠ b := h.choose_spec.1.ne
theorem MR.left_eq (h : MR w b r l L cnt) : w.rangeLeft b r = cnt := h.choose_spec.1.left_eq
end
theorem MI.len {w : World} {b : Nat} {l : List Int} (h : MI w b l) (hn : l.Nodup) (ty : TypeId) : (Builtin.len_ #[tMI] ty #[.map (some b)]).run Tryz.prog w = .ok (.int .i64 (l.length : Int)) w := by
 have := World.ownsMap.len h Tryz.underlying108 ty
 rw [numD_size hn] at this
 exact this
theorem MI.put {w : World} {b : Nat} {l : List Int} (h : MI w b l) (hl : l.length < maxLen) {y : Int} (hw : (Lit.int .i64 y).wf = true) {q : Int} (hq : q = (l.length : Int)) :
  ∃ w', (Instr.mapUpdate tMI (.map (some b)) (.int .i64 y) (.int .i64 q)).run Tryz.prog w = .ok () w' ∧ MI w' b (l ++ [y]) ∧ Keeps (fun k => k = b) w w' := by
 subst hq
 obtain ⟨w', h1, h2, h3⟩ := World.ownsMap.update h lawI Tryz.underlying108 hl (Maps.keyOf_int_mk Tryz.underlying3 hw) (d := vI l.length) (ps := []) (plainElem_int Tryz.underlying3 (WalkArith.wf_i64 (by unfold maxLen at hl; omega)))
 refine ⟨w', h1, ?_, (keeps_of_grown h3).mono fun k _ e => Option.some.inj e⟩
 unfold MI
 rw [numD_snoc, List.length_append]
 exact h2
theorem MI.ne_cells {w : World} {b g : Nat} {l : List Int} {cs : Array Value} {t : TypeId} {fr : Nat × Nat} (h : MI w b l) (hg : w.heap[g]? = some (.cells cs t fr)) : b ≠ g := fun e => by
 obtain ⟨es, clock, hb, _⟩ := h
 rw [e, hg] at hb
 cases hb
theorem MI.ne_sl {w : World} {b x : Nat} {l : List Int} {e : TypeId} {sz n cap : Nat} {A : Option Addr} {xs : List Value} (h : MI w b l) (hs : Sl w e sz A n cap xs) (hx : x ∈ fpA A) : b ≠ x := by
 rcases hs.2.2.2 with ⟨rfl, _⟩ | ⟨g, off, cur, rfl, hg, _⟩
 · simp at hx
 · obtain rfl : x = g := by simpa using hx
   exact h.ne_cells hg
section
variable {w : World} {ops : Array Oper} {rest : List Oper} {o : Oper} {a : Act} {Q : Exit → Act → World → Prop} {b : Nat} {l : List Int}
theorem wp_mi_ok (hg : o.guard = none) (m x : Operand) (hop : o.op = Op.lookup tMI m x true) (hm : a.eval m = .map (some b)) (h : MI w b l) (hn : l.Nodup) (y : Int) (hx : a.eval x = .int .i64 y) (hw : (Lit.int .i64 y).wf = true)
  (B : Bool) (hB : decide (y ∈ l) = B) (hK : wpList Tryz.prog ops Q rest (a.put o.dst (.tuple #[.int .i64 (look l y), .bool B])) w) : wpList Tryz.prog ops Q (o :: rest) a w := by
 subst hB
 refine wpList_lookup_own_ok_int w hg m x tMI hop tInt tInt .i64 lawI Tryz.underlying108 Tryz.underlying3 (zeroI w) b l.length (numD l) hm h _ (kI y) hx (Maps.keyOf_int_mk Tryz.underlying3 hw) fun c hat _ => ?_
 have e := numD_look hn y
 rw [show (DataW.lit (Lit.int .i64 0) : DataW Unit) = vI 0 from rfl, e] at hat
 obtain rfl : look l y = c := by
  have := hat
  unfold vI at this
  injection this with this
  injection this
 rw [numD_has]
 exact hK
theorem wp_mi_get (hg : o.guard = none) (m x : Operand) (hop : o.op = Op.lookup tMI m x false) (hm : a.eval m = .map (some b)) (h : MI w b l) (hn : l.Nodup) (y : Int) (hx : a.eval x = .int .i64 y) (hw : (Lit.int .i64 y).wf = true)
  (q : Int) (hq : look l y = q) (hK : wpList Tryz.prog ops Q rest (a.put o.dst (.int .i64 q)) w) : wpList Tryz.prog ops Q (o :: rest) a w := by
 subst hq
 refine wpList_lookup_own_int w hg m x tMI hop tInt tInt .i64 lawI Tryz.underlying108 Tryz.underlying3 (zeroI w) b l.length (numD l) hm h _ (kI y) hx (Maps.keyOf_int_mk Tryz.underlying3 hw) fun c hat _ => ?_
 have e := numD_look hn y
 rw [show (DataW.lit (Lit.int .i64 0) : DataW Unit) = vI 0 from rfl, e] at hat
 obtain rfl : look l y = c := by
  have := hat
  unfold vI at this
  injection this with this
  injection this
 exact hK
theorem wp_mi_range (hg : o.guard = none) (m : Operand) (hop : o.op = Op.range tMI m) (hm : a.eval m = .map (some b)) (h : MI w b l) (hn : l.Nodup)
  (hK : ∀ w', MR w' b w.heap.size l (fun x => decide (x ∈ l)) l.length → Below w.heap.size w w' → w'.heap.size = w.heap.size + 1 → wpList Tryz.prog ops Q rest (a.put o.dst (.pointer (some ⟨w.heap.size, 0, none⟩))) w') : wpList Tryz.prog ops Q (o :: rest) a w := by
 refine wpList_range_own w hg m tMI hop tInt tInt lawI Tryz.underlying108 (plainElem Tryz.prog tInt) b l.length (numD l) hm h fun w' h1 h2 h3 => ?_
 rw [numD_size hn] at h1
 exact hK w' ⟨_, h1, fun x => numD_has l x⟩ ⟨h2.os, h2.tape, h2.output, h2.size, fun k hk => h2.block k hk (by simp)⟩ h3
theorem wp_mr_next (hg : o.guard = none) (it : Operand) (hop : o.op = Op.next it false) {r cnt : Nat} {L : Int → Bool} (hit : a.eval it = .pointer (some ⟨r, 0, none⟩)) (h : MR w b r l L cnt) (hn : l.Nodup)
  (hDone : cnt = 0 → (∀ x, L x = false) → wpList Tryz.prog ops Q rest (a.put o.dst (.tuple #[.bool false])) w)
  (hMore : ∀ (x : Int) (w' : World) (cnt' : Nat), x ∈ l → L x = true → (Lit.int .i64 x).wf = true → MR w' b r l (fun z => L z && !decide (z = x)) cnt' → cnt' < cnt → Keeps (fun k => k = r) w w' → w'.heap.size = w.heap.size →
   (Instr.entry (.pointer (some ⟨r, 0, none⟩))).run Tryz.prog w' = .ok (.tuple #[.int .i64 x, .int .i64 (idx l x)]) w' → wpList Tryz.prog ops Q rest (a.put o.dst (.tuple #[.bool true, .int .i64 x, .int .i64 (idx l x)])) w') :
  wpList Tryz.prog ops Q (o :: rest) a w := by
 obtain ⟨left, hr, hL⟩ := h
 refine wpList_next_ranges_ii w hg it hop tInt tInt .i64 .i64 lawI Tryz.underlying3 Tryz.underlying3 b r l.length (numD l) left cnt hit hr (fun h0 h1 => hDone h0 fun x => by rw [← hL]; exact h1 _) fun x c w' cnt' hwx _ hl hat h1 h2 h3 h4 h5 => ?_
 have hx : x ∈ l := by
  have := Maps.has_true_of_atKey (k := kI x) hat
  rw [numD_has] at this
  simpa using this
 obtain rfl : idx l x = c := by
  have e := hat (vI 0)
  rw [show (Lit.int .i64 x : Lit) = kI x from rfl, numD_at hn hx] at e
  unfold vI at e
  injection e with e
  injection e
 refine hMore x w' cnt' hx (by rw [← hL]; exact hl) hwx ⟨_, h1, fun z => ?_⟩ h2 ((keeps_of_grown h3).mono fun k _ e => Option.some.inj e) h4 h5
 rw [hL]
 congr 2
 by_cases e : z = x
 · subst e
   rw [show (kI z).sameKey (.int .i64 z) = true from WideAt.sameKey_self (a := kI z) (kI_key z)]
   simp
 · rw [show (Lit.int .i64 x : Lit) = kI x from rfl, Maps.sameKey_ne (fun h => e (kI_inj h))]
   simp [e]
end
abbrev tWk : TypeId := 110
theorem box10 {w : World} {B : Nat} {t : TypeId} {a b c d e f g h i j : Value} (hb : w.heap[B]? = some (.cells #[a, b, c, d, e, f, g, h, i, j] t)) :
  (w.cell? ⟨B, 0, none⟩ = some a ∧ w.cell? ⟨B, 1, none⟩ = some b ∧ w.cell? ⟨B, 2, none⟩ = some c ∧ w.cell? ⟨B, 3, none⟩ = some d ∧ w.cell? ⟨B, 4, none⟩ = some e ∧ w.cell? ⟨B, 5, none⟩ = some f ∧ w.cell? ⟨B, 6, none⟩ = some g ∧ w.cell? ⟨B, 7, none⟩ = some h ∧ w.cell? ⟨B, 8, none⟩ = some i ∧ w.cell? ⟨B, 9, none⟩ = some j) ∧
  w.frozen? ⟨B, 8, none⟩ = false ∧ w.frozen? ⟨B, 9, none⟩ = false := by
 refine ⟨⟨?_, ?_, ?_, ?_, ?_, ?_, ?_, ?_, ?_, ?_⟩, ?_, ?_⟩ <;> simp [World.cell?, World.frozen?, hb]
theorem set10_8 {w : World} {B : Nat} {t : TypeId} {a b c d e f g h i j x : Value} (hb : w.heap[B]? = some (.cells #[a, b, c, d, e, f, g, h, i, j] t)) :
  (w.setCell ⟨B, 8, none⟩ x).heap[B]? = some (.cells #[a, b, c, d, e, f, g, h, x, j] t) ∧ Keeps (· = B) w (w.setCell ⟨B, 8, none⟩ x) := by
 refine ⟨by simp [World.setCell, Array.getElem?_modify, hb], ?_⟩
 exact (Keeps.refl (fun x => x = B) w).setCell (p := ⟨B, 8, none⟩) rfl _
theorem set10_9 {w : World} {B : Nat} {t : TypeId} {a b c d e f g h i j x : Value} (hb : w.heap[B]? = some (.cells #[a, b, c, d, e, f, g, h, i, j] t)) :
  (w.setCell ⟨B, 9, none⟩ x).heap[B]? = some (.cells #[a, b, c, d, e, f, g, h, i, x] t) ∧ Keeps (· = B) w (w.setCell ⟨B, 9, none⟩ x) := by
 refine ⟨by simp [World.setCell, Array.getElem?_modify, hb], ?_⟩
 exact (Keeps.refl (fun x => x = B) w).setCell (p := ⟨B, 9, none⟩) rfl _
def OwnK (b mw me : Nat) (Q O : Option Addr) (x : Nat) : Prop := x = b ∨ x = mw ∨ x = me ∨ x ∈ fpA Q ∨ x ∈ fpA O
def StepK (b mw me : Nat) (w : World) (Q O : Option Addr) (w' : World) (Q' O' : Option Addr) : Prop :=
 Keeps (OwnK b mw me Q O) w w' ∧ ∀ x, OwnK b mw me Q' O' x → OwnK b mw me Q O x ∨ w.heap.size ≤ x
theorem StepK.refl (b mw me : Nat) (w : World) (Q O : Option Addr) : StepK b mw me w Q O w Q O := ⟨Keeps.refl _ _, fun _ h => .inl h⟩
theorem StepK.trans {b mw me : Nat} {w w' w'' : World} {Q O Q' O' Q'' O'' : Option Addr} (h : StepK b mw me w Q O w' Q' O') (k : StepK b mw me w' Q' O' w'' Q'' O'') : StepK b mw me w Q O w'' Q'' O'' :=
 ⟨h.1.free k.1 fun x hx hT => (h.2 x hT).resolve_right (by omega), fun x hx => by
  rcases k.2 x hx with h1 | h1
  · exact h.2 x h1
  · exact .inr (Nat.le_trans h.1.size h1)⟩
theorem StepK.below {b mw me : Nat} {w w' w'' : World} {Q O Q' O' : Option Addr} (h : StepK b mw me w Q O w' Q' O') (k : Below w'.heap.size w' w'') : StepK b mw me w Q O w'' Q' O' :=
 ⟨h.1.free (Keeps.of_below k (fun _ => False)) fun _ _ h => h.elim, h.2⟩
structure KW (W : World) (n : Nat) (es : List Eg) (x1 x2 x3 : Value) (b : Nat) (Bf Bh : Addr) (mw me : Nat) (s : WE) (qd : Nat) (w : World) (Q : Option Addr) (qn qc : Nat) (O : Option Addr) (on oc : Nat) : Prop where
 box : w.heap[b]? = some (.cells #[.int .i64 (n : Int), x1, x2, x3, .slice (some Bf) n n, .slice (some Bh) n n, .map (some mw), .map (some me), .slice Q qn qc, .slice O on oc] tWk)
 bef : IS w (some Bf) n (tabK outE es n es.length)
 beh : IS w (some Bh) n (tabK inE es n es.length)
 wir : MI w mw s.1
 edg : MI w me s.2
 que : IS w Q qc (s.1.drop qd)
 ord : IS w O oc s.2
 qln : (s.1.drop qd).length = qn
 oln : s.2.length = on
 qle : qd ≤ s.1.length
 new : ∀ x, OwnK b mw me Q O x → W.heap.size ≤ x
 bfn : W.heap.size ≤ Bf.block ∧ W.heap.size ≤ Bh.block
 off : ¬ OwnK b mw me Q O Bf.block ∧ ¬ OwnK b mw me Q O Bh.block
 qo : ∀ x, x ∈ fpA Q → ¬ x ∈ fpA O
 mne : mw ≠ me
 bel : Below W.heap.size W w
section
variable {W w w' : World} {n : Nat} {es : List Eg} {x1 x2 x3 : Value} {b : Nat} {Bf Bh : Addr} {mw me : Nat} {s : WE} {qd : Nat} {Q O : Option Addr} {qn qc on oc : Nat}
theorem KW.below (h : KW W n es x1 x2 x3 b Bf Bh mw me s qd w Q qn qc O on oc) (hb : Below w.heap.size w w') : KW W n es x1 x2 x3 b Bf Bh mw me s qd w' Q qn qc O on oc :=
 ⟨t_box_below h.box hb, h.bef.below hb, h.beh.below hb, h.wir.below hb, h.edg.below hb, h.que.below hb, h.ord.below hb, h.qln, h.oln, h.qle, h.new, h.bfn, h.off, h.qo, h.mne, below_trans h.bel hb h.bel.size⟩
theorem KW.sep (h : KW W n es x1 x2 x3 b Bf Bh mw me s qd w Q qn qc O on oc) : mw ≠ b ∧ me ≠ b ∧ (∀ x, x ∈ fpA Q → x ≠ b ∧ x ≠ mw ∧ x ≠ me) ∧ ∀ x, x ∈ fpA O → x ≠ b ∧ x ≠ mw ∧ x ≠ me := by
 have key : ∀ {A : Option Addr} {c : Nat} {l : List Int}, IS w A c l → ∀ x, x ∈ fpA A → x ≠ b ∧ x ≠ mw ∧ x ≠ me := fun hI x hx => by
  refine ⟨fun e => ?_, fun e => (h.wir.ne_sl hI hx) e.symm, fun e => (h.edg.ne_sl hI hx) e.symm⟩
  obtain ⟨a, rfl, rfl⟩ := mem_fpA.1 hx
  exact is_ne_box hI h.box (by decide) e
 exact ⟨h.wir.ne_cells h.box, h.edg.ne_cells h.box, key h.que, key h.ord⟩
theorem KW.own_lt (h : KW W n es x1 x2 x3 b Bf Bh mw me s qd w Q qn qc O on oc) {x : Nat} (hx : OwnK b mw me Q O x) : x < w.heap.size := by
 rcases hx with rfl | rfl | rfl | hx | hx
 · exact t_box_lt h.box
 · exact h.wir.lt
 · exact h.edg.lt
 · exact h.que.lt x hx
 · exact h.ord.lt x hx
theorem KW.put (h : KW W n es x1 x2 x3 b Bf Bh mw me s qd w Q qn qc O on oc) {x : Int} (hM : MI w' mw (s.1 ++ [x])) (hk : Keeps (fun k => k = mw) w w') :
  w'.heap[b]? = some (.cells #[.int .i64 (n : Int), x1, x2, x3, .slice (some Bf) n n, .slice (some Bh) n n, .map (some mw), .map (some me), .slice Q qn qc, .slice O on oc] tWk) ∧ IS w' Q qc (s.1.drop qd) ∧
  ∀ (w1 : World) (Q' : Option Addr) (c' : Nat), IS w1 Q' c' (s.1.drop qd ++ [x]) → (∀ b, b ∈ fpA Q' → b ∈ fpA Q ∨ w'.heap.size ≤ b) → Keeps (· ∈ fpA Q) w' w1 →
    w1.heap[b]? = some (.cells #[.int .i64 (n : Int), x1, x2, x3, .slice (some Bf) n n, .slice (some Bh) n n, .map (some mw), .map (some me), .slice Q qn qc, .slice O on oc] tWk) ∧
    KW W n es x1 x2 x3 b Bf Bh mw me (s.1 ++ [x], s.2) qd (w1.setCell ⟨b, 8, none⟩ (.slice Q' (qn + 1) c')) Q' (qn + 1) c' O on oc ∧ StepK b mw me w Q O (w1.setCell ⟨b, 8, none⟩ (.slice Q' (qn + 1) c')) Q' O := by
 obtain ⟨s1, s2, s3, s4⟩ := h.sep
 have hb1 := t_box_keeps h.box hk (fun e => s1 e.symm)
 have hq1 := h.que.keeps hk fun x hx e => (s3 x hx).2.1 e
 have ho1 := h.ord.keeps hk fun x hx e => (s4 x hx).2.1 e
 have hf1 := h.bef.keeps hk fun x hx e => h.off.1 (.inr (.inl ((by simpa using hx : x = Bf.block).symm.trans e)))
 have hh1 := h.beh.keeps hk fun x hx e => h.off.2 (.inr (.inl ((by simpa using hx : x = Bh.block).symm.trans e)))
 have he1 := h.edg.keeps hk (fun e => h.mne e.symm)
 refine ⟨hb1, hq1, fun w1 Q' c' hI hQ hk1 => ?_⟩
 have hz := hk.size
 have hb2 := t_box_keeps hb1 hk1 (fun hx => (s3 _ hx).1 rfl)
 obtain ⟨t1, t2⟩ := set10_8 (x := .slice Q' (qn + 1) c') hb2
 have hQn : ∀ x, x ∈ fpA Q' → x ∈ fpA Q ∨ w.heap.size ≤ x := fun x hx => (hQ x hx).imp id fun h1 => Nat.le_trans hz h1
 have hltO : ∀ x, x ∈ fpA O → x < w.heap.size := fun x hx => h.ord.lt x hx
 have hown : ∀ x, OwnK b mw me Q' O x → OwnK b mw me Q O x ∨ w.heap.size ≤ x := fun x hx => by
  rcases hx with hx | hx | hx | hx | hx
  · exact .inl (.inl hx)
  · exact .inl (.inr (.inl hx))
  · exact .inl (.inr (.inr (.inl hx)))
  · exact (hQn x hx).imp (fun h1 => .inr (.inr (.inr (.inl h1)))) id
  · exact .inl (.inr (.inr (.inr (.inr hx))))
 have hK : Keeps (OwnK b mw me Q O) w (w1.setCell ⟨b, 8, none⟩ (.slice Q' (qn + 1) c')) := ((hk.mono (T := OwnK b mw me Q O) fun x _ e => .inr (.inl e)).trans (hk1.mono fun x _ e => .inr (.inr (.inr (.inl e))))).trans (t2.mono fun x _ e => .inl e)
 have hbf := h.bef.lt Bf.block (by simp)
 have hbh := h.beh.lt Bh.block (by simp)
 have hQ0 : ∀ x, x ∈ fpA Q' → x ≠ b := fun x hx e => by
  rcases hQn x hx with h1 | h1
  · exact (s3 x h1).1 e
  · have := t_box_lt h.box; omega
 have hnotQ : ∀ x, ¬ OwnK b mw me Q O x → ¬ x ∈ fpA Q ∧ ¬ x = b := fun x hx => ⟨fun e => hx (.inr (.inr (.inr (.inl e)))), fun e => hx (.inl e)⟩
 have hbfe : ∀ x, x ∈ fpA (some Bf) → x = Bf.block := fun x hx => by simpa using hx
 have hbhe : ∀ x, x ∈ fpA (some Bh) → x = Bh.block := fun x hx => by simpa using hx
 have hMl := hM.lt
 have hMk := (hM.keeps hk1 fun hx => (s3 _ hx).2.1 rfl).keeps t2 s1
 refine ⟨hb2, ⟨t1, (hf1.keeps hk1 fun x hx e => ?_).keeps t2 fun x hx e => ?_, (hh1.keeps hk1 fun x hx e => ?_).keeps t2 fun x hx e => ?_, hMk, (he1.keeps hk1 fun hx => (s3 _ hx).2.2 rfl).keeps t2 s2, ?_, (ho1.keeps hk1 fun x hx e => h.qo x e hx).keeps t2 fun x hx e => (s4 x hx).1 e, ?_, h.oln, ?_, fun x hx => ?_, h.bfn, ⟨fun hx => ?_, fun hx => ?_⟩, fun x hx hO => ?_, h.mne, ?_⟩, hK, hown⟩
 · rw [hbfe x hx] at e; exact (hnotQ _ h.off.1).1 e
 · rw [hbfe x hx] at e; exact (hnotQ _ h.off.1).2 e
 · rw [hbhe x hx] at e; exact (hnotQ _ h.off.2).1 e
 · rw [hbhe x hx] at e; exact (hnotQ _ h.off.2).2 e
 · show IS _ Q' c' ((s.1 ++ [x]).drop qd)
   rw [List.drop_append_of_le_length h.qle]
   exact hI.keeps t2 fun x hx e => hQ0 x hx e
 · show ((s.1 ++ [x]).drop qd).length = _
   rw [List.drop_append_of_le_length h.qle, List.length_append, h.qln]
   rfl
 · show qd ≤ (s.1 ++ [x]).length
   rw [List.length_append]
   have := h.qle
   omega
 · rcases hown x hx with h1 | h1
   · exact h.new x h1
   · have := h.bel.size; omega
 · rcases hown _ hx with h1 | h1
   · exact h.off.1 h1
   · omega
 · rcases hown _ hx with h1 | h1
   · exact h.off.2 h1
   · omega
 · rcases hQn x hx with h1 | h1
   · exact h.qo x h1 hO
   · have := hltO x hO; omega
 · exact below_keeps h.bel hK h.bel.size h.new
end
set_option maxRecDepth 100000 in
set_option maxHeartbeats 8000000 in
theorem wire_any {W : World} {n : Nat} {es : List Eg} {x1 x2 x3 : Value} {b : Nat} {Bf Bh : Addr} {mw me : Nat} {s : WE} {qd : Nat} {Q O : Option Addr} {qn qc on oc : Nat} (x : Int) (w : World)
  (h : KW W n es x1 x2 x3 b Bf Bh mw me s qd w Q qn qc O on oc) (hn : n ≤ 100) (hnd : s.1.Nodup) (hr : ∀ y, y ∈ s.1 → 0 ≤ y ∧ y < (n : Int)) (hx : 0 ≤ x ∧ x < (n : Int)) :
  Calls Tryz.prog 106 #[.pointer (some ⟨b, 0, none⟩), .int .i64 x] w fun e w' => e = .returned (.tuple #[]) ∧ ∃ (Q' : Option Addr) (qn' qc' : Nat), KW W n es x1 x2 x3 b Bf Bh mw me (giveL s.1 [x], s.2) qd w' Q' qn' qc' O on oc ∧ StepK b mw me w Q O w' Q' O := by
 have hwf : (Lit.int .i64 x).wf = true := WalkArith.wf_i64 (by omega)
 have hle : s.1.length ≤ n := nodup_le hnd hr
 have hqn : qn ≤ n := by rw [← h.qln, List.length_drop]; omega
 obtain ⟨⟨c0, c1, c2, c3, c4, c5, c6, c7, c8, c9⟩, f8, f9⟩ := box10 h.box
 have hMI := h.wir
 by_cases hm : x ∈ s.1
 · have hg : giveL s.1 [x] = s.1 := by rw [giveL_one, if_pos (by simpa using hm)]
   rw [hg]
   have h_h := lH h; have hMI_h := lH hMI; have hnd_h := lH hnd; have hm_h := lH hm; have hg_h := lH hg; have hr_h := lH hr; clear h hMI hnd hm hg hr
   go_enter Tryz.func106, Tryz.ntmps106
   go_wp2_with (at_lookup; refine wp_mi_ok rfl _ _ rfl rfl hMI_h.out hnd_h.out x rfl hwf true (decide_eq_true hm_h.out) ?_)
   go_end0
   exact ⟨rfl, Q, qn, qc, h_h.out, StepK.refl _ _ _ _ _ _⟩
 · have hg : giveL s.1 [x] = s.1 ++ [x] := by rw [giveL_one, if_neg (by simpa using hm)]
   rw [hg]
   obtain ⟨q, hq⟩ : ∃ q, s.1.length = q := ⟨_, rfl⟩
   rw [hq] at hle
   have h_h := lH h; have hMI_h := lH hMI; have hnd_h := lH hnd; have hm_h := lH hm; have hg_h := lH hg; have hr_h := lH hr; have hq_h := lH hq; clear h hMI hnd hm hg hr hq
   go_enter Tryz.func106, Tryz.ntmps106
   go_wp2_with (at_lookup; refine wp_mi_ok rfl _ _ rfl rfl hMI_h.out hnd_h.out x rfl hwf false (decide_eq_false hm_h.out) ?_)
   refine beginZw 10 (fun w' => w'.heap[b]? = some (.cells #[.int .i64 (n : Int), x1, x2, x3, .slice (some Bf) n n, .slice (some Bh) n n, .map (some mw), .map (some me), .slice Q qn qc, .slice O on oc] tWk) ∧ MI w' mw s.1) (by kernel_rfl) (fun W1 hW1 => ?_)
   have hbd : Below w.heap.size w W1 := by rw [hW1]; exact below_drewN (Below.refl _ _) 1
   have h1 := h_h.out.below hbd
   clear hW1 c0 c1 c2 c3 c4 c5 c6 c7 c8 c9 f8 f9; have h1_h := lH h1; have hbd_h := lH hbd; clear h1 hbd
   refine tkC 0 ?_ rfl (⟨h1_h.out.box, h1_h.out.wir⟩ : _ ∧ _) (fun W' hW' => ?_) ?_; rotate_left; · (obtain ⟨⟨c0, c1, c2, c3, c4, c5, c6, c7, c8, c9⟩, f8, f9⟩ := box10 hW'.1; have hlen := fun ty => hW'.2.len hnd_h.out ty; rw [hq_h.out] at hlen; clear hW'; go_simp; first | done | with_reducible rfl)
   simp only [Act.put, nS]
   refine tkC 1 ?_ rfl (⟨h1_h.out.box, h1_h.out.wir⟩ : _ ∧ _) (fun W' hW' => ?_) ?_; rotate_left; · (obtain ⟨⟨c0, c1, c2, c3, c4, c5, c6, c7, c8, c9⟩, f8, f9⟩ := box10 hW'.1; have hlen := fun ty => hW'.2.len hnd_h.out ty; rw [hq_h.out] at hlen; clear hW'; go_simp; first | done | with_reducible rfl)
   simp only [Act.put, nS]
   refine tkC 2 ?_ rfl (⟨h1_h.out.box, h1_h.out.wir⟩ : _ ∧ _) (fun W' hW' => ?_) ?_; rotate_left; · (obtain ⟨⟨c0, c1, c2, c3, c4, c5, c6, c7, c8, c9⟩, f8, f9⟩ := box10 hW'.1; have hlen := fun ty => hW'.2.len hnd_h.out ty; rw [hq_h.out] at hlen; clear hW'; go_simp; first | done | with_reducible rfl)
   simp only [Act.put, nS]
   refine tkC 3 ?_ rfl (⟨h1_h.out.box, h1_h.out.wir⟩ : _ ∧ _) (fun W' hW' => ?_) ?_; rotate_left; · (obtain ⟨⟨c0, c1, c2, c3, c4, c5, c6, c7, c8, c9⟩, f8, f9⟩ := box10 hW'.1; have hlen := fun ty => hW'.2.len hnd_h.out ty; rw [hq_h.out] at hlen; clear hW'; go_simp; first | done | with_reducible rfl)
   simp only [Act.put, nS]
   refine tkC 4 ?_ rfl (⟨h1_h.out.box, h1_h.out.wir⟩ : _ ∧ _) (fun W' hW' => ?_) ?_; rotate_left; · (obtain ⟨⟨c0, c1, c2, c3, c4, c5, c6, c7, c8, c9⟩, f8, f9⟩ := box10 hW'.1; have hlen := fun ty => hW'.2.len hnd_h.out ty; rw [hq_h.out] at hlen; clear hW'; go_simp; first | done | with_reducible rfl)
   simp only [Act.put, nS]
   refine tkC 5 ?_ rfl (⟨h1_h.out.box, h1_h.out.wir⟩ : _ ∧ _) (fun W' hW' => ?_) ?_; rotate_left; · (obtain ⟨⟨c0, c1, c2, c3, c4, c5, c6, c7, c8, c9⟩, f8, f9⟩ := box10 hW'.1; have hlen := fun ty => hW'.2.len hnd_h.out ty; rw [hq_h.out] at hlen; clear hW'; go_simp; first | done | with_reducible rfl)
   simp only [Act.put, nS]
   refine tkC 6 ?_ rfl (⟨h1_h.out.box, h1_h.out.wir⟩ : _ ∧ _) (fun W' hW' => ?_) ?_; rotate_left; · (obtain ⟨⟨c0, c1, c2, c3, c4, c5, c6, c7, c8, c9⟩, f8, f9⟩ := box10 hW'.1; have hlen := fun ty => hW'.2.len hnd_h.out ty; rw [hq_h.out] at hlen; clear hW'; go_simp; first | done | with_reducible rfl)
   simp only [Act.put, nS]
   refine tkC 7 ?_ rfl (⟨h1_h.out.box, h1_h.out.wir⟩ : _ ∧ _) (fun W' hW' => ?_) ?_; rotate_left; · (obtain ⟨⟨c0, c1, c2, c3, c4, c5, c6, c7, c8, c9⟩, f8, f9⟩ := box10 hW'.1; have hlen := fun ty => hW'.2.len hnd_h.out ty; rw [hq_h.out] at hlen; clear hW'; go_simp; first | done | with_reducible rfl)
   simp only [Act.put, nS]
   refine tkC 8 ?_ rfl (⟨h1_h.out.box, h1_h.out.wir⟩ : _ ∧ _) (fun W' hW' => ?_) ?_; rotate_left; · (obtain ⟨⟨c0, c1, c2, c3, c4, c5, c6, c7, c8, c9⟩, f8, f9⟩ := box10 hW'.1; have hlen := fun ty => hW'.2.len hnd_h.out ty; rw [hq_h.out] at hlen; clear hW'; go_simp; first | done | with_reducible rfl)
   simp only [Act.put, nS]
   refine tkC 9 ?_ rfl (⟨h1_h.out.box, h1_h.out.wir⟩ : _ ∧ _) (fun W' hW' => ?_) ?_; rotate_left; · (obtain ⟨⟨c0, c1, c2, c3, c4, c5, c6, c7, c8, c9⟩, f8, f9⟩ := box10 hW'.1; have hlen := fun ty => hW'.2.len hnd_h.out ty; rw [hq_h.out] at hlen; clear hW'; go_simp; first | done | with_reducible rfl)
   simp only [Act.put, nS]
   obtain ⟨w2, hrun, hM2, hk2⟩ := h1_h.out.wir.put (y := x) (q := (q : Int)) (by rw [hq_h.out]; unfold maxLen; omega) hwf (by rw [hq_h.out])
   obtain ⟨hb2, hq2, hfin⟩ := h1_h.out.put hM2 hk2
   have hsl : Sl (w2.alloc (.cells #[.int .i64 x] tInt)) tInt 1 Q qn qc (ints (s.1.drop qd)) := by
    have := hq2
    unfold IS at this
    rw [h1_h.out.qln] at this
    exact this.alloc _
   have hbel1 := hbd_h.out
   have hbx3 := t_box_below hb2 (t_below_alloc w2 (.cells #[.int .i64 x] tInt))
   clear hM2 hq2; have hk2_h := lH hk2; have hb2_h := lH hb2; have hfin_h := lH hfin; have hsl_h := lH hsl; have hbx3_h := lH hbx3; clear hk2 hb2 hfin hsl hbx3
   refine oneZ 10 rfl (by kernel_rfl) (by rfl) (fun K hK => ?_)
   go_simp
   refine hK _ _ (fun h => by cases h) ?_
   clear hK K hrun
   refine doneZ (by kernel_rfl) ?_
   obtain ⟨⟨c0, c1, c2, c3, c4, c5, c6, c7, c8, c9⟩, f8, f9⟩ := box10 hb2_h.out
   obtain ⟨⟨y0, y1, y2, y3, y4, y5, y6, y7, y8, y9⟩, g8, g9⟩ := box10 hbx3_h.out
   go_wp2_with (at_builtin; refine wpList_append_Sl _ rfl _ _ _ rfl 3 Tryz.underlying23 info_int rfl (by omega) rfl hsl_h.out rfl (news := [.int .i64 x]) rfl (Sl.rdc (Sl.laid w2 3 1 1 #[.int .i64 x] (by unfold maxLen; omega) rfl)) (by intro u hu; simp at hu; subst hu; rfl) (by unfold maxLen; omega) (by omega) ?_; intro A5 cap5 w3 hs3 hA3 hk3; have hI3 : IS w3 A5 cap5 (s.1.drop qd ++ [x]) := (by unfold IS; rw [List.length_append, h_h.out.qln, show ints (s.1.drop qd ++ [x]) = ints (s.1.drop qd) ++ [.int .i64 x] by simp [ints]]; exact hs3); obtain ⟨hb3, hKW, hSt⟩ := hfin_h.out _ _ _ hI3 (fun b hb => (hA3 b hb).imp id fun h => Nat.le_trans (t_below_alloc w2 (.cells #[.int .i64 x] tInt)).size h) (((Keeps.refl _ w2).alloc _).trans hk3); clear hs3 hA3 hk3 hI3 c0 c1 c2 c3 c4 c5 c6 c7 c8 c9 f8 f9 y0 y1 y2 y3 y4 y5 y6 y7 y8 y9 g8 g9; obtain ⟨⟨z0, z1, z2, z3, z4, z5, z6, z7, z8, z9⟩, e8, e9⟩ := box10 hb3; have hKW_h := lH hKW; have hSt_h := lH hSt; clear hKW hSt hb3)
   go_end0
   exact ⟨rfl, A5, qn + 1, _, hKW_h.out, ⟨(Keeps.of_below hbd_h.out _).trans hSt_h.out.1, fun x hx => (hSt_h.out.2 x hx).imp id fun h => Nat.le_trans hbd_h.out.size h⟩⟩
theorem rd2 {w : World} {B C : Option Addr} {b c : Nat} {s t : List Int} (hB : RdI w B s) (hC : RdI w C t) : RdR (w.alloc (.cells #[.slice B s.length b, .slice C t.length c] 23)) (some ⟨w.heap.size, 0, none⟩) [(B, b, s), (C, c, t)] := by
 have hx := heap_alloc_new w (.cells #[.slice B s.length b, .slice C t.length c] 23)
 obtain ⟨⟨h0, h1⟩, _⟩ := t_box2 hx
 refine ⟨fun i h hi => ?_, fun h hh => ?_⟩
 · refine ⟨_, rfl, ?_⟩
   match i with
   | 0 => obtain rfl := Option.some.inj hi; exact h0
   | 1 => obtain rfl := Option.some.inj hi; exact h1
   | i + 2 => simp at hi
 · simp at hh
   rcases hh with rfl | rfl
   · exact hB.below (t_below_alloc _ _)
   · exact hC.below (t_below_alloc _ _)
set_option maxRecDepth 100000 in
set_option maxHeartbeats 8000000 in
theorem components_any {v : Value} {g : Gr} (w : World) (n : Nat) (h : RdGr w v g) (hgn : g.1 = (n : Int)) (hv : grB g = true) :
  Calls Tryz.prog 108 #[v] w fun e w' => ∃ A c, e = .returned (.tuple #[.slice A n c, .int .i64 (nrM (clsG g) n : Int)]) ∧ IS w' A c (numM (clsG g)) ∧ Fresh w.heap.size A ∧ Below w.heap.size w w' := by
 obtain ⟨n', e1', hn1, hm60, _, _, hin⟩ := grB_parts hv
 obtain rfl : n' = n := by omega
 have hegB : ∀ e, e ∈ g.2.1 → egB e = true := by
  unfold grB at hv
  simp only [Bool.and_eq_true] at hv
  exact List.all_eq_true.1 hv.2.1
 obtain ⟨C, hC⟩ : ∃ C, C = clsG g := ⟨_, rfl⟩
 rw [← hC]
 have hCK := clsK_all g n' hgn
 rw [← hC] at hCK
 obtain ⟨A, c, hs, ⟨B, b, s⟩, ⟨C', d', t⟩, rfl, e1, e2, e3, hE, hRa, hRb⟩ := h
 obtain ⟨z, es, s0, t0⟩ := g
 have a1 : es = hs.map egOf := e1
 have a4 : z = (n' : Int) := hgn
 subst a4
 have hin2 : inW (n' : Int) (edW es) = true := by
  have : inW (n' : Int) (t_allW ((n' : Int), es, s0, t0)) = true := hin
  unfold t_allW at this
  exact inW_app_right (inW_app_right this)
 have hCls := fun k (hk : k ≤ es.length) => Cls.clsK hin2 k hk
 have hLr : ∀ {k : Nat} {e : Eg} {L : List Int}, es[k]? = some e → L = e.2.2.1 ++ e.2.2.2 → ∀ x, x ∈ L → 0 ≤ x ∧ x < (n' : Int) := fun {k e L} hk hL x hx => by
  have hm := mem_edW_of (List.mem_of_getElem? hk)
  rw [hL] at hx
  rcases List.mem_append.1 hx with hx | hx
  · exact inW_iff.1 hin2 x (hm.1 x hx)
  · exact inW_iff.1 hin2 x (hm.2 x hx)
 have hegB' : ∀ e, e ∈ es → egB e = true := hegB
 obtain ⟨m, hm⟩ : ∃ m, m = hs.length := ⟨_, rfl⟩
 have hLm : es.length = m := by rw [a1, List.length_map, hm]
 have hm60' : es.length ≤ 60 := hm60
 change clsK n' es es.length = C at hCK
 rw [hLm] at hCK hCls hm60'
 obtain ⟨p, hp⟩ : ∃ p, p = s.length := ⟨_, rfl⟩
 obtain ⟨r, hr⟩ : ∃ r, r = t.length := ⟨_, rfl⟩
 show Calls Tryz.prog _ #[.agg #[.int .i64 (n' : Int), .slice A hs.length c, .slice B s.length b, .slice C' t.length d']] w _
 rw [← hm, ← hp, ← hr]
 obtain ⟨n, rfl⟩ : ∃ x, x = n' := ⟨_, rfl⟩
 obtain ⟨W, hW, bW, k0⟩ := (⟨_, rfl, t_below_alloc _ _, heap_alloc_new _ _⟩ : ∃ W, W = w.alloc (.cells #[.int .i64 (n : Int), .slice A m c, .slice B p b, .slice C' r d'] tGr) ∧ Below w.heap.size w W ∧ W.heap[w.heap.size]? = some (.cells #[.int .i64 (n : Int), .slice A m c, .slice B p b, .slice C' r d'] tGr))
 have hU := upTo_any n W (by omega)
 have hZ := fun (W' : World) => t_zeros_any n W' (by omega)
 have hCm := hCls m (Nat.le_refl _)
 rw [hCK] at hCm
 obtain ⟨⟨c0, c1, c2, c3⟩, f0, f1, f2, f3⟩ := t_box4 k0
 clear hRa hRb e1 e2 e3 hgn hv e1' hin hin2 hegB hC; have hE_h := lH hE; have hCK_h := lH hCK; have hCls_h := lH hCls; have hegB'_h := lH hegB'; have hm_h := lH hm; have hLm_h := lH hLm; have a1_h := lH a1; have hp_h := lH hp; have hr_h := lH hr; have bW_h := lH bW; have k0_h := lH k0; have hU_h := lH hU; have hZ_h := lH hZ; have hCm_h := lH hCm; clear hE hCK hCls hegB' hm hLm a1 hp hr bW k0 hU hZ hCm
 go_enter Tryz.func108, Tryz.ntmps108
 go_upto_region 1 with (fail)
 rw [← hW]
 clear hW
 go_wp2_with (fail)
 refine (hU_h.out).mono ?_
 rintro e w1 ⟨G, rfl, hG1, hGb, hb1⟩
 have k1 := t_box_below k0_h.out hb1
 clear c0 c1 c2 c3 f0 f1 f2 f3
 obtain ⟨⟨c0, c1, c2, c3⟩, f0, f1, f2, f3⟩ := t_box4 k1
 have hG1_h := lH hG1; have hb1_h := lH hb1; have k1_h := lH k1; clear hG1 hb1 k1
 go_wp2_with (fail)
 clear c0 c1 c2 c3 f0 f1 f2 f3
 go_loopw [20] (fun i wr => ∃ (k : Nat) (P : List Int), k ≤ m ∧ i = .int .i64 k ∧ IS wr (some G) n P ∧ Par n P (clsK n es k) ∧ Below W.heap.size W wr) (fun i _ => m - (intOf i).toNat)
 case atStart => exact ⟨0, _, Nat.zero_le _, rfl, hG1_h.out, by rw [clsK_zero]; exact Par.id n, hb1_h.out⟩
 case round =>
  clear hG1_h hb1_h k1_h
  obtain ⟨k, Pk, hk, rfl, hIS, hPar, hB1⟩ := hrel
  obtain ⟨wo, rfl⟩ : ∃ x, x = wr := ⟨_, rfl⟩
  have kr := t_box_below k0_h.out hB1
  have hBw := below_trans bW_h.out hB1 bW_h.out.size
  by_cases hlt : k < m
  · obtain ⟨ad, κ, vv, B1, b1, s1, C1, b2, t1, rfl, hn, ⟨d0, d1, d2, d3⟩, hr1, hr2⟩ := (hE_h.out.below hBw).at_ (j := k) (by rw [← hm_h.out]; exact hlt)
    have hek : es[k]? = some (κ, vv, s1, t1) := by rw [a1_h.out, List.getElem?_map, hn]; rfl
    obtain ⟨⟨l1, l2⟩, l3⟩ := egB_len (hegB'_h.out _ (List.mem_of_getElem? hek))
    simp only at l1 l2 l3
    have hClk := hCls_h.out k hk
    have hClk1 := hCls_h.out (k + 1) (by omega)
    rw [clsK_step hek] at hClk1
    obtain ⟨p1, hp1⟩ : ∃ p1, p1 = s1.length := ⟨_, rfl⟩
    obtain ⟨r1, hr1'⟩ : ∃ r1, r1 = t1.length := ⟨_, rfl⟩
    obtain ⟨L, hL⟩ : ∃ L, L = s1 ++ t1 := ⟨_, rfl⟩
    obtain ⟨q, hq⟩ : ∃ q, q = L.length := ⟨_, rfl⟩
    have hqp : q = p1 + r1 := by rw [hq, hL, List.length_append, hp1, hr1']
    have hq1 : 1 ≤ q := by rw [hqp, hp1, hr1']; exact l3
    have hq4 : q ≤ 4 := by rw [hqp, hp1, hr1']; omega
    have hstep := clsK_step (n := n) hek
    simp only [← hL, ← hp1, ← hr1', ← hqp] at hstep hClk1
    have hqp_h := lH hqp; clear hqp
    have hLin : ∀ x, x ∈ L → 0 ≤ x ∧ x < (n : Int) := hLr hek hL
    obtain ⟨a, ha0, han, haL⟩ := getD0_in hLin (by rw [← hq]; omega)
    obtain ⟨W6, hW6, bW6, k6⟩ := (⟨_, rfl, t_below_alloc _ _, heap_alloc_new _ _⟩ : ∃ W, W = wo.alloc (.cells #[.int .i64 κ, .int .i64 vv, .slice B1 p1 b1, .slice C1 r1 b2] tEd) ∧ Below wo.heap.size wo W ∧ W.heap[wo.heap.size]? = some (.cells #[.int .i64 κ, .int .i64 vv, .slice B1 p1 b1, .slice C1 r1 b2] tEd))
    have hJ0 := joined_any (some ⟨W6.heap.size, 0, none⟩) 2 [(B1, b1, s1), (C1, b2, t1)] (W6.alloc (.cells #[.slice B1 s1.length b1, .slice C1 t1.length b2] 23)) (rd2 (hr1.below bW6) (hr2.below bW6)) (by simp) (by simp; omega)
    rw [show (([(B1, b1, s1), (C1, b2, t1)] : List Hd).map fun h : Hd => h.2.2).flatten = L by rw [hL]; simp, ← hp1, ← hr1'] at hJ0
    have hJ : Calls Tryz.prog 80 #[.slice (some ⟨W6.heap.size, 0, none⟩) 2 2] (W6.alloc (.cells #[.slice B1 p1 b1, .slice C1 r1 b2] 23)) (RetI (W6.alloc (.cells #[.slice B1 p1 b1, .slice C1 r1 b2] 23)) L) := hJ0
    unfold RetI at hJ
    have bW7 := t_below_alloc W6 (.cells #[.slice B1 p1 b1, .slice C1 r1 b2] 23)
    rw [← hp1] at d2
    rw [← hr1'] at d3
    obtain ⟨⟨c0, c1, c2, c3⟩, f0, f1, f2, f3⟩ := t_box4 k6
    obtain ⟨⟨y0, y1, y2, y3⟩, g0, g1, g2, g3⟩ := t_box4 kr
    have hr1_h := lH hr1'
    have hkI : (k : Int) < (m : Int) := by omega
    clear hr1' hr1 hr2 hn hJ0 kr; have hJ_h := lH hJ; have hek_h := lH hek; have hp1_h := lH hp1; have bW6_h := lH bW6; have k6_h := lH k6; have hIS_h := lH hIS; have hPar_h := lH hPar; have hB1_h := lH hB1; have hBw_h := lH hBw; have hClk_h := lH hClk; have hClk1_h := lH hClk1; have hL_h := lH hL; have hq_h := lH hq; have hstep_h := lH hstep; have hLin_h := lH hLin; have ha0_h := lH ha0; have haL_h := lH haL; have bW7_h := lH bW7; clear hJ hek hp1 bW6 k6 hIS hPar hB1 hBw hClk hClk1 hL hq hstep hLin ha0 haL bW7
    go_upto_region 5 with (fail)
    rw [← hW6]
    clear hW6 d0 d1 d2 d3 y0 y1 y2 y3 g0 g1 g2 g3
    go_wp2_with (fail)
    refine (hJ_h.out).mono ?_
    rintro e w7 ⟨A7, c7, rfl, hI7, hF7, hb7⟩
    rw [← hq_h.out]
    have hb8 := below_trans bW6_h.out (below_trans bW7_h.out hb7 bW7_h.out.size) bW6_h.out.size
    have hB7 := below_trans hB1_h.out hb8 hB1_h.out.size
    have hG7 := hIS_h.out.below hb8
    have hGl := hIS_h.out.lt G.block (by simp)
    have hA7 : ∀ b, b ∈ fpA A7 → ¬ b ∈ fpA (some G) := fun b hb hb' => by
     have h1 := hF7 b hb
     have h2 := bW6_h.out.size
     have h3 := bW7_h.out.size
     simp at hb'; omega
    obtain ⟨gd, y0', rfl, _⟩ := hI7.at_ (j := 0) (by rw [← hq_h.out]; omega)
    clear c0 c1 c2 c3 f0 f1 f2 f3 hF7 hb7 hb8; have hI7_h := lH hI7; have hB7_h := lH hB7; have hG7_h := lH hG7; have hA7_h := lH hA7; clear hI7 hB7 hG7 hA7
    go_wp2_with (fail)
    go_loopw [32] (fun i wr => ∃ (j : Nat) (P : List Int), j ≤ q ∧ i = .int .i64 j ∧ IS wr (some G) n P ∧ Par n P (clsJ (clsK n es k) L j) ∧ IS wr (some gd) c7 L ∧ Below W.heap.size W wr) (fun i _ => q - (intOf i).toNat)
    case atStart => exact ⟨0, Pk, Nat.zero_le _, rfl, hG7_h.out, by rw [clsJ_zero]; exact hPar_h.out, hI7_h.out, hB7_h.out⟩
    case round =>
     clear hG7_h hI7_h hB7_h
     obtain ⟨j, Pj, hj, rfl, hISj, hParj, hIj, hBj⟩ := hrel
     obtain ⟨wi, rfl⟩ : ∃ x, x = wr := ⟨_, rfl⟩
     by_cases hltj : j < q
     · obtain ⟨x, hx⟩ : ∃ x, L[j]? = some x := ⟨_, List.getElem?_eq_getElem (by rw [← hq_h.out]; exact hltj)⟩
       have hxr := hLin_h.out x (List.mem_of_getElem? hx)
       obtain ⟨bb, rfl⟩ : ∃ bb : Nat, x = (bb : Int) := ⟨x.toNat, by omega⟩
       have hjn := join_any G n a bb Pj _ wi hISj hParj (hClk_h.out.clsJ hLin_h.out j) han (by omega)
       rw [← clsJ_step ha0_h.out hx] at hjn
       obtain ⟨gd0, g0e, y0⟩ := hIj.rd 0 _ haL_h.out
       obtain rfl := Option.some.inj g0e
       have y00 : wi.cell? gd = some (.int .i64 (a : Int)) := y0
       obtain ⟨gd1, g1e, y1⟩ := hIj.rd j _ hx
       obtain rfl := Option.some.inj g1e
       have hjI : (j : Int) < (q : Int) := by omega
       have hq0 : (0 : Int) < (q : Int) := by omega
       clear hISj hParj g0e g1e hxr; have hjn_h := lH hjn; have hx_h := lH hx; have hIj_h := lH hIj; have hBj_h := lH hBj; clear hjn hx hIj hBj
       go_wp2_with (fail)
       refine (hjn_h.out).mono ?_
       rintro e w9 ⟨rfl, P9, hI9, hP9, hk9⟩
       have hI9' := hIj_h.out.keeps hk9 hA7_h.out
       have hB9 := below_keeps hBj_h.out hk9 hBj_h.out.size (fun b hb => by simp at hb; omega)
       clear y0 y00 y1 hk9; have hI9_h := lH hI9; have hP9_h := lH hP9; have hI9'_h := lH hI9'; have hB9_h := lH hB9; clear hI9 hP9 hI9' hB9
       go_wp2_with (fail)
       go_roundw
       case rel => exact ⟨j + 1, P9, by omega, by go_num, hI9_h.out, hP9_h.out, hI9'_h.out, hB9_h.out⟩
       case measure => simp [intOf]; omega
     · obtain rfl : q = j := by omega
       rw [← hstep_h.out] at hParj
       clear hIj; have hISj_h := lH hISj; have hParj_h := lH hParj; have hBj_h := lH hBj; clear hISj hParj hBj
       go_wp2_with (fail)
       go_roundw
       case rel => exact ⟨k + 1, Pj, by omega, by go_num, hISj_h.out, hParj_h.out, hBj_h.out⟩
       case measure => simp [intOf]; omega
  · obtain rfl : m = k := by omega
    rw [hCK_h.out] at hPar
    obtain ⟨⟨y0, y1, y2, y3⟩, g0, g1, g2, g3⟩ := t_box4 kr
    have hZw := hZ_h.out wo
    clear kr; have hIS_h := lH hIS; have hPar_h := lH hPar; have hB1_h := lH hB1; have hBw_h := lH hBw; have hZw_h := lH hZw; clear hIS hPar hB1 hBw hZw
    go_wp2_with (fail)
    refine (hZw_h.out).mono ?_
    rintro e w2 ⟨Z, rfl, hZ0, hZb, hb2⟩
    have hIS2 := hIS_h.out.below hb2
    have hB2 := below_trans hB1_h.out hb2 hB1_h.out.size
    have hGZ : ∀ b, b ∈ fpA (some G) → ¬ b ∈ fpA (some Z) := fun b hb hb' => by
     have := hIS_h.out.lt G.block (by simp)
     simp at hb hb'; omega
    have hWo := hB1_h.out.size
    clear y0 y1 y2 y3 g0 g1 g2 g3 hb2; have hZ0_h := lH hZ0; have hIS2_h := lH hIS2; have hB2_h := lH hB2; have hGZ_h := lH hGZ; clear hZ0 hIS2 hB2 hGZ
    go_wp2_with (fail)
    go_loopw [49, 11] (fun i u wr => ∃ k : Nat, k ≤ n ∧ i = .int .i64 k ∧ u = .int .i64 (nrM C k : Int) ∧ IS wr (some Z) n ((numM C).take k ++ List.replicate (n - k) 0) ∧ IS wr (some G) n Pk ∧ Below W.heap.size W wr) (fun i _ _ => n - (intOf i).toNat)
    case atStart => exact ⟨0, Nat.zero_le _, rfl, rfl, by simpa using hZ0_h.out, hIS2_h.out, hB2_h.out⟩
    case round =>
     clear hZ0_h hIS2_h hB2_h
     obtain ⟨k, hk, rfl, rfl, hIZ, hIG, hBk⟩ := hrel
     obtain ⟨wi, rfl⟩ : ∃ x, x = wr := ⟨_, rfl⟩
     have hnl : (numM C).length = n := by rw [numM_length, hCm_h.out.len]
     by_cases hlt : k < n
     · have hroot := root_any G n k Pk C wi hIG.rd hPar_h.out hlt
       obtain ⟨hr0, hrk⟩ := hCm_h.out.le k hlt
       obtain ⟨u, hu⟩ : ∃ u : Nat, C.getD k 0 = (u : Int) := ⟨(C.getD k 0).toNat, by omega⟩
       have hfu := hCm_h.out.fix k hlt
       rw [hu] at hroot hr0 hrk hfu
       rw [Int.toNat_natCast] at hfu
       have hnk := numM_at hCm_h.out hlt hu
       have htk := numM_take hnk
       have hlenZ : ((numM C).take k ++ List.replicate (n - k) (0 : Int)).length = n := by rw [List.length_append, List.length_take, List.length_replicate, hnl]; omega
       have hstep : ((numM C).take k ++ List.replicate (n - k) (0 : Int)).set k (nrM C u : Int) = (numM C).take (k + 1) ++ List.replicate (n - (k + 1)) 0 := by
        rw [htk]; exact set_rep_step _ _ _ (by rw [List.length_take, hnl]; omega) hlt
       have hset := hIZ.set (ad := Z) rfl (j := k) (nrM C u : Int) (by rw [hlenZ]; exact hlt)
       rw [hstep] at hset
       have hks : Keeps (· ∈ fpA (some Z)) wi (wi.setCell (Z.add k) (.int .i64 (nrM C u : Int))) := Keeps.setCell (S := (· ∈ fpA (some Z))) (Keeps.refl _ wi) (p := Z.add k) (by rw [block_of_add]; simp) _
       have hIG2 := hIG.keeps hks hGZ_h.out
       have hBk2 := below_keeps hBk hks hBk.size (fun b hb => by simp at hb; omega)
       obtain ⟨zd, z0, ze, _, _, zc, zf⟩ := hIZ.at_ (j := k) (by rw [hlenZ]; exact hlt)
       obtain rfl := Option.some.inj ze
       have zfk := zf k
       have hkI : (k : Int) < (n : Int) := by omega
       have hle := nrM_le C k
       by_cases huk : u < k
       · have huI : (u : Int) < (k : Int) := by omega
         have hsk : nrM C (k + 1) = nrM C k := nrM_skip (by rw [hu]; omega)
         have hnu := numM_at hCm_h.out (k := u) (r := u) (by omega) hfu
         have hzu : ((numM C).take k ++ List.replicate (n - k) (0 : Int))[u]? = some (nrM C u : Int) := by
          rw [List.getElem?_append_left (by rw [List.length_take, hnl]; omega), List.getElem?_take_of_lt huk]; exact hnu
         obtain ⟨zd2, ze2, zcu⟩ := hIZ.rd u _ hzu
         obtain rfl := Option.some.inj ze2
         have huI2 : (u : Int) < (n : Int) := by omega
         clear zf hnk htk hstep hnl hlenZ hIZ hIG hks ze ze2 hfu hr0 hrk; have hroot_h := lH hroot; have hset_h := lH hset; have hIG2_h := lH hIG2; have hBk2_h := lH hBk2; have hsk_h := lH hsk; have hu_h := lH hu; have hnu_h := lH hnu; have hzu_h := lH hzu; clear hroot hset hIG2 hBk2 hsk hu hnu hzu
         go_wp2_with (fail)
         refine (hroot_h.out).mono ?_
         rintro e w' ⟨rfl, rfl⟩
         go_wp2_with (fail)
         go_roundw
         case rel => exact ⟨k + 1, by omega, by go_num, by rw [hsk_h.out], hset_h.out, hIG2_h.out, hBk2_h.out⟩
         case measure => simp [intOf]; omega
       · obtain rfl : u = k := by omega
         have hsk : nrM C (u + 1) = nrM C u + 1 := nrM_new hu
         have huI : ¬ (u : Int) < (u : Int) := by omega
         clear zf hnk htk hstep hnl hlenZ hIZ hIG hks ze hfu hr0 hrk; have hroot_h := lH hroot; have hset_h := lH hset; have hIG2_h := lH hIG2; have hBk2_h := lH hBk2; have hsk_h := lH hsk; have hu_h := lH hu; clear hroot hset hIG2 hBk2 hsk hu
         go_wp2_with (fail)
         refine (hroot_h.out).mono ?_
         rintro e w' ⟨rfl, rfl⟩
         go_wp2_with (fail)
         go_roundw
         case rel => exact ⟨u + 1, by omega, by go_num, by rw [hsk_h.out]; go_num, hset_h.out, hIG2_h.out, hBk2_h.out⟩
         case measure => simp [intOf]; omega
     · obtain rfl : n = k := by omega
       rw [List.take_of_length_le (by omega), Nat.sub_self, List.replicate_zero, List.append_nil] at hIZ
       have hBz := below_trans bW_h.out hBk bW_h.out.size
       have hFz : Fresh w.heap.size (some Z) := fun b hb => by
        have := bW_h.out.size
        simp at hb; omega
       clear hIG hBk hnl; have hIZ_h := lH hIZ; have hBz_h := lH hBz; have hFz_h := lH hFz; clear hIZ hBz hFz
       go_wp2_with (fail)
       go_ret2
       exact ⟨some Z, n, rfl, hIZ_h.out, hFz_h.out, hBz_h.out⟩
section
variable {W w w' : World} {n : Nat} {es : List Eg} {x1 x2 x3 : Value} {b : Nat} {Bf Bh : Addr} {mw me : Nat} {s : WE} {qd : Nat} {Q O : Option Addr} {qn qc on oc : Nat}
theorem KW.putE (h : KW W n es x1 x2 x3 b Bf Bh mw me s qd w Q qn qc O on oc) {x : Int} (hM : MI w' me (s.2 ++ [x])) (hk : Keeps (fun k => k = me) w w') :
  w'.heap[b]? = some (.cells #[.int .i64 (n : Int), x1, x2, x3, .slice (some Bf) n n, .slice (some Bh) n n, .map (some mw), .map (some me), .slice Q qn qc, .slice O on oc] tWk) ∧ IS w' O oc s.2 ∧
  ∀ (w1 : World) (O' : Option Addr) (c' : Nat), IS w1 O' c' (s.2 ++ [x]) → (∀ b, b ∈ fpA O' → b ∈ fpA O ∨ w'.heap.size ≤ b) → Keeps (· ∈ fpA O) w' w1 →
    w1.heap[b]? = some (.cells #[.int .i64 (n : Int), x1, x2, x3, .slice (some Bf) n n, .slice (some Bh) n n, .map (some mw), .map (some me), .slice Q qn qc, .slice O on oc] tWk) ∧
    KW W n es x1 x2 x3 b Bf Bh mw me (s.1, s.2 ++ [x]) qd (w1.setCell ⟨b, 9, none⟩ (.slice O' (on + 1) c')) Q qn qc O' (on + 1) c' ∧ StepK b mw me w Q O (w1.setCell ⟨b, 9, none⟩ (.slice O' (on + 1) c')) Q O' := by
 obtain ⟨s1, s2, s3, s4⟩ := h.sep
 have hb1 := t_box_keeps h.box hk (fun e => s2 e.symm)
 have hq1 := h.que.keeps hk fun x hx e => (s3 x hx).2.2 e
 have ho1 := h.ord.keeps hk fun x hx e => (s4 x hx).2.2 e
 have hf1 := h.bef.keeps hk fun x hx e => h.off.1 (.inr (.inr (.inl ((by simpa using hx : x = Bf.block).symm.trans e))))
 have hh1 := h.beh.keeps hk fun x hx e => h.off.2 (.inr (.inr (.inl ((by simpa using hx : x = Bh.block).symm.trans e))))
 have hw1 := h.wir.keeps hk (fun e => h.mne e)
 refine ⟨hb1, ho1, fun w1 O' c' hI hO hk1 => ?_⟩
 have hz := hk.size
 have hb2 := t_box_keeps hb1 hk1 (fun hx => (s4 _ hx).1 rfl)
 obtain ⟨t1, t2⟩ := set10_9 (x := .slice O' (on + 1) c') hb2
 have hOn : ∀ x, x ∈ fpA O' → x ∈ fpA O ∨ w.heap.size ≤ x := fun x hx => (hO x hx).imp id fun h1 => Nat.le_trans hz h1
 have hltQ : ∀ x, x ∈ fpA Q → x < w.heap.size := fun x hx => h.que.lt x hx
 have hown : ∀ x, OwnK b mw me Q O' x → OwnK b mw me Q O x ∨ w.heap.size ≤ x := fun x hx => by
  rcases hx with hx | hx | hx | hx | hx
  · exact .inl (.inl hx)
  · exact .inl (.inr (.inl hx))
  · exact .inl (.inr (.inr (.inl hx)))
  · exact .inl (.inr (.inr (.inr (.inl hx))))
  · exact (hOn x hx).imp (fun h1 => .inr (.inr (.inr (.inr h1)))) id
 have hK : Keeps (OwnK b mw me Q O) w (w1.setCell ⟨b, 9, none⟩ (.slice O' (on + 1) c')) := ((hk.mono (T := OwnK b mw me Q O) fun x _ e => .inr (.inr (.inl e))).trans (hk1.mono fun x _ e => .inr (.inr (.inr (.inr e))))).trans (t2.mono fun x _ e => .inl e)
 have hbf := h.bef.lt Bf.block (by simp)
 have hbh := h.beh.lt Bh.block (by simp)
 have hO0 : ∀ x, x ∈ fpA O' → x ≠ b := fun x hx e => by
  rcases hOn x hx with h1 | h1
  · exact (s4 x h1).1 e
  · have := t_box_lt h.box; omega
 have hnotO : ∀ x, ¬ OwnK b mw me Q O x → ¬ x ∈ fpA O ∧ ¬ x = b := fun x hx => ⟨fun e => hx (.inr (.inr (.inr (.inr e)))), fun e => hx (.inl e)⟩
 have hbfe : ∀ x, x ∈ fpA (some Bf) → x = Bf.block := fun x hx => by simpa using hx
 have hbhe : ∀ x, x ∈ fpA (some Bh) → x = Bh.block := fun x hx => by simpa using hx
 have hMk := (hM.keeps hk1 fun hx => (s4 _ hx).2.2 rfl).keeps t2 s2
 refine ⟨hb2, ⟨t1, (hf1.keeps hk1 fun x hx e => ?_).keeps t2 fun x hx e => ?_, (hh1.keeps hk1 fun x hx e => ?_).keeps t2 fun x hx e => ?_, (hw1.keeps hk1 fun hx => (s4 _ hx).2.1 rfl).keeps t2 s1, hMk, (hq1.keeps hk1 fun x hx e => h.qo x hx e).keeps t2 fun x hx e => (s3 x hx).1 e, ?_, h.qln, ?_, h.qle, fun x hx => ?_, h.bfn, ⟨fun hx => ?_, fun hx => ?_⟩, fun x hx hO => ?_, h.mne, ?_⟩, hK, hown⟩
 · rw [hbfe x hx] at e; exact (hnotO _ h.off.1).1 e
 · rw [hbfe x hx] at e; exact (hnotO _ h.off.1).2 e
 · rw [hbhe x hx] at e; exact (hnotO _ h.off.2).1 e
 · rw [hbhe x hx] at e; exact (hnotO _ h.off.2).2 e
 · exact hI.keeps t2 fun x hx e => hO0 x hx e
 · show (s.2 ++ [x]).length = _
   rw [List.length_append, h.oln]
   rfl
 · rcases hown x hx with h1 | h1
   · exact h.new x h1
   · have := h.bel.size; omega
 · rcases hown _ hx with h1 | h1
   · exact h.off.1 h1
   · omega
 · rcases hown _ hx with h1 | h1
   · exact h.off.2 h1
   · omega
 · rcases hOn x hO with h1 | h1
   · exact h.qo x hx h1
   · have := hltQ x hx; omega
 · exact below_keeps h.bel hK h.bel.size h.new
end
theorem StepK.pre {b mw me : Nat} {w w1 w' : World} {Q O Q' O' : Option Addr} (hb : Below w.heap.size w w1) (h : StepK b mw me w1 Q O w' Q' O') : StepK b mw me w Q O w' Q' O' :=
 ⟨(Keeps.of_below hb _).trans h.1, fun x hx => (h.2 x hx).imp id fun h1 => Nat.le_trans hb.size h1⟩
def PostK (W : World) (n : Nat) (es : List Eg) (x1 x2 x3 : Value) (b : Nat) (Bf Bh : Addr) (mw me : Nat) (s' : WE) (qd : Nat) (w : World) (Q O : Option Addr) (e : Ending) (w' : World) : Prop :=
 e = .returned (.tuple #[]) ∧ ∃ (Q' : Option Addr) (qn' qc' : Nat) (O' : Option Addr) (on' oc' : Nat), KW W n es x1 x2 x3 b Bf Bh mw me s' qd w' Q' qn' qc' O' on' oc' ∧ StepK b mw me w Q O w' Q' O'
set_option maxRecDepth 100000 in
set_option maxHeartbeats 8000000 in
theorem edge_any {W : World} {g : Gr} {n m c : Nat} {hs : List EHd} {A : Option Addr} {x2 x3 : Value} {b : Nat} {Bf Bh : Addr} {mw me : Nat} {s : WE} {qd : Nat} {Q O : Option Addr} {qn qc on oc : Nat} (e : Int) (w : World)
  (h : KW W n g.2.1 (.slice A m c) x2 x3 b Bf Bh mw me s qd w Q qn qc O on oc) (hE : RdE W A hs) (e1 : g.2.1 = hs.map egOf) (hm : hs.length = m) (hMo : Mono g n) (hs0 : WInv g n s) (he : e < (m : Int)) :
  Calls Tryz.prog 118 #[.pointer (some ⟨b, 0, none⟩), .int .i64 e] w (PostK W n g.2.1 (.slice A m c) x2 x3 b Bf Bh mw me (stepE g s e) qd w Q O) := by
 have hn100 := hMo.n100
 have hm60 : m ≤ 60 := by have := hMo.m60; rw [e1, List.length_map, hm] at this; exact this
 have hle := hs0.le
 obtain ⟨⟨c0, c1, c2, c3, c4, c5, c6, c7, c8, c9⟩, f8, f9⟩ := box10 h.box
 by_cases hneg : e < 0
 · have hst : stepE g s e = s := by unfold stepE; rw [if_pos (.inl hneg)]
   rw [hst]
   have h_h := lH h; have hE_h := lH hE; have e1_h := lH e1; have hm_h := lH hm; have hMo_h := lH hMo; have hs0_h := lH hs0; have hle_h := lH hle; have hst_h := lH hst; clear h hE e1 hm hMo hs0 hle hst
   go_enter Tryz.func118, Tryz.ntmps118
   go_wp2_with (fail)
   go_end0
   exact ⟨rfl, Q, qn, qc, O, on, oc, h_h.out, StepK.refl _ _ _ _ _ _⟩
 · have hwf : (Lit.int .i64 e).wf = true := WalkArith.wf_i64 (by omega)
   have hMI := h.edg
   have hnd := hs0.nd2
   by_cases hmem : e ∈ s.2
   · have hst : stepE g s e = s := by unfold stepE; rw [if_pos (.inr hmem)]
     rw [hst]
     have h_h := lH h; have hE_h := lH hE; have e1_h := lH e1; have hm_h := lH hm; have hMo_h := lH hMo; have hs0_h := lH hs0; have hle_h := lH hle; have hst_h := lH hst; have hMI_h := lH hMI; have hnd_h := lH hnd; have hmem_h := lH hmem; clear h hE e1 hm hMo hs0 hle hst hMI hnd hmem
     go_enter Tryz.func118, Tryz.ntmps118
     go_wp2_with (at_lookup; refine wp_mi_ok rfl _ _ rfl rfl hMI_h.out hnd_h.out e rfl hwf true (decide_eq_true hmem_h.out) ?_)
     go_end0
     exact ⟨rfl, Q, qn, qc, O, on, oc, h_h.out, StepK.refl _ _ _ _ _ _⟩
   · have hst : stepE g s e = (giveL s.1 (wiresE (edgeAt g e)), s.2 ++ [e]) := by unfold stepE; rw [if_neg (fun x => x.elim hneg hmem)]
     obtain ⟨ee, rfl⟩ : ∃ ee : Nat, e = (ee : Int) := ⟨e.toNat, by omega⟩
     have hee : ee < m := by omega
     have hon : on ≤ m := by rw [← h.oln, ← hm]; have := hle.2; rw [e1, List.length_map] at this; exact this
     have hwl := hMo.wires (e := (ee : Int)) (by omega) (by rw [e1, List.length_map, hm]; exact he)
     obtain ⟨q, hq⟩ : ∃ q, s.2.length = q := ⟨_, rfl⟩
     have hq60 : q ≤ 60 := by have := hle.2; rw [e1, List.length_map, hm, hq] at this; omega
     rw [hst]
     have h_h := lH h; have hE_h := lH hE; have e1_h := lH e1; have hm_h := lH hm; have hMo_h := lH hMo; have hs0_h := lH hs0; have hle_h := lH hle; have hst_h := lH hst; have hMI_h := lH hMI; have hnd_h := lH hnd; have hmem_h := lH hmem; have hq_h := lH hq; have hwl_h := lH hwl; clear h hE e1 hm hMo hs0 hle hst hMI hnd hmem hq hwl
     go_enter Tryz.func118, Tryz.ntmps118
     go_wp2_with (at_lookup; refine wp_mi_ok rfl _ _ rfl rfl hMI_h.out hnd_h.out (ee : Int) rfl hwf false (decide_eq_false hmem_h.out) ?_)
     refine beginZw 10 (fun w' => w'.heap[b]? = some (.cells #[.int .i64 (n : Int), .slice A m c, x2, x3, .slice (some Bf) n n, .slice (some Bh) n n, .map (some mw), .map (some me), .slice Q qn qc, .slice O on oc] tWk) ∧ MI w' me s.2) (by kernel_rfl) (fun W1 hW1 => ?_)
     have hbd : Below w.heap.size w W1 := by rw [hW1]; exact below_drewN (Below.refl _ _) 1
     have h1 := h_h.out.below hbd
     clear hW1 c0 c1 c2 c3 c4 c5 c6 c7 c8 c9 f8 f9; have h1_h := lH h1; have hbd_h := lH hbd; clear h1 hbd
     refine tkC 0 ?_ rfl (⟨h1_h.out.box, h1_h.out.edg⟩ : _ ∧ _) (fun W' hW' => ?_) ?_; rotate_left; · (obtain ⟨⟨c0, c1, c2, c3, c4, c5, c6, c7, c8, c9⟩, f8, f9⟩ := box10 hW'.1; have hlen := fun ty => hW'.2.len hnd_h.out ty; rw [hq_h.out] at hlen; clear hW'; go_simp; first | done | with_reducible rfl)
     simp only [Act.put, nS]
     refine tkC 1 ?_ rfl (⟨h1_h.out.box, h1_h.out.edg⟩ : _ ∧ _) (fun W' hW' => ?_) ?_; rotate_left; · (obtain ⟨⟨c0, c1, c2, c3, c4, c5, c6, c7, c8, c9⟩, f8, f9⟩ := box10 hW'.1; have hlen := fun ty => hW'.2.len hnd_h.out ty; rw [hq_h.out] at hlen; clear hW'; go_simp; first | done | with_reducible rfl)
     simp only [Act.put, nS]
     refine tkC 2 ?_ rfl (⟨h1_h.out.box, h1_h.out.edg⟩ : _ ∧ _) (fun W' hW' => ?_) ?_; rotate_left; · (obtain ⟨⟨c0, c1, c2, c3, c4, c5, c6, c7, c8, c9⟩, f8, f9⟩ := box10 hW'.1; have hlen := fun ty => hW'.2.len hnd_h.out ty; rw [hq_h.out] at hlen; clear hW'; go_simp; first | done | with_reducible rfl)
     simp only [Act.put, nS]
     refine tkC 3 ?_ rfl (⟨h1_h.out.box, h1_h.out.edg⟩ : _ ∧ _) (fun W' hW' => ?_) ?_; rotate_left; · (obtain ⟨⟨c0, c1, c2, c3, c4, c5, c6, c7, c8, c9⟩, f8, f9⟩ := box10 hW'.1; have hlen := fun ty => hW'.2.len hnd_h.out ty; rw [hq_h.out] at hlen; clear hW'; go_simp; first | done | with_reducible rfl)
     simp only [Act.put, nS]
     refine tkC 4 ?_ rfl (⟨h1_h.out.box, h1_h.out.edg⟩ : _ ∧ _) (fun W' hW' => ?_) ?_; rotate_left; · (obtain ⟨⟨c0, c1, c2, c3, c4, c5, c6, c7, c8, c9⟩, f8, f9⟩ := box10 hW'.1; have hlen := fun ty => hW'.2.len hnd_h.out ty; rw [hq_h.out] at hlen; clear hW'; go_simp; first | done | with_reducible rfl)
     simp only [Act.put, nS]
     refine tkC 5 ?_ rfl (⟨h1_h.out.box, h1_h.out.edg⟩ : _ ∧ _) (fun W' hW' => ?_) ?_; rotate_left; · (obtain ⟨⟨c0, c1, c2, c3, c4, c5, c6, c7, c8, c9⟩, f8, f9⟩ := box10 hW'.1; have hlen := fun ty => hW'.2.len hnd_h.out ty; rw [hq_h.out] at hlen; clear hW'; go_simp; first | done | with_reducible rfl)
     simp only [Act.put, nS]
     refine tkC 6 ?_ rfl (⟨h1_h.out.box, h1_h.out.edg⟩ : _ ∧ _) (fun W' hW' => ?_) ?_; rotate_left; · (obtain ⟨⟨c0, c1, c2, c3, c4, c5, c6, c7, c8, c9⟩, f8, f9⟩ := box10 hW'.1; have hlen := fun ty => hW'.2.len hnd_h.out ty; rw [hq_h.out] at hlen; clear hW'; go_simp; first | done | with_reducible rfl)
     simp only [Act.put, nS]
     refine tkC 7 ?_ rfl (⟨h1_h.out.box, h1_h.out.edg⟩ : _ ∧ _) (fun W' hW' => ?_) ?_; rotate_left; · (obtain ⟨⟨c0, c1, c2, c3, c4, c5, c6, c7, c8, c9⟩, f8, f9⟩ := box10 hW'.1; have hlen := fun ty => hW'.2.len hnd_h.out ty; rw [hq_h.out] at hlen; clear hW'; go_simp; first | done | with_reducible rfl)
     simp only [Act.put, nS]
     refine tkC 8 ?_ rfl (⟨h1_h.out.box, h1_h.out.edg⟩ : _ ∧ _) (fun W' hW' => ?_) ?_; rotate_left; · (obtain ⟨⟨c0, c1, c2, c3, c4, c5, c6, c7, c8, c9⟩, f8, f9⟩ := box10 hW'.1; have hlen := fun ty => hW'.2.len hnd_h.out ty; rw [hq_h.out] at hlen; clear hW'; go_simp; first | done | with_reducible rfl)
     simp only [Act.put, nS]
     refine tkC 9 ?_ rfl (⟨h1_h.out.box, h1_h.out.edg⟩ : _ ∧ _) (fun W' hW' => ?_) ?_; rotate_left; · (obtain ⟨⟨c0, c1, c2, c3, c4, c5, c6, c7, c8, c9⟩, f8, f9⟩ := box10 hW'.1; have hlen := fun ty => hW'.2.len hnd_h.out ty; rw [hq_h.out] at hlen; clear hW'; go_simp; first | done | with_reducible rfl)
     simp only [Act.put, nS]
     obtain ⟨w2, hrun, hM2, hk2⟩ := h1_h.out.edg.put (y := (ee : Int)) (q := (q : Int)) (by rw [hq_h.out]; unfold maxLen; omega) hwf (by rw [hq_h.out])
     obtain ⟨hb2, hq2, hfin⟩ := h1_h.out.putE hM2 hk2
     have hsl : Sl (w2.alloc (.cells #[.int .i64 (ee : Int)] tInt)) tInt 1 O on oc (ints s.2) := by
      have := hq2
      unfold IS at this
      rw [h1_h.out.oln] at this
      exact this.alloc _
     have hbx3 := t_box_below hb2 (t_below_alloc w2 (.cells #[.int .i64 (ee : Int)] tInt))
     clear hM2 hq2; have hk2_h := lH hk2; have hb2_h := lH hb2; have hfin_h := lH hfin; have hsl_h := lH hsl; have hbx3_h := lH hbx3; clear hk2 hb2 hfin hsl hbx3
     refine oneZ 10 rfl (by kernel_rfl) (by rfl) (fun K hK => ?_)
     go_simp
     refine hK _ _ (fun h => by cases h) ?_
     clear hK K hrun
     refine doneZ (by kernel_rfl) ?_
     obtain ⟨⟨c0, c1, c2, c3, c4, c5, c6, c7, c8, c9⟩, f8, f9⟩ := box10 hb2_h.out
     obtain ⟨⟨y0, y1, y2, y3, y4, y5, y6, y7, y8, y9⟩, g8, g9⟩ := box10 hbx3_h.out
     go_upto_region 5 with (at_builtin; refine wpList_append_Sl _ rfl _ _ _ rfl 3 Tryz.underlying23 info_int rfl (by omega) rfl hsl_h.out rfl (news := [.int .i64 (ee : Int)]) rfl (Sl.rdc (Sl.laid w2 3 1 1 #[.int .i64 (ee : Int)] (by unfold maxLen; omega) rfl)) (by intro u hu; simp at hu; subst hu; rfl) (by unfold maxLen; omega) (by omega) ?_; intro A5 cap5 w3 hs3 hA3 hk3; have hI3 : IS w3 A5 cap5 (s.2 ++ [(ee : Int)]) := (by unfold IS; rw [List.length_append, h_h.out.oln, show ints (s.2 ++ [(ee : Int)]) = ints s.2 ++ [.int .i64 (ee : Int)] by simp [ints]]; exact hs3); obtain ⟨hb3, hKW, hSt⟩ := hfin_h.out _ _ _ hI3 (fun b hb => (hA3 b hb).imp id fun h => Nat.le_trans (t_below_alloc w2 (.cells #[.int .i64 (ee : Int)] tInt)).size h) (((Keeps.refl _ w2).alloc _).trans hk3); clear hs3 hA3 hk3 hI3 c0 c1 c2 c3 c4 c5 c6 c7 c8 c9 f8 f9 y0 y1 y2 y3 y4 y5 y6 y7 y8 y9 g8 g9; obtain ⟨⟨z0, z1, z2, z3, z4, z5, z6, z7, z8, z9⟩, e8, e9⟩ := box10 hb3; have hKW_h := lH hKW; have hSt_h := lH hSt; clear hKW hSt hb3)
     generalize (w3.setCell ⟨b, 9, none⟩ (.slice A5 (on + 1) cap5)) = w4 at hKW_h hSt_h ⊢
     clear z0 z1 z2 z3 z4 z5 z6 z7 z8 z9 e8 e9 hfin_h hsl_h hbx3_h hb2_h hk2_h h1_h
     have hB4 := hKW_h.out.bel
     obtain ⟨ad, κ, vl, B1, b1, l1, C1, b2, l2, hae, hn1, ⟨d0, d1, d2, d3⟩, hr1, hr2⟩ := (hE_h.out.below hB4).at_ (j := ee) (by rw [hm_h.out]; exact hee)
     subst hae
     have hed : edgeAt g (ee : Int) = (κ, vl, l1, l2) := by
      unfold edgeAt
      rw [Int.toNat_natCast, List.getD_eq_getElem?_getD, e1_h.out, List.getElem?_map, hn1]
      rfl
     obtain ⟨⟨g1, g2⟩, _⟩ := egB_len (hMo_h.out.kind (κ, vl, l1, l2) (by rw [e1_h.out]; exact List.mem_map.2 ⟨_, List.mem_of_getElem? hn1, rfl⟩))
     simp only at g1 g2
     have hwl' := hwl_h.out
     rw [hed] at hwl'
     obtain ⟨l, hl⟩ : ∃ l, l = l1 ++ l2 := ⟨_, rfl⟩
     have hwr : ∀ x, x ∈ l → 0 ≤ x ∧ x < (n : Int) := fun x hx => hwl' x (by rw [hl] at hx; exact hx)
     have hwe : wiresE (edgeAt g (ee : Int)) = l := by rw [hed, hl]; rfl
     obtain ⟨p, hp⟩ : ∃ p, l.length = p := ⟨_, rfl⟩
     have hp4 : p ≤ 4 := by rw [← hp, hl, List.length_append]; omega
     obtain ⟨p1, hp1⟩ : ∃ p1, l1.length = p1 := ⟨_, rfl⟩
     obtain ⟨p2, hp2⟩ : ∃ p2, l2.length = p2 := ⟨_, rfl⟩
     have hbd4 : Below w4.heap.size w4 w4.drew := below_drewN (Below.refl _ _) 1
     have hkw5 := hKW_h.out.below hbd4
     have r1 := hr1.below hbd4
     have r2 := hr2.below hbd4
     have u2 := (hbd4.cell (World.block_lt_of_cell? _ _ d2)).trans d2
     have u3 := (hbd4.cell (World.block_lt_of_cell? _ _ d3)).trans d3
     rw [hp1] at u2
     rw [hp2] at u3
     refine beginH (fun w' => Below w4.drew.heap.size w4.drew w') (by kernel_rfl) ?_
     have hSt5 := hSt_h.out.below hbd4
     generalize w4.drew = w5 at hkw5 r1 r2 u2 u3 hSt5 ⊢
     have hJ0 := joined_any (some ⟨w5.heap.size, 0, none⟩) 2 [(B1, b1, l1), (C1, b2, l2)] (w5.alloc (.cells #[.slice B1 l1.length b1, .slice C1 l2.length b2] 23)) (rd2 r1 r2) (by simp) (by simp; omega)
     rw [show (([(B1, b1, l1), (C1, b2, l2)] : List Hd).map fun h : Hd => h.2.2).flatten = l by rw [hl]; simp, hp1, hp2] at hJ0
     have hJ : Calls Tryz.prog 80 #[.slice (some ⟨w5.heap.size, 0, none⟩) 2 2] (w5.alloc (.cells #[.slice B1 p1 b1, .slice C1 p2 b2] 23)) (RetI (w5.alloc (.cells #[.slice B1 p1 b1, .slice C1 p2 b2] 23)) l) := hJ0
     unfold RetI at hJ
     rw [hp] at hJ
     have heI : (ee : Int) < (m : Int) := by omega
     have k5 := hkw5.box
     have hgd := fun k => giveL_nodup (l := l.take k) hs0_h.out.nd1
     have hgr : ∀ k y, y ∈ giveL s.1 (l.take k) → 0 ≤ y ∧ y < (n : Int) := fun k y hy => by
      rcases mem_giveL.1 hy with hy | hy
      · exact hs0_h.out.rg1 y hy
      · exact hwr y (List.mem_of_mem_take hy)
     clear hJ0 d0 d1 d2 d3 hwl' hr1 hr2 r1 r2 hn1 hbd4 hKW_h hSt_h hB4 hed; have hJ_h := lH hJ; have hkw5_h := lH hkw5; have hwr_h := lH hwr; have hwe_h := lH hwe; have hp_h := lH hp; have hp1_h := lH hp1; have hp2_h := lH hp2; have hl_h := lH hl; have u2_h := lH u2; have u3_h := lH u3; have k5_h := lH k5; have hgd_h := lH hgd; have hgr_h := lH hgr; have hSt5_h := lH hSt5; clear hJ hkw5 hwr hwe hp hp1 hp2 hl u2 u3 k5 hgd hgr hSt5
     refine tkH 0 ?_ rfl (Below.refl _ _) (fun W' hW' => ?_) ?_; rotate_left; · (obtain ⟨⟨c0, c1, c2, c3, c4, c5, c6, c7, c8, c9⟩, f8, f9⟩ := box10 (t_box_below k5_h.out hW'); have u4 := (hW'.cell (World.block_lt_of_cell? _ _ u2_h.out)).trans u2_h.out; have u5 := (hW'.cell (World.block_lt_of_cell? _ _ u3_h.out)).trans u3_h.out; clear hW'; go_simp; first | done | with_reducible rfl)
     simp only [Act.put, nS]
     refine tkH 1 ?_ rfl (Below.refl _ _) (fun W' hW' => ?_) ?_; rotate_left; · (obtain ⟨⟨c0, c1, c2, c3, c4, c5, c6, c7, c8, c9⟩, f8, f9⟩ := box10 (t_box_below k5_h.out hW'); have u4 := (hW'.cell (World.block_lt_of_cell? _ _ u2_h.out)).trans u2_h.out; have u5 := (hW'.cell (World.block_lt_of_cell? _ _ u3_h.out)).trans u3_h.out; clear hW'; go_simp; first | done | with_reducible rfl)
     simp only [Act.put, nS]
     refine tkH 2 ?_ rfl (Below.refl _ _) (fun W' hW' => ?_) ?_; rotate_left; · (obtain ⟨⟨c0, c1, c2, c3, c4, c5, c6, c7, c8, c9⟩, f8, f9⟩ := box10 (t_box_below k5_h.out hW'); have u4 := (hW'.cell (World.block_lt_of_cell? _ _ u2_h.out)).trans u2_h.out; have u5 := (hW'.cell (World.block_lt_of_cell? _ _ u3_h.out)).trans u3_h.out; clear hW'; go_simp; first | done | with_reducible rfl)
     simp only [Act.put, nS]
     refine tkH 3 ?_ rfl (Below.refl _ _) (fun W' hW' => ?_) ?_; rotate_left; · (obtain ⟨⟨c0, c1, c2, c3, c4, c5, c6, c7, c8, c9⟩, f8, f9⟩ := box10 (t_box_below k5_h.out hW'); have u4 := (hW'.cell (World.block_lt_of_cell? _ _ u2_h.out)).trans u2_h.out; have u5 := (hW'.cell (World.block_lt_of_cell? _ _ u3_h.out)).trans u3_h.out; clear hW'; go_simp; first | done | with_reducible rfl)
     simp only [Act.put, nS]
     refine tkH 4 ?_ rfl (Below.refl _ _) (fun W' hW' => ?_) ?_; rotate_left; · (obtain ⟨⟨c0, c1, c2, c3, c4, c5, c6, c7, c8, c9⟩, f8, f9⟩ := box10 (t_box_below k5_h.out hW'); have u4 := (hW'.cell (World.block_lt_of_cell? _ _ u2_h.out)).trans u2_h.out; have u5 := (hW'.cell (World.block_lt_of_cell? _ _ u3_h.out)).trans u3_h.out; clear hW'; go_simp; first | done | with_reducible rfl)
     simp only [Act.put, nS]
     refine tkH 5 ?_ rfl (Below.refl _ _) (fun W' hW' => ?_) ?_; rotate_left; · (obtain ⟨⟨c0, c1, c2, c3, c4, c5, c6, c7, c8, c9⟩, f8, f9⟩ := box10 (t_box_below k5_h.out hW'); have u4 := (hW'.cell (World.block_lt_of_cell? _ _ u2_h.out)).trans u2_h.out; have u5 := (hW'.cell (World.block_lt_of_cell? _ _ u3_h.out)).trans u3_h.out; clear hW'; go_simp; first | done | with_reducible rfl)
     simp only [Act.put, nS]
     refine tkH 6 ?_ rfl (Below.refl _ _) (fun W' hW' => ?_) ?_; rotate_left; · (obtain ⟨⟨c0, c1, c2, c3, c4, c5, c6, c7, c8, c9⟩, f8, f9⟩ := box10 (t_box_below k5_h.out hW'); have u4 := (hW'.cell (World.block_lt_of_cell? _ _ u2_h.out)).trans u2_h.out; have u5 := (hW'.cell (World.block_lt_of_cell? _ _ u3_h.out)).trans u3_h.out; clear hW'; go_simp; first | done | with_reducible rfl)
     simp only [Act.put, nS]
     refine tkH 7 ?_ rfl (Below.refl _ _) (fun W' hW' => ?_) ?_; rotate_left; · (obtain ⟨⟨c0, c1, c2, c3, c4, c5, c6, c7, c8, c9⟩, f8, f9⟩ := box10 (t_box_below k5_h.out hW'); have u4 := (hW'.cell (World.block_lt_of_cell? _ _ u2_h.out)).trans u2_h.out; have u5 := (hW'.cell (World.block_lt_of_cell? _ _ u3_h.out)).trans u3_h.out; clear hW'; go_simp; first | done | with_reducible rfl)
     simp only [Act.put, nS]
     refine tkH 8 ?_ rfl (Below.refl _ _) (fun W' hW' => ?_) ?_; rotate_left; · (obtain ⟨⟨c0, c1, c2, c3, c4, c5, c6, c7, c8, c9⟩, f8, f9⟩ := box10 (t_box_below k5_h.out hW'); have u4 := (hW'.cell (World.block_lt_of_cell? _ _ u2_h.out)).trans u2_h.out; have u5 := (hW'.cell (World.block_lt_of_cell? _ _ u3_h.out)).trans u3_h.out; clear hW'; go_simp; first | done | with_reducible rfl)
     simp only [Act.put, nS]
     refine tkH 9 ?_ rfl (Below.refl _ _) (fun W' hW' => ?_) ?_; rotate_left; · (obtain ⟨⟨c0, c1, c2, c3, c4, c5, c6, c7, c8, c9⟩, f8, f9⟩ := box10 (t_box_below k5_h.out hW'); have u4 := (hW'.cell (World.block_lt_of_cell? _ _ u2_h.out)).trans u2_h.out; have u5 := (hW'.cell (World.block_lt_of_cell? _ _ u3_h.out)).trans u3_h.out; clear hW'; go_simp; first | done | with_reducible rfl)
     simp only [Act.put, nS]
     refine tkH 10 ?_ rfl (Below.refl _ _) (fun W' hW' => ?_) ?_; rotate_left; · (obtain ⟨⟨c0, c1, c2, c3, c4, c5, c6, c7, c8, c9⟩, f8, f9⟩ := box10 (t_box_below k5_h.out hW'); have u4 := (hW'.cell (World.block_lt_of_cell? _ _ u2_h.out)).trans u2_h.out; have u5 := (hW'.cell (World.block_lt_of_cell? _ _ u3_h.out)).trans u3_h.out; clear hW'; go_simp; first | done | with_reducible rfl)
     simp only [Act.put, nS]
     refine tkH 11 ?_ rfl (Below.refl _ _) (fun W' hW' => ?_) ?_; rotate_left; · (obtain ⟨⟨c0, c1, c2, c3, c4, c5, c6, c7, c8, c9⟩, f8, f9⟩ := box10 (t_box_below k5_h.out hW'); have u4 := (hW'.cell (World.block_lt_of_cell? _ _ u2_h.out)).trans u2_h.out; have u5 := (hW'.cell (World.block_lt_of_cell? _ _ u3_h.out)).trans u3_h.out; clear hW'; go_simp; first | done | with_reducible rfl)
     simp only [Act.put, nS]
     refine tkH 12 ?_ rfl (Below.refl _ _) (fun W' hW' => ?_) ?_; rotate_left; · (obtain ⟨⟨c0, c1, c2, c3, c4, c5, c6, c7, c8, c9⟩, f8, f9⟩ := box10 (t_box_below k5_h.out hW'); have u4 := (hW'.cell (World.block_lt_of_cell? _ _ u2_h.out)).trans u2_h.out; have u5 := (hW'.cell (World.block_lt_of_cell? _ _ u3_h.out)).trans u3_h.out; clear hW'; go_simp; first | done | with_reducible rfl)
     simp only [Act.put, nS]
     refine tkH 13 ?_ rfl (Below.refl _ _) (fun W' hW' => ?_) ?_; rotate_left; · (obtain ⟨⟨c0, c1, c2, c3, c4, c5, c6, c7, c8, c9⟩, f8, f9⟩ := box10 (t_box_below k5_h.out hW'); have u4 := (hW'.cell (World.block_lt_of_cell? _ _ u2_h.out)).trans u2_h.out; have u5 := (hW'.cell (World.block_lt_of_cell? _ _ u3_h.out)).trans u3_h.out; clear hW'; go_simp; first | done | with_reducible rfl)
     simp only [Act.put, nS]
     refine tkH 14 ?_ rfl (Below.refl _ _) (fun W' hW' => ?_) ?_; rotate_left; · (obtain ⟨⟨c0, c1, c2, c3, c4, c5, c6, c7, c8, c9⟩, f8, f9⟩ := box10 (t_box_below k5_h.out hW'); have u4 := (hW'.cell (World.block_lt_of_cell? _ _ u2_h.out)).trans u2_h.out; have u5 := (hW'.cell (World.block_lt_of_cell? _ _ u3_h.out)).trans u3_h.out; clear hW'; go_simp; first | done | with_reducible rfl)
     simp only [Act.put, nS]
     refine tkH 15 ?_ rfl (Below.refl _ _) (fun W' hW' => ?_) ?_; rotate_left; · (obtain ⟨⟨c0, c1, c2, c3, c4, c5, c6, c7, c8, c9⟩, f8, f9⟩ := box10 (t_box_below k5_h.out hW'); have u4 := (hW'.cell (World.block_lt_of_cell? _ _ u2_h.out)).trans u2_h.out; have u5 := (hW'.cell (World.block_lt_of_cell? _ _ u3_h.out)).trans u3_h.out; clear hW'; go_simp; first | done | with_reducible rfl)
     simp only [Act.put, nS]
     refine tkH 16 ?_ rfl (Below.refl _ _) (fun W' hW' => ?_) ?_; rotate_left; · (obtain ⟨⟨c0, c1, c2, c3, c4, c5, c6, c7, c8, c9⟩, f8, f9⟩ := box10 (t_box_below k5_h.out hW'); have u4 := (hW'.cell (World.block_lt_of_cell? _ _ u2_h.out)).trans u2_h.out; have u5 := (hW'.cell (World.block_lt_of_cell? _ _ u3_h.out)).trans u3_h.out; clear hW'; go_simp; first | done | with_reducible rfl)
     simp only [Act.put, nS]
     refine tkH 17 ?_ rfl (Below.refl _ _) (fun W' hW' => ?_) ?_; rotate_left; · (obtain ⟨⟨c0, c1, c2, c3, c4, c5, c6, c7, c8, c9⟩, f8, f9⟩ := box10 (t_box_below k5_h.out hW'); have u4 := (hW'.cell (World.block_lt_of_cell? _ _ u2_h.out)).trans u2_h.out; have u5 := (hW'.cell (World.block_lt_of_cell? _ _ u3_h.out)).trans u3_h.out; clear hW'; go_simp; first | done | with_reducible rfl)
     simp only [Act.put, nS]
     refine tkH 21 ?_ rfl (Below.refl _ _) (fun W' hW' => ?_) ?_; rotate_left; · (obtain ⟨⟨c0, c1, c2, c3, c4, c5, c6, c7, c8, c9⟩, f8, f9⟩ := box10 (t_box_below k5_h.out hW'); have u4 := (hW'.cell (World.block_lt_of_cell? _ _ u2_h.out)).trans u2_h.out; have u5 := (hW'.cell (World.block_lt_of_cell? _ _ u3_h.out)).trans u3_h.out; clear hW'; go_simp; first | done | with_reducible rfl)
     simp only [Act.put, nS]
     refine oneH 18 rfl (by kernel_rfl) (by rfl) (fun K hK => ?_)
     go_simp
     refine hK _ _ (t_below_alloc _ _) ?_
     clear hK K
     refine' callH 19 (f := _) (args := _) rfl (by kernel_rfl) (by rfl) ?_ ?_; rotate_left 2; · (go_simp; first | done | with_reducible rfl | (constructor <;> with_reducible rfl))
     refine (hJ_h.out).mono ?_
     rintro e w7 ⟨A7, cap7, rfl, hI7, hF7, hb7⟩
     have hb57 := below_trans (t_below_alloc w5 (.cells #[.slice B1 p1 b1, .slice C1 p2 b2] 23)) hb7 (t_below_alloc w5 _).size
     refine ⟨_, rfl, hb57, ?_⟩
     simp only [Act.put, nS]
     refine tkH 20 ?_ rfl hb57 (fun W' hW' => ?_) ?_; rotate_left; · (skip; clear hW'; go_simp; first | done | with_reducible rfl)
     simp only [Act.put, nS]
     refine doneH (by kernel_rfl) ?_
     have hkw7 := hkw5_h.out.below hb57
     have hSt7 := hSt5_h.out.below hb57
     have hA7 : ∀ x, x ∈ fpA A7 → ¬ OwnK b mw me Q A5 x := fun x hx ho => by
      have h1 := hkw5_h.out.own_lt ho
      have h2 := hF7 x hx
      have h3 := (t_below_alloc w5 (.cells #[.slice B1 p1 b1, .slice C1 p2 b2] 23)).size
      omega
     clear hJ_h u2_h u3_h k5_h hb7 hF7 hb57 hkw5_h hSt5_h; have hkw7_h := lH hkw7; have hSt7_h := lH hSt7; have hA7_h := lH hA7; have hI7_h := lH hI7; clear hkw7 hSt7 hA7 hI7
     go_wp2_with (fail)
     go_loopw [61] (fun i wr => ∃ (k : Nat) (Q' : Option Addr) (qn' qc' : Nat), k ≤ p ∧ i = .int .i64 k ∧ KW W n g.2.1 (.slice (some ad) m c) x2 x3 b Bf Bh mw me (giveL s.1 (l.take k), s.2 ++ [(ee : Int)]) qd wr Q' qn' qc' A5 (on + 1) cap5 ∧ IS wr A7 cap7 l ∧ StepK b mw me W1 Q O wr Q' A5 ∧ ∀ x, x ∈ fpA A7 → ¬ OwnK b mw me Q' A5 x) (fun i _ => p - (intOf i).toNat)
     case atStart => exact ⟨0, Q, qn, qc, Nat.zero_le _, rfl, hkw7_h.out, hI7_h.out, hSt7_h.out, hA7_h.out⟩
     case round =>
      clear hkw7_h hI7_h hSt7_h hA7_h
      obtain ⟨k, Q', qn', qc', hk, rfl, hK, hI, hS, hA⟩ := hrel
      obtain ⟨wo, rfl⟩ : ∃ x, x = wr := ⟨_, rfl⟩
      by_cases hlt : k < p
      · obtain ⟨x, hx⟩ : ∃ x, l[k]? = some x := ⟨_, List.getElem?_eq_getElem (by rw [hp_h.out]; exact hlt)⟩
        obtain ⟨cd, hcd, yj⟩ := hI.rd k _ hx
        subst hcd
        have hcw := wire_any x wo hK hn100 (hgd_h.out k) (hgr_h.out k) (hwr_h.out x (List.mem_of_getElem? hx))
        have hgs : giveL (giveL s.1 (l.take k)) [x] = giveL s.1 (l.take (k + 1)) := by
         rw [← giveL_append, List.take_add_one, hx]
         rfl
        simp only [hgs] at hcw
        have hkI : (k : Int) < (p : Int) := by omega
        clear hgs hx; have hK_h := lH hK; have hI_h := lH hI; have hS_h := lH hS; have hA_h := lH hA; have hcw_h := lH hcw; clear hK hI hS hA hcw
        go_wp2_with (fail)
        refine (hcw_h.out).mono ?_
        rintro e w8 ⟨rfl, Q8, qn8, qc8, hK8, hS8⟩
        have hI8 := hI_h.out.keeps hS8.1 fun x hx => hA_h.out x hx
        have hA8 : ∀ x, x ∈ fpA (some cd) → ¬ OwnK b mw me Q8 A5 x := fun x hx ho => by
         rcases hS8.2 x ho with h1 | h1
         · exact hA_h.out x hx h1
         · have := hI_h.out.lt x hx; omega
        have hSt8 := hS_h.out.trans hS8
        clear hS8 hcw_h hK_h hI_h hS_h hA_h; have hK8_h := lH hK8; have hI8_h := lH hI8; have hA8_h := lH hA8; have hSt8_h := lH hSt8; clear hK8 hI8 hA8 hSt8
        go_wp2_with (fail)
        go_roundw
        case rel => exact ⟨k + 1, Q8, qn8, qc8, by omega, by go_num, hK8_h.out, hI8_h.out, hSt8_h.out, hA8_h.out⟩
        case measure => simp [intOf]; omega
      · obtain rfl : p = k := by omega
        rw [List.take_of_length_le (by rw [hp_h.out]; exact Nat.le_refl _)] at hK
        have hK_h := lH hK; have hS_h := lH hS; clear hK hS; clear hI hA
        go_wp2_with (fail)
        go_end0
        refine ⟨rfl, Q', qn', qc', A5, on + 1, cap5, ?_, hS_h.out.pre hbd_h.out⟩
        rw [hwe_h.out]
        exact hK_h.out
theorem cnt_one (n : Nat) (l : List Int) : ((cntM n l).all fun x => t_inB x 1 1) = (cntM n l).all fun c => decide (c = 1) := by
 congr 1
 funext x
 unfold t_inB
 exact decide_eq_decide.2 ⟨fun h => by omega, fun h => by omega⟩
theorem cntM_len (n : Nat) (l : List Int) : (cntM n l).length = n := by simp [cntM]
set_option maxRecDepth 100000 in
set_option maxHeartbeats 4000000 in
theorem hgMono_any {v : Value} {g : Gr} (w : World) (n : Nat) (h : RdGr w v g) (ok : OkG g) (hgn : g.1 = (n : Int)) (hnb : n ≤ 1048576) (hin : inW (n : Int) (t_allW g) = true) :
  Calls Tryz.prog 53 #[v] w fun e w' => e = .returned (.bool (prmN g.1 (orgW g) && prmN g.1 (dstW g))) ∧ Below w.heap.size w w' := by
 obtain ⟨T1, hT1⟩ : ∃ T, T = prmN g.1 (orgW g) := ⟨_, rfl⟩
 obtain ⟨T2, hT2⟩ : ∃ T, T = prmN g.1 (dstW g) := ⟨_, rfl⟩
 rw [← hT1, ← hT2]
 have hm := fun x (hx : x ∈ t_allW g) => inW_iff.1 hin x hx
 rw [hgn, prmN_counts (fun k hk => hm k (mem_allW.2 (.inl hk))), ← cnt_one] at hT1
 rw [hgn, prmN_counts (fun k hk => hm k (mem_allW.2 (.inr hk))), ← cnt_one] at hT2
 obtain ⟨A, n0, c, B, m0, d, C, k0', e0, rfl⟩ := h.shape
 obtain ⟨z, hz⟩ : ∃ z, z = g.1 := ⟨_, rfl⟩
 rw [← hz] at h ⊢
 obtain ⟨W, hW, bW, k0⟩ := (⟨_, rfl, t_below_alloc _ _, heap_alloc_new _ _⟩ : ∃ W, W = w.alloc (.cells #[.int .i64 z, .slice A n0 c, .slice B m0 d, .slice C k0' e0] tGr) ∧ Below w.heap.size w W ∧ W.heap[w.heap.size]? = some (.cells #[.int .i64 z, .slice A n0 c, .slice B m0 d, .slice C k0' e0] tGr))
 have hC := hgCounts_any W n (h.below bW) ok hgn hnb hin
 obtain ⟨X, hX⟩ : ∃ X, X = cntM n (orgW g) := ⟨_, rfl⟩
 obtain ⟨Y, hY⟩ : ∃ Y, Y = cntM n (dstW g) := ⟨_, rfl⟩
 have hXl : X.length = n := by rw [hX, cntM_len]
 have hYl : Y.length = n := by rw [hY, cntM_len]
 rw [← hX] at hC hT1
 rw [← hY] at hC hT2
 obtain ⟨⟨c0, c1, c2, c3⟩, f0, f1, f2, f3⟩ := t_box4 k0
 clear hm hz hX hY h ok hgn hin; have bW_h := lH bW; have k0_h := lH k0; have hC_h := lH hC; have hT1_h := lH hT1; have hT2_h := lH hT2; have hXl_h := lH hXl; have hYl_h := lH hYl; clear bW k0 hC hT1 hT2 hXl hYl
 go_enter Tryz.func53, Tryz.ntmps53
 go_upto_region 1 with (fail)
 rw [← hW]
 clear hW
 go_wp2_with (fail)
 refine (hC_h.out).mono ?_
 rintro e w1 ⟨A1, B1, a1, b1, rfl, hI, hJ, -, -, hb1⟩
 have hB := below_trans bW_h.out hb1 bW_h.out.size
 have hA1 := t_l1All_any A1 a1 n X 1 1 w1 hI.rd hXl_h.out (by omega)
 have hA2 := t_l1All_any B1 b1 n Y 1 1 w1 hJ.rd hYl_h.out (by omega)
 rw [← hT1_h.out] at hA1
 rw [← hT2_h.out] at hA2
 clear hI hJ hb1; have hB_h := lH hB; have hA1_h := lH hA1; have hA2_h := lH hA2; clear hB hA1 hA2
 go_wp2_with (fail)
 refine (hA1_h.out).mono ?_
 rintro e w2 ⟨rfl, rfl⟩
 cases T1
 case false =>
  go_wp2_with (fail)
  go_ret
  exact ⟨rfl, hB_h.out⟩
 case true =>
  go_wp2_with (fail)
  refine (hA2_h.out).mono ?_
  rintro e w3 ⟨rfl, rfl⟩
  go_wp2_with (fail)
  go_ret
  exact ⟨by cases T2 <;> rfl, hB_h.out⟩
set_option maxHeartbeats 1000000 in
theorem occursOnce_any (n : Int) (A : Option Addr) (c m : Nat) (hs : List Hd) (L : List Int) (w : World) (h : RdR w A hs) (hm : hs.length = m) (hl : m ≤ 1048576) (hL : (hs.map fun h : Hd => h.2.2).flatten = L) (hN : L.length ≤ 1048576) :
  Calls Tryz.prog 57 #[.int .i64 n, .slice A m c] w fun e w' => e = .returned (.bool (prmN n L)) ∧ Below w.heap.size w w' := by
 have hJ := joined_any A c hs w h (by rw [hm]; exact hl) (by rw [hL]; exact hN)
 rw [hm, hL] at hJ
 unfold RetI at hJ
 obtain ⟨q, hq⟩ : ∃ q, q = L.length := ⟨_, rfl⟩
 rw [← hq] at hJ
 obtain ⟨T, hT⟩ : ∃ T, T = prmN n L := ⟨_, rfl⟩
 rw [← hT]
 clear h hm hL; have hJ_h := lH hJ; have hq_h := lH hq; have hT_h := lH hT; clear hJ hq hT
 go_enter Tryz.func57, Tryz.ntmps57
 go_wp2_with (fail)
 refine (hJ_h.out).mono ?_
 rintro e w1 ⟨A1, c1, rfl, hI, hF, hb1⟩
 have hP := isPermN_any A1 c1 n L w1 hI.rd hN
 rw [← hq_h.out, ← hT_h.out] at hP
 clear hI hF; have hP_h := lH hP; have hb1_h := lH hb1; clear hP hb1
 go_wp2_with (fail)
 refine (hP_h.out).mono ?_
 rintro e w2 ⟨rfl, hb2⟩
 have hB := below_trans hb1_h.out hb2 hb1_h.out.size
 clear hb2; have hB_h := lH hB; clear hB
 go_wp2_with (fail)
 go_ret
 exact ⟨rfl, hB_h.out⟩
set_option maxHeartbeats 2000000 in
theorem l1Has_any (A : Option Addr) (c m : Nat) (l : List Int) (x : Int) (w : World) (h : RdI w A l) (hm : l.length = m) (hl : m ≤ 1048576) :
  Calls Tryz.prog 94 #[.slice A m c, .int .i64 x] w fun e w' => e = .returned (.bool (l.contains x)) ∧ w' = w := by
 obtain ⟨T, hT⟩ : ∃ T, T = l.contains x := ⟨_, rfl⟩
 rw [← hT]
 have hT_h := lH hT; have hm_h := lH hm; clear hT hm
 go_enter Tryz.func94, Tryz.ntmps94
 go_wp2_with (fail)
 go_loopw [9] (fun i wr => ∃ k : Nat, k ≤ m ∧ i = .int .i64 k ∧ (l.take k).contains x = false ∧ wr = w) (fun i _ => m - (intOf i).toNat)
 case atStart => exact ⟨0, Nat.zero_le _, rfl, by simp, rfl⟩
 case round =>
  obtain ⟨k, hk, rfl, hno, rfl⟩ := hrel
  by_cases hlt : k < m
  · obtain ⟨ad, y, rfl, hy, hc⟩ := h.at_ (j := k) (by rw [hm_h.out]; exact hlt)
    have hkI : (k : Int) < (m : Int) := by omega
    by_cases hyx : y = x
    · subst hyx
      have ht : T = true := by rw [hT_h.out, List.contains_iff_mem]; exact List.mem_of_getElem? hy
      subst ht
      have hy_h := lH hy; have hno_h := lH hno; clear hy hno
      go_wp2_with (fail)
      go_ret
      exact ⟨rfl, rfl⟩
    · have hbq : (y == x) = false := by rw [beq_eq_false_iff_ne]; exact hyx
      have hno2 : (l.take (k + 1)).contains x = false := by
       rw [List.take_add_one, hy, Bool.eq_false_iff, ne_eq, List.contains_iff_mem]
       rw [Bool.eq_false_iff, ne_eq, List.contains_iff_mem] at hno
       intro hh
       rcases List.mem_append.1 hh with hh | hh
       · exact hno hh
       · simp at hh; exact hyx hh.symm
      have hy_h := lH hy; have hno_h := lH hno; have hno2_h := lH hno2; clear hy hno hno2
      go_wp2_with (fail)
      go_roundw
      case rel => exact ⟨k + 1, by omega, by go_num, hno2_h.out, trivial⟩
      case measure => simp [intOf]; omega
  · obtain rfl : m = k := by omega
    rw [List.take_of_length_le (by rw [hm_h.out]; exact Nat.le_refl _), ← hT_h.out] at hno
    subst hno
    go_wp2_with (fail)
    go_ret
    exact ⟨rfl, rfl⟩
set_option maxHeartbeats 4000000 in
theorem l1Same_any (A B : Option Addr) (c d p q : Nat) (l m : List Int) (w : World) (h : RdI w A l) (h' : RdI w B m) (hp : l.length = p) (hq : m.length = q) (hl : p ≤ 1048576) (hl' : q ≤ 1048576) :
  Calls Tryz.prog 86 #[.slice A p c, .slice B q d] w fun e w' => e = .returned (.bool (decide (l = m))) ∧ Below w.heap.size w w' := by
 obtain ⟨T, hT⟩ : ∃ T, T = decide (l = m) := ⟨_, rfl⟩
 rw [← hT]
 by_cases hpq : p = q
 case neg =>
  have ht : T = false := by rw [hT]; exact decide_eq_false fun e => hpq (by rw [← hp, ← hq, e])
  subst ht
  have hnI : ¬ (p : Int) = (q : Int) := by omega
  have hbq : ((p : Int) == (q : Int)) = false := by rw [beq_eq_false_iff_ne]; exact hnI
  have hT_h := lH hT; have hp_h := lH hp; have hq_h := lH hq; clear hT hp hq
  go_enter Tryz.func86, Tryz.ntmps86
  go_wp2_with (fail)
  go_ret
  exact ⟨rfl, Below.refl _ _⟩
 subst hpq
 have hT_h := lH hT; have hp_h := lH hp; have hq_h := lH hq; clear hT hp hq
 go_enter Tryz.func86, Tryz.ntmps86
 go_wp2_with (fail)
 go_loopw [13] (fun i wr => ∃ (k nq : Nat), k ≤ p ∧ i = .int .i64 k ∧ l.take k = m.take k ∧ wr = w.drewN nq) (fun i _ => p - (intOf i).toNat)
 case atStart => exact ⟨0, 0, Nat.zero_le _, rfl, by simp, rfl⟩
 case round =>
  obtain ⟨k, nq, hk, rfl, htk, hwr⟩ := hrel
  have hBw : Below w.heap.size w wr := by rw [hwr]; exact below_drewN (Below.refl _ _) nq
  by_cases hlt : k < p
  · obtain ⟨ad, x, rfl, hx, hc⟩ := (RdI.below' h hBw).at_ (j := k) (by rw [hp_h.out]; exact hlt)
    obtain ⟨bd, y, rfl, hy, hc'⟩ := (RdI.below' h' hBw).at_ (j := k) (by rw [hq_h.out]; exact hlt)
    have hkI : (k : Int) < (p : Int) := by omega
    by_cases hxy : x = y
    · subst hxy
      have htk2 : l.take (k + 1) = m.take (k + 1) := by rw [List.take_add_one, List.take_add_one, hx, hy, htk]
      have hbq : (x == x) = true := by simp
      have hx_h := lH hx; have hy_h := lH hy; have htk_h := lH htk; have htk2_h := lH htk2; have hwr_h := lH hwr; have hBw_h := lH hBw; clear hx hy htk htk2 hwr hBw
      go_wp2_with (fail)
      go_quiet (fail)
      go_wp2_with (fail)
      go_roundw
      case rel => exact ⟨k + 1, _, by omega, by go_num, htk2_h.out, by rw [hwr_h.out]; exact World.drewN_drewN _ _ _⟩
      case measure => simp [intOf]; omega
    · have ht : T = false := by
       rw [hT_h.out]
       refine decide_eq_false fun e => hxy ?_
       rw [e, hy] at hx
       exact (Option.some.inj hx).symm
      subst ht
      have hbq : (x == y) = false := by rw [beq_eq_false_iff_ne]; exact hxy
      have hx_h := lH hx; have hy_h := lH hy; have htk_h := lH htk; have hwr_h := lH hwr; have hBw_h := lH hBw; clear hx hy htk hwr hBw
      go_wp2_with (fail)
      go_quiet (fail)
      go_wp2_with (fail)
      go_ret
      exact ⟨rfl, below_drewN hBw_h.out _⟩
  · obtain rfl : p = k := by omega
    rw [List.take_of_length_le (by rw [hp_h.out]; exact Nat.le_refl _), List.take_of_length_le (by rw [hq_h.out]; exact Nat.le_refl _)] at htk
    have ht : T = true := by rw [hT_h.out]; exact decide_eq_true htk
    subst ht
    have htk_h := lH htk; have hwr_h := lH hwr; have hBw_h := lH hBw; clear htk hwr hBw
    go_wp2_with (fail)
    go_ret
    exact ⟨rfl, hBw_h.out⟩
section
variable {P : Program} {w : World} {e : TypeId} {sz n cap : Nat} {A : Option Addr} {xs : List Value}
theorem Sl.slicedG (hs : Sl w e sz A n cap xs) (t : TypeId) {z : Option Value} {bytes : Nat} (ht : P.underlying t = some (.slice e)) (hinfo : (P.info? e).map (fun i => (i.zero, i.size, i.bytes)) = some (z, sz, bytes))
  (lo hi mx : Option Value) (l hgh m : Nat) (hlo : OptIs lo l (l = 0)) (hhi : OptIs hi hgh (hgh = n ∧ mx = none)) (hmx : OptIs mx m (m = cap)) (h1 : l ≤ hgh) (h2 : hgh ≤ n) (h3 : hgh ≤ m) (h4 : m ≤ cap) :
  ∃ A', (∀ w', (Instr.sliceAt t (.slice A n cap) lo hi mx).run P w' = .ok (.slice A' (hgh - l) (m - l)) w') ∧ Sl w e sz A' (hgh - l) (m - l) ((xs.drop (l * sz)).take ((hgh - l) * sz)) ∧ (∀ b, b ∈ fpA A' → b ∈ fpA A) := by
 obtain ⟨hcut, hfp, hsub⟩ := hs.cut h1 h2 h3 h4
 refine ⟨_, fun w => ?_, hcut, hfp⟩
 unfold OptIs at hlo hhi hmx
 obtain ⟨i, hi', hzz⟩ := Option.map_eq_some_iff.1 hinfo
 simp only [Prod.mk.injEq] at hzz
 have hb : ∀ (k : IntKind) (i : Int) (j y : Nat) (code : BoundsCode), i = (j : Int) → j ≤ y → (Instr.sliceBound (.int k i) y code).run P w = .ok j w := by
  intro k i j y code e hj
  subst e
  rw [run_sliceBound w k _ y code (by omega) (by omega)]; simp
 have hsb : (Instr.sliceBounds true n cap lo hi mx).run P w = .ok (l, hgh, m) w := by
  unfold Instr.sliceBounds
  cases mx with
  | none =>
    subst hmx
    cases hi with
    | none =>
      obtain ⟨rfl, _⟩ := hhi
      cases lo with
      | none => subst hlo; simp
      | some v => obtain ⟨k, L, rfl, hL⟩ := hlo; simp [hb k L l _ _ hL h1]
    | some v =>
      obtain ⟨k, L, rfl, hL⟩ := hhi
      have hb1 := hb k L hgh m .sliceAcap hL h3
      cases lo with
      | none => subst hlo; simp [hb1]
      | some v => obtain ⟨k', L', rfl, hL'⟩ := hlo; simp [hb1, hb k' L' l _ _ hL' h1]
  | some vm =>
    obtain ⟨km, M, rfl, hM⟩ := hmx
    have hb0 := hb km M m cap .slice3Acap hM h4
    cases hi with
    | none => obtain ⟨_, h0⟩ := hhi; cases h0
    | some v =>
      obtain ⟨k, L, rfl, hL⟩ := hhi
      have hb1 := hb k L hgh m .slice3B hL h3
      cases lo with
      | none => subst hlo; simp [hb0, hb1]
      | some v => obtain ⟨k', L', rfl, hL'⟩ := hlo; simp [hb0, hb1, hb k' L' l _ _ hL' h1]
 have hrun : (Instr.slice t (.slice A n cap) lo hi mx).run P w = .ok (.slice (if m = l then A else A.map (·.add (l * sz))) (hgh - l) (m - l)) w := by
  simp only [Instr.slice, Sem.run_bind, run_underlying ht, Result.andThen_ok, hsb]
  simp [sizeOf, typeInfo, hi', hzz.2.1]
 simp [Instr.sliceAt, run_underlying ht, hrun]
end
theorem pop_sl {w : World} {Q : Option Addr} {q1 c1 : Nat} {L : List Int} (h : IS w Q (c1 + 1) L) (hq : L.length = q1 + 1) :
  ∃ Q1, (∀ w', (Instr.sliceAt 23 (.slice Q (q1 + 1) (c1 + 1)) (some (.int .i64 1)) none none).run Tryz.prog w' = .ok (.slice Q1 q1 c1) w') ∧ IS w Q1 c1 (L.drop 1) ∧ ∀ b, b ∈ fpA Q1 → b ∈ fpA Q := by
 have hs : Sl w tInt 1 Q (q1 + 1) (c1 + 1) (ints L) := by unfold IS at h; rwa [hq] at h
 obtain ⟨A', h1, h2, h3⟩ := Sl.slicedG hs 23 (P := Tryz.prog) Tryz.underlying23 info_int (some (.int .i64 ((1 : Nat) : Int))) none none 1 (q1 + 1) (c1 + 1) (optSome rfl) (optNone ⟨rfl, rfl⟩) (optNone rfl) (by omega) (Nat.le_refl _) (by have := hs.2.1; omega) (Nat.le_refl _)
 refine ⟨A', h1, ?_, h3⟩
 unfold IS
 have e : ints (L.drop 1) = ((ints L).drop (1 * 1)).take ((q1 + 1 - 1) * 1) := by
  rw [List.take_of_length_le (by simp [hq])]
  simp [ints]
 rw [e, List.length_drop, hq]
 exact h2
section
variable {W w : World} {n : Nat} {es : List Eg} {x1 x2 x3 : Value} {b : Nat} {Bf Bh : Addr} {mw me : Nat} {s : WE} {qd : Nat} {Q O : Option Addr} {qn qc on oc : Nat}
theorem KW.pop (h : KW W n es x1 x2 x3 b Bf Bh mw me s qd w Q qn qc O on oc) {Q1 : Option Addr} {q1 c1 : Nat} (hq : qn = q1 + 1) (hI : IS w Q1 c1 ((s.1.drop qd).drop 1)) (hf : ∀ x, x ∈ fpA Q1 → x ∈ fpA Q) :
  KW W n es x1 x2 x3 b Bf Bh mw me s (qd + 1) (w.setCell ⟨b, 8, none⟩ (.slice Q1 q1 c1)) Q1 q1 c1 O on oc ∧ StepK b mw me w Q O (w.setCell ⟨b, 8, none⟩ (.slice Q1 q1 c1)) Q1 O := by
 obtain ⟨s1, s2, s3, s4⟩ := h.sep
 obtain ⟨t1, t2⟩ := set10_8 (x := .slice Q1 q1 c1) h.box
 have hln := h.qln
 rw [List.length_drop, hq] at hln
 have hbfe : ∀ x, x ∈ fpA (some Bf) → x = Bf.block := fun x hx => by simpa using hx
 have hbhe : ∀ x, x ∈ fpA (some Bh) → x = Bh.block := fun x hx => by simpa using hx
 have hown : ∀ x, OwnK b mw me Q1 O x → OwnK b mw me Q O x := fun x hx => by
  rcases hx with hx | hx | hx | hx | hx
  · exact .inl hx
  · exact .inr (.inl hx)
  · exact .inr (.inr (.inl hx))
  · exact .inr (.inr (.inr (.inl (hf x hx))))
  · exact .inr (.inr (.inr (.inr hx)))
 have hd : s.1.drop (qd + 1) = (s.1.drop qd).drop 1 := by rw [List.drop_drop]
 refine ⟨⟨t1, h.bef.keeps t2 fun x hx e => h.off.1 (.inl ((hbfe x hx).symm.trans e)), h.beh.keeps t2 fun x hx e => h.off.2 (.inl ((hbhe x hx).symm.trans e)), h.wir.keeps t2 s1, h.edg.keeps t2 s2, ?_, h.ord.keeps t2 fun x hx e => (s4 x hx).1 e, ?_, h.oln, by omega, fun x hx => h.new x (hown x hx), h.bfn, ⟨fun hx => h.off.1 (hown _ hx), fun hx => h.off.2 (hown _ hx)⟩, fun x hx => h.qo x (hf x hx), h.mne, below_keeps h.bel t2 h.bel.size fun x e => h.new x (.inl e)⟩, t2.mono fun x _ e => .inl e, fun x hx => .inl (hown x hx)⟩
 · rw [hd]
   exact hI.keeps t2 fun x hx e => (s3 x (hf x hx)).1 e
 · rw [List.length_drop]
   omega
end
set_option maxRecDepth 100000 in
set_option maxHeartbeats 8000000 in
theorem walk_any {W : World} {g : Gr} {n m c : Nat} {hs : List EHd} {A : Option Addr} {x2 x3 : Value} {b : Nat} {Bf Bh : Addr} {mw me : Nat} {s : WE} {Q O : Option Addr} {qn qc on oc : Nat} (w : World)
  (h : KW W n g.2.1 (.slice A m c) x2 x3 b Bf Bh mw me s 0 w Q qn qc O on oc) (hE : RdE W A hs) (e1 : g.2.1 = hs.map egOf) (hm : hs.length = m) (hMo : Mono g n) (hs0 : WInv g n s) :
  Calls Tryz.prog 107 #[.pointer (some ⟨b, 0, none⟩)] w (PostK W n g.2.1 (.slice A m c) x2 x3 b Bf Bh mw me (finW g s) (finW g s).1.length w Q O) := by
 have hn100 := hMo.n100
 have hWk := fun k => hs0.walk hMo k
 have hfin := fun k => finW_eq hMo (s := s) (k := k)
 have h_h := lH h; have hE_h := lH hE; have e1_h := lH e1; have hm_h := lH hm; have hMo_h := lH hMo; have hs0_h := lH hs0; have hWk_h := lH hWk; have hfin_h := lH hfin; clear h hE e1 hm hMo hs0 hWk hfin
 go_enter Tryz.func107, Tryz.ntmps107
 go_wp2_with (fail)
 go_loopg [2] (n + 1) (fun gk (_ : Value) wr => ∃ (k : Nat) (Q' : Option Addr) (qn' qc' : Nat) (O' : Option Addr) (on' oc' : Nat), k + gk = n + 1 ∧ k ≤ n ∧ KW W n g.2.1 (.slice A m c) x2 x3 b Bf Bh mw me (walkTo g s k) k wr Q' qn' qc' O' on' oc' ∧ StepK b mw me w Q O wr Q' O')
 case atStart => exact ⟨0, Q, qn, qc, O, on, oc, by omega, Nat.zero_le _, h_h.out, StepK.refl _ _ _ _ _ _⟩
 case round =>
  obtain ⟨k, Q', qn', qc', O', on', oc', hgk, hk, hK, hS⟩ := hrel
  obtain ⟨wo, rfl⟩ : ∃ x, x = wr := ⟨_, rfl⟩
  obtain ⟨⟨c0, c1, c2, c3, c4, c5, c6, c7, c8, c9⟩, f8, f9⟩ := box10 hK.box
  have hqle := hK.qle
  have hqln := hK.qln
  have hwle := (hWk_h.out k).le.1
  rw [List.length_drop] at hqln
  by_cases hlt : 0 < qn'
  · have hkl : k < (walkTo g s k).1.length := by omega
    obtain ⟨x, hx⟩ : ∃ x, (walkTo g s k).1[k]? = some x := ⟨_, List.getElem?_eq_getElem hkl⟩
    have hxr := (hWk_h.out k).rg1 x (List.mem_of_getElem? hx)
    obtain ⟨xx, rfl⟩ : ∃ xx : Nat, x = (xx : Int) := ⟨x.toNat, by omega⟩
    have hq0 : ((walkTo g s k).1.drop k)[0]? = some (xx : Int) := by rw [List.getElem?_drop]; exact hx
    obtain ⟨qa, hqa, p0'⟩ := hK.que.rd 0 _ hq0
    have p0 : wo.cell? qa = some (.int .i64 (xx : Int)) := p0'
    have hqcl := hK.que.2.1
    obtain ⟨q1, rfl⟩ : ∃ q1, qn' = q1 + 1 := ⟨qn' - 1, by omega⟩
    obtain ⟨c1', rfl⟩ : ∃ c1', qc' = c1' + 1 := ⟨qc' - 1, by rw [List.length_drop] at hqcl; omega⟩
    obtain ⟨Q1, hsl, hI1, hf1⟩ := pop_sl hK.que (by rw [List.length_drop]; exact hqln)
    obtain ⟨hK1, hS1⟩ := hK.pop rfl hI1 hf1
    have hgt : decide ((q1 : Int) + 1 > 0) = true := decide_eq_true (by omega)
    subst hqa
    clear hI1 hf1 hqln hqle hwle hq0 hqcl; have hK_h := lH hK; have hS_h := lH hS; have hK1_h := lH hK1; have hS1_h := lH hS1; have hx_h := lH hx; clear hK hS hK1 hS1 hx
    have hst : walkTo g s (k + 1) = stepE g (stepE g (walkTo g s k) (toE g (xx : Int))) (fromE g (xx : Int)) := by
     show roundW g (walkTo g s k) k = _
     unfold roundW
     rw [if_pos hkl, show (walkTo g s k).1.getD k 0 = (xx : Int) by rw [List.getD_eq_getElem?_getD, hx_h.out]; rfl]
    have hml : g.2.1.length = m := by rw [e1_h.out, List.length_map, hm_h.out]
    have ht1 := toE_rng g (xx : Int)
    have ht2 := fromE_rng g (xx : Int)
    rw [hml] at ht1 ht2
    clear p0'; have hst_h := lH hst; have hml_h := lH hml; clear hst hml
    go_upto_region 3 with (fail)
    generalize (wo.setCell ⟨b, 8, none⟩ (.slice Q1 q1 c1')) = w1 at hK1_h hS1_h ⊢
    clear c0 c1 c2 c3 c4 c5 c6 c7 c8 c9 f8 f9 p0 hsl hgt
    obtain ⟨⟨c0, c1, c2, c3, c4, c5, c6, c7, c8, c9⟩, f8, f9⟩ := box10 hK1_h.out.box
    obtain ⟨za, hza, p1⟩ := hK1_h.out.beh.rd xx _ (tabK_get (by omega))
    obtain rfl := Option.some.inj hza
    have hce := edge_any (toE g (xx : Int)) w1 hK1_h.out hE_h.out e1_h.out hm_h.out hMo_h.out (hWk_h.out k) ht1.2
    rw [show atE inE g.2.1 g.2.1.length (xx : Int) = toE g (xx : Int) from rfl] at p1
    obtain ⟨tt, htt⟩ : ∃ tt, toE g (xx : Int) = tt := ⟨_, rfl⟩
    rw [htt] at p1 hce ht1
    have hin1 := (hWk_h.out k).step hMo_h.out (e := tt) (by rw [hml_h.out]; exact ht1.2)
    have hxn : (xx : Int) < (n : Int) := hxr.2
    clear hza; have hce_h := lH hce; have htt_h := lH htt; have hin1_h := lH hin1; clear hce htt hin1
    go_wp2_with (fail)
    refine (hce_h.out).mono ?_
    rintro e w2 ⟨rfl, Q2, qn2, qc2, O2, on2, oc2, hK2, hS2⟩
    clear c0 c1 c2 c3 c4 c5 c6 c7 c8 c9 f8 f9 p1 hce_h
    obtain ⟨⟨c0, c1, c2, c3, c4, c5, c6, c7, c8, c9⟩, f8, f9⟩ := box10 hK2.box
    obtain ⟨za, hza, p1⟩ := hK2.bef.rd xx _ (tabK_get (by omega))
    obtain rfl := Option.some.inj hza
    rw [show atE outE g.2.1 g.2.1.length (xx : Int) = fromE g (xx : Int) from rfl] at p1
    have hce := edge_any (fromE g (xx : Int)) w2 hK2 hE_h.out e1_h.out hm_h.out hMo_h.out hin1_h.out ht2.2
    rw [← htt_h.out, ← hst_h.out] at hce
    obtain ⟨tf, htf⟩ : ∃ tf, fromE g (xx : Int) = tf := ⟨_, rfl⟩
    rw [htf] at p1 hce ht2
    have hS12 := (hS_h.out.trans hS1_h.out).trans hS2
    clear hza hS2 hS1_h hS_h hK1_h hK_h hK2; have hce_h := lH hce; have htf_h := lH htf; have hS12_h := lH hS12; clear hce htf hS12
    go_wp2_with (fail)
    refine (hce_h.out).mono ?_
    rintro e w3 ⟨rfl, Q3, qn3, qc3, O3, on3, oc3, hK3, hS3⟩
    have hS13 := hS12_h.out.trans hS3
    have hkn : k + 1 ≤ n := by have := (hWk_h.out k).le.1; omega
    clear hS3 hS12_h hce_h c0 c1 c2 c3 c4 c5 c6 c7 c8 c9 f8 f9 p1; have hK3_h := lH hK3; have hS13_h := lH hS13; clear hK3 hS13
    go_wp2_with (fail)
    go_roundg (gk - 1)
    case measure => omega
    case rel => exact ⟨k + 1, Q3, qn3, qc3, O3, on3, oc3, by omega, hkn, hK3_h.out, hS13_h.out⟩
  · obtain rfl : qn' = 0 := by omega
    have hend := hfin_h.out k hk (by omega)
    have hlen : (walkTo g s k).1.length = k := by omega
    clear hqle hqln hwle; have hK_h := lH hK; have hS_h := lH hS; have hend_h := lH hend; have hlen_h := lH hlen; clear hK hS hend hlen
    go_wp2_with (fail)
    go_end0
    refine ⟨rfl, Q', 0, qc', O', on', oc', ?_, hS_h.out⟩
    rw [hend_h.out, hlen_h.out]
    exact hK_h.out
theorem OI.low {w0 w w' : World} {A : Option Addr} {c : Nat} {l : List Int} (h : OI w0 w A c l) (hb : Below w.heap.size w w') : OI w0 w' A c l := ⟨h.is.below hb, h.new, below_trans h.below_ hb h.below_.size⟩
theorem OI.sl {w0 w : World} {A : Option Addr} {c n : Nat} {l : List Int} (h : OI w0 w A c l) (hn : l.length = n) : Sl w tInt 1 A n c (ints l) := by
 have := h.is
 unfold IS at this
 rwa [hn] at this
set_option maxRecDepth 100000 in
set_option maxHeartbeats 8000000 in
theorem code_any {W : World} {g : Gr} {n m c : Nat} {hs : List EHd} {A : Option Addr} {x2 x3 : Value} {b : Nat} {Bf Bh : Addr} {mw me : Nat} {s : WE} {qd : Nat} {Q O : Option Addr} {qn qc on oc : Nat} (w : World)
  (h : KW W n g.2.1 (.slice A m c) x2 x3 b Bf Bh mw me s qd w Q qn qc O on oc) (hE : RdE W A hs) (e1 : g.2.1 = hs.map egOf) (hm : hs.length = m) (hMo : Mono g n) (hs0 : WInv g n s) :
  Calls Tryz.prog 122 #[.pointer (some ⟨b, 0, none⟩)] w (RetI w (codeM g s)) := by
 have hn100 := hMo.n100
 have hle := hs0.le
 have hm60 : m ≤ 60 := by have := hMo.m60; rw [e1, List.length_map, hm] at this; exact this
 have hon : on ≤ 60 := by rw [← h.oln]; rw [e1, List.length_map, hm] at hle; omega
 obtain ⟨⟨c0, c1, c2, c3, c4, c5, c6, c7, c8, c9⟩, f8, f9⟩ := box10 h.box
 have hcl := codeTo_len (g := g) (s := s) (fun x hx => by
  have hr := hs0.rg2 x hx
  have he := hMo.kind _ (edge_mem (g := g) (i := x.toNat) (by omega))
  obtain ⟨⟨l1, l2⟩, _⟩ := egB_len he
  unfold edgeAt wiresE
  rw [List.length_append]
  omega)
 have hO0 : OI w (w.alloc (.cells #[] tInt)) (some ⟨w.heap.size, 0, none⟩) 0 (codeTo g s 0) := by
  refine ⟨by unfold IS; simpa [ints, codeTo] using Sl.laid w tInt 1 0 #[] (Nat.zero_le _) rfl, fun b hb => ?_, (Below.refl _ _).alloc (Nat.le_refl _) _⟩
  have : b = w.heap.size := by simpa using hb
  subst this; exact Nat.le_refl _
 have hb0 := t_below_alloc w (.cells #[] tInt)
 obtain ⟨⟨y0, y1, y2, y3, y4, y5, y6, y7, y8, y9⟩, g8, g9⟩ := box10 (t_box_below h.box hb0)
 have h_h := lH h; have hE_h := lH hE; have e1_h := lH e1; have hm_h := lH hm; have hMo_h := lH hMo; have hs0_h := lH hs0; have hle_h := lH hle; have hcl_h := lH hcl; have hO0_h := lH hO0; have hb0_h := lH hb0; clear h hE e1 hm hMo hs0 hle hcl hO0 hb0
 go_enter Tryz.func122, Tryz.ntmps122
 go_wp2_with (fail)
 clear c0 c1 c2 c3 c4 c5 c6 c7 c8 c9 f8 f9 y0 y1 y2 y3 y4 y5 y6 y7 y8 y9 g8 g9
 go_loopw [15, 3] (fun i v wr => ∃ (k : Nat) (D : Option Addr) (dc dl : Nat), k ≤ on ∧ i = .int .i64 k ∧ v = .slice D dl dc ∧ (codeTo g s k).length = dl ∧ OI w wr D dc (codeTo g s k)) (fun i _ _ => on - (intOf i).toNat)
 case atStart => exact ⟨0, _, 0, 0, Nat.zero_le _, rfl, rfl, rfl, hO0_h.out⟩
 case round =>
  clear hO0_h
  obtain ⟨k, D, dc, dl, hk, rfl, rfl, hdl, hO⟩ := hrel
  obtain ⟨wo, rfl⟩ : ∃ x, x = wr := ⟨_, rfl⟩
  have hKo := h_h.out.below hO.below_
  have hoo : s.2.length = on := hKo.oln
  by_cases hlt : k < on
  · obtain ⟨e, he⟩ : ∃ e, s.2[k]? = some e := ⟨_, List.getElem?_eq_getElem (by omega)⟩
    have hem := List.mem_of_getElem? he
    have her := hs0_h.out.rg2 e hem
    obtain ⟨ee, rfl⟩ : ∃ ee : Nat, e = (ee : Int) := ⟨e.toNat, by omega⟩
    have hml : g.2.1.length = m := by rw [e1_h.out, List.length_map, hm_h.out]
    obtain ⟨oa, hoa, p0⟩ := hKo.ord.rd k _ he
    subst hoa
    have hBW := hKo.bel
    obtain ⟨ad, κ, vl, B1, b1, l1, C1, b2, l2, hae, hn1, ⟨d0, d1, d2, d3⟩, hr1, hr2⟩ := (hE_h.out.below hBW).at_ (j := ee) (by rw [hm_h.out]; omega)
    subst hae
    have hed : edgeAt g (ee : Int) = (κ, vl, l1, l2) := by
     unfold edgeAt
     rw [Int.toNat_natCast, List.getD_eq_getElem?_getD, e1_h.out, List.getElem?_map, hn1]
     rfl
    obtain ⟨⟨g1, g2⟩, _⟩ := egB_len (hMo_h.out.kind (κ, vl, l1, l2) (by rw [e1_h.out]; exact List.mem_map.2 ⟨_, List.mem_of_getElem? hn1, rfl⟩))
    simp only at g1 g2
    obtain ⟨l, hl⟩ : ∃ l, l = l1 ++ l2 := ⟨_, rfl⟩
    have hwe : wiresE (edgeAt g (ee : Int)) = l := by rw [hed, hl]; rfl
    have hlm : ∀ x, x ∈ l → x ∈ s.1 := fun x hx => hs0_h.out.clo (ee : Int) hem x (by rw [hwe]; exact hx)
    have hcs := codeTo_step (g := g) he
    have hce : codeE s.1 (edgeAt g (ee : Int)) = [κ, vl] ++ l.map (idx s.1) := by unfold codeE; rw [hwe, hed]
    rw [hce] at hcs
    obtain ⟨p, hp⟩ : ∃ p, l.length = p := ⟨_, rfl⟩
    have hp4 : p ≤ 4 := by rw [← hp, hl, List.length_append]; omega
    obtain ⟨p1, hp1⟩ : ∃ p1, l1.length = p1 := ⟨_, rfl⟩
    obtain ⟨p2, hp2⟩ : ∃ p2, l2.length = p2 := ⟨_, rfl⟩
    rw [hp1] at d2
    rw [hp2] at d3
    have hdl360 : dl ≤ 360 := by have := hcl_h.out k; omega
    obtain ⟨⟨c0, c1, c2, c3, c4, c5, c6, c7, c8, c9⟩, f8, f9⟩ := box10 hKo.box
    obtain ⟨W6, hW6, bW6, k6⟩ := (⟨_, rfl, t_below_alloc _ _, heap_alloc_new _ _⟩ : ∃ W, W = wo.alloc (.cells #[.int .i64 κ, .int .i64 vl, .slice B1 p1 b1, .slice C1 p2 b2] tEd) ∧ Below wo.heap.size wo W ∧ W.heap[wo.heap.size]? = some (.cells #[.int .i64 κ, .int .i64 vl, .slice B1 p1 b1, .slice C1 p2 b2] tEd))
    have hO6 := hO.low bW6
    have hb7 := t_below_alloc W6 (.cells #[.int .i64 κ, .int .i64 vl] tInt)
    have hsl7 := (hO6.low hb7).sl hdl
    obtain ⟨⟨u0, u1, u2, u3⟩, v0, v1, v2, v3⟩ := t_box4 k6
    have heI : (ee : Int) < (m : Int) := by omega
    have hkI : (k : Int) < (on : Int) := by omega
    clear hed hce her hem hoo; have hn1_h := lH hn1; have hKo_h := lH hKo; have hO_h := lH hO; have hdl_h := lH hdl; have he_h := lH he; have hml_h := lH hml; have hBW_h := lH hBW; have hr1_h := lH hr1; have hr2_h := lH hr2; have hl_h := lH hl; have hwe_h := lH hwe; have hlm_h := lH hlm; have hcs_h := lH hcs; have hp_h := lH hp; have hp1_h := lH hp1; have hp2_h := lH hp2; have bW6_h := lH bW6; have k6_h := lH k6; have hO6_h := lH hO6; have hb7_h := lH hb7; have hsl7_h := lH hsl7; clear hn1 hKo hO hdl he hml hBW hr1 hr2 hl hwe hlm hcs hp hp1 hp2 bW6 k6 hO6 hb7 hsl7
    go_upto_region 6 with (fail)
    rw [← hW6]
    clear hW6 c0 c1 c2 c3 c4 c5 c6 c7 c8 c9 f8 f9 d0 d1 d2 d3 p0
    go_wp2_with (at_builtin; refine wpList_append_Sl _ rfl _ _ _ rfl 3 Tryz.underlying23 info_int rfl (by omega) rfl hsl7_h.out rfl (news := [.int .i64 κ, .int .i64 vl]) rfl (Sl.rdc (Sl.laid W6 3 1 2 #[.int .i64 κ, .int .i64 vl] (by unfold maxLen; omega) rfl)) (by intro u hu; simp at hu; rcases hu with rfl | rfl <;> rfl) (by unfold maxLen; omega) (by omega) ?_; intro A5 cap5 w7 hs7 hA7 hk7; have hO7 := (hO6_h.out.low hb7_h.out).join (v := [κ, vl]) (n := dl + 2) (by rw [hdl_h.out]; rfl) hs7 hA7 hk7; have k7 := t_box_keeps (t_box_below k6_h.out hb7_h.out) hk7 (fun h => by have := hO_h.out.is.lt _ h; omega); clear hs7 hA7 hk7 u0 u1 u2 u3 v0 v1 v2 v3; obtain ⟨⟨u0, u1, u2, u3⟩, v0, v1, v2, v3⟩ := t_box4 k7; have hO7_h := lH hO7; have k7_h := lH k7; clear hO7 k7)
    have hB7 := (h_h.out.below hO7_h.out.below_).bel
    have hrr := (hE_h.out.below hB7).2 _ (List.mem_of_getElem? hn1_h.out)
    have hJ0 := joined_any (some ⟨w7.heap.size, 0, none⟩) 2 [(B1, b1, l1), (C1, b2, l2)] (w7.alloc (.cells #[.slice B1 l1.length b1, .slice C1 l2.length b2] 23)) (rd2 hrr.1 hrr.2) (by simp) (by simp; omega)
    rw [show (([(B1, b1, l1), (C1, b2, l2)] : List Hd).map fun h : Hd => h.2.2).flatten = l by rw [hl_h.out]; simp, hp1_h.out, hp2_h.out] at hJ0
    have hJ : Calls Tryz.prog 80 #[.slice (some ⟨w7.heap.size, 0, none⟩) 2 2] (w7.alloc (.cells #[.slice B1 p1 b1, .slice C1 p2 b2] 23)) (RetI (w7.alloc (.cells #[.slice B1 p1 b1, .slice C1 p2 b2] 23)) l) := hJ0
    unfold RetI at hJ
    rw [hp_h.out] at hJ
    clear hrr hJ0 hsl7_h hb7_h hO6_h k6_h; have hJ_h := lH hJ; have hB7_h := lH hB7; clear hJ hB7
    go_wp2_with (fail)
    refine (hJ_h.out).mono ?_
    rintro e w8 ⟨A8, cap8, rfl, hI8, hF8, hb8⟩
    have hz7 := (t_below_alloc w7 (.cells #[.slice B1 p1 b1, .slice C1 p2 b2] 23)).size
    have hO8 := hO7_h.out.low (below_trans (t_below_alloc w7 (.cells #[.slice B1 p1 b1, .slice C1 p2 b2] 23)) hb8 hz7)
    have hA8 : ∀ x, x ∈ fpA A8 → ¬ x ∈ fpA A5 := fun x hx hh => by
     have := hO7_h.out.is.lt x hh
     have := hF8 x hx
     omega
    have hlen8 : (codeTo g s k ++ [κ, vl] ++ (l.take 0).map (idx s.1)).length = dl + 2 := by simp only [List.take_zero, List.map_nil, List.append_nil, List.length_append, List.length_cons, List.length_nil]; rw [hdl_h.out]
    have hO8' : OI w w8 A5 cap5 (codeTo g s k ++ [κ, vl] ++ (l.take 0).map (idx s.1)) := by simpa using hO8
    clear hF8 hb8 hz7 hO8 hO7_h hB7_h hJ_h u0 u1 u2 u3 v0 v1 v2 v3 k7_h; have hI8_h := lH hI8; have hA8_h := lH hA8; have hlen8_h := lH hlen8; have hO8'_h := lH hO8'; clear hI8 hA8 hlen8 hO8'
    go_wp2_with (fail)
    go_loopw [41, 3] (fun i v wr => ∃ (j : Nat) (D : Option Addr) (dc d2 : Nat), j ≤ p ∧ i = .int .i64 j ∧ v = .slice D d2 dc ∧ (codeTo g s k ++ [κ, vl] ++ (l.take j).map (idx s.1)).length = d2 ∧ OI w wr D dc (codeTo g s k ++ [κ, vl] ++ (l.take j).map (idx s.1)) ∧ IS wr A8 cap8 l ∧ ∀ x, x ∈ fpA A8 → ¬ x ∈ fpA D) (fun i _ _ => p - (intOf i).toNat)
    case atStart => exact ⟨0, A5, cap5, dl + 2, Nat.zero_le _, rfl, rfl, hlen8_h.out, hO8'_h.out, hI8_h.out, hA8_h.out⟩
    case round =>
     clear hI8_h hA8_h hlen8_h hO8'_h
     obtain ⟨j, D1, dc1, d2, hj, rfl, rfl, hd2, hO1, hI1, hA1⟩ := hrel
     obtain ⟨wi, rfl⟩ : ∃ x, x = wr := ⟨_, rfl⟩
     have hd4 : d2 = dl + 2 + min j p := by rw [← hd2]; simp only [List.length_append, List.length_cons, List.length_nil, List.length_map, List.length_take]; rw [hdl_h.out, hp_h.out]
     by_cases hltj : j < p
     · obtain ⟨x, hx⟩ : ∃ x, l[j]? = some x := ⟨_, List.getElem?_eq_getElem (by rw [hp_h.out]; exact hltj)⟩
       have hxm := hlm_h.out x (List.mem_of_getElem? hx)
       have hxr := hs0_h.out.rg1 x hxm
       have hwf : (Lit.int .i64 x).wf = true := WalkArith.wf_i64 (by omega)
       obtain ⟨q, hq⟩ : ∃ q, look s.1 x = q := ⟨_, rfl⟩
       have hqi : idx s.1 x = q := by rw [← hq, look_mem hxm]
       obtain ⟨ja, hja, p0⟩ := hI1.rd j _ hx
       subst hja
       have hKi := h_h.out.below hO1.below_
       have hMI := hKi.wir
       obtain ⟨⟨c0, c1, c2, c3, c4, c5, c6, c7, c8, c9⟩, f8, f9⟩ := box10 hKi.box
       have hb9 := t_below_alloc wi (.cells #[.int .i64 q] tInt)
       have hsl9 := (hO1.low hb9).sl hd2
       have hd100 : d2 ≤ 400 := by omega
       have hst : codeTo g s k ++ [κ, vl] ++ (l.take (j + 1)).map (idx s.1) = codeTo g s k ++ [κ, vl] ++ (l.take j).map (idx s.1) ++ [q] := by
        rw [List.take_add_one, hx, List.map_append, ← List.append_assoc]
        simp [hqi]
       have hjI : (j : Int) < (p : Int) := by omega
       have hnd := hs0_h.out.nd1
       clear hqi hx hxm hd4; have hO1_h := lH hO1; have hI1_h := lH hI1; have hA1_h := lH hA1; have hMI_h := lH hMI; have hq_h := lH hq; have hnd_h := lH hnd; have hKi_h := lH hKi; have hb9_h := lH hb9; have hsl9_h := lH hsl9; have hst_h := lH hst; have hd2_h := lH hd2; clear hO1 hI1 hA1 hMI hq hnd hKi hb9 hsl9 hst hd2
       go_wp2_with (first | (at_lookup; refine wp_mi_get rfl _ _ rfl rfl hMI_h.out hnd_h.out x rfl hwf q hq_h.out ?_) | (at_builtin; refine wpList_append_Sl _ rfl _ _ _ rfl 3 Tryz.underlying23 info_int rfl (by omega) rfl hsl9_h.out rfl (news := [.int .i64 q]) rfl (Sl.rdc (Sl.laid wi 3 1 1 #[.int .i64 q] (by unfold maxLen; omega) rfl)) (by intro u hu; simp at hu; subst hu; rfl) (by unfold maxLen; omega) (by omega) ?_; intro A9 cap9 w9 hs9 hA9 hk9))
       have hO9 := (hO1_h.out.low hb9_h.out).join (v := [q]) (n := d2 + 1) (by rw [hd2_h.out]; rfl) hs9 hA9 hk9
       have hI9 := (hI1_h.out.below hb9_h.out).keeps hk9 fun x hx => hA1_h.out x hx
       have hA9' : ∀ x, x ∈ fpA (some ja) → ¬ x ∈ fpA A9 := fun x hx hh => by
        rcases hA9 x hh with h1 | h1
        · exact hA1_h.out x hx h1
        · have h2 : wi.heap.size ≤ x := Nat.le_trans hb9_h.out.size h1
          have := hI1_h.out.lt x hx
          omega
       have hd9 : (codeTo g s k ++ [κ, vl] ++ (l.take (j + 1)).map (idx s.1)).length = d2 + 1 := by rw [hst_h.out, List.length_append, hd2_h.out]; rfl
       rw [← hst_h.out] at hO9
       clear hs9 hA9 hk9; have hO9_h := lH hO9; have hI9_h := lH hI9; have hA9'_h := lH hA9'; have hd9_h := lH hd9; clear hO9 hI9 hA9' hd9
       go_roundw
       case rel => exact ⟨j + 1, A9, cap9, d2 + 1, by omega, by go_num, rfl, hd9_h.out, hO9_h.out, hI9_h.out, hA9'_h.out⟩
       case measure => simp [intOf]; omega
     · obtain rfl : p = j := by omega
       have hfin : codeTo g s (k + 1) = codeTo g s k ++ [κ, vl] ++ (l.take p).map (idx s.1) := by
        rw [hcs_h.out, List.take_of_length_le (by rw [hp_h.out]; exact Nat.le_refl _), List.append_assoc]
       rw [← hfin] at hO1 hd2
       clear hI1 hA1 hfin hd4; have hO1_h := lH hO1; have hd2_h := lH hd2; clear hO1 hd2
       go_wp2_with (fail)
       go_roundw
       case rel => exact ⟨k + 1, D1, dc1, d2, by omega, by go_num, rfl, hd2_h.out, hO1_h.out⟩
       case measure => simp [intOf]; omega
  · obtain rfl : on = k := by omega
    have hend := codeTo_all g s (k := on) (by omega)
    rw [hend] at hO hdl
    clear hoo; have hO_h := lH hO; have hKo_h := lH hKo; have hdl_h := lH hdl; have hend_h := lH hend; clear hO hKo hdl hend
    go_wp2_with (fail)
    go_ret
    exact ⟨D, dc, by rw [hdl_h.out]; rfl, hO_h.out.is, hO_h.out.new, hO_h.out.below_⟩
def blkA : Value → List Nat
 | .agg cs => cs.toList.flatMap blkV
 | v => blkV v
def EndV (n : Nat) (es : List Eg) (v : Value) (w : World) : Prop := ∃ Bf Bh : Addr, v = .agg #[.slice (some Bf) n n, .slice (some Bh) n n] ∧ IS w (some Bf) n (tabK outE es n es.length) ∧ IS w (some Bh) n (tabK inE es n es.length) ∧ Bf.block ≠ Bh.block
def MapV (v : Value) (w : World) : Prop := ∃ b, v = .map (some b) ∧ MI w b []
theorem EndV.stb (n : Nat) (es : List Eg) : Stb (EndV n es) := fun _ _ _ ⟨Bf, Bh, e, h1, h2, h3⟩ hb => ⟨Bf, Bh, e, h1.below hb, h2.below hb, h3⟩
theorem MapV.stb : Stb MapV := fun _ _ _ ⟨b, e, h⟩ hb => ⟨b, e, h.below hb⟩
def BldV (n : Nat) (x1 x2 x3 v5 v6 v7 v : Value) : Prop := ∃ (Bf Bh : Addr) (mw me : Nat), v5 = .agg #[.slice (some Bf) n n, .slice (some Bh) n n] ∧ v6 = .map (some mw) ∧ v7 = .map (some me) ∧ v = .agg #[.int .i64 (n : Int), x1, x2, x3, .slice (some Bf) n n, .slice (some Bh) n n, .map (some mw), .map (some me), .slice none 0 0, .slice none 0 0]
def PtrV (v8 v : Value) (w : World) : Prop := ∃ (b : Nat) (cs : Array Value), v = .pointer (some ⟨b, 0, none⟩) ∧ v8 = .agg cs ∧ w.heap[b]? = some (.cells cs tWk)
set_option maxRecDepth 100000 in
set_option maxHeartbeats 8000000 in
theorem walkerOf_any {g : Gr} {n m c p bb r d : Nat} {A B C : Option Addr} (w : World) (h : RdGr w (.agg #[.int .i64 (n : Int), .slice A m c, .slice B p bb, .slice C r d]) g) (hMo : Mono g n) :
  Calls Tryz.prog 105 #[.agg #[.int .i64 (n : Int), .slice A m c, .slice B p bb, .slice C r d]] w fun e w' => ∃ (b : Nat) (Bf Bh : Addr) (mw me : Nat), e = .returned (.pointer (some ⟨b, 0, none⟩)) ∧ KW w n g.2.1 (.slice A m c) (.slice B p bb) (.slice C r d) b Bf Bh mw me ([], []) 0 w' none 0 0 none 0 0 := by
 have hn100 := hMo.n100
 have hmm := @run_makeMap Tryz.prog
 obtain ⟨W, hW, bW, k0⟩ := (⟨_, rfl, t_below_alloc _ _, heap_alloc_new _ _⟩ : ∃ W, W = w.alloc (.cells #[.int .i64 (n : Int), .slice A m c, .slice B p bb, .slice C r d] tGr) ∧ Below w.heap.size w W ∧ W.heap[w.heap.size]? = some (.cells #[.int .i64 (n : Int), .slice A m c, .slice B p bb, .slice C r d] tGr))
 have hC := fun (W' : World) (hb : Below w.heap.size w W') => ends_any W' n (h.below hb) hMo
 have h_h := lH h; have hMo_h := lH hMo; have bW_h := lH bW; have k0_h := lH k0; have hC_h := lH hC; clear h hMo bW k0 hC
 go_enter Tryz.func105, Tryz.ntmps105
 go_upto_region 1 with (fail)
 rw [← hW]
 clear hW
 refine beginH (fun w' => Below w.heap.size w w') (by kernel_rfl) ?_
 have hbd : Below w.heap.size w W.drew := below_drewN bW_h.out 1
 have k1 : W.drew.heap[w.heap.size]? = some (.cells #[.int .i64 (n : Int), .slice A m c, .slice B p bb, .slice C r d] tGr) := t_box_below k0_h.out (below_drewN (Below.refl W.heap.size W) 1)
 have hwW : w.heap.size ≤ W.drew.heap.size := hbd.size
 generalize W.drew = W1 at hbd k1 hwW ⊢
 refine relT [(0, 3), (1, 4), (2, 5), (3, 6), (4, 7), (5, 8), (6, 9), (7, 2)] (fun i => if i = 2 then [4] else if i = 5 then [3, 5, 6, 7] else if i = 6 then [8] else if i = 7 then [9] else [])
  (fun t xs v w => if t = 3 then v = .agg #[.int .i64 (n : Int), .slice A m c, .slice B p bb, .slice C r d] else if t = 4 then v = .agg #[.int .i64 (n : Int), .slice A m c, .slice B p bb, .slice C r d] else if t = 5 then EndV n g.2.1 v w else if t = 6 then MapV v w else if t = 7 then MapV v w else if t = 8 then BldV n (.slice A m c) (.slice B p bb) (.slice C r d) (xs 5) (xs 6) (xs 7) v else if t = 9 then PtrV (xs 8) v w else v = xs 9)
  (fun t v => if t = 3 then [] else if t = 4 then [] else if t = 8 then [] else if t = 2 then [] else blkA v) 0 rfl (by kernel_rfl) ?st1 ?co1 (fun w' hw' => below_trans hbd hw' hwW) ?sp1 ?fi1
 case st1 =>
  intro t xs
  refine Stb.ite (fun _ _ _ h _ => h) (Stb.ite (fun _ _ _ h _ => h) ((EndV.stb n g.2.1).ite (MapV.stb.ite (MapV.stb.ite (Stb.ite (fun _ _ _ h _ => h) (Stb.ite (fun _ _ _ ⟨b, cs, e1, e2, e3⟩ hb => ⟨b, cs, e1, e2, t_box_below e3 hb⟩) (fun _ _ _ h _ => h)))))))
 case co1 =>
  intro z hz xs ys v w hd h
  simp only [List.mem_cons, List.not_mem_nil, or_false] at hz
  rcases hz with rfl | rfl | rfl | rfl | rfl | rfl | rfl | rfl
  · exact h
  · exact h
  · exact h
  · exact h
  · exact h
  · have h5 := hd 5 (by decide)
    have h6 := hd 6 (by decide)
    have h7 := hd 7 (by decide)
    show BldV n (.slice A m c) (.slice B p bb) (.slice C r d) (ys 5) (ys 6) (ys 7) v
    rw [← h5, ← h6, ← h7]
    exact h
  · have h8 := hd 8 (by decide)
    show PtrV (ys 8) v w
    rw [← h8]
    exact h
  · have h9 := hd 9 (by decide)
    show v = ys 9
    rw [← h9]
    exact h
 case sp1 =>
  have hld : ∀ W', Below W1.heap.size W1 W' → _ := fun W' hb => t_box4 (t_box_below k1 hb)
  refine ⟨⟨_, rfl, fun xs w5 hb5 hd K hK => ?_⟩, ⟨_, rfl, fun xs w5 hb5 hd K hK => ?_⟩, ⟨_, rfl, fun xs w5 hb5 hd K hK => ?_⟩, ⟨_, rfl, fun xs w5 hb5 hd K hK => ?_⟩, ⟨_, rfl, fun xs w5 hb5 hd K hK => ?_⟩, ⟨_, rfl, fun xs w5 hb5 hd K hK => ?_⟩, ⟨_, rfl, fun xs w5 hb5 hd K hK => ?_⟩, ⟨_, rfl, fun xs w5 hb5 hd K hK => ?_⟩, trivial⟩
  · simp only [putZ, List.foldl_cons, List.foldl_nil, Act.put, nS] at hK ⊢
    obtain ⟨⟨y0, y1, y2, y3⟩, y4, y5, y6, y7⟩ := hld w5 hb5
    go_simp
    exact hK _ _ (Below.refl _ _) (by simp) fun b hb => by simp at hb
  · simp only [putZ, List.foldl_cons, List.foldl_nil, Act.put, nS] at hK ⊢
    obtain ⟨⟨y0, y1, y2, y3⟩, y4, y5, y6, y7⟩ := hld w5 hb5
    go_simp
    exact hK _ _ (Below.refl _ _) (by simp) fun b hb => by simp at hb
  · have h4 : xs 4 = .agg #[.int .i64 (n : Int), .slice A m c, .slice B p bb, .slice C r d] := hd 4 (by decide)
    simp only [putZ, List.foldl_cons, List.foldl_nil, Act.put, nS] at hK ⊢
    simp only [h4] at hK ⊢
    refine wp_callZ (f := ?f_1) (args := ?args_1) ?hr_1 ?hc_1
    case hr_1 => (go_simp; first | done | with_reducible rfl | (constructor <;> with_reducible rfl))
    case hc_1 =>
     refine (hC_h.out w5 (below_trans hbd hb5 hwW)).mono ?_
     rintro e w6 ⟨Bf, Bh, rfl, h1, h2, h3, h4', h5, hb6⟩
     refine ⟨_, rfl, hK _ _ hb6 (⟨Bf, Bh, rfl, h1, h2, h5⟩ : EndV n g.2.1 _ w6) fun b hb => ?_⟩
     have hb' : b ∈ blkA (.agg #[.slice (some Bf) n n, .slice (some Bh) n n]) := hb
     simp [blkA, blkV] at hb'
     rcases hb' with rfl | rfl
     · exact ⟨h3, h1.lt _ (by simp)⟩
     · exact ⟨h4', h2.lt _ (by simp)⟩
  · simp only [putZ, List.foldl_cons, List.foldl_nil, Act.put, nS] at hK ⊢
    go_simp
    exact hK _ _ (t_below_alloc _ _) (⟨_, rfl, MI.made w5⟩ : MapV _ _) fun b hb => by
     have hb' : b ∈ blkA (.map (some w5.heap.size)) := hb
     obtain rfl : b = w5.heap.size := by simpa [blkA, blkV] using hb'
     simp
  · simp only [putZ, List.foldl_cons, List.foldl_nil, Act.put, nS] at hK ⊢
    go_simp
    exact hK _ _ (t_below_alloc _ _) (⟨_, rfl, MI.made w5⟩ : MapV _ _) fun b hb => by
     have hb' : b ∈ blkA (.map (some w5.heap.size)) := hb
     obtain rfl : b = w5.heap.size := by simpa [blkA, blkV] using hb'
     simp
  · have h3 : xs 3 = .agg #[.int .i64 (n : Int), .slice A m c, .slice B p bb, .slice C r d] := hd 3 (by decide)
    obtain ⟨Bf, Bh, h5, _⟩ := (hd 5 (by decide) : EndV n g.2.1 (xs 5) w5)
    obtain ⟨mw, h6, _⟩ := (hd 6 (by decide) : MapV (xs 6) w5)
    obtain ⟨me, h7, _⟩ := (hd 7 (by decide) : MapV (xs 7) w5)
    simp only [putZ, List.foldl_cons, List.foldl_nil, Act.put, nS] at hK ⊢
    simp only [h3, h5, h6, h7] at hK ⊢
    go_simp
    exact hK _ _ (Below.refl _ _) (by simp; exact ⟨Bf, Bh, mw, me, rfl, rfl, rfl, rfl⟩) fun b hb => by cases hb
  · obtain ⟨Bf, Bh, mw, me, -, -, -, h8⟩ := (hd 8 (by decide) : BldV n (.slice A m c) (.slice B p bb) (.slice C r d) (xs 5) (xs 6) (xs 7) (xs 8))
    simp only [putZ, List.foldl_cons, List.foldl_nil, Act.put, nS] at hK ⊢
    simp only [h8] at hK ⊢
    go_simp
    exact hK _ _ (t_below_alloc _ _) (by simp; exact ⟨_, _, rfl, rfl, heap_alloc_new _ _⟩) fun b hb => by
     have hb' : b ∈ blkA (.pointer (some ⟨w5.heap.size, 0, none⟩)) := hb
     obtain rfl : b = w5.heap.size := by simpa [blkA, blkV] using hb'
     simp
  · obtain ⟨b, cs, h9, -⟩ := (hd 9 (by decide) : PtrV (xs 8) (xs 9) w5)
    simp only [putZ, List.foldl_cons, List.foldl_nil, Act.put, nS] at hK ⊢
    simp only [h9] at hK ⊢
    go_simp
    exact hK (.pointer (some ⟨b, 0, none⟩)) _ (Below.refl _ _) (by simp) fun b hb => by cases hb
 case fi1 =>
  intro xs w6 hb6 hR hO hD
  obtain ⟨Bf, Bh, h5, hI1, hI2, hne⟩ := (hR (2, 5) (by simp) : EndV n g.2.1 (xs 5) w6)
  obtain ⟨mw, h6, hM1⟩ := (hR (3, 6) (by simp) : MapV (xs 6) w6)
  obtain ⟨me, h7, hM2⟩ := (hR (4, 7) (by simp) : MapV (xs 7) w6)
  obtain ⟨Bf', Bh', mw', me', e5, e6, e7, h8⟩ := (hR (5, 8) (by simp) : BldV n (.slice A m c) (.slice B p bb) (.slice C r d) (xs 5) (xs 6) (xs 7) (xs 8))
  obtain ⟨b, cs, h9, e8, hbx⟩ := (hR (6, 9) (by simp) : PtrV (xs 8) (xs 9) w6)
  have h2 : xs 2 = xs 9 := hR (7, 2) (by simp)
  rw [h5] at e5
  rw [h6] at e6
  rw [h7] at e7
  obtain ⟨rfl, rfl⟩ : Bf = Bf' ∧ Bh = Bh' := by simpa using e5
  obtain rfl : mw = mw' := by simpa using e6
  obtain rfl : me = me' := by simpa using e7
  rw [h8] at e8
  obtain rfl := Value.agg.inj e8
  have o5 := hO (2, 5) (by simp)
  have o5f := o5 Bf.block (by show _ ∈ blkA (xs 5); rw [h5]; simp [blkA, blkV])
  have o5h := o5 Bh.block (by show _ ∈ blkA (xs 5); rw [h5]; simp [blkA, blkV])
  have o6 := hO (3, 6) (by simp) mw (by show _ ∈ blkA (xs 6); rw [h6]; simp [blkA, blkV])
  have o7 := hO (4, 7) (by simp) me (by show _ ∈ blkA (xs 7); rw [h7]; simp [blkA, blkV])
  have o9 := hO (6, 9) (by simp) b (by show _ ∈ blkA (xs 9); rw [h9]; simp [blkA, blkV])
  have d67 : mw ≠ me := fun e => hD (3, 6) (by simp) (4, 7) (by simp) (by decide) mw (by show _ ∈ blkA (xs 6); rw [h6]; simp [blkA, blkV]) (by show _ ∈ blkA (xs 7); rw [h7, e]; simp [blkA, blkV])
  have hbel := below_trans hbd hb6 hwW
  have n1 : ∀ x, x ∈ fpA (some Bf) → x = Bf.block := fun x hx => by simpa using hx
  have hoff : ∀ a : Addr, ∀ c l, IS w6 (some a) c l → ¬ OwnK b mw me none none a.block := fun a c l hI hx => by
   rcases hx with hx | hx | hx | hx | hx
   · exact is_ne_box hI hbx (by decide) hx
   · exact (hM1.ne_sl hI (x := a.block) (by simp)) hx.symm
   · exact (hM2.ne_sl hI (x := a.block) (by simp)) hx.symm
   · cases hx
   · cases hx
  have hKW : KW w n g.2.1 (.slice A m c) (.slice B p bb) (.slice C r d) b Bf Bh mw me ([], []) 0 w6 none 0 0 none 0 0 :=
   ⟨hbx, hI1, hI2, hM1, hM2, Sl.nil _ _ _, Sl.nil _ _ _, rfl, rfl, Nat.le_refl _, fun x hx => (by
    rcases hx with hx | hx | hx | hx | hx
    · omega
    · omega
    · omega
    · cases hx
    · cases hx), by omega, ⟨hoff Bf _ _ hI1, hoff Bh _ _ hI2⟩, fun x hx => (by cases hx), d67, hbel⟩
  clear hR hO hD hI1 hI2 hM1 hM2 hbx o5 o5f o5h o6 o7 o9 hoff n1 e5 e6 e7 e8; have hKW_h := lH hKW; clear hKW
  simp only [putZ, List.foldl_cons, List.foldl_nil, Act.put, nS, mkZ]
  simp only [h2, h9]
  refine doneH (by kernel_rfl) ?_
  go_wp2_with (fail)
  go_ret
  exact ⟨b, rfl, Bf, Bh, mw, me, hKW_h.out⟩
end Go.Proofs.YtjompikdkhhlgaaGreat
namespace Go.Proofs.YtjompikdkhhlgaaGreat
theorem nrM_mono (C : List Int) (r : Nat) : ∀ d, nrM C r ≤ nrM C (r + d)
 | 0 => Nat.le_refl _
 | d + 1 => Nat.le_trans (nrM_mono C r d) (Nat.le_add_right _ _)
theorem nrM_lt {C : List Int} {r s : Nat} (hr : C.getD r 0 = (r : Int)) (h : r < s) : nrM C r < nrM C s := by
 have h1 := nrM_mono C (r + 1) (s - (r + 1))
 rw [show r + 1 + (s - (r + 1)) = s by omega] at h1
 have h2 := nrM_new hr
 omega
theorem nrM_inj {C : List Int} {r s : Nat} (hr : C.getD r 0 = (r : Int)) (hs : C.getD s 0 = (s : Int)) (h : nrM C r = nrM C s) : r = s := by
 rcases Nat.lt_trichotomy r s with h1 | h1 | h1
 · have := nrM_lt hr h1; omega
 · exact h1
 · have := nrM_lt hs h1; omega
def numW (g : Gr) (w : Int) : Int := (numM (clsG g)).getD w.toNat 0
def numE (g : Gr) (e : Int) : Int := numW g ((wiresE (edgeAt g e)).getD 0 0)
section
variable {g : Gr} {n : Nat}
theorem cls_of (h : Mono g n) : Cls n (clsG g) := by
 have := Cls.joins (Cls.id n) h.pairs
 unfold clsG
 rw [h.hn, Int.toNat_natCast]
 exact this
theorem numW_eq (h : Mono g n) {w : Int} (hw : 0 ≤ w ∧ w < (n : Int)) : numW g w = (nrM (clsG g) (clsW g w).toNat : Int) := by
 unfold numW clsW
 rw [List.getD_eq_getElem?_getD, numM_get (cls_of h) (w := w.toNat) (by omega)]
 rfl
theorem numW_iff (h : Mono g n) {v w : Int} (hv : 0 ≤ v ∧ v < (n : Int)) (hw : 0 ≤ w ∧ w < (n : Int)) : numW g v = numW g w ↔ clsW g v = clsW g w := by
 rw [numW_eq h hv, numW_eq h hw]
 have hC := cls_of h
 constructor
 · intro e
   have e' : nrM (clsG g) (clsW g v).toNat = nrM (clsG g) (clsW g w).toNat := by omega
   have l1 := hC.le v.toNat (by omega)
   have l2 := hC.le w.toNat (by omega)
   have f1 := hC.fix v.toNat (by omega)
   have f2 := hC.fix w.toNat (by omega)
   unfold clsW at e' ⊢
   have := nrM_inj (r := ((clsG g).getD v.toNat 0).toNat) (s := ((clsG g).getD w.toNat 0).toNat) (by rw [f1]; omega) (by rw [f2]; omega) e'
   omega
 · intro e
   rw [e]
theorem first_rng (h : Mono g n) {e : Int} (h0 : 0 ≤ e) (hm : e < (g.2.1.length : Int)) : 0 ≤ (wiresE (edgeAt g e)).getD 0 0 ∧ (wiresE (edgeAt g e)).getD 0 0 < (n : Int) := h.wires h0 hm _ (first_mem h h0 hm)
theorem numE_iff (h : Mono g n) {e f : Int} (he : 0 ≤ e ∧ e < (g.2.1.length : Int)) (hf : 0 ≤ f ∧ f < (g.2.1.length : Int)) : numE g e = numE g f ↔ compE g e = compE g f := numW_iff h (first_rng h he.1 he.2) (first_rng h hf.1 hf.2)
def grpN (g : Gr) (q : Int) (k : Nat) : List Int := (idW k).filter fun e => decide (numE g e = q)
theorem grpN_succ (g : Gr) (q : Int) (k : Nat) : grpN g q (k + 1) = grpN g q k ++ if numE g (k : Int) = q then [(k : Int)] else [] := by
 unfold grpN
 rw [idW_succ, List.filter_append]
 congr 1
 split
 · rename_i h; simp [h]
 · rename_i h; simp [h]
theorem mem_grpN {q e : Int} {k : Nat} : e ∈ grpN g q k ↔ (0 ≤ e ∧ e < (k : Int)) ∧ numE g e = q := by
 unfold grpN
 rw [List.mem_filter, mem_idW, decide_eq_true_eq]
theorem grpN_len (g : Gr) (q : Int) (k : Nat) : (grpN g q k).length ≤ k := by
 have := List.length_filter_le (fun e => decide (numE g e = q)) (idW k)
 rw [idW_length] at this
 exact this
theorem grpN_eq (h : Mono g n) {e : Int} (he : 0 ≤ e ∧ e < (g.2.1.length : Int)) : grpN g (numE g e) g.2.1.length = grpC g (compE g e) := by
 unfold grpN grpC grpTo
 refine List.filter_congr fun x hx => ?_
 have hx' := mem_idW.1 hx
 have := numE_iff h hx' he
 by_cases e1 : numE g x = numE g e
 · rw [decide_eq_true e1, decide_eq_true (this.1 e1)]
 · rw [decide_eq_false e1, decide_eq_false fun h2 => e1 (this.2 h2)]
def keysTo (g : Gr) : Nat → List Int
 | 0 => []
 | k + 1 => if numE g (k : Int) ∈ keysTo g k then keysTo g k else keysTo g k ++ [numE g (k : Int)]
theorem mem_keys {q : Int} : ∀ {k : Nat}, q ∈ keysTo g k ↔ ∃ j : Nat, j < k ∧ numE g (j : Int) = q
 | 0 => ⟨fun h => (by cases h), fun ⟨j, hj, _⟩ => (by omega)⟩
 | k + 1 => by
   have ih := mem_keys (q := q) (k := k)
   unfold keysTo
   split
   · rename_i hin
     rw [ih]
     constructor
     · rintro ⟨j, hj, e⟩; exact ⟨j, by omega, e⟩
     · rintro ⟨j, hj, e⟩
       by_cases hjk : j < k
       · exact ⟨j, hjk, e⟩
       · obtain rfl : j = k := by omega
         rw [e] at hin
         exact ih.1 hin
   · rw [List.mem_append, ih, List.mem_singleton]
     constructor
     · rintro (⟨j, hj, e⟩ | rfl)
       · exact ⟨j, by omega, e⟩
       · exact ⟨k, by omega, rfl⟩
     · rintro ⟨j, hj, e⟩
       by_cases hjk : j < k
       · exact .inl ⟨j, hjk, e⟩
       · obtain rfl : j = k := by omega
         exact .inr e.symm
theorem grpN_pos {q : Int} {k : Nat} : q ∈ keysTo g k ↔ grpN g q k ≠ [] := by
 rw [mem_keys]
 constructor
 · rintro ⟨j, hj, e⟩ h0
   have : (j : Int) ∈ grpN g q k := mem_grpN.2 ⟨by omega, e⟩
   rw [h0] at this
   cases this
 · intro h0
   obtain ⟨x, hx⟩ := List.exists_mem_of_ne_nil _ h0
   obtain ⟨h1, h2⟩ := mem_grpN.1 hx
   exact ⟨x.toNat, by omega, by rw [show ((x.toNat : Nat) : Int) = x by omega]; exact h2⟩
theorem keep_iff (h : Mono g n) {q : Int} : (q ∈ keysTo g g.2.1.length ∧ ∀ w, w ∈ (openM g).1 → numW g w ≠ q) ↔ ∃ j : Nat, j < g.2.1.length ∧ numE g (j : Int) = q ∧ ¬ openC g (compE g (j : Int)) := by
 have hr := (openM_inv h).rg1
 rw [mem_keys]
 constructor
 · rintro ⟨⟨j, hj, e⟩, hno⟩
   refine ⟨j, hj, e, fun ⟨v, hv, e2⟩ => hno v hv ?_⟩
   rw [← e]
   exact (numW_iff h (hr v hv) (first_rng h (by omega) (by omega))).2 e2
 · rintro ⟨j, hj, e, hno⟩
   refine ⟨⟨j, hj, e⟩, fun v hv e2 => hno ⟨v, hv, ?_⟩⟩
   rw [← e] at e2
   exact (numW_iff h (hr v hv) (first_rng h (by omega) (by omega))).1 e2
theorem parts_of_keys (h : Mono g n) {K : List Int} (hnd : K.Nodup) (hK : ∀ q, q ∈ K ↔ ∃ j : Nat, j < g.2.1.length ∧ numE g (j : Int) = q ∧ ¬ openC g (compE g (j : Int))) {P : List Prt} (hP : P.Perm (K.map fun q => bestP g (grpN g q g.2.1.length))) (hs : P.Pairwise (fun x y => befP y x = false)) : P = partsM g := by
 have hrep : ∀ q, q ∈ K → ∃ f : Int, (0 ≤ f ∧ f < (g.2.1.length : Int)) ∧ numE g f = q ∧ (grpN g q g.2.1.length).getD 0 0 = f ∧ ¬ openC g (compE g f) := fun q hq => by
  obtain ⟨j, hj, e, hno⟩ := (hK q).1 hq
  have hne : grpN g q g.2.1.length ≠ [] := grpN_pos.1 (mem_keys.2 ⟨j, hj, e⟩)
  have hm : (grpN g q g.2.1.length).getD 0 0 ∈ grpN g q g.2.1.length := by
   cases hg : grpN g q g.2.1.length with
   | nil => exact absurd hg hne
   | cons a r => simp
  obtain ⟨h1, h2⟩ := mem_grpN.1 hm
  refine ⟨_, h1, h2, rfl, ?_⟩
  rw [← (numE_iff h (e := (j : Int)) (by omega) h1).1 (by rw [e, h2])]
  exact hno
 refine parts_eq h (κ := K.map fun q => compE g ((grpN g q g.2.1.length).getD 0 0)) ?_ (fun c => ?_) (hP.trans (List.Perm.of_eq ?_)) hs
 · unfold List.Nodup
   rw [List.pairwise_map]
   refine hnd.imp_of_mem fun {a b} ha hb hne e => hne ?_
   obtain ⟨f, f1, f2, f3, _⟩ := hrep a ha
   obtain ⟨f', f1', f2', f3', _⟩ := hrep b hb
   rw [f3, f3'] at e
   rw [← f2, ← f2']
   exact (numE_iff h f1 f1').2 e
 · rw [List.mem_map]
   constructor
   · rintro ⟨q, hq, rfl⟩
     obtain ⟨f, f1, f2, f3, f4⟩ := hrep q hq
     rw [f3]
     exact ⟨f4, f.toNat, by omega, by rw [show ((f.toNat : Nat) : Int) = f by omega]⟩
   · rintro ⟨hno, j, hj, rfl⟩
     have hq := (hK (numE g (j : Int))).2 ⟨j, hj, rfl, hno⟩
     obtain ⟨f, f1, f2, f3, _⟩ := hrep _ hq
     refine ⟨_, hq, ?_⟩
     rw [f3]
     exact (numE_iff h f1 (by omega)).1 f2
 · rw [List.map_map]
   refine List.map_congr_left fun q hq => ?_
   obtain ⟨f, f1, f2, f3, _⟩ := hrep q hq
   show _ = bestP g (grpC g (compE g ((grpN g q g.2.1.length).getD 0 0)))
   rw [f3, ← grpN_eq h f1, f2]
end
theorem least_end {l : List Int} {n : Nat} {v : Int} (hne : l ≠ []) (hr : ∀ x, x ∈ l → x < (n : Int)) (hn : n ≤ 100) (hle : ∀ x, x ∈ l → v ≤ x) (hv : v = (n : Int) ∨ v ∈ l) : v = leastW l := by
 have hm := leastW_mem hne fun x hx => by have := hr x hx; omega
 have h1 := hle _ hm
 obtain ⟨⟨_, h2⟩, _⟩ := foldl_min l 100
 rcases hv with rfl | hv
 · have := hr _ hm; omega
 · have := h2 v hv
   unfold leastW at h1 ⊢
   omega
def cmpL (l m : List Int) : Int := if l = m then 0 else if lexI l m then -1 else 1
def cmpP (a b : Prt) : Int := if cmpL a.1 b.1 = 0 then leastW a.2.1.1 - leastW b.2.1.1 else cmpL a.1 b.1
theorem cmpL_zero {l m : List Int} : cmpL l m = 0 ↔ l = m := by
 unfold cmpL
 split
 · rename_i h; simp [h]
 · rename_i h
   split <;> simp [h]
theorem cmpP_lt (a b : Prt) : decide (cmpP a b < 0) = befP a b := by
 unfold cmpP befP
 by_cases e : a.1 = b.1
 · rw [if_pos (cmpL_zero.2 e), if_pos e]
   congr 1
   exact propext (by omega)
 · rw [if_neg (fun h => e (cmpL_zero.1 h)), if_neg e]
   unfold cmpL
   rw [if_neg e]
   cases lexI a.1 b.1 <;> simp
open Go.RowKit
theorem isNaN_any (x : Int) (w : World) : Calls Tryz.prog 137 #[.int .i64 x] w fun e w' => e = .returned (.bool false) ∧ w' = w := by
 go_enter Tryz.func137, Tryz.ntmps137
 go_wp2_with (fail)
 go_ret
 simp
theorem cmpI_any (x y : Int) (w : World) : Calls Tryz.prog 125 #[.int .i64 x, .int .i64 y] w fun e w' => e = .returned (.int .i64 (if x < y then -1 else if y < x then 1 else 0)) ∧ w' = w := by
 have h1 := isNaN_any x
 have h2 := isNaN_any y
 by_cases a : x < y
 · rw [if_pos a]
   go_enter Tryz.func125, Tryz.ntmps125
   go_wp2_with (fail)
   refine (h1 w).mono ?_
   rintro e w' ⟨rfl, rfl⟩
   go_wp2_with (fail)
   refine (h2 w').mono ?_
   rintro e w2 ⟨rfl, rfl⟩
   go_wp2_with (fail)
   go_ret
   exact ⟨rfl, rfl⟩
 · rw [if_neg a]
   by_cases b : y < x
   · rw [if_pos b]
     go_enter Tryz.func125, Tryz.ntmps125
     go_wp2_with (fail)
     refine (h1 w).mono ?_
     rintro e w' ⟨rfl, rfl⟩
     go_wp2_with (fail)
     refine (h2 w').mono ?_
     rintro e w2 ⟨rfl, rfl⟩
     go_wp2_with (fail)
     go_ret
     exact ⟨rfl, rfl⟩
   · rw [if_neg b]
     go_enter Tryz.func125, Tryz.ntmps125
     go_wp2_with (fail)
     refine (h1 w).mono ?_
     rintro e w' ⟨rfl, rfl⟩
     go_wp2_with (fail)
     refine (h2 w').mono ?_
     rintro e w2 ⟨rfl, rfl⟩
     go_wp2_with (fail)
     go_ret
     exact ⟨rfl, rfl⟩
theorem cmpL_at {k : Nat} {l m : List Int} {x y : Int} (h : l.take k = m.take k) (hx : l[k]? = some x) (hy : m[k]? = some y) (hne : ¬ x = y) : cmpL l m = if x < y then -1 else if y < x then 1 else 0 := by
 have hlm : l ≠ m := fun e => by rw [e, hy] at hx; exact hne (Option.some.inj hx).symm
 unfold cmpL
 rw [if_neg hlm, lexI_at h hx hy hne]
 by_cases a : x < y
 · rw [if_pos (by simpa using a), if_pos a]
 · rw [if_neg (by simpa using a), if_neg a, if_pos (by omega)]
theorem cmpL_end {k : Nat} {l m : List Int} (h : l.take k = m.take k) (h1 : k ≤ l.length) (h2 : k ≤ m.length) (hk : k = l.length ∨ k = m.length) : cmpL l m = if l.length < m.length then -1 else if m.length < l.length then 1 else 0 := by
 unfold cmpL
 rw [lexI_end h h1 h2 hk]
 by_cases a : l.length < m.length
 · have hlm : l ≠ m := fun e => by rw [e] at a; omega
   rw [if_neg hlm, if_pos a, if_pos (by simpa using a)]
 · rw [if_neg a]
   by_cases b : m.length < l.length
   · have hlm : l ≠ m := fun e => by rw [e] at b; omega
     rw [if_neg hlm, if_pos b, if_neg (by simpa using a)]
   · have hlm : l = m := by
      rw [List.take_of_length_le (by omega), List.take_of_length_le (by omega)] at h
      exact h
     rw [if_neg b, if_pos hlm]
set_option maxHeartbeats 2000000 in
theorem compare_any (A B : Option Addr) (a b p q : Nat) (l m : List Int) (w : World) (hA : RdI w A l) (hB : RdI w B m) (hp : l.length = p) (hq : m.length = q) (hpb : p ≤ 1048576) (hqb : q ≤ 1048576) :
  Calls Tryz.prog 112 #[.slice A p a, .slice B q b] w fun e w' => e = .returned (.int .i64 (cmpL l m)) ∧ w' = w := by
 have hA_h := lH hA; have hB_h := lH hB; have hp_h := lH hp; have hq_h := lH hq; clear hA hB hp hq
 go_enter Tryz.func112, Tryz.ntmps112
 go_wp2_with (fail)
 go_loopw [11] (fun i wr => ∃ k : Nat, k ≤ p ∧ k ≤ q ∧ i = .int .i64 k ∧ l.take k = m.take k ∧ wr = w) (fun i _ => p - (intOf i).toNat)
 case atStart => exact ⟨0, Nat.zero_le _, Nat.zero_le _, rfl, by simp, rfl⟩
 case round =>
  obtain ⟨k, hk, hkq, rfl, htk, rfl⟩ := hrel
  by_cases hlt : k < p
  · obtain ⟨x, hx⟩ : ∃ x, l[k]? = some x := ⟨_, List.getElem?_eq_getElem (by rw [hp_h.out]; exact hlt)⟩
    obtain ⟨aa, rfl, px⟩ := hA_h.out k x hx
    have hkI : (k : Int) < (p : Int) := by omega
    by_cases hltq : k < q
    · obtain ⟨y, hy⟩ : ∃ y, m[k]? = some y := ⟨_, List.getElem?_eq_getElem (by rw [hq_h.out]; exact hltq)⟩
      obtain ⟨ba, rfl, py⟩ := hB_h.out k y hy
      have hkJ : (k : Int) < (q : Int) := by omega
      have hcc := cmpI_any x y wr
      by_cases hxy : x = y
      · subst hxy
        rw [if_neg (Int.lt_irrefl x), if_neg (Int.lt_irrefl x)] at hcc
        have htk2 : l.take (k + 1) = m.take (k + 1) := by rw [List.take_add_one, List.take_add_one, htk, hx, hy]
        clear htk hx hy; have hcc_h := lH hcc; have htk2_h := lH htk2; clear hcc htk2
        go_wp2_with (fail)
        refine (hcc_h.out).mono ?_
        rintro e w2 ⟨rfl, rfl⟩
        go_wp2_with (fail)
        go_roundw
        case rel => exact ⟨k + 1, by omega, by omega, by go_num, htk2_h.out, (by first | rfl | trivial)⟩
        case measure => simp [intOf]; omega
      · have hca := cmpL_at htk hx hy hxy
        have hnz : ¬ cmpL l m = 0 := fun e => by
         have := cmpL_zero.1 e
         rw [this, hy] at hx
         exact hxy (Option.some.inj hx).symm
        rw [← hca] at hcc
        obtain ⟨c, hc⟩ : ∃ c, cmpL l m = c := ⟨_, rfl⟩
        rw [hc] at hcc hnz
        clear htk hx hy hca; have hcc_h := lH hcc; have hc_h := lH hc; have hxy_h := lH hxy; clear hcc hc hxy
        go_wp2_with (fail)
        refine (hcc_h.out).mono ?_
        rintro e w2 ⟨rfl, rfl⟩
        go_wp2_with (fail)
        go_ret
        exact ⟨by rw [hc_h.out]; rfl, rfl⟩
    · obtain rfl : k = q := by omega
      have hce := cmpL_end htk (by rw [hp_h.out]; omega) (by rw [hq_h.out]; omega) (.inr (by rw [hq_h.out]))
      rw [hp_h.out, hq_h.out, if_neg (by omega), if_pos (by omega)] at hce
      clear htk hx; have hce_h := lH hce; clear hce
      go_wp2_with (fail)
      go_ret
      exact ⟨by rw [hce_h.out]; rfl, rfl⟩
  · obtain rfl : k = p := by omega
    have hce := cmpL_end htk (by rw [hp_h.out]; omega) (by rw [hq_h.out]; omega) (.inl (by rw [hp_h.out]))
    rw [hp_h.out, hq_h.out] at hce
    by_cases a : k < q
    · rw [if_pos a] at hce
      have aI : (k : Int) < (q : Int) := by omega
      clear htk; have hce_h := lH hce; clear hce
      go_wp2_with (fail)
      go_ret
      exact ⟨by rw [hce_h.out]; rfl, rfl⟩
    · rw [if_neg a, if_neg (by omega)] at hce
      have aI : ¬ (k : Int) < (q : Int) := by omega
      clear htk; have hce_h := lH hce; clear hce
      go_wp2_with (fail)
      go_ret
      exact ⟨by rw [hce_h.out]; rfl, rfl⟩
def WkR (w : World) (b mw me : Nat) (s : WE) : Prop := ∃ c0 c1 c2 c3 c4 c5 c8 c9, w.heap[b]? = some (.cells #[c0, c1, c2, c3, c4, c5, .map (some mw), .map (some me), c8, c9] tWk) ∧ MI w mw s.1 ∧ MI w me s.2
theorem WkR.below {w w' : World} {b mw me : Nat} {s : WE} (h : WkR w b mw me s) (hb : Below w.heap.size w w') : WkR w' b mw me s := by
 obtain ⟨c0, c1, c2, c3, c4, c5, c8, c9, h1, h2, h3⟩ := h
 exact ⟨c0, c1, c2, c3, c4, c5, c8, c9, t_box_below h1 hb, h2.below hb, h3.below hb⟩
theorem WkR.lt {w : World} {b mw me : Nat} {s : WE} (h : WkR w b mw me s) : b < w.heap.size ∧ mw < w.heap.size ∧ me < w.heap.size := by
 obtain ⟨c0, c1, c2, c3, c4, c5, c8, c9, h1, h2, h3⟩ := h
 exact ⟨t_box_lt h1, h2.lt, h3.lt⟩
theorem WkR.keeps {w w' : World} {b mw me : Nat} {s : WE} (h : WkR w b mw me s) {S : Nat → Prop} (hk : Keeps S w w') (h1 : ¬ S b) (h2 : ¬ S mw) (h3 : ¬ S me) : WkR w' b mw me s := by
 obtain ⟨c0, c1, c2, c3, c4, c5, c8, c9, e1, e2, e3⟩ := h
 exact ⟨c0, c1, c2, c3, c4, c5, c8, c9, t_box_keeps e1 hk h1, e2.keeps hk h2, e3.keeps hk h3⟩
theorem KW.rd {W w : World} {n : Nat} {es : List Eg} {x1 x2 x3 : Value} {b : Nat} {Bf Bh : Addr} {mw me : Nat} {s : WE} {qd : Nat} {Q O : Option Addr} {qn qc on oc : Nat} (h : KW W n es x1 x2 x3 b Bf Bh mw me s qd w Q qn qc O on oc) : WkR w b mw me s :=
 ⟨_, _, _, _, _, _, _, _, h.box, h.wir, h.edg⟩
set_option maxRecDepth 100000 in
set_option maxHeartbeats 8000000 in
theorem openWalk_any {v : Value} {g : Gr} (w : World) (n : Nat) (h : RdGr w v g) (hMo : Mono g n) :
  Calls Tryz.prog 82 #[v] w fun e w' => ∃ b mw me : Nat, e = .returned (.pointer (some ⟨b, 0, none⟩)) ∧ WkR w' b mw me (openM g) ∧ (w.heap.size ≤ b ∧ w.heap.size ≤ mw ∧ w.heap.size ≤ me) ∧ Below w.heap.size w w' := by
 have hn100 := hMo.n100
 have hgn := hMo.hn
 have hi12 := hMo.i12
 have ho12 := hMo.o12
 have hstart := startO_inv hMo
 have hin := hMo.inn
 have hW0 := h
 obtain ⟨A, c, hs, ⟨B, bb, s⟩, ⟨C, d, t⟩, rfl, e1, e2, e3, hE, hRa, hRb⟩ := h
 simp only [hgn] at hW0 ⊢
 simp only at e2 e3 hRa hRb
 obtain ⟨m, hm⟩ : ∃ m, hs.length = m := ⟨_, rfl⟩
 obtain ⟨p, hp⟩ : ∃ p, s.length = p := ⟨_, rfl⟩
 obtain ⟨r, hr⟩ : ∃ r, t.length = r := ⟨_, rfl⟩
 rw [hm, hp, hr] at hW0 ⊢
 have hp12 : p ≤ 12 := by rw [← hp, e2]; exact hi12
 have hr12 : r ≤ 12 := by rw [← hr, e3]; exact ho12
 obtain ⟨W, hWe, bW, k0⟩ := (⟨_, rfl, t_below_alloc _ _, heap_alloc_new _ _⟩ : ∃ W, W = w.alloc (.cells #[.int .i64 (n : Int), .slice A m c, .slice B p bb, .slice C r d] tGr) ∧ Below w.heap.size w W ∧ W.heap[w.heap.size]? = some (.cells #[.int .i64 (n : Int), .slice A m c, .slice B p bb, .slice C r d] tGr))
 have hcw := walkerOf_any W (hW0.below bW) hMo
 obtain ⟨L, hL⟩ : ∃ L, L = s ++ t := ⟨_, rfl⟩
 have hLr : ∀ x, x ∈ L → 0 ≤ x ∧ x < (n : Int) := fun x hx => by
  refine hin x ?_
  unfold t_allW
  rw [hL, e2, e3] at hx
  rcases List.mem_append.1 hx with hx | hx
  · exact List.mem_append_left _ hx
  · exact List.mem_append_right _ (List.mem_append_left _ hx)
 have hst : startO g = (giveL [] L, []) := by unfold startO; rw [hL, e2, e3]
 obtain ⟨q, hq⟩ : ∃ q, L.length = q := ⟨_, rfl⟩
 have hq24 : q ≤ 24 := by rw [← hq, hL, List.length_append]; omega
 obtain ⟨⟨c0, c1, c2, c3⟩, f0, f1, f2, f3⟩ := t_box4 k0
 have hEW := hE.below bW
 have hRaW := hRa.below bW
 have hRbW := hRb.below bW
 clear hi12 ho12 hin hgn hE hRa hRb hW0 e2 e3; have hMo_h := lH hMo; have hstart_h := lH hstart; have e1_h := lH e1; have hEW_h := lH hEW; have hRaW_h := lH hRaW; have hRbW_h := lH hRbW; have bW_h := lH bW; have k0_h := lH k0; have hcw_h := lH hcw; have hL_h := lH hL; have hLr_h := lH hLr; have hst_h := lH hst; have hq_h := lH hq; have hm_h := lH hm; have hp_h := lH hp; have hr_h := lH hr; clear hMo hstart e1 hEW hRaW hRbW bW k0 hcw hL hLr hst hq hm hp hr
 go_enter Tryz.func82, Tryz.ntmps82
 go_upto_region 1 with (fail)
 rw [← hWe]
 clear hWe
 go_wp2_with (fail)
 refine (hcw_h.out).mono ?_
 rintro e w1 ⟨b, Bf, Bh, mw, me, rfl, hK1⟩
 have hb1 := hK1.bel
 have k1 := t_box_below k0_h.out hb1
 have r1 := hRaW_h.out.below hb1
 have r2 := hRbW_h.out.below hb1
 have hJ0 := joined_any (some ⟨w1.heap.size, 0, none⟩) 2 [(B, bb, s), (C, d, t)] (w1.alloc (.cells #[.slice B s.length bb, .slice C t.length d] 23)) (rd2 r1 r2) (by simp) (by simp; rw [hp_h.out, hr_h.out]; omega)
 rw [show (([(B, bb, s), (C, d, t)] : List Hd).map fun h : Hd => h.2.2).flatten = L by rw [hL_h.out]; simp, hp_h.out, hr_h.out] at hJ0
 have hJ : Calls Tryz.prog 80 #[.slice (some ⟨w1.heap.size, 0, none⟩) 2 2] (w1.alloc (.cells #[.slice B p bb, .slice C r d] 23)) (RetI (w1.alloc (.cells #[.slice B p bb, .slice C r d] 23)) L) := hJ0
 unfold RetI at hJ
 rw [hq_h.out] at hJ
 clear c0 c1 c2 c3 f0 f1 f2 f3
 obtain ⟨⟨c0, c1, c2, c3⟩, f0, f1, f2, f3⟩ := t_box4 k1
 clear hJ0 r1 r2 hb1 k1 hcw_h; have hK1_h := lH hK1; have hJ_h := lH hJ; clear hK1 hJ
 go_wp2_with (fail)
 refine (hJ_h.out).mono ?_
 rintro e w7 ⟨A7, cap7, rfl, hI7, hF7, hb7⟩
 have hb17 := below_trans (t_below_alloc w1 (.cells #[.slice B p bb, .slice C r d] 23)) hb7 (t_below_alloc w1 _).size
 have hK7 := hK1_h.out.below hb17
 have hA7 : ∀ x, x ∈ fpA A7 → ¬ OwnK b mw me none none x := fun x hx ho => by
  have h1 := hK1_h.out.own_lt ho
  have h2 := hF7 x hx
  have h3 := (t_below_alloc w1 (.cells #[.slice B p bb, .slice C r d] 23)).size
  omega
 clear hJ_h hb7 hF7 hb17 hK1_h c0 c1 c2 c3 f0 f1 f2 f3; have hK7_h := lH hK7; have hA7_h := lH hA7; have hI7_h := lH hI7; clear hK7 hA7 hI7
 go_wp2_with (fail)
 go_loopw [15] (fun i wr => ∃ (k : Nat) (Q' : Option Addr) (qn' qc' : Nat), k ≤ q ∧ i = .int .i64 k ∧ KW W n g.2.1 (.slice A m c) (.slice B p bb) (.slice C r d) b Bf Bh mw me (giveL [] (L.take k), []) 0 wr Q' qn' qc' none 0 0 ∧ IS wr A7 cap7 L ∧ ∀ x, x ∈ fpA A7 → ¬ OwnK b mw me Q' none x) (fun i _ => q - (intOf i).toNat)
 case atStart => exact ⟨0, none, 0, 0, Nat.zero_le _, rfl, hK7_h.out, hI7_h.out, hA7_h.out⟩
 case round =>
  clear hK7_h hI7_h hA7_h
  obtain ⟨k, Q', qn', qc', hk, rfl, hK, hI, hA⟩ := hrel
  obtain ⟨wo, rfl⟩ : ∃ x, x = wr := ⟨_, rfl⟩
  by_cases hlt : k < q
  · obtain ⟨x, hx⟩ : ∃ x, L[k]? = some x := ⟨_, List.getElem?_eq_getElem (by rw [hq_h.out]; exact hlt)⟩
    obtain ⟨cd, hcd, yj⟩ := hI.rd k _ hx
    subst hcd
    have hcw := wire_any x wo hK hn100 (giveL_nodup List.nodup_nil) (fun y hy => by
     rcases mem_giveL.1 hy with hy | hy
     · cases hy
     · exact hLr_h.out y (List.mem_of_mem_take hy)) (hLr_h.out x (List.mem_of_getElem? hx))
    have hgs : giveL (giveL [] (L.take k)) [x] = giveL [] (L.take (k + 1)) := by
     rw [← giveL_append, List.take_add_one, hx]
     rfl
    simp only [hgs] at hcw
    have hkI : (k : Int) < (q : Int) := by omega
    clear hgs hx; have hK_h := lH hK; have hI_h := lH hI; have hA_h := lH hA; have hcw_h := lH hcw; clear hK hI hA hcw
    go_wp2_with (fail)
    refine (hcw_h.out).mono ?_
    rintro e w8 ⟨rfl, Q8, qn8, qc8, hK8, hS8⟩
    have hI8 := hI_h.out.keeps hS8.1 fun x hx => hA_h.out x hx
    have hA8 : ∀ x, x ∈ fpA (some cd) → ¬ OwnK b mw me Q8 none x := fun x hx ho => by
     rcases hS8.2 x ho with h1 | h1
     · exact hA_h.out x hx h1
     · have := hI_h.out.lt x hx; omega
    clear hS8 hcw_h hK_h hI_h hA_h; have hK8_h := lH hK8; have hI8_h := lH hI8; have hA8_h := lH hA8; clear hK8 hI8 hA8
    go_wp2_with (fail)
    go_roundw
    case rel => exact ⟨k + 1, Q8, qn8, qc8, by omega, by go_num, hK8_h.out, hI8_h.out, hA8_h.out⟩
    case measure => simp [intOf]; omega
  · obtain rfl : q = k := by omega
    rw [List.take_of_length_le (by rw [hq_h.out]; exact Nat.le_refl _), ← hst_h.out] at hK
    have hcx := walk_any wo hK hEW_h.out e1_h.out hm_h.out hMo_h.out hstart_h.out
    rw [show finW g (startO g) = openM g from rfl] at hcx
    clear hK hI hA; have hcx_h := lH hcx; clear hcx
    go_wp2_with (fail)
    refine (hcx_h.out).mono ?_
    rintro e w9 ⟨rfl, Q9, qn9, qc9, O9, on9, oc9, hK9, hS9⟩
    have hR9 := hK9.rd
    have hN9 := hK9.new
    have hb9 := below_trans bW_h.out hK9.bel bW_h.out.size
    have hbz := bW_h.out.size
    have n1 := hN9 b (.inl rfl)
    have n2 := hN9 mw (.inr (.inl rfl))
    have n3 := hN9 me (.inr (.inr (.inl rfl)))
    clear hS9 hK9 hN9 hcx_h; have hR9_h := lH hR9; have hb9_h := lH hb9; clear hR9 hb9
    go_wp2_with (fail)
    go_ret
    exact ⟨b, mw, me, rfl, hR9_h.out, ⟨by omega, by omega, by omega⟩, hb9_h.out⟩
end Go.Proofs.YtjompikdkhhlgaaGreat
