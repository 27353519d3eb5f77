/-
  What the texts above it need, part 5.
-/
import Derived.Test.YtjompikdkhhlgaaGreatKSameGraphs4
import Derived.Deep.LoopGhost
namespace Go.Proofs.YtjompikdkhhlgaaGreat
open Go.RowKit
abbrev tIS : TypeId := 23
structure NumS (W : World) (c1 c2 c3 c4 : Nat) (Wa Ea : Addr) (n m : Nat) (t : Nums) (w : World) : Prop where
 b1 : w.heap[c1]? = some (.cells #[.int .i64 t.2.2.1] tInt)
 b2 : w.heap[c2]? = some (.cells #[.slice (some Wa) n n] tIS)
 b3 : w.heap[c3]? = some (.cells #[.int .i64 t.2.2.2] tInt)
 b4 : w.heap[c4]? = some (.cells #[.slice (some Ea) m m] tIS)
 i1 : IS w (some Wa) n t.1
 i2 : IS w (some Ea) m t.2.1
 l1 : t.1.length = n
 l2 : t.2.1.length = m
 ap : c1 ≠ c3 ∧ Wa.block ≠ Ea.block ∧ (c1 ≠ Wa.block ∧ c1 ≠ Ea.block) ∧ c3 ≠ Wa.block ∧ c3 ≠ Ea.block
 new : W.heap.size ≤ c1 ∧ W.heap.size ≤ c3 ∧ W.heap.size ≤ Wa.block ∧ W.heap.size ≤ Ea.block
 bel : Below W.heap.size W w
def OwnN (c1 c3 : Nat) (Wa Ea : Addr) (b : Nat) : Prop := b = c1 ∨ b = c3 ∨ b = Wa.block ∨ b = Ea.block
theorem ne_of_type {w : World} {b c : Nat} {cs ds : Array Value} {t u : TypeId} {fr : Nat × Nat} (h : w.heap[b]? = some (.cells cs t fr)) (k : w.heap[c]? = some (.cells ds u)) (ht : t ≠ u) : b ≠ c := fun e => by
 subst e
 rw [h] at k
 injection k with k
 injection k with _ h1
 exact ht h1
theorem cellT {w : World} {B : Nat} {x : Value} {t : TypeId} (h : w.heap[B]? = some (.cells #[x] t)) : w.cell? ⟨B, 0, none⟩ = some x ∧ w.frozen? ⟨B, 0, none⟩ = false := by simp [World.cell?, World.frozen?, h]
theorem is_box {w : World} {A : Addr} {c : Nat} {l : List Int} (h : IS w (some A) c l) : ∃ cs, w.heap[A.block]? = some (.cells cs tInt) := by
 rcases h.2.2.2 with ⟨h0, _⟩ | ⟨g, off, cur, hA, hg, _⟩
 · cases h0
 · obtain rfl := Option.some.inj hA
   exact ⟨cur, hg⟩
section
variable {W w w' : World} {c1 c2 c3 c4 n m : Nat} {Wa Ea : Addr} {t : Nums}
theorem NumS.below (h : NumS W c1 c2 c3 c4 Wa Ea n m t w) (hb : Below w.heap.size w w') : NumS W c1 c2 c3 c4 Wa Ea n m t w' :=
 ⟨t_box_below h.b1 hb, t_box_below h.b2 hb, t_box_below h.b3 hb, t_box_below h.b4 hb, h.i1.below hb, h.i2.below hb, h.l1, h.l2, h.ap, h.new, below_trans h.bel hb h.bel.size⟩
theorem NumS.off (h : NumS W c1 c2 c3 c4 Wa Ea n m t w) {b : Nat} (hb : OwnN c1 c3 Wa Ea b) : (∃ cs, w.heap[b]? = some (.cells cs tInt)) ∧ W.heap.size ≤ b ∧ b < w.heap.size := by
 obtain ⟨_, q1⟩ := is_box h.i1
 obtain ⟨_, q2⟩ := is_box h.i2
 rcases hb with rfl | rfl | rfl | rfl
 · exact ⟨⟨_, h.b1⟩, h.new.1, t_box_lt h.b1⟩
 · exact ⟨⟨_, h.b3⟩, h.new.2.1, t_box_lt h.b3⟩
 · exact ⟨⟨_, q1⟩, h.new.2.2.1, t_box_lt q1⟩
 · exact ⟨⟨_, q2⟩, h.new.2.2.2, t_box_lt q2⟩
theorem NumS.setW (h : NumS W c1 c2 c3 c4 Wa Ea n m t w) {j : Nat} (x : Int) (hj : j < n) : NumS W c1 c2 c3 c4 Wa Ea n m (t.1.set j x, t.2) (w.setCell (Wa.add j) (.int .i64 x)) ∧ Keeps (fun b => b = Wa.block) w (w.setCell (Wa.add j) (.int .i64 x)) := by
 have hk : Keeps (fun b => b = Wa.block) w (w.setCell (Wa.add j) (.int .i64 x)) := Keeps.setCell (S := fun b => b = Wa.block) (Keeps.refl _ w) (p := Wa.add j) (by rw [block_of_add]) _
 obtain ⟨a1, a2, ⟨a3, a4⟩, a5, a6⟩ := h.ap
 obtain ⟨_, q1⟩ := is_box h.i1
 refine ⟨⟨t_box_keeps h.b1 hk a3, t_box_keeps h.b2 hk (fun e => ne_of_type q1 h.b2 (by decide) e.symm), t_box_keeps h.b3 hk a5, t_box_keeps h.b4 hk (fun e => ne_of_type q1 h.b4 (by decide) e.symm), h.i1.set rfl x (by rw [h.l1]; exact hj), h.i2.keeps hk fun b hb e => ?_, by simpa using h.l1, h.l2, h.ap, h.new, below_keeps h.bel hk h.bel.size fun b e => by rw [e]; exact h.new.2.2.1⟩, hk⟩
 have hb' : b = Ea.block := by simpa using hb
 exact a2 (e.symm.trans hb')
theorem NumS.setE (h : NumS W c1 c2 c3 c4 Wa Ea n m t w) {j : Nat} (x : Int) (hj : j < m) : NumS W c1 c2 c3 c4 Wa Ea n m (t.1, t.2.1.set j x, t.2.2) (w.setCell (Ea.add j) (.int .i64 x)) ∧ Keeps (fun b => b = Ea.block) w (w.setCell (Ea.add j) (.int .i64 x)) := by
 have hk : Keeps (fun b => b = Ea.block) w (w.setCell (Ea.add j) (.int .i64 x)) := Keeps.setCell (S := fun b => b = Ea.block) (Keeps.refl _ w) (p := Ea.add j) (by rw [block_of_add]) _
 obtain ⟨a1, a2, ⟨a3, a4⟩, a5, a6⟩ := h.ap
 obtain ⟨_, q1⟩ := is_box h.i2
 refine ⟨⟨t_box_keeps h.b1 hk a4, t_box_keeps h.b2 hk (fun e => ne_of_type q1 h.b2 (by decide) e.symm), t_box_keeps h.b3 hk a6, t_box_keeps h.b4 hk (fun e => ne_of_type q1 h.b4 (by decide) e.symm), h.i1.keeps hk (fun b hb e => ?_), h.i2.set rfl x (by rw [h.l2]; exact hj), h.l1, by simpa using h.l2, h.ap, h.new, below_keeps h.bel hk h.bel.size fun b e => by rw [e]; exact h.new.2.2.2⟩, hk⟩
 have hb' : b = Wa.block := by simpa using hb
 exact a2 (hb'.symm.trans e)
theorem set1c {w : World} {B : Nat} {ty : TypeId} {x y : Value} (hb : w.heap[B]? = some (.cells #[x] ty)) : (w.setCell ⟨B, 0, none⟩ y).heap[B]? = some (.cells #[y] ty) ∧ Keeps (· = B) w (w.setCell ⟨B, 0, none⟩ y) :=
 ⟨by simp [World.setCell, Array.getElem?_modify, hb], (Keeps.refl (fun x => x = B) w).setCell (p := ⟨B, 0, none⟩) rfl _⟩
theorem NumS.set1 (h : NumS W c1 c2 c3 c4 Wa Ea n m t w) (x : Int) : NumS W c1 c2 c3 c4 Wa Ea n m (t.1, t.2.1, x, t.2.2.2) (w.setCell ⟨c1, 0, none⟩ (.int .i64 x)) ∧ Keeps (fun b => b = c1) w (w.setCell ⟨c1, 0, none⟩ (.int .i64 x)) := by
 obtain ⟨s1, hk⟩ := set1c (y := .int .i64 x) h.b1
 obtain ⟨a1, a2, ⟨a3, a4⟩, a5, a6⟩ := h.ap
 refine ⟨⟨s1, t_box_keeps h.b2 hk (fun e => ne_of_type h.b1 h.b2 (by decide) e.symm), t_box_keeps h.b3 hk (fun e => a1 e.symm), t_box_keeps h.b4 hk (fun e => ne_of_type h.b1 h.b4 (by decide) e.symm), h.i1.keeps hk (fun b hb e => ?_), h.i2.keeps hk (fun b hb e => ?_), h.l1, h.l2, h.ap, h.new, below_keeps h.bel hk h.bel.size fun b e => by rw [e]; exact h.new.1⟩, hk⟩
 · have hb' : b = Wa.block := by simpa using hb
   exact a3 (e.symm.trans hb')
 · have hb' : b = Ea.block := by simpa using hb
   exact a4 (e.symm.trans hb')
theorem NumS.set3 (h : NumS W c1 c2 c3 c4 Wa Ea n m t w) (x : Int) : NumS W c1 c2 c3 c4 Wa Ea n m (t.1, t.2.1, t.2.2.1, x) (w.setCell ⟨c3, 0, none⟩ (.int .i64 x)) ∧ Keeps (fun b => b = c3) w (w.setCell ⟨c3, 0, none⟩ (.int .i64 x)) := by
 obtain ⟨s1, hk⟩ := set1c (y := .int .i64 x) h.b3
 obtain ⟨a1, a2, ⟨a3, a4⟩, a5, a6⟩ := h.ap
 refine ⟨⟨t_box_keeps h.b1 hk a1, t_box_keeps h.b2 hk (fun e => ne_of_type h.b3 h.b2 (by decide) e.symm), s1, t_box_keeps h.b4 hk (fun e => ne_of_type h.b3 h.b4 (by decide) e.symm), h.i1.keeps hk (fun b hb e => ?_), h.i2.keeps hk (fun b hb e => ?_), h.l1, h.l2, h.ap, h.new, below_keeps h.bel hk h.bel.size fun b e => by rw [e]; exact h.new.2.1⟩, hk⟩
 · have hb' : b = Wa.block := by simpa using hb
   exact a5 (e.symm.trans hb')
 · have hb' : b = Ea.block := by simpa using hb
   exact a6 (e.symm.trans hb')
theorem NumS.bx (h : NumS W c1 c2 c3 c4 Wa Ea n m t w) : (w.cell? ⟨c1, 0, none⟩ = some (.int .i64 t.2.2.1) ∧ w.frozen? ⟨c1, 0, none⟩ = false) ∧ (w.cell? ⟨c2, 0, none⟩ = some (.slice (some Wa) n n) ∧ w.frozen? ⟨c2, 0, none⟩ = false) ∧ (w.cell? ⟨c3, 0, none⟩ = some (.int .i64 t.2.2.2) ∧ w.frozen? ⟨c3, 0, none⟩ = false) ∧ w.cell? ⟨c4, 0, none⟩ = some (.slice (some Ea) m m) ∧ w.frozen? ⟨c4, 0, none⟩ = false := by
 refine ⟨?_, ?_, ?_, ?_⟩ <;> simp [World.cell?, World.frozen?, h.b1, h.b2, h.b3, h.b4]
theorem NumS.far (h : NumS W c1 c2 c3 c4 Wa Ea n m t w) {w0 : World} {t0 : Nums} (h0 : NumS W c1 c2 c3 c4 Wa Ea n m t0 w0) {r : Nat} (hr : w0.heap.size ≤ r) (hk : Keeps (fun b => b = r) w w') : NumS W c1 c2 c3 c4 Wa Ea n m t w' :=
 ⟨t_box_keeps h.b1 hk (fun e => by have := t_box_lt h0.b1; omega), t_box_keeps h.b2 hk (fun e => by have := t_box_lt h0.b2; omega), t_box_keeps h.b3 hk (fun e => by have := t_box_lt h0.b3; omega), t_box_keeps h.b4 hk (fun e => by have := t_box_lt h0.b4; omega),
  h.i1.keeps hk (fun b hb e => by have := h0.i1.lt b hb; omega), h.i2.keeps hk (fun b hb e => by have := h0.i2.lt b hb; omega), h.l1, h.l2, h.ap, h.new, below_keeps h.bel hk h.bel.size fun b e => by have := h0.bel.size; omega⟩
theorem WkR.nums {b mw me : Nat} {s : WE} (h : WkR w b mw me s) (hN : NumS W c1 c2 c3 c4 Wa Ea n m t w) (hk : Keeps (OwnN c1 c3 Wa Ea) w w') : WkR w' b mw me s := by
 have hh := h
 obtain ⟨d0, d1, d2, d3, d4, d5, d8, d9, e1, e2, e3⟩ := hh
 refine h.keeps hk (fun hx => ?_) (fun hx => ?_) (fun hx => ?_)
 · obtain ⟨⟨_, q⟩, _⟩ := hN.off hx
   exact ne_of_type q e1 (by decide) rfl
 · obtain ⟨⟨_, q⟩, _⟩ := hN.off hx
   exact e2.ne_cells q rfl
 · obtain ⟨⟨_, q⟩, _⟩ := hN.off hx
   exact e3.ne_cells q rfl
end
set_option maxRecDepth 100000 in
set_option maxHeartbeats 8000000 in
theorem addNums_any (W w : World) (c1 c2 c3 c4 n m ob ow oe : Nat) (Wa Ea : Addr) (t : Nums) (s : WE) (h : NumS W c1 c2 c3 c4 Wa Ea n m t w) (hw : WkR w ob ow oe s) (hs : s.1.Nodup ∧ s.2.Nodup) (hr1 : ∀ x, x ∈ s.1 → 0 ≤ x ∧ x < (n : Int)) (hr2 : ∀ x, x ∈ s.2 → 0 ≤ x ∧ x < (m : Int)) (hn : n ≤ 100) (hm : m ≤ 60)
  (ht : (0 ≤ t.2.2.1 ∧ t.2.2.1 ≤ 1048576) ∧ 0 ≤ t.2.2.2 ∧ t.2.2.2 ≤ 1048576) :
  Calls Tryz.prog 84 #[.pointer (some ⟨ob, 0, none⟩), .pointer (some ⟨c1, 0, none⟩), .pointer (some ⟨c2, 0, none⟩), .pointer (some ⟨c3, 0, none⟩), .pointer (some ⟨c4, 0, none⟩)] w fun e w' =>
   e = .returned (.tuple #[]) ∧ NumS W c1 c2 c3 c4 Wa Ea n m (addN t s) w' ∧ Keeps (OwnN c1 c3 Wa Ea) w w' := by
 obtain ⟨t1, t2, u1, u2⟩ := t
 simp only at ht
 obtain ⟨⟨hu1, hu1'⟩, hu2, hu2'⟩ := ht
 have hls1 := nodup_le hs.1 hr1
 have hls2 := nodup_le hs.2 hr2
 have hw0 := hw
 obtain ⟨d0, d1, d2, d3, d4, d5, d8, d9, ko, hM1, hM2⟩ := hw
 obtain ⟨⟨x0, x1, x2, x3, x4, x5, x6, x7, x8, x9⟩, _, _⟩ := box10 ko
 have hlw := hw0.lt
 have h_h := lH h; have hs_h := lH hs; have hr1_h := lH hr1; have hr2_h := lH hr2; have hM1_h := lH hM1; have hM2_h := lH hM2; have ko_h := lH ko; have hls1_h := lH hls1; have hls2_h := lH hls2; have hw0_h := lH hw0; have hlw_h := lH hlw; clear h hs hr1 hr2 hM1 hM2 ko hls1 hls2 hw0 hlw
 go_enter Tryz.func84, Tryz.ntmps84
 go_wp2_with (at_range; refine wp_mi_range rfl _ rfl rfl hM1_h.out hs_h.out.1 ?_; intro w5 hR5 hb5 hz5)
 have h5 := h_h.out.below hb5
 have hk5 : Keeps (fun b => OwnN c1 c3 Wa Ea b) w w5 := Keeps.of_below hb5 _
 clear x0 x1 x2 x3 x4 x5 x6 x7 x8 x9; have hR5_h := lH hR5; have h5_h := lH h5; have hk5_h := lH hk5; clear hR5 h5 hk5
 go_frame
 go_loopw [6] (fun (_ : Value) wr => ∃ (L : Int → Bool) (cnt : Nat), MR wr ow w.heap.size s.1 L cnt ∧ NumS W c1 c2 c3 c4 Wa Ea n m (putF t1 u1 s.1 L, t2, u1, u2) wr ∧ Keeps (OwnN c1 c3 Wa Ea) w wr) (fun _ wr => wr.rangeLeft ow w.heap.size)
 case atStart => exact ⟨_, _, hR5_h.out, by rw [putF_start (fun x hx => decide_eq_true hx)]; exact h5_h.out, hk5_h.out⟩
 case round =>
  clear hR5_h h5_h hk5_h
  obtain ⟨L, cnt, hR, hN, hK⟩ := hrel
  obtain ⟨wi, rfl⟩ : ∃ x, x = wr := ⟨_, rfl⟩
  have hR_h := lH hR; have hN_h := lH hN; have hK_h := lH hK; clear hR hN hK
  go_wp2_with (at_next; refine wp_mr_next rfl _ rfl rfl hR_h.out hs_h.out.1 ?_ ?_)
  · intro _ hL0
    rw [putF_end hL0] at hN_h
    have hwi := hw0_h.out.nums h_h.out hK_h.out
    obtain ⟨d0', d1', d2', d3', d4', d5', d8', d9', ko', hM1', hM2'⟩ := hwi
    obtain ⟨⟨x0, x1, x2, x3, x4, x5, x6, x7, x8, x9⟩, _, _⟩ := box10 ko'
    clear hR_h hL0 ko'; have hM1'_h := lH hM1'; have hM2'_h := lH hM2'; clear hM1' hM2'
    go_wp2_with (at_range; refine wp_mi_range rfl _ rfl rfl hM2'_h.out hs_h.out.2 ?_; intro w6 hR6 hb6 hz6)
    have h6 := hN_h.out.below hb6
    have hk6 := hK_h.out.trans (Keeps.of_below hb6 (OwnN c1 c3 Wa Ea))
    clear x0 x1 x2 x3 x4 x5 x6 x7 x8 x9 hM1'_h hM2'_h
    have hzi := hK_h.out.size
    have hR6_h := lH hR6; have h6_h := lH h6; have hk6_h := lH hk6; clear hR6 h6 hk6
    go_frame
    go_loopw [8] (fun (_ : Value) wr => ∃ (L : Int → Bool) (cnt : Nat), MR wr oe wi.heap.size s.2 L cnt ∧ NumS W c1 c2 c3 c4 Wa Ea n m (putN t1 u1 s.1, putF t2 u2 s.2 L, u1, u2) wr ∧ Keeps (OwnN c1 c3 Wa Ea) w wr) (fun _ wr => wr.rangeLeft oe wi.heap.size)
    case atStart => exact ⟨_, _, hR6_h.out, by rw [putF_start (fun x hx => decide_eq_true hx)]; exact h6_h.out, hk6_h.out⟩
    case round =>
     clear hR6_h h6_h hk6_h
     obtain ⟨L, cnt, hR, hN', hK'⟩ := hrel
     obtain ⟨wj, rfl⟩ : ∃ x, x = wr := ⟨_, rfl⟩
     have hR_h := lH hR; have hN'_h := lH hN'; have hK'_h := lH hK'; clear hR hN' hK'
     go_wp2_with (at_next; refine wp_mr_next rfl _ rfl rfl hR_h.out hs_h.out.2 ?_ ?_)
     · intro _ hL0
       rw [putF_end hL0] at hN'_h
       have hwj := hw0_h.out.nums h_h.out hK'_h.out
       have hwj' := hwj
       obtain ⟨d0'', d1'', d2'', d3'', d4'', d5'', d8'', d9'', ko', hM1', hM2'⟩ := hwj'
       obtain ⟨⟨x0, x1, x2, x3, x4, x5, x6, x7, x8, x9⟩, _, _⟩ := box10 ko'
       obtain ⟨q1, hq1⟩ : ∃ q, s.1.length = q := ⟨_, rfl⟩
       obtain ⟨q2, hq2⟩ : ∃ q, s.2.length = q := ⟨_, rfl⟩
       have hlq1 := hls1_h.out
       have hlq2 := hls2_h.out
       rw [hq1] at hlq1
       rw [hq2] at hlq2
       clear hR_h hL0 hM2'; have hwj_h := lH hwj; have ko'_h := lH ko'; have hq1_h := lH hq1; have hq2_h := lH hq2; have hM1'_h := lH hM1'; clear hwj ko' hq1 hq2 hM1'
       go_upto_region 8 with (fail)
       refine beginZw 7 (fun w' => w'.heap[c1]? = some (.cells #[.int .i64 u1] tInt) ∧ w'.heap[ob]? = some (.cells #[d0'', d1'', d2'', d3'', d4'', d5'', .map (some ow), .map (some oe), d8'', d9''] tWk) ∧ MI w' ow s.1) (by kernel_rfl) (fun W1 hW1 => ?_)
       have hbd : Below wj.heap.size wj W1 := by rw [hW1]; exact below_drewN (Below.refl _ _) 1
       have hN1 := hN'_h.out.below hbd
       have hwk1 := hwj_h.out.below hbd
       have hko1 := t_box_below ko'_h.out hbd
       have hMI1 := hM1'_h.out.below hbd
       have hK1 := hK'_h.out.trans (Keeps.of_below hbd _)
       clear hW1 x0 x1 x2 x3 x4 x5 x6 x7 x8 x9; have hN1_h := lH hN1; have hwk1_h := lH hwk1; have hko1_h := lH hko1; have hMI1_h := lH hMI1; have hK1_h := lH hK1; have hbd_h := lH hbd; clear hN1 hwk1 hko1 hMI1 hK1 hbd
       refine tkC 0 ?_ rfl (⟨hN1_h.out.b1, hko1_h.out, hMI1_h.out⟩ : _ ∧ _ ∧ _) (fun W' hW' => ?_) ?_; rotate_left; · (obtain ⟨⟨y1, z1⟩, ⟨⟨c0, c1', c2', c3', c4', c5, c6, c7, c8, c9⟩, f8, f9⟩⟩ := (⟨cellT hW'.1, box10 hW'.2.1⟩ : _ ∧ _); have hlen := fun ty => hW'.2.2.len hs_h.out.1 ty; rw [hq1_h.out] at hlen; clear hW'; go_simp; first | done | with_reducible rfl)
       simp only [Act.put, nS]
       refine tkC 1 ?_ rfl (⟨hN1_h.out.b1, hko1_h.out, hMI1_h.out⟩ : _ ∧ _ ∧ _) (fun W' hW' => ?_) ?_; rotate_left; · (obtain ⟨⟨y1, z1⟩, ⟨⟨c0, c1', c2', c3', c4', c5, c6, c7, c8, c9⟩, f8, f9⟩⟩ := (⟨cellT hW'.1, box10 hW'.2.1⟩ : _ ∧ _); have hlen := fun ty => hW'.2.2.len hs_h.out.1 ty; rw [hq1_h.out] at hlen; clear hW'; go_simp; first | done | with_reducible rfl)
       simp only [Act.put, nS]
       refine tkC 2 ?_ rfl (⟨hN1_h.out.b1, hko1_h.out, hMI1_h.out⟩ : _ ∧ _ ∧ _) (fun W' hW' => ?_) ?_; rotate_left; · (obtain ⟨⟨y1, z1⟩, ⟨⟨c0, c1', c2', c3', c4', c5, c6, c7, c8, c9⟩, f8, f9⟩⟩ := (⟨cellT hW'.1, box10 hW'.2.1⟩ : _ ∧ _); have hlen := fun ty => hW'.2.2.len hs_h.out.1 ty; rw [hq1_h.out] at hlen; clear hW'; go_simp; first | done | with_reducible rfl)
       simp only [Act.put, nS]
       refine tkC 3 ?_ rfl (⟨hN1_h.out.b1, hko1_h.out, hMI1_h.out⟩ : _ ∧ _ ∧ _) (fun W' hW' => ?_) ?_; rotate_left; · (obtain ⟨⟨y1, z1⟩, ⟨⟨c0, c1', c2', c3', c4', c5, c6, c7, c8, c9⟩, f8, f9⟩⟩ := (⟨cellT hW'.1, box10 hW'.2.1⟩ : _ ∧ _); have hlen := fun ty => hW'.2.2.len hs_h.out.1 ty; rw [hq1_h.out] at hlen; clear hW'; go_simp; first | done | with_reducible rfl)
       simp only [Act.put, nS]
       refine tkC 4 ?_ rfl (⟨hN1_h.out.b1, hko1_h.out, hMI1_h.out⟩ : _ ∧ _ ∧ _) (fun W' hW' => ?_) ?_; rotate_left; · (obtain ⟨⟨y1, z1⟩, ⟨⟨c0, c1', c2', c3', c4', c5, c6, c7, c8, c9⟩, f8, f9⟩⟩ := (⟨cellT hW'.1, box10 hW'.2.1⟩ : _ ∧ _); have hlen := fun ty => hW'.2.2.len hs_h.out.1 ty; rw [hq1_h.out] at hlen; clear hW'; go_simp; first | done | with_reducible rfl)
       simp only [Act.put, nS]
       refine tkC 5 ?_ rfl (⟨hN1_h.out.b1, hko1_h.out, hMI1_h.out⟩ : _ ∧ _ ∧ _) (fun W' hW' => ?_) ?_; rotate_left; · (obtain ⟨⟨y1, z1⟩, ⟨⟨c0, c1', c2', c3', c4', c5, c6, c7, c8, c9⟩, f8, f9⟩⟩ := (⟨cellT hW'.1, box10 hW'.2.1⟩ : _ ∧ _); have hlen := fun ty => hW'.2.2.len hs_h.out.1 ty; rw [hq1_h.out] at hlen; clear hW'; go_simp; first | done | with_reducible rfl)
       simp only [Act.put, nS]
       refine tkC 6 ?_ rfl (⟨hN1_h.out.b1, hko1_h.out, hMI1_h.out⟩ : _ ∧ _ ∧ _) (fun W' hW' => ?_) ?_; rotate_left; · (obtain ⟨⟨y1, z1⟩, ⟨⟨c0, c1', c2', c3', c4', c5, c6, c7, c8, c9⟩, f8, f9⟩⟩ := (⟨cellT hW'.1, box10 hW'.2.1⟩ : _ ∧ _); have hlen := fun ty => hW'.2.2.len hs_h.out.1 ty; rw [hq1_h.out] at hlen; clear hW'; go_simp; first | done | with_reducible rfl)
       simp only [Act.put, nS]
       obtain ⟨y1, z1⟩ := cellT hN1_h.out.b1
       obtain ⟨hN2, hk2⟩ := hN1_h.out.set1 (u1 + (q1 : Int))
       simp only at hN2
       have hk12 := hK1_h.out.trans (hk2.mono (T := OwnN c1 c3 Wa Ea) fun _ _ e => .inl e)
       have hwk2 := hwk1_h.out.nums hN1_h.out (hk2.mono (T := OwnN c1 c3 Wa Ea) fun _ _ e => .inl e)
       have hko2 := t_box_keeps hko1_h.out hk2 (ne_of_type hko1_h.out hN1_h.out.b1 (by decide))
       have hM2'' : MI (W1.setCell ⟨c1, 0, none⟩ (.int .i64 (u1 + (q1 : Int)))) oe s.2 := by
        obtain ⟨_, _, _, _, _, _, _, _, _, _, e2⟩ := hwk2
        exact e2
       clear hk2 hN1_h hwk1_h hko1_h hMI1_h hK1_h hwj_h ko'_h hM1'_h hwk2; have hN2_h := lH hN2; have hk12_h := lH hk12; have hko2_h := lH hko2; have hM2''_h := lH hM2''; clear hN2 hk12 hko2 hM2''
       have hwr : IntKind.i64.wrap (u1 + (q1 : Int)) = u1 + (q1 : Int) := by simp [IntKind.wrap, IntKind.bits, IntKind.signed]; omega
       rw [hwr]
       refine oneZ 7 rfl (by kernel_rfl) (by rfl) (fun K hK => ?_)
       go_simp
       refine hK _ _ (fun h => by cases h) ?_
       clear hK K
       refine doneZ (by kernel_rfl) ?_
       obtain ⟨W3, hW3⟩ : ∃ W, W = W1.setCell ⟨c1, 0, none⟩ (.int .i64 (u1 + (q1 : Int))) := ⟨_, rfl⟩
       rw [← hW3] at hN2_h hk12_h hko2_h hM2''_h ⊢
       clear hW3 y1 z1
       go_upto_region 9 with (fail)
       refine beginZw 7 (fun w' => w'.heap[c3]? = some (.cells #[.int .i64 u2] tInt) ∧ w'.heap[ob]? = some (.cells #[d0'', d1'', d2'', d3'', d4'', d5'', .map (some ow), .map (some oe), d8'', d9''] tWk) ∧ MI w' oe s.2) (by kernel_rfl) (fun W4 hW4 => ?_)
       have hbd4 : Below W3.heap.size W3 W4 := by rw [hW4]; exact below_drewN (Below.refl _ _) 1
       have hN4 := hN2_h.out.below hbd4
       have hko4 := t_box_below hko2_h.out hbd4
       have hM4 := hM2''_h.out.below hbd4
       have hK4 := hk12_h.out.trans (Keeps.of_below hbd4 _)
       clear hW4 hbd4; have hN4_h := lH hN4; have hko4_h := lH hko4; have hM4_h := lH hM4; have hK4_h := lH hK4; clear hN4 hko4 hM4 hK4
       refine tkC 0 ?_ rfl (⟨hN4_h.out.b3, hko4_h.out, hM4_h.out⟩ : _ ∧ _ ∧ _) (fun W' hW' => ?_) ?_; rotate_left; · (obtain ⟨⟨y1, z1⟩, ⟨⟨c0, c1', c2', c3', c4', c5, c6, c7, c8, c9⟩, f8, f9⟩⟩ := (⟨cellT hW'.1, box10 hW'.2.1⟩ : _ ∧ _); have hlen := fun ty => hW'.2.2.len hs_h.out.2 ty; rw [hq2_h.out] at hlen; clear hW'; go_simp; first | done | with_reducible rfl)
       simp only [Act.put, nS]
       refine tkC 1 ?_ rfl (⟨hN4_h.out.b3, hko4_h.out, hM4_h.out⟩ : _ ∧ _ ∧ _) (fun W' hW' => ?_) ?_; rotate_left; · (obtain ⟨⟨y1, z1⟩, ⟨⟨c0, c1', c2', c3', c4', c5, c6, c7, c8, c9⟩, f8, f9⟩⟩ := (⟨cellT hW'.1, box10 hW'.2.1⟩ : _ ∧ _); have hlen := fun ty => hW'.2.2.len hs_h.out.2 ty; rw [hq2_h.out] at hlen; clear hW'; go_simp; first | done | with_reducible rfl)
       simp only [Act.put, nS]
       refine tkC 2 ?_ rfl (⟨hN4_h.out.b3, hko4_h.out, hM4_h.out⟩ : _ ∧ _ ∧ _) (fun W' hW' => ?_) ?_; rotate_left; · (obtain ⟨⟨y1, z1⟩, ⟨⟨c0, c1', c2', c3', c4', c5, c6, c7, c8, c9⟩, f8, f9⟩⟩ := (⟨cellT hW'.1, box10 hW'.2.1⟩ : _ ∧ _); have hlen := fun ty => hW'.2.2.len hs_h.out.2 ty; rw [hq2_h.out] at hlen; clear hW'; go_simp; first | done | with_reducible rfl)
       simp only [Act.put, nS]
       refine tkC 3 ?_ rfl (⟨hN4_h.out.b3, hko4_h.out, hM4_h.out⟩ : _ ∧ _ ∧ _) (fun W' hW' => ?_) ?_; rotate_left; · (obtain ⟨⟨y1, z1⟩, ⟨⟨c0, c1', c2', c3', c4', c5, c6, c7, c8, c9⟩, f8, f9⟩⟩ := (⟨cellT hW'.1, box10 hW'.2.1⟩ : _ ∧ _); have hlen := fun ty => hW'.2.2.len hs_h.out.2 ty; rw [hq2_h.out] at hlen; clear hW'; go_simp; first | done | with_reducible rfl)
       simp only [Act.put, nS]
       refine tkC 4 ?_ rfl (⟨hN4_h.out.b3, hko4_h.out, hM4_h.out⟩ : _ ∧ _ ∧ _) (fun W' hW' => ?_) ?_; rotate_left; · (obtain ⟨⟨y1, z1⟩, ⟨⟨c0, c1', c2', c3', c4', c5, c6, c7, c8, c9⟩, f8, f9⟩⟩ := (⟨cellT hW'.1, box10 hW'.2.1⟩ : _ ∧ _); have hlen := fun ty => hW'.2.2.len hs_h.out.2 ty; rw [hq2_h.out] at hlen; clear hW'; go_simp; first | done | with_reducible rfl)
       simp only [Act.put, nS]
       refine tkC 5 ?_ rfl (⟨hN4_h.out.b3, hko4_h.out, hM4_h.out⟩ : _ ∧ _ ∧ _) (fun W' hW' => ?_) ?_; rotate_left; · (obtain ⟨⟨y1, z1⟩, ⟨⟨c0, c1', c2', c3', c4', c5, c6, c7, c8, c9⟩, f8, f9⟩⟩ := (⟨cellT hW'.1, box10 hW'.2.1⟩ : _ ∧ _); have hlen := fun ty => hW'.2.2.len hs_h.out.2 ty; rw [hq2_h.out] at hlen; clear hW'; go_simp; first | done | with_reducible rfl)
       simp only [Act.put, nS]
       refine tkC 6 ?_ rfl (⟨hN4_h.out.b3, hko4_h.out, hM4_h.out⟩ : _ ∧ _ ∧ _) (fun W' hW' => ?_) ?_; rotate_left; · (obtain ⟨⟨y1, z1⟩, ⟨⟨c0, c1', c2', c3', c4', c5, c6, c7, c8, c9⟩, f8, f9⟩⟩ := (⟨cellT hW'.1, box10 hW'.2.1⟩ : _ ∧ _); have hlen := fun ty => hW'.2.2.len hs_h.out.2 ty; rw [hq2_h.out] at hlen; clear hW'; go_simp; first | done | with_reducible rfl)
       simp only [Act.put, nS]
       obtain ⟨y1, z1⟩ := cellT hN4_h.out.b3
       obtain ⟨hN5, hk5⟩ := hN4_h.out.set3 (u2 + (q2 : Int))
       simp only at hN5
       have hk15 := hK4_h.out.trans (hk5.mono (T := OwnN c1 c3 Wa Ea) fun _ _ e => .inr (.inl e))
       clear hk5; have hN5_h := lH hN5; have hk15_h := lH hk15; clear hN5 hk15
       have hwr : IntKind.i64.wrap (u2 + (q2 : Int)) = u2 + (q2 : Int) := by simp [IntKind.wrap, IntKind.bits, IntKind.signed]; omega
       rw [hwr]
       refine oneZ 7 rfl (by kernel_rfl) (by rfl) (fun K hK => ?_)
       go_simp
       refine hK _ _ (fun h => by cases h) ?_
       clear hK K
       refine doneZ (by kernel_rfl) ?_
       go_wp2_with (fail)
       go_end0
       refine ⟨rfl, ?_, hk15_h.out⟩
       show NumS W c1 c2 c3 c4 Wa Ea n m (putN t1 u1 s.1, putN t2 u2 s.2, u1 + (s.1.length : Int), u2 + (s.2.length : Int)) _
       rw [hq1_h.out, hq2_h.out]
       exact hN5_h.out
     · intro x w8 cnt' hxs hLx hwf hR8 hlt8 hk8 hz8 hen
       have hxr := hr2_h.out x hxs
       obtain ⟨xx, rfl⟩ : ∃ xx : Nat, x = (xx : Int) := ⟨x.toNat, by omega⟩
       have hst : putF t2 u2 s.2 (fun z => L z && !decide (z = (xx : Int))) = (putF t2 u2 s.2 L).set xx (u2 + idx s.2 xx) := putF_step hxs (fun _ => rfl)
       obtain ⟨q, hq⟩ : ∃ q, idx s.2 (xx : Int) = q := ⟨_, rfl⟩
       have hqr := idx_lt hxs
       rw [hq] at hqr hen hst
       have hls := hls2_h.out
       have hq1 : 0 ≤ q ∧ q ≤ 60 := by omega
       have hN8 := hN'_h.out.far hN_h.out (Nat.le_refl _) hk8
       have hnb := hN8.bx
       simp only at hnb
       obtain ⟨⟨y1, z1⟩, ⟨y2, z2⟩, ⟨y3, z3⟩, y4, z4⟩ := hnb
       obtain ⟨zd, z0, ze, _, _, zc, zf⟩ := hN8.i2.at_ (j := xx) (by rw [hN8.l2]; omega)
       obtain rfl := Option.some.inj ze
       have zfk := zf xx
       obtain ⟨hN9, hk9⟩ := hN8.setE (j := xx) (u2 + q) (by omega)
       simp only at hN9
       rw [← hst] at hN9
       obtain ⟨_, qb⟩ := is_box hN8.i2
       have hmw := (hw0_h.out.nums h_h.out hK'_h.out)
       obtain ⟨_, _, _, _, _, _, _, _, _, _, hM2'⟩ := hmw
       obtain ⟨_, qb'⟩ := is_box hN'_h.out.i2
       have hR9 := hR8.keeps hk9 (hM2'.ne_cells qb') (by have := hN_h.out.i2.lt Ea.block (List.mem_cons_self ..); omega)
       have hk39 : Keeps (OwnN c1 c3 Wa Ea) w (w8.setCell (Ea.add xx) (.int .i64 (u2 + q))) := (hK'_h.out.free hk8 (fun b h1 h2 => by omega)).trans (hk9.mono (T := OwnN c1 c3 Wa Ea) fun _ _ e => .inr (.inr (.inr e)))
       have hxI : (xx : Int) < (m : Int) := by omega
       clear hk8 hN8 hk9 hst hM2' qb qb' zf ze hqr hq hxs; have hR9_h := lH hR9; have hN9_h := lH hN9; have hk39_h := lH hk39; clear hR9 hN9 hk39
       go_wp2_with (fail)
       go_roundw
       case rel => exact ⟨_, cnt', hR9_h.out, hN9_h.out, hk39_h.out⟩
       case measure => rw [hR9_h.out.left_eq, hR_h.out.left_eq]; exact hlt8
  · intro x w8 cnt' hxs hLx hwf hR8 hlt8 hk8 hz8 hen
    have hxr := hr1_h.out x hxs
    obtain ⟨xx, rfl⟩ : ∃ xx : Nat, x = (xx : Int) := ⟨x.toNat, by omega⟩
    have hst : putF t1 u1 s.1 (fun z => L z && !decide (z = (xx : Int))) = (putF t1 u1 s.1 L).set xx (u1 + idx s.1 xx) := putF_step hxs (fun _ => rfl)
    obtain ⟨q, hq⟩ : ∃ q, idx s.1 (xx : Int) = q := ⟨_, rfl⟩
    have hqr := idx_lt hxs
    rw [hq] at hqr hen hst
    have hls := hls1_h.out
    have hq1 : 0 ≤ q ∧ q ≤ 100 := by omega
    have hN8 := hN_h.out.far h_h.out (Nat.le_refl _) hk8
    have hnb := hN8.bx
    simp only at hnb
    obtain ⟨⟨y1, z1⟩, ⟨y2, z2⟩, ⟨y3, z3⟩, y4, z4⟩ := hnb
    obtain ⟨zd, z0, ze, _, _, zc, zf⟩ := hN8.i1.at_ (j := xx) (by rw [hN8.l1]; omega)
    obtain rfl := Option.some.inj ze
    have zfk := zf xx
    obtain ⟨hN9, hk9⟩ := hN8.setW (j := xx) (u1 + q) (by omega)
    simp only at hN9
    rw [← hst] at hN9
    have hmw := (hw0_h.out.nums h_h.out hK_h.out)
    obtain ⟨_, _, _, _, _, _, _, _, _, hM2', _⟩ := hmw
    obtain ⟨_, qb'⟩ := is_box hN_h.out.i1
    have hR9 := hR8.keeps hk9 (hM1_h.out.ne_cells (is_box h_h.out.i1).choose_spec) (by have := h_h.out.i1.lt Wa.block (List.mem_cons_self ..); omega)
    have hk39 : Keeps (OwnN c1 c3 Wa Ea) w (w8.setCell (Wa.add xx) (.int .i64 (u1 + q))) := (hK_h.out.free hk8 (fun b h1 h2 => by omega)).trans (hk9.mono (T := OwnN c1 c3 Wa Ea) fun _ _ e => .inr (.inr (.inl e)))
    have hxI : (xx : Int) < (n : Int) := by omega
    clear hk8 hN8 hk9 hst hM2' qb' zf ze hqr hq hxs; have hR9_h := lH hR9; have hN9_h := lH hN9; have hk39_h := lH hk39; clear hR9 hN9 hk39
    go_wp2_with (fail)
    go_roundw
    case rel => exact ⟨_, cnt', hR9_h.out, hN9_h.out, hk39_h.out⟩
    case measure => rw [hR9_h.out.left_eq, hR_h.out.left_eq]; exact hlt8
abbrev tLp : TypeId := 90
structure Lp where
 D : Option Addr
 dl : Nat
 dc : Nat
 A : Option Addr
 al : Nat
 ac : Nat
 G : Option Addr
 gl : Nat
 gc : Nat
 P : Prt
def Lp.cells (x : Lp) : List Value := [.slice x.D x.dl x.dc, .slice x.A x.al x.ac, .slice x.G x.gl x.gc, .int .i64 x.P.2.2]
structure LpOk (w : World) (x : Lp) : Prop where
 cod : IS w x.D x.dc x.P.1
 wir : IS w x.A x.ac x.P.2.1.1
 edg : IS w x.G x.gc x.P.2.1.2
 len : (x.P.1.length = x.dl ∧ x.dl ≤ 1048576) ∧ (x.P.2.1.1.length = x.al ∧ x.al ≤ 1048576) ∧ x.P.2.1.2.length = x.gl ∧ x.gl ≤ 1048576
theorem LpOk.below {w w' : World} {x : Lp} (h : LpOk w x) (hb : Below w.heap.size w w') : LpOk w' x := ⟨h.cod.below hb, h.wir.below hb, h.edg.below hb, h.len⟩
theorem LpOk.keeps {w w' : World} {x : Lp} (h : LpOk w x) {S : Nat → Prop} (hk : Keeps S w w') (hS : ∀ b, (b ∈ fpA x.D ∨ b ∈ fpA x.A ∨ b ∈ fpA x.G) → ¬ S b) : LpOk w' x :=
 ⟨h.cod.keeps hk fun b hb => hS b (.inl hb), h.wir.keeps hk fun b hb => hS b (.inr (.inl hb)), h.edg.keeps hk fun b hb => hS b (.inr (.inr hb)), h.len⟩
set_option maxRecDepth 100000 in
set_option maxHeartbeats 4000000 in
theorem cnLoopBefore_any (x y : Lp) (w : World) (hx : LpOk w x) (hy : LpOk w y) (hrx : ∀ v, v ∈ x.P.2.1.1 → 0 ≤ v) (hry : ∀ v, v ∈ y.P.2.1.1 → 0 ≤ v) :
  Calls Tryz.prog 96 #[.agg x.cells.toArray, .agg y.cells.toArray] w fun e w' => e = .returned (.bool (befP x.P y.P)) ∧ Below w.heap.size w w' := by
 obtain ⟨XD, xdl, xdc, XA, xal, xac, XG, xgl, xgc, P⟩ := x
 obtain ⟨YD, ydl, ydc, YA, yal, yac, YG, ygl, ygc, R⟩ := y
 obtain ⟨a1, a2, a3, ⟨a4, a5⟩, ⟨a6, a7⟩, a8, a9⟩ := hx
 obtain ⟨b1, b2, b3, ⟨b4, b5⟩, ⟨b6, b7⟩, b8, b9⟩ := hy
 simp only at a1 a2 a4 a5 a6 a7 b1 b2 b4 b5 b6 b7 hrx hry
 show Calls _ _ #[.agg #[.slice XD xdl xdc, .slice XA xal xac, .slice XG xgl xgc, .int .i64 P.2.2], .agg #[.slice YD ydl ydc, .slice YA yal yac, .slice YG ygl ygc, .int .i64 R.2.2]] w fun e w' => e = .returned (.bool (befP P R)) ∧ Below w.heap.size w w'
 obtain ⟨wy, hwy⟩ : ∃ u, P.2.2 = u := ⟨_, rfl⟩
 obtain ⟨wy', hwy'⟩ : ∃ u, R.2.2 = u := ⟨_, rfl⟩
 rw [hwy, hwy']
 obtain ⟨W, hW, bW, q0, q1⟩ := twoBoxesC w (.cells #[.slice XD xdl xdc, .slice XA xal xac, .slice XG xgl xgc, .int .i64 wy] tLp) (.cells #[.slice YD ydl ydc, .slice YA yal yac, .slice YG ygl ygc, .int .i64 wy'] tLp)
 have hr1 := leastW_rng P.2.1.1 100 (by decide) (by decide) hrx
 have hr2 := leastW_rng R.2.1.1 100 (by decide) (by decide) hry
 have hbf : befP P R = if P.1 = R.1 then decide (leastW P.2.1.1 < leastW R.2.1.1) else lexI P.1 R.1 := rfl
 have hS := l1Same_any XD YD xdc ydc xdl ydl P.1 R.1 W (a1.below bW).rd (b1.below bW).rd a4 b4 a5 b5
 have hBf := fun (W' : World) (hb : Below W.heap.size W W') => cnBefore_any XD YD xdc ydc xdl ydl P.1 R.1 W' ((a1.below bW).below hb).rd ((b1.below bW).below hb).rd a4 b4 a5
 have hL1 := fun (W' : World) (hb : Below W.heap.size W W') => cnLeast_any XA xac xal P.2.1.1 W' ((a2.below bW).below hb).rd a6 a7
 have hL2 := fun (W' : World) (hb : Below W.heap.size W W') => cnLeast_any YA yac yal R.2.1.1 W' ((b2.below bW).below hb).rd b6 b7
 change 0 ≤ leastW P.2.1.1 ∧ leastW P.2.1.1 ≤ 100 at hr1
 change 0 ≤ leastW R.2.1.1 ∧ leastW R.2.1.1 ≤ 100 at hr2
 obtain ⟨u, hu⟩ : ∃ u, leastW P.2.1.1 = u := ⟨_, rfl⟩
 obtain ⟨u', hu'⟩ : ∃ u, leastW R.2.1.1 = u := ⟨_, rfl⟩
 rw [hu] at hr1 hL1 hbf
 rw [hu'] at hr2 hL2 hbf
 clear a1 a2 a3 a4 a5 a6 a7 a8 a9 b1 b2 b3 b4 b5 b6 b7 b8 b9 hrx hry hu hu' hwy hwy'
 obtain ⟨⟨c0, c1, c2, c3⟩, f0, f1, f2, f3⟩ := t_box4 q0
 obtain ⟨⟨d0, d1, d2, d3⟩, g0, g1, g2, g3⟩ := t_box4 q1
 have bW_h := lH bW; have q0_h := lH q0; have q1_h := lH q1; have hS_h := lH hS; have hBf_h := lH hBf; have hL1_h := lH hL1; have hL2_h := lH hL2; clear bW q0 q1 hS hBf hL1 hL2
 go_enter Tryz.func96, Tryz.ntmps96
 go_upto_region 1 with (fail)
 rw [← hW]
 clear hW
 go_wp2_with (fail)
 refine (hS_h.out).mono ?_
 rintro e w2 ⟨rfl, hb2⟩
 clear c0 c1 c2 c3 f0 f1 f2 f3 d0 d1 d2 d3 g0 g1 g2 g3
 have q0' := t_box_below q0_h.out hb2
 have q1' := t_box_below q1_h.out hb2
 have hB2 := below_trans bW_h.out hb2 bW_h.out.size
 by_cases he : P.1 = R.1
 · rw [if_pos he] at hbf
   rw [decide_eq_true he]
   have q0'_h := lH q0'; have q1'_h := lH q1'; have hB2_h := lH hB2; have hb2_h := lH hb2; clear q0' q1' hB2 hb2
   go_upto_region 2 with (fail)
   refine beginH (fun w' => Below w2.heap.size w2 w') (by kernel_rfl) ?_
   have hbd : Below w2.heap.size w2 w2.drew := below_drewN (Below.refl _ _) 1
   generalize w2.drew = W1 at hbd ⊢
   refine tkH 0 ?_ rfl hbd (fun W' hW' => ?_) ?_; rotate_left; · (obtain ⟨⟨⟨c0, c1, c2, c3⟩, f0, f1, f2, f3⟩, ⟨d0, d1, d2, d3⟩, g0, g1, g2, g3⟩ := (⟨t_box4 (t_box_below q0'_h.out hW'), t_box4 (t_box_below q1'_h.out hW')⟩ : _ ∧ _); clear hW'; go_simp; first | done | with_reducible rfl)
   simp only [Act.put, nS]
   refine tkH 1 ?_ rfl hbd (fun W' hW' => ?_) ?_; rotate_left; · (obtain ⟨⟨⟨c0, c1, c2, c3⟩, f0, f1, f2, f3⟩, ⟨d0, d1, d2, d3⟩, g0, g1, g2, g3⟩ := (⟨t_box4 (t_box_below q0'_h.out hW'), t_box4 (t_box_below q1'_h.out hW')⟩ : _ ∧ _); clear hW'; go_simp; first | done | with_reducible rfl)
   simp only [Act.put, nS]
   refine tkH 3 ?_ rfl hbd (fun W' hW' => ?_) ?_; rotate_left; · (obtain ⟨⟨⟨c0, c1, c2, c3⟩, f0, f1, f2, f3⟩, ⟨d0, d1, d2, d3⟩, g0, g1, g2, g3⟩ := (⟨t_box4 (t_box_below q0'_h.out hW'), t_box4 (t_box_below q1'_h.out hW')⟩ : _ ∧ _); clear hW'; go_simp; first | done | with_reducible rfl)
   simp only [Act.put, nS]
   refine tkH 4 ?_ rfl hbd (fun W' hW' => ?_) ?_; rotate_left; · (obtain ⟨⟨⟨c0, c1, c2, c3⟩, f0, f1, f2, f3⟩, ⟨d0, d1, d2, d3⟩, g0, g1, g2, g3⟩ := (⟨t_box4 (t_box_below q0'_h.out hW'), t_box4 (t_box_below q1'_h.out hW')⟩ : _ ∧ _); clear hW'; go_simp; first | done | with_reducible rfl)
   simp only [Act.put, nS]
   refine relT [(2, 12), (5, 15)] (fun _ => []) (fun d _ v _ => if d = 12 then v = .int .i64 u else v = .int .i64 u') (fun _ _ => []) 2 rfl (by kernel_rfl) ?st1 ?co1 (fun w' hw' => below_trans hbd hw' hbd.size) ?sp1 ?fi1
   case st1 => exact fun d xs => Stb.ite (fun _ _ _ h _ => h) (fun _ _ _ h _ => h)
   case co1 => exact fun z hz xs ys v w hd h => h
   case sp1 =>
    refine ⟨⟨_, rfl, fun xs w5 hb5 hd K hK => ?_⟩, ⟨_, rfl, fun xs w5 hb5 hd K hK => ?_⟩, trivial⟩
    · simp only [putZ, List.foldl_cons, List.foldl_nil, Act.put, nS] at hK ⊢
      refine wp_callZ (f := ?f_1) (args := ?args_1) ?hr_1 ?hc_1
      case hr_1 => (go_simp; first | done | with_reducible rfl | (constructor <;> with_reducible rfl))
      case hc_1 =>
       refine (hL1_h.out w5 (below_trans (below_trans hb2_h.out hbd hb2_h.out.size) hb5 (Nat.le_trans hb2_h.out.size hbd.size))).mono ?_
       rintro e w6 ⟨rfl, rfl⟩
       exact ⟨_, rfl, hK _ _ (Below.refl _ _) rfl fun b hb => by cases hb⟩
    · simp only [putZ, List.foldl_cons, List.foldl_nil, Act.put, nS] at hK ⊢
      refine wp_callZ (f := ?f_2) (args := ?args_2) ?hr_2 ?hc_2
      case hr_2 => (go_simp; first | done | with_reducible rfl | (constructor <;> with_reducible rfl))
      case hc_2 =>
       refine (hL2_h.out w5 (below_trans (below_trans hb2_h.out hbd hb2_h.out.size) hb5 (Nat.le_trans hb2_h.out.size hbd.size))).mono ?_
       rintro e w6 ⟨rfl, rfl⟩
       exact ⟨_, rfl, hK _ _ (Below.refl _ _) rfl fun b hb => by cases hb⟩
   case fi1 =>
    intro xs w6 hb6 hR hO hD
    have h1 : xs 12 = .int .i64 u := hR (2, 12) (by simp)
    have h2 : xs 15 = .int .i64 u' := hR (5, 15) (by simp)
    have hb26 := below_trans hbd hb6 hbd.size
    clear hR hO hD
    simp only [putZ, List.foldl_cons, List.foldl_nil, Act.put, nS, h1, h2, mkZ]
    refine tkH 6 ?_ rfl hb26 (fun W' hW' => ?_) ?_; rotate_left; · (skip; clear hW'; go_simp; first | done | with_reducible rfl)
    simp only [Act.put, nS]
    refine tkH 7 ?_ rfl hb26 (fun W' hW' => ?_) ?_; rotate_left; · (skip; clear hW'; go_simp; first | done | with_reducible rfl)
    simp only [Act.put, nS]
    refine doneH (by kernel_rfl) ?_
    go_wp2_with (fail)
    go_ret
    rw [hbf]
    exact ⟨rfl, below_trans hB2_h.out hb26 hB2_h.out.size⟩
 · rw [if_neg he] at hbf
   rw [decide_eq_false he]
   obtain ⟨⟨c0, c1, c2, c3⟩, f0, f1, f2, f3⟩ := t_box4 q0'
   obtain ⟨⟨d0, d1, d2, d3⟩, g0, g1, g2, g3⟩ := t_box4 q1'
   clear q0' q1'; have hB2_h := lH hB2; have hb2_h := lH hb2; clear hB2 hb2
   go_wp2_with (fail)
   refine (hBf_h.out w2 hb2_h.out).mono ?_
   rintro e w3 ⟨rfl, hb3⟩
   go_wp2_with (fail)
   go_ret
   rw [hbf]
   exact ⟨rfl, below_trans hB2_h.out hb3 hB2_h.out.size⟩
theorem cp_at {w : World} {A : Option Addr} {n cap : Nat} {xs : List Cp} (hs : Sl w tCp 4 A n cap (xs.flatMap Cp.cells)) {j : Nat} {x : Cp} (hx : xs[j]? = some x) : ∃ ad, A = some ad ∧
  w.cell? (ad.add (j * 4)) = some (.pointer (some ⟨x.b, 0, none⟩)) ∧ w.cell? ⟨(ad.add (j * 4)).block, (ad.add (j * 4)).off + 1, none⟩ = some (.slice x.D x.dl x.dc) ∧ w.cell? ⟨(ad.add (j * 4)).block, (ad.add (j * 4)).off + 2, none⟩ = some (.int .i64 (leastW x.P.2.1.1)) ∧ w.cell? ⟨(ad.add (j * 4)).block, (ad.add (j * 4)).off + 3, none⟩ = some (.int .i64 x.P.2.2) := by
 have hk : ∀ x : Cp, x.cells.length = 4 := fun _ => rfl
 have h0 := flat_get hk xs j 0 x hx (by omega)
 have h1 := flat_get hk xs j 1 x hx (by omega)
 have h2 := flat_get hk xs j 2 x hx (by omega)
 have h3 := flat_get hk xs j 3 x hx (by omega)
 obtain ⟨ad, hA, _, c0, _⟩ := hs.cell h0
 obtain ⟨ad1, hA1, _, c1, _⟩ := hs.cell h1
 obtain ⟨ad2, hA2, _, c2, _⟩ := hs.cell h2
 obtain ⟨ad3, hA3, _, c3, _⟩ := hs.cell h3
 rw [hA] at hA1 hA2 hA3
 obtain rfl := Option.some.inj hA1
 obtain rfl := Option.some.inj hA2
 obtain rfl := Option.some.inj hA3
 rw [add_next _ _ 1 (by omega)] at c1
 rw [add_next _ _ 2 (by omega)] at c2
 rw [add_next _ _ 3 (by omega)] at c3
 exact ⟨ad, hA, c0, c1, c2, c3⟩
structure Num2 (W : World) (c2 c4 : Nat) (Wa Ea : Addr) (n m : Nat) (w : World) : Prop where
 b2 : w.heap[c2]? = some (.cells #[.slice (some Wa) n n] tIS)
 b4 : w.heap[c4]? = some (.cells #[.slice (some Ea) m m] tIS)
 i1 : IS w (some Wa) n (List.replicate n (-1))
 i2 : IS w (some Ea) m (List.replicate m (-1))
 ne : Wa.block ≠ Ea.block
 new : W.heap.size ≤ Wa.block ∧ W.heap.size ≤ Ea.block
 bel : Below W.heap.size W w
theorem NumS.sl {W w w' : World} {c1 c2 c3 c4 n m : Nat} {Wa Ea : Addr} {t : Nums} (hN : NumS W c1 c2 c3 c4 Wa Ea n m t w) {e : TypeId} (he : e ≠ tInt) {sz k cap : Nat} {A : Option Addr} {xs : List Value} (hs : Sl w e sz A k cap xs) (hk : Keeps (OwnN c1 c3 Wa Ea) w w') : Sl w' e sz A k cap xs :=
 hs.keeps hk fun b hb hS => by
  obtain ⟨⟨cs, q⟩, _⟩ := hN.off hS
  rcases hs.2.2.2 with ⟨rfl, _⟩ | ⟨g, off', cur, rfl, hg, _⟩
  · cases hb
  · obtain rfl : b = g := by simpa using hb
    rw [hg] at q
    injection q with q
    injection q with _ h1
    exact he h1
theorem ord_le {g : Gr} {n : Nat} (h : Mono g n) (k : Nat) : (ordW g k).length ≤ n ∧ (ordE g k).length ≤ g.2.1.length := by
 have e1 : ordW g (partsM g).length = ordW g k ++ ((partsM g).drop k).flatMap fun b => b.2.1.1 := by
  unfold ordW
  rw [List.take_length, List.append_assoc, ← List.flatMap_append, List.take_append_drop]
 have e2 : ordE g (partsM g).length = ordE g k ++ ((partsM g).drop k).flatMap fun b => b.2.1.2 := by
  unfold ordE
  rw [List.take_length, List.append_assoc, ← List.flatMap_append, List.take_append_drop]
 have h1 := nodup_le (ordW_all h).1 fun x hx => ((ordW_all h).2 x).1 hx
 have h2 := nodup_le (ordE_all h).1 fun x hx => ((ordE_all h).2 x).1 hx
 rw [e1, List.length_append] at h1
 rw [e2, List.length_append] at h2
 omega
theorem part_facts {g : Gr} {n : Nat} (h : Mono g n) {b : Prt} (hb : b ∈ partsM g) : (b.2.1.1.Nodup ∧ b.2.1.2.Nodup) ∧ (∀ x, x ∈ b.2.1.1 → 0 ≤ x ∧ x < (n : Int)) ∧ ∀ x, x ∈ b.2.1.2 → 0 ≤ x ∧ x < (g.2.1.length : Int) := by
 obtain ⟨c, _, hc, rfl⟩ := parts_of h hb
 obtain ⟨h1, h2, h3, h4⟩ := part_has h hc
 exact ⟨⟨h1, h2⟩, fun x hx => ((h3 x).1 hx).1, fun x hx => ((h4 x).1 hx).1⟩
def BoxV (v : Value) (w : World) : Prop := ∃ lb, v = .pointer (some ⟨lb, 0, none⟩) ∧ w.heap[lb]? = some (.cells #[.slice none 0 0] tIS)
set_option maxRecDepth 100000 in
set_option maxHeartbeats 8000000 in
theorem canonicalNumbers_any {v : Value} {g : Gr} (w : World) (n m : Nat) (h : RdGr w v g) (hMo : Mono g n) (hv : grB g = true) (hm : g.2.1.length = m) :
  Calls Tryz.prog 59 #[v] w fun e w' => ∃ Wa Ea : Addr, e = .returned (.tuple #[.slice (some Wa) n n, .slice (some Ea) m m]) ∧ IS w' (some Wa) n (cnM g).1 ∧ IS w' (some Ea) m (cnM g).2 ∧ Wa.block ≠ Ea.block ∧ w.heap.size ≤ Wa.block ∧ w.heap.size ≤ Ea.block ∧ Below w.heap.size w w' := by
 have hn100 := hMo.n100
 have hm60 : m ≤ 60 := by rw [← hm]; exact hMo.m60
 have hgn := hMo.hn
 have hW0 := h
 obtain ⟨A, c, hs, ⟨B, bb, s⟩, ⟨C, d, t⟩, rfl, e1, e2, e3, hE, hRa, hRb⟩ := h
 have hml : hs.length = m := by rw [← hm, e1, List.length_map]
 simp only [hgn, hml] at hW0 ⊢
 obtain ⟨p, hp⟩ : ∃ p, s.length = p := ⟨_, rfl⟩
 obtain ⟨r, hr⟩ : ∃ r, t.length = r := ⟨_, rfl⟩
 rw [hp, hr] at hW0 ⊢
 obtain ⟨W, hWe, bW, k0⟩ := (⟨_, rfl, t_below_alloc _ _, heap_alloc_new _ _⟩ : ∃ W, W = w.alloc (.cells #[.int .i64 (n : Int), .slice A m c, .slice B p bb, .slice C r d] tGr) ∧ Below w.heap.size w W ∧ W.heap[w.heap.size]? = some (.cells #[.int .i64 (n : Int), .slice A m c, .slice B p bb, .slice C r d] tGr))
 obtain ⟨⟨c0, c1, c2, c3⟩, f0, f1, f2, f3⟩ := t_box4 k0
 have how := openWalk_any W n (hW0.below bW) hMo
 have hC1 := fun W => repeated_any (-1) n W (by omega)
 have hC2 := fun W => repeated_any (-1) m W (by omega)
 clear hRa hRb e1 e2 e3 hE; have hMo_h := lH hMo; have hm_h := lH hm; have hW0_h := lH hW0; have hgn_h := lH hgn; have hml_h := lH hml; have hp_h := lH hp; have hr_h := lH hr; have bW_h := lH bW; have k0_h := lH k0; have hv_h := lH hv; have how_h := lH how; have hC1_h := lH hC1; have hC2_h := lH hC2; clear hMo hm hW0 hgn hml hp hr bW k0 hv how hC1 hC2
 go_enter Tryz.func59, Tryz.ntmps59
 go_upto_region 1 with (fail)
 rw [← hWe]
 clear hWe
 go_wp2_with (fail)
 refine (how_h.out).mono ?_
 rintro e w1 ⟨ob, ow, oe, rfl, hw1, hnew1, hb1⟩
 have k1 := t_box_below k0_h.out hb1
 have hB1 := below_trans bW_h.out hb1 bW_h.out.size
 clear how_h hb1 k0_h; clear c0 c1 c2 c3 f0 f1 f2 f3; have k1_h := lH k1; have hB1_h := lH hB1; have hw1_h := lH hw1; have hnew1_h := lH hnew1; clear k1 hB1 hw1 hnew1
 go_upto_region 2 with (fail)
 go_cut [5, 6] (fun s5 s6 wx => ∃ (c2 c4 : Nat) (Wa Ea : Addr), s5 = .pointer (some ⟨c2, 0, none⟩) ∧ s6 = .pointer (some ⟨c4, 0, none⟩) ∧ Num2 w1 c2 c4 Wa Ea n m wx)
 case first =>
  refine beginH (fun w' => Below w1.heap.size w1 w' ) (by kernel_rfl) ?_
  have hbd : Below w1.heap.size w1 w1.drew := below_drewN (Below.refl _ _) 1
  generalize w1.drew = W1 at hbd ⊢
  refine tkH 0 ?_ rfl hbd (fun W' hW' => ?_) ?_; rotate_left; · (obtain ⟨⟨y0, y1, y2, y3⟩, y4, y5, y6, y7⟩ := t_box4 (t_box_below k1_h.out hW'); clear hW'; go_simp; first | done | with_reducible rfl)
  simp only [Act.put, nS]
  refine tkH 1 ?_ rfl hbd (fun W' hW' => ?_) ?_; rotate_left; · (obtain ⟨⟨y0, y1, y2, y3⟩, y4, y5, y6, y7⟩ := t_box4 (t_box_below k1_h.out hW'); clear hW'; go_simp; first | done | with_reducible rfl)
  simp only [Act.put, nS]
  refine tkH 3 ?_ rfl hbd (fun W' hW' => ?_) ?_; rotate_left; · (obtain ⟨⟨y0, y1, y2, y3⟩, y4, y5, y6, y7⟩ := t_box4 (t_box_below k1_h.out hW'); clear hW'; go_simp; first | done | with_reducible rfl)
  simp only [Act.put, nS]
  refine tkH 4 ?_ rfl hbd (fun W' hW' => ?_) ?_; rotate_left; · (obtain ⟨⟨y0, y1, y2, y3⟩, y4, y5, y6, y7⟩ := t_box4 (t_box_below k1_h.out hW'); clear hW'; go_simp; first | done | with_reducible rfl)
  simp only [Act.put, nS]
  refine tkH 5 ?_ rfl hbd (fun W' hW' => ?_) ?_; rotate_left; · (obtain ⟨⟨y0, y1, y2, y3⟩, y4, y5, y6, y7⟩ := t_box4 (t_box_below k1_h.out hW'); clear hW'; go_simp; first | done | with_reducible rfl)
  simp only [Act.put, nS]
  refine relT [(2, 16), (6, 20), (7, 5), (8, 6)] (fun _ => []) (fun d _ v w => if d = 16 then RepV n (-1) v w else if d = 20 then RepV m (-1) v w else BoxV v w) (fun _ => blkV) 2 rfl (by kernel_rfl) ?st1 ?co1 (fun w' hw' => below_trans hbd hw' hbd.size) ?sp1 ?fi1
  case st1 => exact fun d xs => (RepV.stb n (-1)).ite ((RepV.stb m (-1)).ite fun v w w' ⟨lb, e, h⟩ hb => ⟨lb, e, t_box_below h hb⟩)
  case co1 => exact fun z hz xs ys v w hd h => h
  case sp1 =>
   refine ⟨⟨_, rfl, fun xs w5 hb5 hd K hK => ?_⟩, ⟨_, rfl, fun xs w5 hb5 hd K hK => ?_⟩, ⟨_, rfl, fun xs w5 hb5 hd K hK => ?_⟩, ⟨_, rfl, fun xs w5 hb5 hd K hK => ?_⟩, trivial⟩
   · simp only [putZ, List.foldl_cons, List.foldl_nil, Act.put, nS] at hK ⊢
     refine wp_callZ (f := ?f_1) (args := ?args_1) ?hr_1 ?hc_1
     case hr_1 => (go_simp; first | done | with_reducible rfl | (constructor <;> with_reducible rfl))
     case hc_1 =>
      refine (hC1_h.out w5).mono ?_
      rintro e w6 ⟨G, rfl, hI, hG, hb6⟩
      exact ⟨_, rfl, hK _ _ hb6 ⟨G, rfl, hI⟩ fun b hb => by
       obtain rfl : b = G.block := by simpa [blkV] using hb
       exact ⟨hG, hI.lt G.block (by simp)⟩⟩
   · simp only [putZ, List.foldl_cons, List.foldl_nil, Act.put, nS] at hK ⊢
     refine wp_callZ (f := ?f_2) (args := ?args_2) ?hr_2 ?hc_2
     case hr_2 => (go_simp; first | done | with_reducible rfl | (constructor <;> with_reducible rfl))
     case hc_2 =>
      refine (hC2_h.out w5).mono ?_
      rintro e w6 ⟨G, rfl, hI, hG, hb6⟩
      exact ⟨_, rfl, hK _ _ hb6 ⟨G, rfl, hI⟩ fun b hb => by
       obtain rfl : b = G.block := by simpa [blkV] using hb
       exact ⟨hG, hI.lt G.block (by simp)⟩⟩
   · simp only [putZ, List.foldl_cons, List.foldl_nil, Act.put, nS] at hK ⊢
     go_simp
     exact hK _ _ (t_below_alloc _ _) ⟨_, rfl, heap_alloc_new _ _⟩ fun b hb => by
      obtain rfl : b = w5.heap.size := by simpa [blkV] using hb
      simp
   · simp only [putZ, List.foldl_cons, List.foldl_nil, Act.put, nS] at hK ⊢
     go_simp
     exact hK _ _ (t_below_alloc _ _) ⟨_, rfl, heap_alloc_new _ _⟩ fun b hb => by
      obtain rfl : b = w5.heap.size := by simpa [blkV] using hb
      simp
  case fi1 =>
   intro xs w6 hb6 hR hO hD
   obtain ⟨G1, h1, hI1⟩ := (hR (2, 16) (by simp) : RepV n (-1) (xs 16) w6)
   obtain ⟨G2, h2, hI2⟩ := (hR (6, 20) (by simp) : RepV m (-1) (xs 20) w6)
   obtain ⟨l1, h3, hx1⟩ := (hR (7, 5) (by simp) : BoxV (xs 5) w6)
   obtain ⟨l2, h4, hx2⟩ := (hR (8, 6) (by simp) : BoxV (xs 6) w6)
   have o1 := hO (2, 16) (by simp) G1.block (by show _ ∈ blkV (xs 16); rw [h1]; simp [blkV])
   have o2 := hO (6, 20) (by simp) G2.block (by show _ ∈ blkV (xs 20); rw [h2]; simp [blkV])
   have o3 := hO (7, 5) (by simp) l1 (by show _ ∈ blkV (xs 5); rw [h3]; simp [blkV])
   have o4 := hO (8, 6) (by simp) l2 (by show _ ∈ blkV (xs 6); rw [h4]; simp [blkV])
   have d12 : G1.block ≠ G2.block := fun e => hD (2, 16) (by simp) (6, 20) (by simp) (by decide) G1.block (by show _ ∈ blkV (xs 16); rw [h1]; simp [blkV]) (by show _ ∈ blkV (xs 20); rw [h2, e]; simp [blkV])
   have d34 : l1 ≠ l2 := fun e => hD (7, 5) (by simp) (8, 6) (by simp) (by decide) l1 (by show _ ∈ blkV (xs 5); rw [h3]; simp [blkV]) (by show _ ∈ blkV (xs 6); rw [h4, e]; simp [blkV])
   have hbW := below_trans hbd hb6 hbd.size
   have hz1 := hbd.size
   obtain ⟨x1, y1⟩ := cellT hx1
   obtain ⟨x2, y2⟩ := cellT hx2
   obtain ⟨s1, k1'⟩ := set1c (y := .slice (some G1) n n) hx1
   have hx2' := t_box_keeps hx2 k1' (fun e => d34 e.symm)
   obtain ⟨s12, k12'⟩ := set1c (y := .slice (some G2) m m) hx2'
   obtain ⟨x4, y4⟩ := cellT hx2'
   have key : ∀ W', W'.heap[l1]? = some (.cells #[.slice (some G1) n n] tIS) → W'.heap[l2]? = some (.cells #[.slice (some G2) m m] tIS) → Keeps (fun b => b = l1 ∨ b = l2) w6 W' → Num2 w1 l1 l2 G1 G2 n m W' := fun W' q1 q2 hk => by
    have off : ∀ G : Addr, ∀ c l, IS w6 (some G) c l → ¬ (G.block = l1 ∨ G.block = l2) := fun G c l hI h => by
     rcases h with h | h
     · exact is_ne_box hI hx1 (by decide) h
     · exact is_ne_box hI hx2 (by decide) h
    exact ⟨q1, q2, hI1.keeps hk (fun b hb hs' => off _ _ _ hI1 (by rw [show b = G1.block by simpa using hb] at hs'; exact hs')), hI2.keeps hk (fun b hb hs' => off _ _ _ hI2 (by rw [show b = G2.block by simpa using hb] at hs'; exact hs')), d12, ⟨by omega, by omega⟩, below_keeps hbW hk hbW.size fun b hb => by omega⟩
   have kA := key _ (t_box_keeps s1 k12' d34) s12 ((k1'.mono (T := fun b => b = l1 ∨ b = l2) fun _ _ e => .inl e).trans (k12'.mono (T := fun b => b = l1 ∨ b = l2) fun _ _ e => .inr e))
   have hS1 := below_keeps hbW k1' hbW.size fun b hb => by omega
   clear hR hO hD hI1 hI2 hx1 hx2 hx2' s1 s12 k1' k12' key d12 o1 o2 o3 o4; have kA_h := lH kA; have hS1_h := lH hS1; clear kA hS1
   simp only [putZ, List.foldl_cons, List.foldl_nil, Act.put, nS, h1, h2, h3, h4, mkZ]
   refine oneH 9 rfl (by kernel_rfl) (by rfl) (fun K hK => ?_)
   go_simp
   refine hK _ _ (hS1_h.out) ?_
   clear hK K
   refine oneH 10 rfl (by kernel_rfl) (by rfl) (fun K hK => ?_)
   go_simp
   refine hK _ _ (kA_h.out.bel) ?_
   clear hK K
   refine doneH (by kernel_rfl) ?_
   go_wp2_with (fail)
   go_meet
   exact ⟨l1, l2, G1, G2, rfl, rfl, kA_h.out⟩
 case rest =>
  obtain ⟨c2, c4, Wa, Ea, rfl, rfl, hN⟩ := hcut
  have k2 := t_box_below k1_h.out hN.bel
  obtain ⟨⟨c0, c1, c2', c3⟩, f0, f1, f2, f3⟩ := t_box4 k2
  have hw2 := hw1_h.out.below hN.bel
  have hB2 := below_trans hB1_h.out hN.bel hB1_h.out.size
  have hlt1 := t_box_lt k1_h.out
  clear hw1_h k1_h hC1_h hC2_h
  obtain ⟨W3, hW3, b3, q0, q1⟩ := twoBoxesC wc (.cells #[.int .i64 0] tInt) (.cells #[.int .i64 0] tInt)
  have hN3 : NumS w1 wc.heap.size c2 (wc.heap.size + 1) c4 Wa Ea n m (List.replicate n (-1), List.replicate m (-1), 0, 0) W3 :=
   ⟨q0, t_box_below hN.b2 b3, q1, t_box_below hN.b4 b3, hN.i1.below b3, hN.i2.below b3, by simp, by simp, ⟨by omega, hN.ne, ⟨by have := hN.i1.lt Wa.block (by simp); omega, by have := hN.i2.lt Ea.block (by simp); omega⟩, by have := hN.i1.lt Wa.block (by simp); omega, by have := hN.i2.lt Ea.block (by simp); omega⟩, ⟨hN.bel.size, by have := hN.bel.size; omega, hN.new.1, hN.new.2⟩, below_trans hN.bel b3 hN.bel.size⟩
  have hw3 := hw2.below b3
  have hop := openM_inv hMo_h.out
  have hadd := addNums_any w1 W3 wc.heap.size c2 (wc.heap.size + 1) c4 n m ob ow oe Wa Ea _ (openM g) hN3 hw3 ⟨hop.nd1, hop.nd2⟩ hop.rg1 (by rw [← hm_h.out]; exact hop.rg2) hn100 hm60 ⟨⟨Int.le_refl 0, (by decide : (0 : Int) ≤ 1048576)⟩, Int.le_refl 0, (by decide : (0 : Int) ≤ 1048576)⟩
  have hB3 := below_trans hB2 b3 hB2.size
  have k3 := t_box_below k2 b3
  clear hN hw2 hB2 k2 q0 q1 b3 hop; have hN3_h := lH hN3; have hw3_h := lH hw3; have hB3_h := lH hB3; have k3_h := lH k3; have hadd_h := lH hadd; have hlt1_h := lH hlt1; clear hN3 hw3 hB3 k3 hadd hlt1
  go_upto_region 5 with (fail)
  rw [← hW3]
  clear hW3 c0 c1 c2' c3 f0 f1 f2 f3
  go_wp2_with (fail)
  refine (hadd_h.out).mono ?_
  rintro e w4 ⟨rfl, hN4, hk4⟩
  have e0 : addN (List.replicate n (-1), List.replicate m (-1), 0, 0) (openM g) = cnTo g 0 := by
   show _ = cn0 g
   unfold cn0
   rw [hgn_h.out, hm_h.out, Int.toNat_natCast]
  rw [e0] at hN4
  have hw4 := hw3_h.out.nums hN3_h.out hk4
  have hB4 := below_keeps hB3_h.out hk4 hB3_h.out.size (fun b hb => by have := (hN3_h.out.off hb).2.1; have := hlt1_h.out; omega)
  have k4 := t_box_keeps k3_h.out hk4 (fun hb => by have := (hN3_h.out.off hb).2.1; have := hlt1_h.out; omega)
  have hcp := closedParts_any w4 n m ob ow oe (hW0_h.out.below hB4) hMo_h.out hv_h.out hm_h.out hw4
  obtain ⟨⟨c0, c1, c2', c3⟩, f0, f1, f2, f3⟩ := t_box4 k4
  clear hk4 hadd_h hw4 hw3_h hN3_h k3_h hB3_h k4 e0; have hcp_h := lH hcp; have hN4_h := lH hN4; have hB4_h := lH hB4; clear hcp hN4 hB4
  go_wp2_with (fail)
  refine (hcp_h.out).mono ?_
  rintro e w5 ⟨Ax, cx, xs, rfl, hsl5, hok5, hPx, hb5⟩
  obtain ⟨xl, hxl⟩ : ∃ q, xs.length = q := ⟨_, rfl⟩
  have hxp : (partsM g).length = xl := by rw [← hPx, List.length_map, hxl]
  rw [hxl] at hsl5 ⊢
  have hN5 := hN4_h.out.below hb5
  have hB5 := below_trans hB4_h.out hb5 hB4_h.out.size
  have hxm : xl ≤ 9223372036854775807 := by
   have h1 := Nat.le_trans hsl5.2.1 hsl5.2.2.1
   unfold maxLen at h1
   exact h1
  clear hcp_h hN4_h hB4_h hb5 c0 c1 c2' c3 f0 f1 f2 f3; have hsl5_h := lH hsl5; have hok5_h := lH hok5; have hPx_h := lH hPx; have hN5_h := lH hN5; have hB5_h := lH hB5; have hxl_h := lH hxl; have hxp_h := lH hxp; clear hsl5 hok5 hPx hN5 hB5 hxl hxp
  go_wp2_with (fail)
  go_loopw [29] (fun i wr => ∃ k : Nat, k ≤ xl ∧ i = .int .i64 k ∧ NumS w1 wc.heap.size c2 (wc.heap.size + 1) c4 Wa Ea n m (cnTo g k) wr ∧ Keeps (OwnN wc.heap.size (wc.heap.size + 1) Wa Ea) w5 wr) (fun i _ => xl - (intOf i).toNat)
  case atStart => exact ⟨0, Nat.zero_le _, rfl, hN5_h.out, Keeps.refl _ _⟩
  case round =>
   obtain ⟨k, hk, rfl, hN, hK⟩ := hrel
   obtain ⟨wo, rfl⟩ : ∃ x, x = wr := ⟨_, rfl⟩
   have hBo := below_keeps hB5_h.out hK hB5_h.out.size (fun b hb => by have := (hN5_h.out.off hb).2.1; have := hlt1_h.out; omega)
   by_cases hlt : k < xl
   · obtain ⟨x, hx⟩ : ∃ x, xs[k]? = some x := ⟨_, List.getElem?_eq_getElem (by rw [hxl_h.out]; exact hlt)⟩
     have hslo := hN5_h.out.sl (by decide) hsl5_h.out hK
     obtain ⟨ad, rfl, d0, d1, d2, d3⟩ := cp_at hslo hx
     have hwx := ((hok5_h.out x (List.mem_of_getElem? hx)).wk).nums hN5_h.out hK
     have hpx : (partsM g)[k]? = some x.P := by rw [← hPx_h.out, List.getElem?_map, hx]; rfl
     have hpf := part_facts hMo_h.out (List.mem_of_getElem? hpx)
     have hgd : (partsM g).getD k ([], ([], []), 0) = x.P := by rw [List.getD_eq_getElem?_getD, hpx]; rfl
     obtain ⟨xb, xmw, xme, XD, xdl, xdc, P⟩ := x
     simp only at d0 d1 d2 d3 hwx hpf hgd
     obtain ⟨u, hu⟩ : ∃ u, leastW P.2.1.1 = u := ⟨_, rfl⟩
     obtain ⟨wy, hwy⟩ : ∃ u, P.2.2 = u := ⟨_, rfl⟩
     rw [hu] at d2
     rw [hwy] at d3
     have hor := ord_le hMo_h.out k
     rw [hm_h.out] at hor
     have hct := cnTo_eq hMo_h.out k (by rw [hxp_h.out]; exact hk)
     obtain ⟨W6, hW6, bW6, k6⟩ := (⟨_, rfl, t_below_alloc _ _, heap_alloc_new _ _⟩ : ∃ W, W = wo.alloc (.cells #[.pointer (some ⟨xb, 0, none⟩), .slice XD xdl xdc, .int .i64 u, .int .i64 wy] tCp) ∧ Below wo.heap.size wo W ∧ W.heap[wo.heap.size]? = some (.cells #[.pointer (some ⟨xb, 0, none⟩), .slice XD xdl xdc, .int .i64 u, .int .i64 wy] tCp))
     have hadd := addNums_any w1 W6 wc.heap.size c2 (wc.heap.size + 1) c4 n m xb xmw xme Wa Ea (cnTo g k) P.2.1 (hN.below bW6) (hwx.below bW6) hpf.1 hpf.2.1 (by rw [← hm_h.out]; exact hpf.2.2) hn100 hm60 (by rw [hct]; simp only; omega)
     have e1 : addN (cnTo g k) P.2.1 = cnTo g (k + 1) := by rw [cnTo, hgd]
     rw [e1] at hadd
     have hK6 := hK.trans (Keeps.of_below bW6 _)
     obtain ⟨⟨c0, c1, c2', c3⟩, f0, f1, f2, f3⟩ := t_box4 k6
     have hkI : (k : Int) < (xl : Int) := by omega
     clear hN hK hBo hslo hwx hpx hpf hgd hor hct e1 bW6 k6 hx hu hwy; have hadd_h := lH hadd; have hK6_h := lH hK6; clear hadd hK6
     go_upto_region 9 with (fail)
     rw [← hW6]
     clear hW6 d0 d1 d2 d3
     go_wp2_with (fail)
     refine (hadd_h.out).mono ?_
     rintro e w7 ⟨rfl, hN7, hk7⟩
     have hK7 := hK6_h.out.trans hk7
     clear hk7 hadd_h hK6_h c0 c1 c2' c3 f0 f1 f2 f3; have hN7_h := lH hN7; have hK7_h := lH hK7; clear hN7 hK7
     go_wp2_with (fail)
     go_roundw
     case rel => exact ⟨k + 1, by omega, by go_num, hN7_h.out, hK7_h.out⟩
     case measure => simp [intOf]; omega
   · obtain rfl : xl = k := by omega
     have hN_h := lH hN; have hBo_h := lH hBo; clear hN hBo
     go_upto_region 11 with (fail)
     refine beginH (fun w' => Below wo.heap.size wo w') (by kernel_rfl) ?_
     have hbd : Below wo.heap.size wo wo.drew := below_drewN (Below.refl _ _) 1
     generalize wo.drew = W1 at hbd ⊢
     refine tkH 0 ?_ rfl hbd (fun W' hW' => ?_) ?_; rotate_left; · (obtain ⟨_, ⟨y2, z2⟩, _, y4, z4⟩ := (hN_h.out.below hW').bx; clear hW'; go_simp; first | done | with_reducible rfl)
     simp only [Act.put, nS]
     refine tkH 1 ?_ rfl hbd (fun W' hW' => ?_) ?_; rotate_left; · (obtain ⟨_, ⟨y2, z2⟩, _, y4, z4⟩ := (hN_h.out.below hW').bx; clear hW'; go_simp; first | done | with_reducible rfl)
     simp only [Act.put, nS]
     refine tkH 2 ?_ rfl hbd (fun W' hW' => ?_) ?_; rotate_left; · (obtain ⟨_, ⟨y2, z2⟩, _, y4, z4⟩ := (hN_h.out.below hW').bx; clear hW'; go_simp; first | done | with_reducible rfl)
     simp only [Act.put, nS]
     refine tkH 3 ?_ rfl hbd (fun W' hW' => ?_) ?_; rotate_left; · (obtain ⟨_, ⟨y2, z2⟩, _, y4, z4⟩ := (hN_h.out.below hW').bx; clear hW'; go_simp; first | done | with_reducible rfl)
     simp only [Act.put, nS]
     refine doneH (by kernel_rfl) ?_
     have hNe := hN_h.out.below hbd
     have hBe := below_trans hBo_h.out hbd hBo_h.out.size
     have hB1s := hB1_h.out.size
     have hnw := hNe.new
     have hc1 : (cnM g).1 = (cnTo g xl).1 := by unfold cnM; rw [hxp_h.out]
     have hc2 : (cnM g).2 = (cnTo g xl).2.1 := by unfold cnM; rw [hxp_h.out]
     go_wp2_with (fail)
     go_ret2
     exact ⟨Wa, Ea, rfl, by rw [hc1]; exact hNe.i1, by rw [hc2]; exact hNe.i2, hNe.ap.2.1, by omega, by omega, hBe⟩
def PrtOk (g : Gr) (P : Prt) : Prop := ∃ f : Int, (0 ≤ f ∧ f < (g.2.1.length : Int)) ∧ P.1 = codeM g (fromM g f) ∧ P.2.1 = fromM g f
theorem prt_ok {g : Gr} {n : Nat} (h : Mono g n) {P : Prt} (hP : PrtOk g P) : P.1.length ≤ 360 ∧ ((∀ x, x ∈ P.2.1.1 → 0 ≤ x ∧ x < (n : Int)) ∧ P.2.1.1.length ≤ n) ∧ (∀ x, x ∈ P.2.1.2 → 0 ≤ x ∧ x < (g.2.1.length : Int)) ∧ P.2.1.2.length ≤ g.2.1.length := by
 obtain ⟨f, hf, h1, h2⟩ := hP
 have hI := fromM_inv h hf.2
 rw [h1, h2]
 exact ⟨codeM_len h hI, ⟨hI.rg1, hI.le.1⟩, hI.rg2, hI.le.2⟩
theorem prtOf_ok {g : Gr} {e : Nat} (he : e < g.2.1.length) : PrtOk g (prtOf g (e : Int)) := ⟨(e : Int), by omega, rfl, rfl⟩
theorem ref_ok {g : Gr} {e : Nat} (he : e < g.2.1.length) : ∀ k, k ≤ g.2.1.length → PrtOk g (refB g e k) ∧ 1 ≤ (refB g e k).2.2 ∧ (refB g e k).2.2 ≤ (k : Int) + 1
 | 0, _ => ⟨prtOf_ok he, by show (1 : Int) ≤ 1; decide, by show (1 : Int) ≤ _; decide⟩
 | k + 1, hk => by
   obtain ⟨h1, h2, h3⟩ := ref_ok he k (by omega)
   rw [refB]
   split
   · unfold prtNext
     split
     · obtain ⟨f, hf, a, b⟩ := h1
       exact ⟨⟨f, hf, a, b⟩, by show (1 : Int) ≤ (refB g e k).2.2 + 1; omega, by show (refB g e k).2.2 + 1 ≤ _; omega⟩
     · split
       · exact ⟨prtOf_ok (by omega), by show (1 : Int) ≤ 1; decide, by show (1 : Int) ≤ _; omega⟩
       · exact ⟨h1, h2, by omega⟩
   · exact ⟨h1, h2, by omega⟩
theorem scan_ok (g : Gr) : ∀ k, k ≤ g.2.1.length → (scanTo g k).2.length ≤ k ∧ ∀ P, P ∈ (scanTo g k).2 → PrtOk g P ∧ 1 ≤ P.2.2 ∧ P.2.2 ≤ (g.2.1.length : Int) + 1
 | 0, _ => ⟨Nat.le_refl _, fun P hP => by cases hP⟩
 | k + 1, hk => by
   obtain ⟨h1, h2⟩ := scan_ok g k (by omega)
   rw [scanTo]
   split
   · exact ⟨by omega, h2⟩
   · have hp := insP_perm (refB g k g.2.1.length) (scanTo g k).2
     refine ⟨by show (insP _ _).length ≤ _; rw [hp.length_eq, List.length_cons]; omega, fun P hP => ?_⟩
     have hP' : P ∈ insP (refB g k g.2.1.length) (scanTo g k).2 := hP
     rcases List.mem_cons.1 (hp.mem_iff.1 hP') with rfl | h
     · exact ref_ok (by omega) _ (Nat.le_refl _)
     · exact h2 P h
theorem refB_start (g : Gr) (e : Nat) : ∀ k, k ≤ e + 1 → refB g e k = prtOf g (e : Int)
 | 0, _ => rfl
 | k + 1, h => by rw [refB, if_neg (fun x => by have := x.1; omega), refB_start g e k (by omega)]
theorem insK_drop (b : Prt) : ∀ (l : List Prt) (i : Nat) (x : Prt), l[i]? = some x → insK b (l.drop i) = if befP b x then 0 else insK b (l.drop (i + 1)) + 1
 | [], i, _, h => by simp at h
 | a :: r, 0, x, h => by
   obtain rfl : a = x := by simpa using h
   rfl
 | a :: r, i + 1, x, h => insK_drop b r i x (by simpa using h)
theorem lp_at {w : World} {A : Option Addr} {n cap : Nat} {xs : List Lp} (hs : Sl w tLp 4 A n cap (xs.flatMap Lp.cells)) {j : Nat} {x : Lp} (hx : xs[j]? = some x) : ∃ ad, A = some ad ∧
  w.cell? (ad.add (j * 4)) = some (.slice x.D x.dl x.dc) ∧ w.cell? ⟨(ad.add (j * 4)).block, (ad.add (j * 4)).off + 1, none⟩ = some (.slice x.A x.al x.ac) ∧ w.cell? ⟨(ad.add (j * 4)).block, (ad.add (j * 4)).off + 2, none⟩ = some (.slice x.G x.gl x.gc) ∧ w.cell? ⟨(ad.add (j * 4)).block, (ad.add (j * 4)).off + 3, none⟩ = some (.int .i64 x.P.2.2) := by
 have hk : ∀ x : Lp, x.cells.length = 4 := fun _ => rfl
 have h0 := flat_get hk xs j 0 x hx (by omega)
 have h1 := flat_get hk xs j 1 x hx (by omega)
 have h2 := flat_get hk xs j 2 x hx (by omega)
 have h3 := flat_get hk xs j 3 x hx (by omega)
 obtain ⟨ad, hA, _, c0, _⟩ := hs.cell h0
 obtain ⟨ad1, hA1, _, c1, _⟩ := hs.cell h1
 obtain ⟨ad2, hA2, _, c2, _⟩ := hs.cell h2
 obtain ⟨ad3, hA3, _, c3, _⟩ := hs.cell h3
 rw [hA] at hA1 hA2 hA3
 obtain rfl := Option.some.inj hA1
 obtain rfl := Option.some.inj hA2
 obtain rfl := Option.some.inj hA3
 rw [add_next _ _ 1 (by omega)] at c1
 rw [add_next _ _ 2 (by omega)] at c2
 rw [add_next _ _ 3 (by omega)] at c3
 exact ⟨ad, hA, c0, c1, c2, c3⟩
def LpF (B : Nat) (w : World) (x : Lp) : Prop := LpOk w x ∧ Fresh B x.D ∧ Fresh B x.A ∧ Fresh B x.G
theorem LpF.below {B : Nat} {w w' : World} {x : Lp} (h : LpF B w x) (hb : Below w.heap.size w w') : LpF B w' x := ⟨h.1.below hb, h.2⟩
theorem LpF.keeps {B : Nat} {w w' : World} {x : Lp} (h : LpF B w x) {S : Nat → Prop} (hk : Keeps S w w') (hS : ∀ b, S b → b < B) : LpF B w' x :=
 ⟨h.1.keeps hk fun b hb hs => by
  have := hS b hs
  rcases hb with hb | hb | hb
  · have := h.2.1 b hb; omega
  · have := h.2.2.1 b hb; omega
  · have := h.2.2.2 b hb; omega, h.2⟩
theorem LpOk.typ {w w' : World} {x : Lp} (h : LpOk w x) {S : Nat → Prop} (hk : Keeps S w w') (hS : ∀ b, S b → ∃ cs t fr, w.heap[b]? = some (.cells cs t fr) ∧ t ≠ tInt) : LpOk w' x :=
 h.keeps hk fun b hb hs => by
  obtain ⟨cs, t, fr, hg, ht⟩ := hS b hs
  have key : ∀ (A : Option Addr) (c : Nat) (l : List Int), IS w A c l → b ∈ fpA A → False := fun A c l hI hb => by
   rcases hI.2.2.2 with ⟨rfl, _⟩ | ⟨g, off, cur, rfl, hg', _⟩
   · cases hb
   · obtain rfl : b = g := by simpa using hb
     rw [hg] at hg'
     injection hg' with hg'
     injection hg' with _ h1
     exact ht h1
  rcases hb with hb | hb | hb
  · exact key _ _ _ h.cod hb
  · exact key _ _ _ h.wir hb
  · exact key _ _ _ h.edg hb
theorem sl_typ {w : World} {e : TypeId} {sz n cap : Nat} {A : Option Addr} {xs : List Value} (hs : Sl w e sz A n cap xs) (he : e ≠ tInt) : ∀ b, b ∈ fpA A → ∃ cs t fr, w.heap[b]? = some (.cells cs t fr) ∧ t ≠ tInt := fun b hb => by
 rcases hs.2.2.2 with ⟨rfl, _⟩ | ⟨g, off, cur, rfl, hg, _⟩
 · cases hb
 · obtain rfl : b = g := by simpa using hb
   exact ⟨_, _, _, hg, he⟩
structure Sc (W : World) (E : Addr) (m : Nat) (seen : List Int) (ps : List Prt) (B : Option Addr) (ln cap : Nat) (xs : List Lp) (El : List Int) (w : World) : Prop where
 edg : IS w (some E) m El
 ell : El.length = m
 elv : ∀ f : Nat, f < m → (0 ≤ El.getD f 0 ↔ (f : Int) ∈ seen)
 sl : Sl w tLp 4 B ln cap (xs.flatMap Lp.cells)
 xln : xs.length = ln
 ok : ∀ x, x ∈ xs → LpF W.heap.size w x
 pps : xs.map (fun x => x.P) = ps
 bf : Fresh W.heap.size B
 en : E.block < W.heap.size
 kp : Keeps (fun b => b = E.block) W w
section
variable {W w w' : World} {E : Addr} {m ln cap : Nat} {seen : List Int} {ps : List Prt} {B : Option Addr} {xs : List Lp} {El : List Int}
theorem Sc.below (h : Sc W E m seen ps B ln cap xs El w) (hb : Below w.heap.size w w') : Sc W E m seen ps B ln cap xs El w' :=
 ⟨h.edg.below hb, h.ell, h.elv, h.sl.below hb, h.xln, fun x hx => (h.ok x hx).below hb, h.pps, h.bf, h.en, h.kp.free (Keeps.of_below hb (fun _ => False)) fun _ _ h => h.elim⟩
theorem Sc.setE (h : Sc W E m seen ps B ln cap xs El w) {f : Nat} (hf : f < m) : Sc W E m (seen ++ [(f : Int)]) ps B ln cap xs (El.set f 0) (w.setCell (E.add f) (.int .i64 0)) ∧ Keeps (fun b => b = E.block) w (w.setCell (E.add f) (.int .i64 0)) := by
 have hk : Keeps (fun b => b = E.block) w (w.setCell (E.add f) (.int .i64 0)) := Keeps.setCell (S := fun b => b = E.block) (Keeps.refl _ w) (p := E.add f) (by rw [block_of_add]) _
 refine ⟨⟨h.edg.set rfl 0 (by rw [h.ell]; exact hf), by simpa using h.ell, fun j hj => ?_, h.sl.keeps hk fun b hb e => ?_, h.xln, fun x hx => (h.ok x hx).keeps hk fun b e => by rw [e]; exact h.en, h.pps, h.bf, h.en, h.kp.trans hk⟩, hk⟩
 · rw [List.mem_append, List.mem_singleton]
   by_cases e : f = j
   · subst e
     rw [List.getD_eq_getElem?_getD, List.getElem?_set, if_pos rfl, if_pos (by rw [h.ell]; exact hf)]
     exact ⟨fun _ => .inr rfl, fun _ => Int.le_refl 0⟩
   · rw [List.getD_eq_getElem?_getD, List.getElem?_set, if_neg e, ← List.getD_eq_getElem?_getD, h.elv j hj]
     exact ⟨.inl, fun h => h.resolve_right (fun x => e (by omega))⟩
 · have := h.bf b hb
   have := h.en
   omega
theorem Sc.box (h : Sc W E m seen ps B ln cap xs El w) {lb : Nat} (hk : Keeps (fun b => b = lb) w w') (hW : W.heap.size ≤ lb) (hB : ∀ b, b ∈ fpA B → b ≠ lb) {cs : Array Value} (hlb : w.heap[lb]? = some (.cells cs tLp)) : Sc W E m seen ps B ln cap xs El w' :=
 ⟨h.edg.keeps hk (fun b hb e => by have : b = E.block := (by simpa using hb); have := h.en; omega), h.ell, h.elv, h.sl.keeps hk hB, h.xln, fun x hx => ⟨(h.ok x hx).1.typ hk (fun b e => by subst e; exact ⟨cs, tLp, (0, 0), hlb, by decide⟩), (h.ok x hx).2⟩, h.pps, h.bf, h.en, h.kp.free hk fun b h1 e => by omega⟩
theorem Sc.ins (h : Sc W E m seen ps B ln cap xs El w) {b : Lp} {i : Nat} (hi : i = insK b.P ps) (hb : LpF W.heap.size w' b) {B' : Option Addr} {ln' cap' : Nat} (hln : ln' = ln + 1) (hs : Sl w' tLp 4 B' ln' cap' ((xs.take i ++ b :: xs.drop i).flatMap Lp.cells)) (hf : Fresh W.heap.size B') (hk : Keeps (fun x => x ∈ fpA B) w w') :
  Sc W E m seen (insP b.P ps) B' ln' cap' (xs.take i ++ b :: xs.drop i) El w' := by
 refine ⟨h.edg.keeps hk (fun x hx hm => ?_), h.ell, h.elv, hs, ?_, fun x hx => ?_, ?_, hf, h.en, h.kp.free hk fun x h1 h2 => ?_⟩
 · have : x = E.block := (by simpa using hx)
   have := h.bf x hm
   have := h.en
   omega
 · have := h.xln
   have := congrArg List.length (List.take_append_drop i xs)
   rw [List.length_append] at this ⊢
   rw [List.length_cons]
   omega
 · have key : ∀ y, y ∈ xs → LpF W.heap.size w' y := fun y hy => ⟨(h.ok y hy).1.typ hk (sl_typ h.sl (by decide)), (h.ok y hy).2⟩
   rcases List.mem_append.1 hx with hx | hx
   · exact key x (List.mem_of_mem_take hx)
   · rcases List.mem_cons.1 hx with rfl | hx
     · exact hb
     · exact key x (List.mem_of_mem_drop hx)
 · rw [insP_eq, ← hi, ← h.pps]
   simp
 · have := h.bf x h2
   omega
end
def RetLps (w : World) (ps : List Prt) (e : Ending) (w' : World) : Prop :=
 ∃ (A : Option Addr) (cap : Nat) (xs : List Lp), e = .returned (.slice A xs.length cap) ∧ Sl w' tLp 4 A xs.length cap (xs.flatMap Lp.cells) ∧ (∀ x, x ∈ xs → LpF w.heap.size w' x) ∧ xs.map (fun x => x.P) = ps ∧ Below w.heap.size w w'
theorem info_lp : (Tryz.prog.info? tLp).map (fun i => (i.zero, i.size, i.bytes)) = some (some (.agg #[.slice none 0 0, .slice none 0 0, .slice none 0 0, .int .i64 0]), 4, 80) := by kernel_rfl
structure LbS (W : World) (lb : Nat) (D : Option Addr) (dl dc : Nat) (A : Option Addr) (al ac : Nat) (G : Option Addr) (gl gc : Nat) (u : Int) (P : Prt) (w : World) : Prop where
 box : w.heap[lb]? = some (.cells #[.slice D dl dc, .slice A al ac, .slice G gl gc, .int .i64 u] tLp)
 ok : LpF W.heap.size w ⟨D, dl, dc, A, al, ac, G, gl, gc, P⟩
 uw : P.2.2 = u
section
variable {W w w' : World} {lb : Nat} {D : Option Addr} {dl dc : Nat} {A : Option Addr} {al ac : Nat} {G : Option Addr} {gl gc : Nat} {u : Int} {P : Prt}
theorem LbS.below (h : LbS W lb D dl dc A al ac G gl gc u P w) (hb : Below w.heap.size w w') : LbS W lb D dl dc A al ac G gl gc u P w' := ⟨t_box_below h.box hb, h.ok.below hb, h.uw⟩
end
theorem flat_split {α : Type} {f : α → List Value} {k : Nat} (hk : ∀ x, (f x).length = k) (l : List α) {i : Nat} (hi : i ≤ l.length) : (l.flatMap f).take (i * k) = (l.take i).flatMap f ∧ (l.flatMap f).drop (i * k) = (l.drop i).flatMap f := by
 have e : l.flatMap f = (l.take i).flatMap f ++ (l.drop i).flatMap f := by rw [← List.flatMap_append, List.take_append_drop]
 have hl : ((l.take i).flatMap f).length = i * k := by rw [flat_len hk, List.length_take, Nat.min_eq_left hi]
 rw [e]
 exact ⟨List.take_left' hl, List.drop_left' hl⟩
theorem lp_len (x : Lp) : x.cells.length = 4 := rfl
theorem Sc.parts {W w : World} {E : Addr} {m ln cap : Nat} {seen : List Int} {ps : List Prt} {B : Option Addr} {xs : List Lp} {El : List Int} (h : Sc W E m seen ps B ln cap xs El w) {i : Nat} (hi : i ≤ ln) :
  ∃ A1 A2, (∀ w', (Instr.sliceAt 87 (.slice B ln cap) (some (.int .i64 (i : Int))) none none).run Tryz.prog w' = .ok (.slice A1 (ln - i) (cap - i)) w') ∧ (∀ w', (Instr.sliceAt 87 (.slice B ln cap) none (some (.int .i64 (i : Int))) none).run Tryz.prog w' = .ok (.slice A2 i cap) w') ∧
    Sl w tLp 4 A1 (ln - i) (cap - i) ((xs.drop i).flatMap Lp.cells) ∧ Sl w tLp 4 A2 i cap ((xs.take i).flatMap Lp.cells) ∧ ∀ b, b ∈ fpA A2 → b ∈ fpA B := by
 have hc := h.sl.2.1
 obtain ⟨A1, r1, l1, _⟩ := Sl.slicedG h.sl 87 (P := Tryz.prog) Tryz.underlying87 info_lp (some (.int .i64 (i : Int))) none none i ln cap (optSome rfl) (optNone ⟨rfl, rfl⟩) (optNone rfl) hi (Nat.le_refl _) hc (Nat.le_refl _)
 obtain ⟨A2, r2, l2, f2⟩ := Sl.slicedG h.sl 87 (P := Tryz.prog) Tryz.underlying87 info_lp none (some (.int .i64 (i : Int))) none 0 i cap (optNone rfl) (optSome rfl) (optNone rfl) (Nat.zero_le _) hi (by omega) (Nat.le_refl _)
 have hsp := flat_split lp_len xs (i := i) (by rw [h.xln]; exact hi)
 refine ⟨A1, A2, r1, r2, ?_, ?_, f2⟩
 · rw [hsp.2, List.take_of_length_le (by rw [flat_len lp_len, List.length_drop, h.xln]; exact Nat.le_refl _)] at l1
   exact l1
 · simp only [Nat.zero_mul, List.drop_zero, Nat.sub_zero] at l2
   rw [hsp.1] at l2
   exact l2
theorem lps_one (xs : List Lp) : ∀ u, u ∈ xs.flatMap Lp.cells → u.oneCell' = true := fun u hu => by
 obtain ⟨x, _, hx⟩ := List.mem_flatMap.1 hu
 simp only [Lp.cells, List.mem_cons, List.not_mem_nil, or_false] at hx
 rcases hx with rfl | rfl | rfl | rfl <;> rfl
theorem set4d {w : World} {B : Nat} {t : TypeId} {x y z u b : Value} (h : w.heap[B]? = some (.cells #[x, y, z, u] t)) : (w.setCell ⟨B, 3, none⟩ b).heap[B]? = some (.cells #[x, y, z, b] t) ∧ Keeps (· = B) w (w.setCell ⟨B, 3, none⟩ b) := by
 refine ⟨?_, Keeps.setCell (S := (· = B)) (Keeps.refl _ w) (p := ⟨B, 3, none⟩) rfl b⟩
 simp [World.setCell, Array.getElem?_modify, h]
theorem prtNext_same {g : Gr} {b : Prt} {e : Int} (h : (prtOf g e).1 = b.1) : prtNext g b e = (b.1, b.2.1, b.2.2 + 1) := by unfold prtNext; rw [if_pos h]
theorem prtNext_less {g : Gr} {b : Prt} {e : Int} (h : (prtOf g e).1 ≠ b.1) (hl : lexI (prtOf g e).1 b.1 = true) : prtNext g b e = prtOf g e := by unfold prtNext; rw [if_neg h, if_pos hl]
theorem prtNext_not {g : Gr} {b : Prt} {e : Int} (h : (prtOf g e).1 ≠ b.1) (hl : lexI (prtOf g e).1 b.1 = false) : prtNext g b e = b := by unfold prtNext; rw [if_neg h, if_neg (by rw [hl]; simp)]
theorem lp_of_ret {g : Gr} {n : Nat} (hMo : Mono g n) {w w' : World} {P : Prt} (hP : PrtOk g P) {D : Option Addr} {dc : Nat} {A : Option Addr} {ac : Nat} {G : Option Addr} {gc : Nat} (h1 : IS w' D dc P.1) (h2 : IS w' A ac P.2.1.1) (h3 : IS w' G gc P.2.1.2) (f1 : Fresh w.heap.size D) (f2 : Fresh w.heap.size A) (f3 : Fresh w.heap.size G) {W : World} (hW : W.heap.size ≤ w.heap.size) :
  LpF W.heap.size w' ⟨D, P.1.length, dc, A, P.2.1.1.length, ac, G, P.2.1.2.length, gc, P⟩ := by
 obtain ⟨a1, ⟨a2, a3⟩, a4, a5⟩ := prt_ok hMo hP
 have := hMo.n100
 have := hMo.m60
 exact ⟨⟨h1, h2, h3, ⟨rfl, by show P.1.length ≤ _; omega⟩, ⟨rfl, by show P.2.1.1.length ≤ _; omega⟩, rfl, by show P.2.1.2.length ≤ _; omega⟩, fun b hb => Nat.le_trans hW (f1 b hb), fun b hb => Nat.le_trans hW (f2 b hb), fun b hb => Nat.le_trans hW (f3 b hb)⟩
set_option maxRecDepth 100000 in
set_option maxHeartbeats 16000000 in
theorem cnLoops_any {v : Value} {g : Gr} (w : World) (n m : Nat) (h : RdGr w v g) (hMo : Mono g n) (hm : g.2.1.length = m) :
  Calls Tryz.prog 64 #[v] w (RetLps w (partsM g)) := by
 have hn100 := hMo.n100
 have hm60 : m ≤ 60 := by rw [← hm]; exact hMo.m60
 have hgn := hMo.hn
 have hW0 := h
 obtain ⟨A, c, hs, ⟨B, bb, s⟩, ⟨C, d, t⟩, rfl, e1, e2, e3, hE, hRa, hRb⟩ := h
 have hml : hs.length = m := by rw [← hm, e1, List.length_map]
 simp only [hgn, hml] at hW0 ⊢
 obtain ⟨p, hp⟩ : ∃ p, s.length = p := ⟨_, rfl⟩
 obtain ⟨r, hr⟩ : ∃ r, t.length = r := ⟨_, rfl⟩
 rw [hp, hr] at hW0 ⊢
 obtain ⟨W, hWe, bW, k0⟩ := (⟨_, rfl, t_below_alloc _ _, heap_alloc_new _ _⟩ : ∃ W, W = w.alloc (.cells #[.int .i64 (n : Int), .slice A m c, .slice B p bb, .slice C r d] tGr) ∧ Below w.heap.size w W ∧ W.heap[w.heap.size]? = some (.cells #[.int .i64 (n : Int), .slice A m c, .slice B p bb, .slice C r d] tGr))
 obtain ⟨⟨c0, c1, c2, c3⟩, f0, f1, f2, f3⟩ := t_box4 k0
 have hop := cnOpen_any W n m (hW0.below bW) hMo hm
 obtain ⟨ol, hol⟩ : ∃ q, (openM g).1.length = q := ⟨_, rfl⟩
 obtain ⟨oc, hoc⟩ : ∃ q : Int, ((openM g).2.length : Int) = q := ⟨_, rfl⟩
 rw [hol, hoc] at hop
 clear hRa hRb e1 e2 e3 hE; have hMo_h := lH hMo; have hm_h := lH hm; have hW0_h := lH hW0; have hgn_h := lH hgn; have hml_h := lH hml; have hp_h := lH hp; have hr_h := lH hr; have bW_h := lH bW; have k0_h := lH k0; have hop_h := lH hop; have hol_h := lH hol; have hoc_h := lH hoc; clear hMo hm hW0 hgn hml hp hr bW k0 hop hol hoc
 go_enter Tryz.func64, Tryz.ntmps64
 go_upto_region 1 with (fail)
 rw [← hWe]
 clear hWe
 go_wp2_with (fail)
 refine (hop_h.out).mono ?_
 rintro e w1 ⟨N, E, A1, c1', rfl, hC1⟩
 have k1 := t_box_below k0_h.out hC1.bel
 have hB1 := below_trans bW_h.out hC1.bel bW_h.out.size
 have hlt1 := t_box_lt k1
 have hEl := hC1.edg.lt E.block (by simp)
 have hEn := hC1.ef
 have hwW : w.heap.size < W.heap.size := t_box_lt k0_h.out
 have hS1 : Sc w1 E m (scanTo g 0).1 (scanTo g 0).2 none 0 0 [] (numsL m (openM g).2) w1 :=
  ⟨hC1.edg, by simp [numsL], fun f hf => by
   rw [show (numsL m (openM g).2).getD f 0 = if (f : Int) ∈ (openM g).2 then idx (openM g).2 (f : Int) else -1 by simp [numsL, List.getD, hf]]
   show _ ↔ (f : Int) ∈ (openM g).2
   split
   · rename_i hh
     exact ⟨fun _ => hh, fun _ => (idx_lt hh).1⟩
   · rename_i hh
     exact ⟨fun h => absurd h (by decide), fun h => absurd h hh⟩, Sl.nil _ _ _, rfl, (fun x hx => by cases hx), rfl, Fresh.none_ _, hEl, Keeps.refl _ _⟩
 clear hop_h k0_h bW_h hC1; clear c0 c1 c2 c3 f0 f1 f2 f3
 obtain ⟨⟨c0, c1, c2, c3⟩, f0, f1, f2, f3⟩ := t_box4 k1
 have k1_h := lH k1; have hB1_h := lH hB1; have hS1_h := lH hS1; have hlt1_h := lH hlt1; have hEl_h := lH hEl; have hEn_h := lH hEn; have hwW_h := lH hwW; clear k1 hB1 hS1 hlt1 hEl hEn hwW
 go_wp2_with (fail)
 clear c0 c1 c2 c3 f0 f1 f2 f3
 go_loopw [26, 7] (fun i o wr => ∃ (k : Nat) (Bx : Option Addr) (ln cap : Nat) (xs : List Lp) (El : List Int), k ≤ m ∧ i = .int .i64 k ∧ o = .slice Bx ln cap ∧ Sc w1 E m (scanTo g k).1 (scanTo g k).2 Bx ln cap xs El wr) (fun i _ _ => m - (intOf i).toNat)
 case atStart => exact ⟨0, none, 0, 0, [], _, Nat.zero_le _, rfl, rfl, hS1_h.out⟩
 case round =>
  clear hS1_h
  obtain ⟨k, Bx, ln, cap, xs, El, hk, rfl, rfl, hS⟩ := hrel
  obtain ⟨wo, rfl⟩ : ∃ x, x = wr := ⟨_, rfl⟩
  have hBo := below_keeps hB1_h.out hS.kp hB1_h.out.size (fun b e => by rw [e]; have := hEn_h.out; have := hwW_h.out; omega)
  have ko := t_box_keeps k1_h.out hS.kp (fun e => by have := hEn_h.out; have := hwW_h.out; omega)
  by_cases hlt : k < m
  · obtain ⟨ad, ev, hA, hev, _, hcl, hfz⟩ := hS.edg.at_ (j := k) (by rw [hS.ell]; exact hlt)
    obtain rfl := Option.some.inj hA
    have hsn := hS.elv k hlt
    rw [List.getD_eq_getElem?_getD, hev, Option.getD_some] at hsn
    have hkI : (k : Int) < (m : Int) := by omega
    clear hfz hev
    by_cases hseen : (k : Int) ∈ (scanTo g k).1
    · have hst : scanTo g (k + 1) = scanTo g k := by rw [scanTo, if_pos hseen]
      have hge := hsn.2 hseen
      clear hsn hseen; have hS_h := lH hS; have hBo_h := lH hBo; have ko_h := lH ko; have hst_h := lH hst; clear hS hBo ko hst
      go_wp2_with (fail)
      go_roundw
      case rel => exact ⟨k + 1, Bx, ln, cap, xs, El, by omega, by go_num, rfl, by rw [hst_h.out]; exact hS_h.out⟩
      case measure => simp [intOf]; omega
    · have hlt0 : ev < 0 := by
       have : ¬ 0 ≤ ev := fun h => hseen (hsn.1 h)
       omega
      have hst : scanTo g (k + 1) = ((scanTo g k).1 ++ (fromM g (k : Int)).2, insP (refB g k m) (scanTo g k).2) := by rw [scanTo, if_neg hseen, hm_h.out]
      have hcf := cnFrom_any wo n m k (hW0_h.out.below hBo) hMo_h.out hm_h.out hlt
      have hPok := prtOf_ok (g := g) (e := k) (by rw [hm_h.out]; exact hlt)
      obtain ⟨⟨c0, c1, c2, c3⟩, f0, f1, f2, f3⟩ := t_box4 ko
      clear hsn hseen; have hS_h := lH hS; have hBo_h := lH hBo; have ko_h := lH ko; have hst_h := lH hst; have hcf_h := lH hcf; have hPok_h := lH hPok; clear hS hBo ko hst hcf hPok
      go_wp2_with (fail)
      refine (hcf_h.out).mono ?_
      rintro e w4 ⟨D0, dc0, A0, ac0, G0, gc0, rfl, i1, i2, i3, n1, n2, n3, hb4⟩
      have hLp := lp_of_ret hMo_h.out hPok_h.out i1 i2 i3 n1 n2 n3 (W := w1) hS_h.out.kp.size
      have hgl : (prtOf g (k : Int)).2.1 = fromM g (k : Int) := rfl
      have hPk : refB g k (k + 1) = prtOf g (k : Int) := refB_start g k (k + 1) (Nat.le_refl _)
      have hways : (prtOf g (k : Int)).2.2 = 1 := rfl
      obtain ⟨P0, hP0⟩ : ∃ P, prtOf g (k : Int) = P := ⟨_, rfl⟩
      rw [hP0] at hLp hgl hPk hways hPok_h ⊢
      obtain ⟨dl0, hdl0⟩ : ∃ q, P0.1.length = q := ⟨_, rfl⟩
      obtain ⟨al0, hal0⟩ : ∃ q, P0.2.1.1.length = q := ⟨_, rfl⟩
      obtain ⟨gl0, hgl0⟩ : ∃ q, P0.2.1.2.length = q := ⟨_, rfl⟩
      obtain ⟨u0, hu0⟩ : ∃ q, P0.2.2 = q := ⟨_, rfl⟩
      rw [hdl0, hal0, hgl0] at hLp
      rw [hdl0, hal0, hgl0, hu0]
      have hge : ∀ x, x ∈ P0.2.1.2 → 0 ≤ x ∧ x < (m : Int) := by rw [← hm_h.out]; exact (prt_ok hMo_h.out hPok_h.out).2.2.1
      have hgl60 : gl0 ≤ 60 := by have := (prt_ok hMo_h.out hPok_h.out).2.2.2; have := hm_h.out; omega
      obtain ⟨w5, hw5, b5, k5⟩ := (⟨_, rfl, t_below_alloc _ _, heap_alloc_new _ _⟩ : ∃ W, W = w4.alloc (.cells #[.slice D0 dl0 dc0, .slice A0 al0 ac0, .slice G0 gl0 gc0, .int .i64 u0] tLp) ∧ Below w4.heap.size w4 W ∧ W.heap[w4.heap.size]? = some (.cells #[.slice D0 dl0 dc0, .slice A0 al0 ac0, .slice G0 gl0 gc0, .int .i64 u0] tLp))
      have hb45 := below_trans hb4 b5 hb4.size
      have hS5 := hS_h.out.below hb45
      have hL5 : LbS w1 w4.heap.size D0 dl0 dc0 A0 al0 ac0 G0 gl0 gc0 u0 P0 w5 := ⟨k5, hLp.below b5, hu0⟩
      have hBlb : ∀ b, b ∈ fpA Bx → b ≠ w4.heap.size := fun b hb e => by have := hS_h.out.sl.lt b hb; have := hb4.size; omega
      have hlbW : w1.heap.size ≤ w4.heap.size := Nat.le_trans hS_h.out.kp.size hb4.size
      clear c0 c1 c2 c3 f0 f1 f2 f3
      obtain ⟨⟨c0, c1, c2, c3⟩, f0, f1, f2, f3⟩ := t_box4 k5
      clear i1 i2 i3 n1 n2 n3 hb4 hLp hcf_h hS_h b5 k5; have hgl_h := lH hgl; have hPk_h := lH hPk; have hways_h := lH hways; have hP0_h := lH hP0; have hdl0_h := lH hdl0; have hal0_h := lH hal0; have hgl0_h := lH hgl0; have hu0_h := lH hu0; have hge_h := lH hge; have hb45_h := lH hb45; have hS5_h := lH hS5; have hL5_h := lH hL5; have hBlb_h := lH hBlb; have hlbW_h := lH hlbW; clear hgl hPk hways hP0 hdl0 hal0 hgl0 hu0 hge hb45 hS5 hL5 hBlb hlbW
      go_upto_region 8 with (fail)
      rw [← hw5]
      clear hw5
      go_wp2_with (fail)
      clear c0 c1 c2 c3 f0 f1 f2 f3
      go_loopw [40] (fun i wr => ∃ (j : Nat) (El' : List Int), j ≤ gl0 ∧ i = .int .i64 j ∧ Sc w1 E m ((scanTo g k).1 ++ P0.2.1.2.take j) (scanTo g k).2 Bx ln cap xs El' wr ∧ LbS w1 w4.heap.size D0 dl0 dc0 A0 al0 ac0 G0 gl0 gc0 u0 P0 wr) (fun i _ => gl0 - (intOf i).toNat)
      case atStart => exact ⟨0, _, Nat.zero_le _, rfl, by rw [List.take_zero, List.append_nil]; exact hS5_h.out, hL5_h.out⟩
      case round =>
       clear hS5_h hL5_h
       obtain ⟨j, El', hj, rfl, hSj, hLj⟩ := hrel
       obtain ⟨wi, rfl⟩ : ∃ x, x = wr := ⟨_, rfl⟩
       by_cases hltj : j < gl0
       · obtain ⟨x, hx⟩ : ∃ x, P0.2.1.2[j]? = some x := ⟨_, List.getElem?_eq_getElem (by rw [hgl0_h.out]; exact hltj)⟩
         have hxr := hge_h.out x (List.mem_of_getElem? hx)
         obtain ⟨xx, rfl⟩ : ∃ xx : Nat, x = (xx : Int) := ⟨x.toNat, by omega⟩
         obtain ⟨gd, rfl, pg⟩ := hLj.ok.1.edg.rd j _ hx
         obtain ⟨ed, ev2, hA2, _, _, hcl2, hfz2⟩ := hSj.edg.at_ (j := xx) (by rw [hSj.ell]; omega)
         obtain rfl := Option.some.inj hA2
         have hfk := hfz2 xx
         obtain ⟨hSn, hkn⟩ := hSj.setE (f := xx) (by omega)
         rw [List.append_assoc, show P0.2.1.2.take j ++ [(xx : Int)] = P0.2.1.2.take (j + 1) by rw [List.take_add_one, hx]; rfl] at hSn
         have hLn : LbS w1 w4.heap.size D0 dl0 dc0 A0 al0 ac0 (some gd) gl0 gc0 u0 P0 (wi.setCell (E.add xx) (.int .i64 0)) := ⟨t_box_keeps hLj.box hkn (fun e => by have := hEl_h.out; have := hlbW_h.out; omega), hLj.ok.keeps hkn (fun b e => by rw [e]; exact hEl_h.out), hLj.uw⟩
         have hjI : (j : Int) < (gl0 : Int) := by omega
         have hxI : (xx : Int) < (m : Int) := by omega
         clear hfz2 hx hkn hSj hLj; have hSn_h := lH hSn; have hLn_h := lH hLn; clear hSn hLn
         go_wp2_with (fail)
         go_roundw
         case rel => exact ⟨j + 1, _, by omega, by go_num, hSn_h.out, hLn_h.out⟩
         case measure => simp [intOf]; omega
       · obtain rfl : gl0 = j := by omega
         rw [List.take_of_length_le (by rw [hgl0_h.out]; exact Nat.le_refl _)] at hSj
         have hseen : (scanTo g (k + 1)).1 = (scanTo g k).1 ++ P0.2.1.2 := by rw [hst_h.out, hgl_h.out]
         rw [← hseen] at hSj
         have hps : (scanTo g (k + 1)).2 = insP (refB g k m) (scanTo g k).2 := by rw [hst_h.out]
         have hbi : Below w1.heap.size w1 w1 := Below.refl _ _
         clear hseen hbi; have hSj_h := lH hSj; have hLj_h := lH hLj; have hps_h := lH hps; clear hSj hLj hps
         go_wp2_with (fail)
         go_loopw [12] (fun i wr => ∃ (f : Nat) (D : Option Addr) (dl dc : Nat) (A' : Option Addr) (al ac : Nat) (G : Option Addr) (gl gc : Nat) (u : Int), (k < f ∧ f ≤ m) ∧ i = .int .i64 f ∧ Sc w1 E m (scanTo g (k + 1)).1 (scanTo g k).2 Bx ln cap xs El' wr ∧ LbS w1 w4.heap.size D dl dc A' al ac G gl gc u (refB g k f) wr) (fun i _ => m - (intOf i).toNat)
         case atStart => exact ⟨k + 1, _, _, _, _, _, _, _, _, _, _, ⟨by omega, by omega⟩, by go_num, hSj_h.out, by rw [hPk_h.out]; exact hLj_h.out⟩
         case round =>
          clear hSj_h hLj_h
          obtain ⟨f, D, dl, dc, A', al, ac, G, gl, gc, u, ⟨hkf, hfm⟩, rfl, hSf, hLf⟩ := hrel
          obtain ⟨wf, rfl⟩ : ∃ x, x = wr := ⟨_, rfl⟩
          have kf := t_box_keeps k1_h.out hSf.kp (fun e => by have := hEn_h.out; have := hwW_h.out; omega)
          have hBf := below_keeps hB1_h.out hSf.kp hB1_h.out.size (fun b e => by rw [e]; have := hEn_h.out; have := hwW_h.out; omega)
          obtain ⟨⟨c0, c1, c2, c3⟩, f0, f1, f2, f3⟩ := t_box4 kf
          obtain ⟨⟨y0, y1, y2, y3⟩, z0, z1, z2, z3⟩ := t_box4 hLf.box
          obtain ⟨hRok, hR1, hR2⟩ := ref_ok (g := g) (e := k) (by rw [hm_h.out]; exact hlt) f (by rw [hm_h.out]; exact hfm)
          have huw := hLf.uw
          by_cases hff : f < m
          · have hfI : (f : Int) < (m : Int) := by omega
            have hstep : refB g k (f + 1) = if k < f ∧ (f : Int) ∈ (refB g k f).2.1.2 then prtNext g (refB g k f) (f : Int) else refB g k f := rfl
            obtain ⟨P, hP⟩ : ∃ P, refB g k f = P := ⟨_, rfl⟩
            rw [hP] at hLf hRok hR1 hR2 huw hstep
            have hhas := l1Has_any G gc gl P.2.1.2 (f : Int) wf hLf.ok.1.edg.rd hLf.ok.1.len.2.2.1 hLf.ok.1.len.2.2.2
            by_cases hin : (f : Int) ∈ P.2.1.2
            · rw [if_pos ⟨hkf, hin⟩] at hstep
              rw [show P.2.1.2.contains (f : Int) = true by simpa using hin] at hhas
              have hcf := cnFrom_any wf n m f (hW0_h.out.below hBf) hMo_h.out hm_h.out hff
              have hPok2 := prtOf_ok (g := g) (e := f) (by rw [hm_h.out]; exact hff)
              clear hin hP kf; have hSf_h := lH hSf; have hLf_h := lH hLf; have hBf_h := lH hBf; have hstep_h := lH hstep; have hhas_h := lH hhas; have hcf_h := lH hcf; have hPok2_h := lH hPok2; have hRok_h := lH hRok; have hR1_h := lH hR1; have hR2_h := lH hR2; have huw_h := lH huw; clear hSf hLf hBf hstep hhas hcf hPok2 hRok hR1 hR2 huw
              go_wp2_with (fail)
              refine (hhas_h.out).mono ?_
              rintro e w6 ⟨rfl, rfl⟩
              go_wp2_with (fail)
              refine (hcf_h.out).mono ?_
              rintro e w6 ⟨D2, dc2, A2, ac2, G2, gc2, rfl, i1, i2, i3, n1, n2, n3, hb6⟩
              have hLp2 := lp_of_ret hMo_h.out hPok2_h.out i1 i2 i3 n1 n2 n3 (W := w1) hSf_h.out.kp.size
              obtain ⟨P2, hP2⟩ : ∃ P, prtOf g (f : Int) = P := ⟨_, rfl⟩
              rw [hP2] at hLp2 hPok2_h ⊢
              have hcases : (P2.1 = P.1 → refB g k (f + 1) = (P.1, P.2.1, P.2.2 + 1)) ∧ (P2.1 ≠ P.1 → lexI P2.1 P.1 = true → refB g k (f + 1) = P2) ∧ (P2.1 ≠ P.1 → lexI P2.1 P.1 = false → refB g k (f + 1) = P) := by
               rw [hstep_h.out, ← hP2]
               exact ⟨prtNext_same, prtNext_less, prtNext_not⟩
              obtain ⟨dl2, hdl2⟩ : ∃ q, P2.1.length = q := ⟨_, rfl⟩
              obtain ⟨al2, hal2⟩ : ∃ q, P2.2.1.1.length = q := ⟨_, rfl⟩
              obtain ⟨gl2, hgl2⟩ : ∃ q, P2.2.1.2.length = q := ⟨_, rfl⟩
              obtain ⟨u2, hu2⟩ : ∃ q, P2.2.2 = q := ⟨_, rfl⟩
              rw [hdl2, hal2, hgl2] at hLp2
              rw [hdl2, hal2, hgl2, hu2]
              obtain ⟨w7, hw7, b7, k7⟩ := (⟨_, rfl, t_below_alloc _ _, heap_alloc_new _ _⟩ : ∃ W, W = w6.alloc (.cells #[.slice D2 dl2 dc2, .slice A2 al2 ac2, .slice G2 gl2 gc2, .int .i64 u2] tLp) ∧ Below w6.heap.size w6 W ∧ W.heap[w6.heap.size]? = some (.cells #[.slice D2 dl2 dc2, .slice A2 al2 ac2, .slice G2 gl2 gc2, .int .i64 u2] tLp))
              have hb67 := below_trans hb6 b7 hb6.size
              have hS7 := hSf_h.out.below hb67
              have hL7 := hLf_h.out.below hb67
              have hLp7 := hLp2.below b7
              have hsm := l1Same_any D2 D dc2 dc dl2 dl P2.1 P.1 w7 hLp7.1.cod.rd hL7.ok.1.cod.rd hLp7.1.len.1.1 hL7.ok.1.len.1.1 hLp7.1.len.1.2 hL7.ok.1.len.1.2
              have hne7 : w4.heap.size ≠ w6.heap.size := by have := t_box_lt hLf_h.out.box; have := hb6.size; omega
              have hBf7 := below_trans hBf_h.out hb67 hBf_h.out.size
              clear c0 c1 c2 c3 f0 f1 f2 f3 y0 y1 y2 y3 z0 z1 z2 z3
              obtain ⟨⟨c0, c1, c2, c3⟩, f0, f1, f2, f3⟩ := t_box4 k7
              obtain ⟨⟨y0, y1, y2, y3⟩, z0, z1, z2, z3⟩ := t_box4 hL7.box
              clear i1 i2 i3 n1 n2 n3 hb6 hLp2 hb67 b7 hSf_h hLf_h hBf_h hhas_h hcf_h hstep_h; have hS7_h := lH hS7; have hL7_h := lH hL7; have hLp7_h := lH hLp7; have hsm_h := lH hsm; have hcases_h := lH hcases; have hdl2_h := lH hdl2; have hal2_h := lH hal2; have hgl2_h := lH hgl2; have hu2_h := lH hu2; have hP2_h := lH hP2; have k7_h := lH k7; have hBf7_h := lH hBf7; clear hS7 hL7 hLp7 hsm hcases hdl2 hal2 hgl2 hu2 hP2 k7 hBf7
              go_upto_region 18 with (fail)
              rw [← hw7]
              clear hw7
              go_wp2_with (fail)
              refine (hsm_h.out).mono ?_
              rintro e w8 ⟨rfl, hb8⟩
              have hS8 := hS7_h.out.below hb8
              have hL8 := hL7_h.out.below hb8
              have hLp8 := hLp7_h.out.below hb8
              have k8 := t_box_below k7_h.out hb8
              clear c0 c1 c2 c3 f0 f1 f2 f3 y0 y1 y2 y3 z0 z1 z2 z3
              obtain ⟨⟨c0, c1, c2, c3⟩, f0, f1, f2, f3⟩ := t_box4 k8
              obtain ⟨⟨y0, y1, y2, y3⟩, z0, z1, z2, z3⟩ := t_box4 hL8.box
              clear hS7_h hL7_h hLp7_h k7_h hsm_h hb8
              by_cases hsame : P2.1 = P.1
              · rw [decide_eq_true hsame]
                obtain ⟨s1, s2⟩ := set4d (b := .int .i64 (u + 1)) hL8.box
                have hS9 := hS8.box s2 hlbW_h.out hBlb_h.out hL8.box
                have hL9 : LbS w1 w4.heap.size D dl dc A' al ac G gl gc (u + 1) (refB g k (f + 1)) (w8.setCell ⟨w4.heap.size, 3, none⟩ (.int .i64 (u + 1))) := by
                 rw [hcases_h.out.1 hsame]
                 obtain ⟨⟨o1, o2, o3, o4⟩, o5⟩ := hL8.ok
                 have o := (LpOk.typ ⟨o1, o2, o3, o4⟩ s2 (fun b e => by subst e; exact ⟨_, tLp, (0, 0), hL8.box, by decide⟩) : LpOk _ ⟨D, dl, dc, A', al, ac, G, gl, gc, P⟩)
                 exact ⟨s1, ⟨⟨o.cod, o.wir, o.edg, o.len⟩, o5⟩, by show P.2.2 + 1 = u + 1; rw [huw_h.out]⟩
                have hr1 := hR1_h.out
                have hr2 := hR2_h.out
                rw [huw_h.out] at hr1 hr2
                clear s1 s2 hS8 hL8 hLp8 k8; have hS9_h := lH hS9; have hL9_h := lH hL9; clear hS9 hL9
                go_wp2_with (fail)
                go_roundw
                case rel => exact ⟨f + 1, _, _, _, _, _, _, _, _, _, _, ⟨by omega, by omega⟩, by go_num, hS9_h.out, hL9_h.out⟩
                case measure => simp [intOf]; omega
              · rw [decide_eq_false hsame]
                have hbf := cnBefore_any D2 D dc2 dc dl2 dl P2.1 P.1 w8 hLp8.1.cod.rd hL8.ok.1.cod.rd hLp8.1.len.1.1 hL8.ok.1.len.1.1 hLp8.1.len.1.2
                obtain ⟨T, hT⟩ : ∃ T, lexI P2.1 P.1 = T := ⟨_, rfl⟩
                rw [hT] at hbf
                have hS8_h := lH hS8; have hL8_h := lH hL8; have hLp8_h := lH hLp8; have k8_h := lH k8; have hbf_h := lH hbf; clear hS8 hL8 hLp8 k8 hbf
                go_wp2_with (fail)
                refine (hbf_h.out).mono ?_
                rintro e w9 ⟨rfl, hb9⟩
                have hS9 := hS8_h.out.below hb9
                have hL9 := hL8_h.out.below hb9
                have hLp9 := hLp8_h.out.below hb9
                have k9 := t_box_below k8_h.out hb9
                clear c0 c1 c2 c3 f0 f1 f2 f3 y0 y1 y2 y3 z0 z1 z2 z3
                obtain ⟨⟨c0, c1, c2, c3⟩, f0, f1, f2, f3⟩ := t_box4 k9
                obtain ⟨⟨y0, y1, y2, y3⟩, z0, z1, z2, z3⟩ := t_box4 hL9.box
                clear hS8_h hL8_h hLp8_h k8_h hbf_h hb9
                cases T
                · rw [← hcases_h.out.2.2 hsame hT] at hL9
                  clear hLp9 k9; have hS9_h := lH hS9; have hL9_h := lH hL9; clear hS9 hL9
                  go_wp2_with (fail)
                  go_roundw
                  case rel => exact ⟨f + 1, _, _, _, _, _, _, _, _, _, _, ⟨by omega, by omega⟩, by go_num, hS9_h.out, hL9_h.out⟩
                  case measure => simp [intOf]; omega
                · obtain ⟨s1, s2⟩ := set4 (a := .slice D2 dl2 dc2) (b := .slice A2 al2 ac2) (c := .slice G2 gl2 gc2) (d := .int .i64 u2) hL9.box
                  have hS10 := hS9.box s2 hlbW_h.out hBlb_h.out hL9.box
                  have hL10 : LbS w1 w4.heap.size D2 dl2 dc2 A2 al2 ac2 G2 gl2 gc2 u2 (refB g k (f + 1)) ((((w9.setCell ⟨w4.heap.size, 0, none⟩ (.slice D2 dl2 dc2)).setCell ⟨w4.heap.size, 1, none⟩ (.slice A2 al2 ac2)).setCell ⟨w4.heap.size, 2, none⟩ (.slice G2 gl2 gc2)).setCell ⟨w4.heap.size, 3, none⟩ (.int .i64 u2)) := by
                   rw [hcases_h.out.2.1 hsame hT]
                   exact ⟨s1, ⟨hLp9.1.typ s2 (fun b e => by subst e; exact ⟨_, tLp, (0, 0), hL9.box, by decide⟩), hLp9.2⟩, hu2_h.out⟩
                  clear s1 s2 hS9 hL9 hLp9 k9; have hS10_h := lH hS10; have hL10_h := lH hL10; clear hS10 hL10
                  go_wp2_with (fail)
                  go_roundw
                  case rel => exact ⟨f + 1, _, _, _, _, _, _, _, _, _, _, ⟨by omega, by omega⟩, by go_num, hS10_h.out, hL10_h.out⟩
                  case measure => simp [intOf]; omega
            · rw [if_neg (fun h => hin h.2)] at hstep
              rw [show P.2.1.2.contains (f : Int) = false by simpa using hin] at hhas
              clear hin hP kf; have hSf_h := lH hSf; have hLf_h := lH hLf; have hBf_h := lH hBf; have hstep_h := lH hstep; have hhas_h := lH hhas; clear hSf hLf hBf hstep hhas
              go_wp2_with (fail)
              refine (hhas_h.out).mono ?_
              rintro e w6 ⟨rfl, rfl⟩
              go_wp2_with (fail)
              go_roundw
              case rel => exact ⟨f + 1, _, _, _, _, _, _, _, _, _, _, ⟨by omega, by omega⟩, by go_num, hSf_h.out, by rw [hstep_h.out]; exact hLf_h.out⟩
              case measure => simp [intOf]; omega
          · obtain rfl : m = f := by omega
            obtain ⟨P, hP⟩ : ∃ P, refB g k m = P := ⟨_, rfl⟩
            rw [hP] at hLf hRok hR1 hR2 huw hps_h
            clear hP kf y0 y1 y2 y3 z0 z1 z2 z3; have hSf_h := lH hSf; have hLf_h := lH hLf; have hBf_h := lH hBf; have hRok_h := lH hRok; have hR1_h := lH hR1; have hR2_h := lH hR2; have huw_h := lH huw; clear hSf hLf hBf hRok hR1 hR2 huw
            go_wp2_with (fail)
            have hln60 : ln ≤ 60 := by
             have h1 := (scan_ok g k (by rw [hm_h.out]; exact hk)).1
             have h2 := congrArg List.length hSf_h.out.pps
             rw [List.length_map, hSf_h.out.xln] at h2
             omega
            have hbest := prt_ok hMo_h.out hRok_h.out
            clear c0 c1 c2 c3 f0 f1 f2 f3; have hbest_h := lH hbest; clear hbest
            go_loopw [14] (fun i wr => ∃ (i' : Nat), i' ≤ ln ∧ i = .int .i64 i' ∧ insK P (scanTo g k).2 = i' + insK P ((scanTo g k).2.drop i') ∧ Below wf.heap.size wf wr) (fun i _ => ln - (intOf i).toNat)
            case atStart => exact ⟨0, Nat.zero_le _, rfl, by rw [List.drop_zero, Nat.zero_add], Below.refl _ _⟩
            case round =>
             obtain ⟨i, hil, rfl, hins, hbi⟩ := hrel
             obtain ⟨wi, rfl⟩ : ∃ x, x = wr := ⟨_, rfl⟩
             rcases Nat.lt_or_ge i ln with hi | hi
             case' inl =>
              obtain ⟨x, hx⟩ : ∃ x, xs[i]? = some x := ⟨_, List.getElem?_eq_getElem (by rw [hSf_h.out.xln]; exact hi)⟩
              have hxp : (scanTo g k).2[i]? = some x.P := by rw [← hSf_h.out.pps, List.getElem?_map, hx]; rfl
              have hid := insK_drop P _ i x.P hxp
              have hxok := prt_ok hMo_h.out ((scan_ok g k (by rw [hm_h.out]; exact hk)).2 x.P (List.mem_of_getElem? hxp)).1
              have hxf := hSf_h.out.ok x (List.mem_of_getElem? hx)
              obtain ⟨ad, hBx, d0, d1, d2, d3⟩ := lp_at hSf_h.out.sl hx
              obtain ⟨XD, xdl, xdc, XA, xal, xac, XG, xgl, xgc, XP⟩ := x
              simp only at d0 d1 d2 d3 hid hxok hxf
              obtain ⟨xu, hxu⟩ : ∃ q, XP.2.2 = q := ⟨_, rfl⟩
              rw [hxu] at d3
              have hcb : ∀ W', Below wf.heap.size wf W' → Calls Tryz.prog 96 #[.agg #[.slice D dl dc, .slice A' al ac, .slice G gl gc, .int .i64 u], .agg #[.slice XD xdl xdc, .slice XA xal xac, .slice XG xgl xgc, .int .i64 xu]] W' fun e w' => e = .returned (.bool (befP P XP)) ∧ Below W'.heap.size W' w' := fun W' hb => by
               have h1 := cnLoopBefore_any ⟨D, dl, dc, A', al, ac, G, gl, gc, P⟩ ⟨XD, xdl, xdc, XA, xal, xac, XG, xgl, xgc, XP⟩ W' (hLf_h.out.ok.1.below hb) (hxf.1.below hb) (fun v hv => (hbest_h.out.2.1.1 v hv).1) (fun v hv => (hxok.2.1.1 v hv).1)
               have e1 : Lp.cells ⟨D, dl, dc, A', al, ac, G, gl, gc, P⟩ = [.slice D dl dc, .slice A' al ac, .slice G gl gc, .int .i64 u] := by unfold Lp.cells; rw [huw_h.out]
               have e2 : Lp.cells ⟨XD, xdl, xdc, XA, xal, xac, XG, xgl, xgc, XP⟩ = [.slice XD xdl xdc, .slice XA xal xac, .slice XG xgl xgc, .int .i64 xu] := by unfold Lp.cells; rw [hxu]
               rw [e1, e2] at h1
               exact h1
              subst hBx
              obtain ⟨T, hT⟩ : ∃ T, befP P XP = T := ⟨_, rfl⟩
              rw [hT] at hcb hid
              have hiI : (i : Int) < (ln : Int) := by omega
              clear hx hxp hxok hxf hxu hT; have hins_h := lH hins; have hbi_h := lH hbi; have hid_h := lH hid; have hcb_h := lH hcb; clear hins hbi hid hcb
              go_upto_region 23 with (fail)
              refine beginH (fun w' => Below wi.heap.size wi w') (by kernel_rfl) ?_
              have hbd : Below wi.heap.size wi wi.drew := below_drewN (Below.refl _ _) 1
              generalize wi.drew = W1 at hbd ⊢
              refine tkH 0 ?_ rfl hbd (fun W' hW' => ?_) ?_; rotate_left; · (have hq := below_trans hbi_h.out hW' hbi_h.out.size; obtain ⟨⟨y0, y1, y2, y3⟩, z0, z1, z2, z3⟩ := t_box4 (t_box_below hLf_h.out.box hq); have v0 := (hq.cell (World.block_lt_of_cell? _ _ d0)).trans d0; have v1 := (hq.cell (World.block_lt_of_cell? _ _ d1)).trans d1; have v2 := (hq.cell (World.block_lt_of_cell? _ _ d2)).trans d2; have v3 := (hq.cell (World.block_lt_of_cell? _ _ d3)).trans d3; clear hq; clear hW'; go_simp; first | done | with_reducible rfl)
              simp only [Act.put, nS]
              refine tkH 1 ?_ rfl hbd (fun W' hW' => ?_) ?_; rotate_left; · (have hq := below_trans hbi_h.out hW' hbi_h.out.size; obtain ⟨⟨y0, y1, y2, y3⟩, z0, z1, z2, z3⟩ := t_box4 (t_box_below hLf_h.out.box hq); have v0 := (hq.cell (World.block_lt_of_cell? _ _ d0)).trans d0; have v1 := (hq.cell (World.block_lt_of_cell? _ _ d1)).trans d1; have v2 := (hq.cell (World.block_lt_of_cell? _ _ d2)).trans d2; have v3 := (hq.cell (World.block_lt_of_cell? _ _ d3)).trans d3; clear hq; clear hW'; go_simp; first | done | with_reducible rfl)
              simp only [Act.put, nS]
              refine tkH 2 ?_ rfl hbd (fun W' hW' => ?_) ?_; rotate_left; · (have hq := below_trans hbi_h.out hW' hbi_h.out.size; obtain ⟨⟨y0, y1, y2, y3⟩, z0, z1, z2, z3⟩ := t_box4 (t_box_below hLf_h.out.box hq); have v0 := (hq.cell (World.block_lt_of_cell? _ _ d0)).trans d0; have v1 := (hq.cell (World.block_lt_of_cell? _ _ d1)).trans d1; have v2 := (hq.cell (World.block_lt_of_cell? _ _ d2)).trans d2; have v3 := (hq.cell (World.block_lt_of_cell? _ _ d3)).trans d3; clear hq; clear hW'; go_simp; first | done | with_reducible rfl)
              simp only [Act.put, nS]
              refine tkH 3 ?_ rfl hbd (fun W' hW' => ?_) ?_; rotate_left; · (have hq := below_trans hbi_h.out hW' hbi_h.out.size; obtain ⟨⟨y0, y1, y2, y3⟩, z0, z1, z2, z3⟩ := t_box4 (t_box_below hLf_h.out.box hq); have v0 := (hq.cell (World.block_lt_of_cell? _ _ d0)).trans d0; have v1 := (hq.cell (World.block_lt_of_cell? _ _ d1)).trans d1; have v2 := (hq.cell (World.block_lt_of_cell? _ _ d2)).trans d2; have v3 := (hq.cell (World.block_lt_of_cell? _ _ d3)).trans d3; clear hq; clear hW'; go_simp; first | done | with_reducible rfl)
              simp only [Act.put, nS]
              refine tkH 4 ?_ rfl hbd (fun W' hW' => ?_) ?_; rotate_left; · (have hq := below_trans hbi_h.out hW' hbi_h.out.size; obtain ⟨⟨y0, y1, y2, y3⟩, z0, z1, z2, z3⟩ := t_box4 (t_box_below hLf_h.out.box hq); have v0 := (hq.cell (World.block_lt_of_cell? _ _ d0)).trans d0; have v1 := (hq.cell (World.block_lt_of_cell? _ _ d1)).trans d1; have v2 := (hq.cell (World.block_lt_of_cell? _ _ d2)).trans d2; have v3 := (hq.cell (World.block_lt_of_cell? _ _ d3)).trans d3; clear hq; clear hW'; go_simp; first | done | with_reducible rfl)
              simp only [Act.put, nS]
              refine tkH 5 ?_ rfl hbd (fun W' hW' => ?_) ?_; rotate_left; · (have hq := below_trans hbi_h.out hW' hbi_h.out.size; obtain ⟨⟨y0, y1, y2, y3⟩, z0, z1, z2, z3⟩ := t_box4 (t_box_below hLf_h.out.box hq); have v0 := (hq.cell (World.block_lt_of_cell? _ _ d0)).trans d0; have v1 := (hq.cell (World.block_lt_of_cell? _ _ d1)).trans d1; have v2 := (hq.cell (World.block_lt_of_cell? _ _ d2)).trans d2; have v3 := (hq.cell (World.block_lt_of_cell? _ _ d3)).trans d3; clear hq; clear hW'; go_simp; first | done | with_reducible rfl)
              simp only [Act.put, nS]
              refine tkH 6 ?_ rfl hbd (fun W' hW' => ?_) ?_; rotate_left; · (have hq := below_trans hbi_h.out hW' hbi_h.out.size; obtain ⟨⟨y0, y1, y2, y3⟩, z0, z1, z2, z3⟩ := t_box4 (t_box_below hLf_h.out.box hq); have v0 := (hq.cell (World.block_lt_of_cell? _ _ d0)).trans d0; have v1 := (hq.cell (World.block_lt_of_cell? _ _ d1)).trans d1; have v2 := (hq.cell (World.block_lt_of_cell? _ _ d2)).trans d2; have v3 := (hq.cell (World.block_lt_of_cell? _ _ d3)).trans d3; clear hq; clear hW'; go_simp; first | done | with_reducible rfl)
              simp only [Act.put, nS]
              refine tkH 7 ?_ rfl hbd (fun W' hW' => ?_) ?_; rotate_left; · (have hq := below_trans hbi_h.out hW' hbi_h.out.size; obtain ⟨⟨y0, y1, y2, y3⟩, z0, z1, z2, z3⟩ := t_box4 (t_box_below hLf_h.out.box hq); have v0 := (hq.cell (World.block_lt_of_cell? _ _ d0)).trans d0; have v1 := (hq.cell (World.block_lt_of_cell? _ _ d1)).trans d1; have v2 := (hq.cell (World.block_lt_of_cell? _ _ d2)).trans d2; have v3 := (hq.cell (World.block_lt_of_cell? _ _ d3)).trans d3; clear hq; clear hW'; go_simp; first | done | with_reducible rfl)
              simp only [Act.put, nS]
              refine tkH 8 ?_ rfl hbd (fun W' hW' => ?_) ?_; rotate_left; · (have hq := below_trans hbi_h.out hW' hbi_h.out.size; obtain ⟨⟨y0, y1, y2, y3⟩, z0, z1, z2, z3⟩ := t_box4 (t_box_below hLf_h.out.box hq); have v0 := (hq.cell (World.block_lt_of_cell? _ _ d0)).trans d0; have v1 := (hq.cell (World.block_lt_of_cell? _ _ d1)).trans d1; have v2 := (hq.cell (World.block_lt_of_cell? _ _ d2)).trans d2; have v3 := (hq.cell (World.block_lt_of_cell? _ _ d3)).trans d3; clear hq; clear hW'; go_simp; first | done | with_reducible rfl)
              simp only [Act.put, nS]
              refine tkH 9 ?_ rfl hbd (fun W' hW' => ?_) ?_; rotate_left; · (have hq := below_trans hbi_h.out hW' hbi_h.out.size; obtain ⟨⟨y0, y1, y2, y3⟩, z0, z1, z2, z3⟩ := t_box4 (t_box_below hLf_h.out.box hq); have v0 := (hq.cell (World.block_lt_of_cell? _ _ d0)).trans d0; have v1 := (hq.cell (World.block_lt_of_cell? _ _ d1)).trans d1; have v2 := (hq.cell (World.block_lt_of_cell? _ _ d2)).trans d2; have v3 := (hq.cell (World.block_lt_of_cell? _ _ d3)).trans d3; clear hq; clear hW'; go_simp; first | done | with_reducible rfl)
              simp only [Act.put, nS]
              refine' callH 10 (f := _) (args := _) rfl (by kernel_rfl) (by rfl) ?_ ?_; rotate_left 2; · (go_simp; first | done | with_reducible rfl | (constructor <;> with_reducible rfl))
              refine (hcb_h.out W1 (below_trans hbi_h.out hbd hbi_h.out.size)).mono ?_
              rintro e w6 ⟨rfl, hb6⟩
              have hb16 := below_trans hbd hb6 hbd.size
              have hbf6 := below_trans hbi_h.out hb16 hbi_h.out.size
              refine ⟨_, rfl, hb16, ?_⟩
              simp only [Act.put, nS]
              refine tkH 11 ?_ rfl hb16 (fun W' hW' => ?_) ?_; rotate_left; · (skip; clear hW'; go_simp; first | done | with_reducible rfl)
              simp only [Act.put, nS]
              refine tkH 12 ?_ rfl hb16 (fun W' hW' => ?_) ?_; rotate_left; · (skip; clear hW'; go_simp; first | done | with_reducible rfl)
              simp only [Act.put, nS]
              refine doneH (by kernel_rfl) ?_
              clear hcb_h hb6 hbd; have hbf6_h := lH hbf6; clear hbf6
              cases T
              · have hins' : insK P (scanTo g k).2 = i + 1 + insK P ((scanTo g k).2.drop (i + 1)) := by
                 have h1 := hid_h.out
                 rw [if_neg (by simp)] at h1
                 rw [hins_h.out, h1]
                 omega
                clear hins_h hbi_h; have hins'_h := lH hins'; clear hins'
                go_wp2_with (fail)
                go_roundw
                case rel => exact ⟨i + 1, by omega, by go_num, hins'_h.out, hbf6_h.out⟩
                case measure => simp [intOf]; omega
              have hie : i = insK P (scanTo g k).2 := by
               have h1 := hid_h.out
               rw [if_pos rfl] at h1
               rw [hins_h.out, h1]
               rfl
              clear d0 d1 d2 d3 hid_h hins_h hbi_h hb16; have hie_h := lH hie; clear hie
             case' inr =>
              have hiI : ¬ (i : Int) < (ln : Int) := by omega
              have hpl : (scanTo g k).2.length = ln := by
               have h2 := congrArg List.length hSf_h.out.pps
               rw [List.length_map, hSf_h.out.xln] at h2
               exact h2.symm
              have hie : i = insK P (scanTo g k).2 := by
               rw [hins, List.drop_of_length_le (by omega)]
               rfl
              clear hpl hins; have hbi_h := lH hbi; have hie_h := lH hie; clear hbi hie
              go_upto_region 23 with (fail)
              refine beginH (fun w' => Below wi.heap.size wi w') (by kernel_rfl) ?_
              have hbd : Below wi.heap.size wi wi.drew := below_drewN (Below.refl _ _) 1
              generalize wi.drew = w6 at hbd ⊢
              refine tkH 0 ?_ rfl hbd (fun W' hW' => ?_) ?_; rotate_left; · (skip; clear hW'; go_simp; first | done | with_reducible rfl)
              simp only [Act.put, nS]
              refine tkH 1 ?_ rfl hbd (fun W' hW' => ?_) ?_; rotate_left; · (skip; clear hW'; go_simp; first | done | with_reducible rfl)
              simp only [Act.put, nS]
              refine tkH 2 ?_ rfl hbd (fun W' hW' => ?_) ?_; rotate_left; · (skip; clear hW'; go_simp; first | done | with_reducible rfl)
              simp only [Act.put, nS]
              refine tkH 3 ?_ rfl hbd (fun W' hW' => ?_) ?_; rotate_left; · (skip; clear hW'; go_simp; first | done | with_reducible rfl)
              simp only [Act.put, nS]
              refine tkH 4 ?_ rfl hbd (fun W' hW' => ?_) ?_; rotate_left; · (skip; clear hW'; go_simp; first | done | with_reducible rfl)
              simp only [Act.put, nS]
              refine offH 5 rfl (by kernel_rfl) (by kernel_rfl) (by kernel_rfl) (fun _ _ _ h => h) hbd (by rfl) ?_
              simp only [Act.put, nS]
              refine offH 6 rfl (by kernel_rfl) (by kernel_rfl) (by kernel_rfl) (fun _ _ _ h => h) hbd (by rfl) ?_
              simp only [Act.put, nS]
              refine offH 7 rfl (by kernel_rfl) (by kernel_rfl) (by kernel_rfl) (fun _ _ _ h => h) hbd (by rfl) ?_
              simp only [Act.put, nS]
              refine offH 8 rfl (by kernel_rfl) (by kernel_rfl) (by kernel_rfl) (fun _ _ _ h => h) hbd (by rfl) ?_
              simp only [Act.put, nS]
              refine offH 9 rfl (by kernel_rfl) (by kernel_rfl) (by kernel_rfl) (fun _ _ _ h => h) hbd (by rfl) ?_
              simp only [Act.put, nS]
              refine offH 10 rfl (by kernel_rfl) (by kernel_rfl) (by kernel_rfl) (fun _ _ _ h => h) hbd (by rfl) ?_
              simp only [Act.put, nS]
              refine offH 11 rfl (by kernel_rfl) (by kernel_rfl) (by kernel_rfl) (fun _ _ _ h => h) hbd (by rfl) ?_
              simp only [Act.put, nS]
              refine tkH 12 ?_ rfl hbd (fun W' hW' => ?_) ?_; rotate_left; · (skip; clear hW'; go_simp; first | done | with_reducible rfl)
              simp only [Act.put, nS]
              refine doneH (by kernel_rfl) ?_
              have hbf6 := below_trans hbi_h.out hbd hbi_h.out.size
              clear hbd hbi_h; have hbf6_h := lH hbf6; clear hbf6
             all_goals
              have hSt := hSf_h.out.below hbf6_h.out
              have hLt := hLf_h.out.below hbf6_h.out
              obtain ⟨A1, A2, r1, r2, l1, l2, f2⟩ := hSt.parts hil
              obtain ⟨q, hq⟩ : ∃ q, ln - i = q := ⟨_, rfl⟩
              rw [hq] at l1 r1
              obtain ⟨W6, hW6, bW6, s6⟩ : ∃ W, W = w6.alloc (.cells #[] tLp) ∧ Below w6.heap.size w6 W ∧ Sl W tLp 4 (some ⟨w6.heap.size, 0, none⟩) 0 0 [] := ⟨_, rfl, t_below_alloc _ _, Sl.laid w6 tLp 4 0 #[] (Nat.zero_le _) rfl⟩
              have hl1 : ((xs.drop i).flatMap Lp.cells).length = q * 4 := by rw [flat_len lp_len, List.length_drop, hSt.xln, hq]
              have hrd1 := (l1.below bW6).rdc
              have hSt_h := lH hSt; have hLt_h := lH hLt; have l1_h := lH l1; have l2_h := lH l2; have f2_h := lH f2; have bW6_h := lH bW6; have s6_h := lH s6; have hl1_h := lH hl1; have hrd1_h := lH hrd1; clear hSt hLt l1 l2 f2 bW6 s6 hl1 hrd1
              go_wp2_with (at_builtin; rw [← hW6]; refine wpList_append_Sl _ rfl _ _ _ rfl tLp Tryz.underlying87 info_lp rfl (by omega) rfl s6_h.out rfl hl1_h.out hrd1_h.out (lps_one _) (by unfold maxLen; omega) (by omega) ?_; intro R rc w7 hsR hAR hkR)
              have hb67 := below_keeps bW6_h.out hkR bW6_h.out.size (fun b hb => by have : b = w6.heap.size := (by simpa using hb); omega)
              have hRf : ∀ b, b ∈ fpA R → w6.heap.size ≤ b := fun b hb => by
               rcases hAR b hb with h1 | h1
               · have : b = w6.heap.size := by simpa using h1
                 omega
               · have := bW6_h.out.size; omega
              have hA2f : ∀ b, b ∈ fpA A2 → b < w6.heap.size := fun b hb => l2_h.out.lt b hb
              simp only [List.nil_append] at hsR
              clear hAR hkR hrd1_h s6_h bW6_h l1_h hW6; have hb67_h := lH hb67; have hRf_h := lH hRf; have hA2f_h := lH hA2f; have hsR_h := lH hsR; clear hb67 hRf hA2f hsR
              refine beginH (fun w' => w'.heap[w4.heap.size]? = some (.cells #[.slice D dl dc, .slice A' al ac, .slice G gl gc, .int .i64 u] tLp)) (by kernel_rfl) ?_
              have hbd : Below w7.heap.size w7 w7.drew := below_drewN (Below.refl _ _) 1
              generalize w7.drew = w8 at hbd ⊢
              have hb68 := below_trans hb67_h.out hbd hb67_h.out.size
              obtain ⟨W9, hW9, b9, s9⟩ : ∃ W, W = w8.alloc (.cells #[.slice D dl dc, .slice A' al ac, .slice G gl gc, .int .i64 u] tLp) ∧ Below w8.heap.size w8 W ∧ Sl W tLp 4 (some ⟨w8.heap.size, 0, none⟩) 1 1 [.slice D dl dc, .slice A' al ac, .slice G gl gc, .int .i64 u] := ⟨_, rfl, t_below_alloc _ _, Sl.laid w8 tLp 4 1 #[.slice D dl dc, .slice A' al ac, .slice G gl gc, .int .i64 u] (by unfold maxLen; omega) rfl⟩
              have hb69 := below_trans hb68 b9 hb68.size
              have hL8 := hLt_h.out.below hb68
              have hL9 := hLt_h.out.below hb69
              have l29 := l2_h.out.below hb69
              have hR9 := hsR_h.out.below (below_trans hbd b9 hbd.size)
              have hrd9 := s9.rdc
              clear hbd hb68 b9 s9 hsR_h; have hb69_h := lH hb69; have hL8_h := lH hL8; have hL9_h := lH hL9; have l29_h := lH l29; have hR9_h := lH hR9; have hrd9_h := lH hrd9; clear hb69 hL8 hL9 l29 hR9 hrd9
              refine tkH 0 ?_ rfl hL8_h.out.box (fun W' hW' => ?_) ?_; rotate_left; · (obtain ⟨⟨y0, y1, y2, y3⟩, z0, z1, z2, z3⟩ := t_box4 hW'; clear hW'; go_simp; first | done | with_reducible rfl)
              simp only [Act.put, nS]
              refine tkH 1 ?_ rfl hL8_h.out.box (fun W' hW' => ?_) ?_; rotate_left; · (obtain ⟨⟨y0, y1, y2, y3⟩, z0, z1, z2, z3⟩ := t_box4 hW'; clear hW'; go_simp; first | done | with_reducible rfl)
              simp only [Act.put, nS]
              refine tkH 2 ?_ rfl hL8_h.out.box (fun W' hW' => ?_) ?_; rotate_left; · (obtain ⟨⟨y0, y1, y2, y3⟩, z0, z1, z2, z3⟩ := t_box4 hW'; clear hW'; go_simp; first | done | with_reducible rfl)
              simp only [Act.put, nS]
              refine tkH 3 ?_ rfl hL8_h.out.box (fun W' hW' => ?_) ?_; rotate_left; · (obtain ⟨⟨y0, y1, y2, y3⟩, z0, z1, z2, z3⟩ := t_box4 hW'; clear hW'; go_simp; first | done | with_reducible rfl)
              simp only [Act.put, nS]
              refine tkH 6 ?_ rfl hL8_h.out.box (fun W' hW' => ?_) ?_; rotate_left; · (obtain ⟨⟨y0, y1, y2, y3⟩, z0, z1, z2, z3⟩ := t_box4 hW'; clear hW'; go_simp; first | done | with_reducible rfl)
              simp only [Act.put, nS]
              refine oneH 4 rfl (by kernel_rfl) (by rfl) (fun K hK => ?_)
              go_simp
              refine hK _ _ (by rw [← hW9]; exact hL9_h.out.box) ?_
              clear hK K
              rw [← hW9]
              clear hW9
              refine appH 5 rfl (by kernel_rfl) (by rfl) _ _ _ rfl tLp Tryz.underlying87 info_lp rfl (by omega) rfl l29_h.out rfl (news := [.slice D dl dc, .slice A' al ac, .slice G gl gc, .int .i64 u]) rfl hrd9_h.out (by intro u hu; simp at hu; rcases hu with rfl | rfl | rfl | rfl <;> rfl) (by unfold maxLen; omega) (by omega) ?_
              intro A3 c3 w10 hs3 hA3 hk3
              have hlbA : ∀ b, b ∈ fpA A2 → b ≠ w4.heap.size := fun b hb => hBlb_h.out b (f2_h.out b hb)
              have hbx10 := t_box_keeps hL9_h.out.box hk3 (fun h => hlbA _ h rfl)
              have hR10 := hR9_h.out.keeps hk3 (fun b hb h => by have := hRf_h.out b hb; have := hA2f_h.out b h; omega)
              have hok10 := hL9_h.out.ok.1.typ hk3 (sl_typ l29_h.out (by decide))
              have hrd10 := hR10.rdc
              have hlb10 : w4.heap.size < W9.heap.size := t_box_lt hL9_h.out.box
              clear hL8_h hR9_h hrd9_h hR10; have hs3_h := lH hs3; have hA3_h := lH hA3; have hk3_h := lH hk3; have hbx10_h := lH hbx10; have hok10_h := lH hok10; have hrd10_h := lH hrd10; have hlbA_h := lH hlbA; have hlb10_h := lH hlb10; clear hs3 hA3 hk3 hbx10 hok10 hrd10 hlbA hlb10
              refine ⟨hbx10_h.out, ?_⟩
              simp only [Act.put, nS]
              refine appH 7 rfl (by kernel_rfl) (by rfl) _ _ _ rfl tLp Tryz.underlying87 info_lp rfl (by omega) rfl hs3_h.out rfl hl1_h.out hrd10_h.out (lps_one _) (by unfold maxLen; omega) (by omega) ?_
              intro A4 c4 w11 hs4 hA4 hk4
              have hA3c : ∀ b, b ∈ fpA A3 → b ∈ fpA A2 ∨ W9.heap.size ≤ b := hA3_h.out
              have hbx11 := t_box_keeps hbx10_h.out hk4 (fun h => by
               rcases hA3c _ h with h1 | h1
               · exact hlbA_h.out _ h1 rfl
               · have := hlb10_h.out; omega)
              have hok11 := hok10_h.out.typ hk4 (sl_typ hs3_h.out (by decide))
              have hk611 : Keeps (fun x => x ∈ fpA A2) w6 w11 := ((Keeps.of_below hb69_h.out _).trans hk3_h.out).free hk4 (fun b h1 h2 => by
               rcases hA3c _ h2 with h3 | h3
               · exact h3
               · have := hb69_h.out.size; omega)
              have ec : (xs.take i ++ (⟨D, dl, dc, A', al, ac, G, gl, gc, P⟩ : Lp) :: xs.drop i).flatMap Lp.cells = ((xs.take i).flatMap Lp.cells ++ [.slice D dl dc, .slice A' al ac, .slice G gl gc, .int .i64 u]) ++ (xs.drop i).flatMap Lp.cells := by
               have hcl : Lp.cells ⟨D, dl, dc, A', al, ac, G, gl, gc, P⟩ = [.slice D dl dc, .slice A' al ac, .slice G gl gc, .int .i64 u] := by unfold Lp.cells; rw [huw_h.out]
               rw [List.flatMap_append, List.flatMap_cons, hcl, ← List.append_assoc]
              rw [← ec] at hs4
              have hf4 : Fresh w1.heap.size A4 := fun b hb => by
               have hz := hb69_h.out.size
               have hz2 := hSt_h.out.kp.size
               have hz3 := hk3_h.out.size
               rcases hA4 b hb with h1 | h1
               · rcases hA3c b h1 with h2 | h2
                 · exact hSt_h.out.bf b (f2_h.out b h2)
                 · omega
               · omega
              have hS11 := hSt_h.out.ins (b := ⟨D, dl, dc, A', al, ac, G, gl, gc, P⟩) hie_h.out ⟨hok11, hL9_h.out.ok.2⟩ (by omega) hs4 hf4 (hk611.mono fun _ _ h => f2_h.out _ h)
              rw [← hps_h.out] at hS11
              clear hs4 hA4 hk4 hok11 hk611 ec hf4 hA3c hs3_h hA3_h hk3_h hbx10_h hok10_h hrd10_h; have hS11_h := lH hS11; have hbx11_h := lH hbx11; clear hS11 hbx11
              refine ⟨hbx11_h.out, ?_⟩
              simp only [Act.put, nS]
              refine tkH 8 ?_ rfl hbx11_h.out (fun W' hW' => ?_) ?_; rotate_left; · (skip; clear hW'; go_simp; first | done | with_reducible rfl)
              simp only [Act.put, nS]
              refine doneH (by kernel_rfl) ?_
              go_wp2_with (fail)
              go_roundw
              case rel => exact ⟨k + 1, _, _, _, _, _, by omega, by go_num, rfl, hS11_h.out⟩
              case measure => simp [intOf]; omega
  · obtain rfl : m = k := by omega
    have hpt : (scanTo g m).2 = partsM g := by unfold partsM; rw [hm_h.out]
    rw [hpt] at hS
    have hwWs := hB1_h.out.size
    have hxn := hS.xln
    have hS_h := lH hS; have hBo_h := lH hBo; have ko_h := lH ko; clear hS hBo ko
    obtain ⟨⟨c0, c1, c2, c3⟩, f0, f1, f2, f3⟩ := t_box4 ko_h.out
    go_wp2_with (fail)
    go_ret
    refine ⟨Bx, cap, xs, by rw [hxn]; exact congrArg Ending.returned (by go_num), by rw [hxn]; exact hS_h.out.sl, fun x hx => ?_, hS_h.out.pps, hBo_h.out⟩
    obtain ⟨o1, o2, o3, o4⟩ := hS_h.out.ok x hx
    exact ⟨o1, fun b hb => Nat.le_trans hwWs (o2 b hb), fun b hb => Nat.le_trans hwWs (o3 b hb), fun b hb => Nat.le_trans hwWs (o4 b hb)⟩
def RetCn (w : World) (n m : Nat) (p : List Int × List Int) (e : Ending) (w' : World) : Prop :=
 ∃ Wa Ea : Addr, e = .returned (.tuple #[.slice (some Wa) n n, .slice (some Ea) m m]) ∧ IS w' (some Wa) n p.1 ∧ IS w' (some Ea) m p.2 ∧ Wa.block ≠ Ea.block ∧ w.heap.size ≤ Wa.block ∧ w.heap.size ≤ Ea.block ∧ Below w.heap.size w w'
structure NuS (W : World) (N E : Addr) (n m : Nat) (t1 t2 : List Int) (w : World) : Prop where
 i1 : IS w (some N) n t1
 i2 : IS w (some E) m t2
 l1 : t1.length = n
 l2 : t2.length = m
 ne : N.block ≠ E.block
 lt : N.block < W.heap.size ∧ E.block < W.heap.size
 kp : Keeps (fun b => b = N.block ∨ b = E.block) W w
section
variable {W w w' : World} {N E : Addr} {n m : Nat} {t1 t2 : List Int}
theorem NuS.below (h : NuS W N E n m t1 t2 w) (hb : Below w.heap.size w w') : NuS W N E n m t1 t2 w' :=
 ⟨h.i1.below hb, h.i2.below hb, h.l1, h.l2, h.ne, h.lt, h.kp.free (Keeps.of_below hb (fun _ => False)) fun _ _ h => h.elim⟩
theorem NuS.set1 (h : NuS W N E n m t1 t2 w) {j : Nat} (x : Int) (hj : j < n) : NuS W N E n m (t1.set j x) t2 (w.setCell (N.add j) (.int .i64 x)) ∧ Keeps (fun b => b = N.block) w (w.setCell (N.add j) (.int .i64 x)) := by
 have hk : Keeps (fun b => b = N.block) w (w.setCell (N.add j) (.int .i64 x)) := Keeps.setCell (S := fun b => b = N.block) (Keeps.refl _ w) (p := N.add j) (by rw [block_of_add]) _
 exact ⟨⟨h.i1.set rfl x (by rw [h.l1]; exact hj), h.i2.keeps hk (fun b hb e => h.ne (e.symm.trans (by simpa using hb : b = E.block))), by simpa using h.l1, h.l2, h.ne, h.lt, h.kp.trans (hk.mono fun _ _ e => .inl e)⟩, hk⟩
theorem NuS.set2 (h : NuS W N E n m t1 t2 w) {j : Nat} (x : Int) (hj : j < m) : NuS W N E n m t1 (t2.set j x) (w.setCell (E.add j) (.int .i64 x)) ∧ Keeps (fun b => b = E.block) w (w.setCell (E.add j) (.int .i64 x)) := by
 have hk : Keeps (fun b => b = E.block) w (w.setCell (E.add j) (.int .i64 x)) := Keeps.setCell (S := fun b => b = E.block) (Keeps.refl _ w) (p := E.add j) (by rw [block_of_add]) _
 exact ⟨⟨h.i1.keeps hk (fun b hb e => h.ne ((by simpa using hb : b = N.block).symm.trans e)), h.i2.set rfl x (by rw [h.l2]; exact hj), h.l1, by simpa using h.l2, h.ne, h.lt, h.kp.trans (hk.mono fun _ _ e => .inr e)⟩, hk⟩
theorem NuS.sl (h : NuS W N E n m t1 t2 W) {e : TypeId} (he : e ≠ tInt) {sz k cap : Nat} {A : Option Addr} {xs : List Value} (hs : Sl W e sz A k cap xs) (hk : Keeps (fun b => b = N.block ∨ b = E.block) W w') : Sl w' e sz A k cap xs :=
 hs.keeps hk fun b hb hS => by
  obtain ⟨cs, t, fr, hg, ht⟩ := sl_typ hs he b hb
  obtain ⟨_, q1⟩ := is_box h.i1
  obtain ⟨_, q2⟩ := is_box h.i2
  rcases hS with rfl | rfl
  · rw [hg] at q1
    injection q1 with q1
    injection q1 with _ h1
    exact ht h1
  · rw [hg] at q2
    injection q2 with q2
    injection q2 with _ h1
    exact ht h1
end
set_option maxRecDepth 100000 in
set_option maxHeartbeats 16000000 in
theorem cnNumbers_any {v : Value} {g : Gr} (w : World) (n m : Nat) (h : RdGr w v g) (hMo : Mono g n) (hm : g.2.1.length = m) :
  Calls Tryz.prog 40 #[v] w (RetCn w n m (cnM g)) := by
 have hn100 := hMo.n100
 have hm60 : m ≤ 60 := by rw [← hm]; exact hMo.m60
 have hgn := hMo.hn
 have hW0 := h
 obtain ⟨A, c, hs, ⟨B, bb, s⟩, ⟨C, d, t⟩, rfl, e1, e2, e3, hE, hRa, hRb⟩ := h
 have hml : hs.length = m := by rw [← hm, e1, List.length_map]
 simp only [hgn, hml] at hW0 ⊢
 obtain ⟨p, hp⟩ : ∃ p, s.length = p := ⟨_, rfl⟩
 obtain ⟨r, hr⟩ : ∃ r, t.length = r := ⟨_, rfl⟩
 rw [hp, hr] at hW0 ⊢
 obtain ⟨W, hWe, bW, k0⟩ := (⟨_, rfl, t_below_alloc _ _, heap_alloc_new _ _⟩ : ∃ W, W = w.alloc (.cells #[.int .i64 (n : Int), .slice A m c, .slice B p bb, .slice C r d] tGr) ∧ Below w.heap.size w W ∧ W.heap[w.heap.size]? = some (.cells #[.int .i64 (n : Int), .slice A m c, .slice B p bb, .slice C r d] tGr))
 obtain ⟨⟨c0, c1, c2, c3⟩, f0, f1, f2, f3⟩ := t_box4 k0
 have hop := cnOpen_any W n m (hW0.below bW) hMo hm
 have hct0 := cnTo_eq hMo 0 (Nat.zero_le _)
 have hw0 : ordW g 0 = (openM g).1 := by unfold ordW; simp
 have he0 : ordE g 0 = (openM g).2 := by unfold ordE; simp
 rw [hw0, he0, hm] at hct0
 obtain ⟨ol, hol⟩ : ∃ q, (openM g).1.length = q := ⟨_, rfl⟩
 obtain ⟨oc, hoc⟩ : ∃ q : Int, ((openM g).2.length : Int) = q := ⟨_, rfl⟩
 rw [hol, hoc] at hop hct0
 clear hRa hRb e1 e2 e3 hE hw0 he0; have hMo_h := lH hMo; have hm_h := lH hm; have hW0_h := lH hW0; have hgn_h := lH hgn; have hml_h := lH hml; have hp_h := lH hp; have hr_h := lH hr; have bW_h := lH bW; have k0_h := lH k0; have hop_h := lH hop; have hol_h := lH hol; have hoc_h := lH hoc; have hct0_h := lH hct0; clear hMo hm hW0 hgn hml hp hr bW k0 hop hol hoc hct0
 go_enter Tryz.func40, Tryz.ntmps40
 go_upto_region 1 with (fail)
 rw [← hWe]
 clear hWe
 go_wp2_with (fail)
 refine (hop_h.out).mono ?_
 rintro e w1 ⟨N, E, A1, c1', rfl, hC1⟩
 have k1 := t_box_below k0_h.out hC1.bel
 have hB1 := below_trans bW_h.out hC1.bel bW_h.out.size
 have hwW : w.heap.size < W.heap.size := t_box_lt k0_h.out
 have hEn : w.heap.size < N.block ∧ w.heap.size < E.block := ⟨Nat.lt_of_lt_of_le hwW hC1.nf, Nat.lt_of_lt_of_le hwW hC1.ef⟩
 have hlp := cnLoops_any w1 n m (hW0_h.out.below hB1) hMo_h.out hm_h.out
 clear c0 c1 c2 c3 f0 f1 f2 f3
 obtain ⟨⟨c0, c1, c2, c3⟩, f0, f1, f2, f3⟩ := t_box4 k1
 clear hop_h k0_h bW_h; have k1_h := lH k1; have hB1_h := lH hB1; have hEn_h := lH hEn; have hlp_h := lH hlp; have hC1_h := lH hC1; clear k1 hB1 hEn hlp hC1
 go_wp2_with (fail)
 refine (hlp_h.out).mono ?_
 rintro e w3 ⟨Ax, cx, xs, rfl, hsl, hok, hpp, hb3⟩
 obtain ⟨xl, hxl⟩ : ∃ q, xs.length = q := ⟨_, rfl⟩
 have hxp : (partsM g).length = xl := by rw [← hpp, List.length_map, hxl]
 have hxm : xl ≤ 60 := by
  rw [← hxp]
  have := (scan_ok g g.2.1.length (Nat.le_refl _)).1
  have := hm_h.out
  unfold partsM
  omega
 rw [hxl] at hsl ⊢
 have hC3 := hC1_h.out
 have hB3 := below_trans hB1_h.out hb3 hB1_h.out.size
 have hlt3 : N.block < w1.heap.size ∧ E.block < w1.heap.size := ⟨hC3.num.lt N.block (by simp), hC3.edg.lt E.block (by simp)⟩
 have hN3 : NuS w3 N E n m (cnTo g 0).1 (cnTo g 0).2.1 w3 := by
  rw [hct0_h.out]
  exact ⟨hC3.num.below hb3, hC3.edg.below hb3, by simp [numsL], by simp [numsL], hC3.ne, ⟨by have := hb3.size; omega, by have := hb3.size; omega⟩, Keeps.refl _ _⟩
 have h01 : (cnTo g 0).2.2.1 = (ol : Int) := by rw [hct0_h.out]
 have h02 : (cnTo g 0).2.2.2 = oc := by rw [hct0_h.out]
 clear hlp_h hC1_h hC3 hb3 c0 c1 c2 c3 f0 f1 f2 f3 k1_h
 have hNz := hN3
 have hsl_h := lH hsl; have hok_h := lH hok; have hpp_h := lH hpp; have hB3_h := lH hB3; have hlt3_h := lH hlt3; have hN3_h := lH hN3; have h01_h := lH h01; have h02_h := lH h02; have hxl_h := lH hxl; have hxp_h := lH hxp; have hNz_h := lH hNz; clear hsl hok hpp hB3 hlt3 hN3 h01 h02 hxl hxp hNz
 go_wp2_with (fail)
 go_loopw [27, 8, 7] (fun i a b wr => ∃ (k : Nat), k ≤ xl ∧ i = .int .i64 k ∧ a = .int .i64 (cnTo g k).2.2.1 ∧ b = .int .i64 (cnTo g k).2.2.2 ∧ NuS w3 N E n m (cnTo g k).1 (cnTo g k).2.1 wr) (fun i _ _ _ => xl - (intOf i).toNat)
 case atStart => exact ⟨0, Nat.zero_le _, rfl, by rw [h01_h.out], by rw [h02_h.out], hN3_h.out⟩
 case round =>
  clear hN3_h h01_h h02_h
  obtain ⟨k, hk, rfl, rfl, rfl, hN⟩ := hrel
  obtain ⟨wo, rfl⟩ : ∃ x, x = wr := ⟨_, rfl⟩
  have hor := ord_le hMo_h.out k
  rw [hm_h.out] at hor
  have hct := cnTo_eq hMo_h.out k (by rw [hxp_h.out]; exact hk)
  obtain ⟨⟨t1, t2, n1, n2⟩, ht⟩ : ∃ t, cnTo g k = t := ⟨_, rfl⟩
  rw [ht] at hN hct ⊢
  simp only at hN ⊢
  have hn1 : 0 ≤ n1 ∧ n1 ≤ 100 := by
   have : n1 = ((ordW g k).length : Int) := by rw [Prod.mk.injEq, Prod.mk.injEq, Prod.mk.injEq] at hct; exact hct.2.2.1
   omega
  have hn2 : 0 ≤ n2 ∧ n2 ≤ 60 := by
   have : n2 = ((ordE g k).length : Int) := by rw [Prod.mk.injEq, Prod.mk.injEq, Prod.mk.injEq] at hct; exact hct.2.2.2
   omega
  by_cases hlt : k < xl
  · obtain ⟨x, hx⟩ : ∃ x, xs[k]? = some x := ⟨_, List.getElem?_eq_getElem (by rw [hxl_h.out]; exact hlt)⟩
    have hslo := hNz_h.out.sl (by decide) hsl_h.out hN.kp
    obtain ⟨ad, rfl, d0, d1, d2, d3⟩ := lp_at hslo hx
    have hxk : ∀ W' t1' t2', NuS w3 N E n m t1' t2' W' → LpF w1.heap.size W' x := fun W' t1' t2' hN' => (hok_h.out x (List.mem_of_getElem? hx)).keeps hN'.kp (fun b e => by have := hlt3_h.out; omega)
    have hpx : (partsM g)[k]? = some x.P := by rw [← hpp_h.out, List.getElem?_map, hx]; rfl
    have hpf := part_facts hMo_h.out (List.mem_of_getElem? hpx)
    have hgd : (partsM g).getD k ([], ([], []), 0) = x.P := by rw [List.getD_eq_getElem?_getD, hpx]; rfl
    have hlen := (hok_h.out x (List.mem_of_getElem? hx)).1.len
    obtain ⟨XD, xdl, xdc, XA, xal, xac, XG, xgl, xgc, P⟩ := x
    simp only at d0 d1 d2 d3 hpf hgd hlen
    obtain ⟨u, hu⟩ : ∃ q, P.2.2 = q := ⟨_, rfl⟩
    rw [hu] at d3
    have hadd : cnTo g (k + 1) = (putN t1 n1 P.2.1.1, putN t2 n2 P.2.1.2, n1 + (xal : Int), n2 + (xgl : Int)) := by
     rw [cnTo, hgd, ht]
     unfold addN
     rw [hlen.2.1.1, hlen.2.2.1]
    obtain ⟨⟨hnd1, hnd2⟩, hr1, hr2⟩ := hpf
    rw [hm_h.out] at hr2
    have hal : xal ≤ 100 := by have := nodup_le hnd1 hr1; have := hlen.2.1.1; omega
    have hgl : xgl ≤ 60 := by have := nodup_le hnd2 hr2; have := hlen.2.2.1; omega
    obtain ⟨o1, ho1⟩ : ∃ q, P.2.1.1 = q := ⟨_, rfl⟩
    obtain ⟨o2, ho2⟩ : ∃ q, P.2.1.2 = q := ⟨_, rfl⟩
    have hx1 : ∀ W' t1' t2', NuS w3 N E n m t1' t2' W' → RdI W' XA o1 := fun W' t1' t2' hN' => by rw [← ho1]; exact (hxk W' t1' t2' hN').1.wir.rd
    have hx2 : ∀ W' t1' t2', NuS w3 N E n m t1' t2' W' → RdI W' XG o2 := fun W' t1' t2' hN' => by rw [← ho2]; exact (hxk W' t1' t2' hN').1.edg.rd
    have hl1 : o1.length = xal := by rw [← ho1]; exact hlen.2.1.1
    have hl2 : o2.length = xgl := by rw [← ho2]; exact hlen.2.2.1
    rw [ho1] at hadd hnd1 hr1
    rw [ho2] at hadd hnd2 hr2
    obtain ⟨W6, hW6, bW6, k6⟩ := (⟨_, rfl, t_below_alloc _ _, heap_alloc_new _ _⟩ : ∃ W, W = wo.alloc (.cells #[.slice XD xdl xdc, .slice XA xal xac, .slice XG xgl xgc, .int .i64 u] tLp) ∧ Below wo.heap.size wo W ∧ W.heap[wo.heap.size]? = some (.cells #[.slice XD xdl xdc, .slice XA xal xac, .slice XG xgl xgc, .int .i64 u] tLp))
    have hN6 := hN.below bW6
    have hwo : w3.heap.size ≤ wo.heap.size := hN.kp.size
    have hkI : (k : Int) < (xl : Int) := by omega
    obtain ⟨⟨c0, c1, c2, c3⟩, f0, f1, f2, f3⟩ := t_box4 k6
    clear hN hslo hxk hpx hgd hlen hu ho1 ho2 hx hor hct ht bW6; have hN6_h := lH hN6; have hx1_h := lH hx1; have hx2_h := lH hx2; have hl1_h := lH hl1; have hl2_h := lH hl2; have hadd_h := lH hadd; have hnd1_h := lH hnd1; have hnd2_h := lH hnd2; have hr1_h := lH hr1; have hr2_h := lH hr2; have k6_h := lH k6; have hwo_h := lH hwo; clear hN6 hx1 hx2 hl1 hl2 hadd hnd1 hnd2 hr1 hr2 k6 hwo
    go_upto_region 6 with (fail)
    rw [← hW6]
    clear hW6 d0 d1 d2 d3
    go_wp2_with (fail)
    clear c0 c1 c2 c3 f0 f1 f2 f3
    go_loopw [34] (fun i wr => ∃ j : Nat, j ≤ xal ∧ i = .int .i64 j ∧ NuS w3 N E n m (putN t1 n1 (o1.take j)) t2 wr ∧ wr.heap[wo.heap.size]? = some (.cells #[.slice XD xdl xdc, .slice XA xal xac, .slice XG xgl xgc, .int .i64 u] tLp)) (fun i _ => xal - (intOf i).toNat)
    case atStart => exact ⟨0, Nat.zero_le _, rfl, by rw [List.take_zero, putN_nil]; exact hN6_h.out, k6_h.out⟩
    case round =>
     clear hN6_h k6_h
     obtain ⟨j, hj, rfl, hNj, kj⟩ := hrel
     obtain ⟨wi, rfl⟩ : ∃ x, x = wr := ⟨_, rfl⟩
     by_cases hltj : j < xal
     · obtain ⟨x, hx⟩ : ∃ x, o1[j]? = some x := ⟨_, List.getElem?_eq_getElem (by rw [hl1_h.out]; exact hltj)⟩
       have hxr := hr1_h.out x (List.mem_of_getElem? hx)
       obtain ⟨xx, rfl⟩ : ∃ xx : Nat, x = (xx : Int) := ⟨x.toNat, by omega⟩
       obtain ⟨gd, rfl, pg⟩ := hx1_h.out wi _ _ hNj j _ hx
       obtain ⟨zd, z0, ze, _, _, zc, zf⟩ := hNj.i1.at_ (j := xx) (by rw [hNj.l1]; omega)
       obtain rfl := Option.some.inj ze
       have zfk := zf xx
       obtain ⟨hNn, hkn⟩ := hNj.set1 (j := xx) (n1 + (j : Int)) (by omega)
       rw [← putN_step hnd1_h.out hx] at hNn
       have kn := t_box_keeps kj hkn (fun e => by have := hNj.lt.1; have := hwo_h.out; omega)
       have hjI : (j : Int) < (xal : Int) := by omega
       have hxI : (xx : Int) < (n : Int) := by omega
       clear zf ze hNj kj hkn hx; have hNn_h := lH hNn; have kn_h := lH kn; clear hNn kn
       go_wp2_with (fail)
       go_roundw
       case rel => exact ⟨j + 1, by omega, by go_num, hNn_h.out, kn_h.out⟩
       case measure => simp [intOf]; omega
     · obtain rfl : xal = j := by omega
       rw [List.take_of_length_le (by rw [hl1_h.out]; exact Nat.le_refl _)] at hNj
       obtain ⟨⟨c0, c1, c2, c3⟩, f0, f1, f2, f3⟩ := t_box4 kj
       have hNj_h := lH hNj; have kj_h := lH kj; clear hNj kj
       go_wp2_with (fail)
       clear c0 c1 c2 c3 f0 f1 f2 f3
       go_loopw [49] (fun i wr => ∃ j : Nat, j ≤ xgl ∧ i = .int .i64 j ∧ NuS w3 N E n m (putN t1 n1 o1) (putN t2 n2 (o2.take j)) wr ∧ wr.heap[wo.heap.size]? = some (.cells #[.slice XD xdl xdc, .slice XA xal xac, .slice XG xgl xgc, .int .i64 u] tLp)) (fun i _ => xgl - (intOf i).toNat)
       case atStart => exact ⟨0, Nat.zero_le _, rfl, by rw [List.take_zero, putN_nil]; exact hNj_h.out, kj_h.out⟩
       case round =>
        clear hNj_h kj_h
        obtain ⟨j, hj', rfl, hNj, kj⟩ := hrel
        obtain ⟨wu, rfl⟩ : ∃ x, x = wr := ⟨_, rfl⟩
        by_cases hltj' : j < xgl
        · obtain ⟨x, hx⟩ : ∃ x, o2[j]? = some x := ⟨_, List.getElem?_eq_getElem (by rw [hl2_h.out]; exact hltj')⟩
          have hxr := hr2_h.out x (List.mem_of_getElem? hx)
          obtain ⟨xx, rfl⟩ : ∃ xx : Nat, x = (xx : Int) := ⟨x.toNat, by omega⟩
          obtain ⟨gd, rfl, pg⟩ := hx2_h.out wu _ _ hNj j _ hx
          obtain ⟨zd, z0, ze, _, _, zc, zf⟩ := hNj.i2.at_ (j := xx) (by rw [hNj.l2]; omega)
          obtain rfl := Option.some.inj ze
          have zfk := zf xx
          obtain ⟨hNn, hkn⟩ := hNj.set2 (j := xx) (n2 + (j : Int)) (by omega)
          rw [← putN_step hnd2_h.out hx] at hNn
          have kn := t_box_keeps kj hkn (fun e => by have := hNj.lt.2; have := hwo_h.out; omega)
          have hjI : (j : Int) < (xgl : Int) := by omega
          have hxI : (xx : Int) < (m : Int) := by omega
          clear zf ze hNj kj hkn hx; have hNn_h := lH hNn; have kn_h := lH kn; clear hNn kn
          go_wp2_with (fail)
          go_roundw
          case rel => exact ⟨j + 1, by omega, by go_num, hNn_h.out, kn_h.out⟩
          case measure => simp [intOf]; omega
        · obtain rfl : xgl = j := by omega
          rw [List.take_of_length_le (by rw [hl2_h.out]; exact Nat.le_refl _)] at hNj
          obtain ⟨⟨c0, c1, c2, c3⟩, f0, f1, f2, f3⟩ := t_box4 kj
          clear kj; have hNj_h := lH hNj; clear hNj
          go_wp2_with (fail)
          go_roundw
          case rel => exact ⟨k + 1, by omega, by go_num, by rw [hadd_h.out], by rw [hadd_h.out], by rw [hadd_h.out]; exact hNj_h.out⟩
          case measure => simp [intOf]; omega
  · obtain rfl : xl = k := by omega
    have hc1 : (cnM g).1 = t1 := by unfold cnM; rw [hxp_h.out, ht]
    have hc2 : (cnM g).2 = t2 := by unfold cnM; rw [hxp_h.out, ht]
    have hBe := below_keeps hB3_h.out hN.kp hB3_h.out.size (fun b hb => by have := hEn_h.out; omega)
    clear hct ht; have hN_h := lH hN; clear hN
    go_wp2_with (fail)
    go_ret2
    have hz := hEn_h.out
    exact ⟨N, E, rfl, by rw [hc1]; exact hN_h.out.i1, by rw [hc2]; exact hN_h.out.i2, hN_h.out.ne, by omega, by omega, hBe⟩
set_option maxRecDepth 100000 in
set_option maxHeartbeats 4000000 in
theorem sIsMonogamous_any {v : Value} {g : Gr} (w : World) (h : RdGr w v g) (ok : OkG g) :
  Calls Tryz.prog 25 #[v] w fun e w' => e = .returned (.bool (monoB g)) ∧ Below w.heap.size w w' := by
 obtain ⟨D, hD⟩ : ∃ D, D = monoB g := ⟨_, rfl⟩
 have hDD := hD
 unfold monoB at hDD
 rw [← hD]
 obtain ⟨A, n0, c, B, m0, d, C, k0', e0, rfl⟩ := h.shape
 obtain ⟨z, hz⟩ : ∃ z, z = g.1 := ⟨_, rfl⟩
 rw [← hz] at h ⊢
 obtain ⟨W, hW, bW, k0⟩ := (⟨_, rfl, t_below_alloc _ _, heap_alloc_new _ _⟩ : ∃ W, W = w.alloc (.cells #[.int .i64 z, .slice A n0 c, .slice B m0 d, .slice C k0' e0] tGr) ∧ Below w.heap.size w W ∧ W.heap[w.heap.size]? = some (.cells #[.int .i64 z, .slice A n0 c, .slice B m0 d, .slice C k0' e0] tGr))
 have hG := hgValid_any W (h.below bW) ok
 obtain ⟨T, hT⟩ : ∃ T, T = grB g := ⟨_, rfl⟩
 rw [← hT] at hG hDD
 obtain ⟨M, hM⟩ : ∃ M, M = (prmN g.1 (orgW g) && prmN g.1 (dstW g)) := ⟨_, rfl⟩
 rw [← hM] at hDD
 have hF : T = true → ∀ (W' : World), Below W.heap.size W W' → Calls Tryz.prog 53 #[.agg #[.int .i64 z, .slice A n0 c, .slice B m0 d, .slice C k0' e0]] W' fun e w' => e = .returned (.bool M) ∧ Below W'.heap.size W' w' := fun hh W' hb => by
  obtain ⟨n, e1, hn, _, _, _, hin⟩ := grB_parts (hT.symm.trans hh)
  have := hgMono_any W' n ((h.below bW).below hb) ok e1 (by omega) hin
  rw [← hM] at this
  exact this
 obtain ⟨⟨c0, c1, c2, c3⟩, f0, f1, f2, f3⟩ := t_box4 k0
 clear h hz hT hM ok hD; have bW_h := lH bW; have k0_h := lH k0; have hG_h := lH hG; have hF_h := lH hF; have hDD_h := lH hDD; clear bW k0 hG hF hDD
 go_enter Tryz.func25, Tryz.ntmps25
 go_upto_region 1 with (fail)
 rw [← hW]
 clear hW
 go_wp2_with (fail)
 refine (hG_h.out).mono ?_
 rintro e w1 ⟨rfl, hb1⟩
 have k1 := t_box_below k0_h.out hb1
 have hB := below_trans bW_h.out hb1 bW_h.out.size
 clear c0 c1 c2 c3 f0 f1 f2 f3
 obtain ⟨⟨c0, c1, c2, c3⟩, f0, f1, f2, f3⟩ := t_box4 k1
 cases T
 case false =>
  obtain rfl : D = false := hDD_h.out
  have hB_h := lH hB; clear hB
  go_wp2_with (fail)
  go_ret
  exact ⟨rfl, hB_h.out⟩
 case true =>
  obtain rfl : D = M := hDD_h.out.trans (Bool.true_and _)
  have hB_h := lH hB; have hb1_h := lH hb1; clear hB hb1
  go_wp2_with (fail)
  refine ((hF_h.out trivial _ hb1_h.out)).mono ?_
  rintro e w2 ⟨rfl, hb2⟩
  have hB2 := below_trans hB_h.out hb2 hB_h.out.size
  clear hb2; have hB2_h := lH hB2; clear hB2
  go_wp2_with (fail)
  go_ret
  exact ⟨rfl, hB2_h.out⟩
set_option maxRecDepth 100000 in
set_option maxHeartbeats 4000000 in
theorem mtTwo_any {v v' : Value} {g g' : Gr} (w : World) (h : RdGr w v g) (h' : RdGr w v' g') (ok : OkG g) (ok' : OkG g') :
  Calls Tryz.prog 37 #[v, v'] w fun e w' => e = .returned (.bool (monoB g && monoB g')) ∧ Below w.heap.size w w' := by
 obtain ⟨T1, hT1⟩ : ∃ D, D = monoB g := ⟨_, rfl⟩
 obtain ⟨T2, hT2⟩ : ∃ D, D = monoB g' := ⟨_, rfl⟩
 rw [← hT1, ← hT2]
 obtain ⟨A, n0, c, B, m0, d, C, k0', e0, rfl⟩ := h.shape
 obtain ⟨A', n0', c', B', m0', d', C', k0'', e0', rfl⟩ := h'.shape
 obtain ⟨z, hz⟩ : ∃ z, z = g.1 := ⟨_, rfl⟩
 obtain ⟨z', hz'⟩ : ∃ z, z = g'.1 := ⟨_, rfl⟩
 rw [← hz] at h ⊢
 rw [← hz'] at h' ⊢
 obtain ⟨W, hW, bW, k0, k1⟩ := allocs2 w (.cells #[.int .i64 z, .slice A n0 c, .slice B m0 d, .slice C k0' e0] tGr) (.cells #[.int .i64 z', .slice A' n0' c', .slice B' m0' d', .slice C' k0'' e0'] tGr)
 have hG := sIsMonogamous_any W (h.below bW) ok
 have hG' := fun (W' : World) (hb : Below W.heap.size W W') => sIsMonogamous_any W' ((h'.below bW).below hb) ok'
 rw [← hT1] at hG
 simp only [← hT2] at hG'
 obtain ⟨⟨c0, c1, c2, c3⟩, f0, f1, f2, f3⟩ := t_box4 k0
 clear h h' hz hz' hT1 hT2 ok ok'; have bW_h := lH bW; have k0_h := lH k0; have k1_h := lH k1; have hG_h := lH hG; have hG'_h := lH hG'; clear bW k0 k1 hG hG'
 go_enter Tryz.func37, Tryz.ntmps37
 go_upto_region 1 with (fail)
 rw [← hW]
 clear hW
 go_wp2_with (fail)
 refine (hG_h.out).mono ?_
 rintro e w1 ⟨rfl, hb1⟩
 have k2 := t_box_below k1_h.out hb1
 have hB := below_trans bW_h.out hb1 bW_h.out.size
 clear c0 c1 c2 c3 f0 f1 f2 f3
 obtain ⟨⟨c0, c1, c2, c3⟩, f0, f1, f2, f3⟩ := t_box4 k2
 cases T1
 case false =>
  have hB_h := lH hB; clear hB
  go_wp2_with (fail)
  go_ret
  exact ⟨rfl, hB_h.out⟩
 case true =>
  have hB_h := lH hB; have hb1_h := lH hb1; clear hB hb1
  go_wp2_with (fail)
  refine ((hG'_h.out _ hb1_h.out)).mono ?_
  rintro e w2 ⟨rfl, hb2⟩
  have hB2 := below_trans hB_h.out hb2 hB_h.out.size
  clear hb2; have hB2_h := lH hB2; clear hB2
  go_wp2_with (fail)
  go_ret
  exact ⟨by cases T2 <;> rfl, hB2_h.out⟩
theorem info_ints : (Tryz.prog.info? 23).map (fun i => (i.zero, i.size, i.bytes)) = some (some (.slice none 0 0), 1, 24) := by kernel_rfl
def rowsO (a : Hd) (hs : List EHd) (k : Nat) : List Hd := a :: (hs.take k).map fun h => h.2.2.2
def rowsI (a : Hd) (hs : List EHd) (k : Nat) : List Hd := a :: (hs.take k).map fun h => h.2.2.1
theorem rowsO_step {a : Hd} {hs : List EHd} {k : Nat} {x : EHd} (h : hs[k]? = some x) : rowsO a hs (k + 1) = rowsO a hs k ++ [x.2.2.2] := by
 unfold rowsO; rw [List.take_add_one, h]; simp
theorem rowsI_step {a : Hd} {hs : List EHd} {k : Nat} {x : EHd} (h : hs[k]? = some x) : rowsI a hs (k + 1) = rowsI a hs k ++ [x.2.2.1] := by
 unfold rowsI; rw [List.take_add_one, h]; simp
theorem outW_flat (hs : List EHd) : outW (hs.map egOf) = ((hs.map fun h => h.2.2.2).map fun h : Hd => h.2.2).flatten := by
 induction hs with
 | nil => rfl
 | cons x r ih => simp only [List.map_cons, outW, List.flatten_cons, ih]; rfl
theorem inpW_flat (hs : List EHd) : inpW (hs.map egOf) = ((hs.map fun h => h.2.2.1).map fun h : Hd => h.2.2).flatten := by
 induction hs with
 | nil => rfl
 | cons x r ih => simp only [List.map_cons, inpW, List.flatten_cons, ih]; rfl
theorem rows_rd {w : World} {A : Option Addr} {n c : Nat} {hs : List Hd} (h : Sl w 23 1 A n c (hs.map Hd.val)) (hr : ∀ x, x ∈ hs → RdI w x.1 x.2.2) : RdR w A hs :=
 ⟨fun i x hx => by
  obtain ⟨ad, hA, _, hc, _⟩ := Sl.cell h (show (hs.map Hd.val)[i]? = some x.val by rw [List.getElem?_map, hx]; rfl)
  exact ⟨ad, hA, hc⟩, hr⟩
set_option maxRecDepth 100000 in
set_option maxHeartbeats 8000000 in
theorem isMonogamous_any {v : Value} {g : Gr} (w : World) (h : RdGr w v g) (ok : OkG g) :
  Calls Tryz.prog 29 #[v] w fun e w' => e = .returned (.bool (monoB g)) ∧ Below w.heap.size w w' := by
 obtain ⟨D, hD⟩ : ∃ D, D = monoB g := ⟨_, rfl⟩
 have hDD := hD
 unfold monoB at hDD
 rw [← hD]
 have hG0 := h
 obtain ⟨A, c, hs, ⟨B, b, s⟩, ⟨C, d, t⟩, rfl, e1, e2, e3, hE, hRa, hRb⟩ := h
 obtain ⟨z, es, s0, t0⟩ := g
 have a1 : es = hs.map egOf := e1
 have a2 : s = s0 := e2
 have a3 : t = t0 := e3
 subst a2 a3
 obtain ⟨m, hm⟩ : ∃ m, m = hs.length := ⟨_, rfl⟩
 obtain ⟨p, hp⟩ : ∃ p, p = s.length := ⟨_, rfl⟩
 obtain ⟨r, hr⟩ : ∃ r, r = t.length := ⟨_, rfl⟩
 change RdGr w (.agg #[.int .i64 z, .slice A hs.length c, .slice B s.length b, .slice C t.length d]) (z, es, s, t) at hG0
 show Calls Tryz.prog _ #[.agg #[.int .i64 z, .slice A hs.length c, .slice B s.length b, .slice C t.length d]] w _
 rw [← hm, ← hp, ← hr] at hG0 ⊢
 obtain ⟨W, hW, bW, k0⟩ := (⟨_, rfl, t_below_alloc _ _, heap_alloc_new _ _⟩ : ∃ W, W = w.alloc (.cells #[.int .i64 z, .slice A m c, .slice B p b, .slice C r d] tGr) ∧ Below w.heap.size w W ∧ W.heap[w.heap.size]? = some (.cells #[.int .i64 z, .slice A m c, .slice B p b, .slice C r d] tGr))
 have hG := isGraph_any W (hG0.below bW) ok
 obtain ⟨T, hT⟩ : ∃ T, T = grB (z, es, s, t) := ⟨_, rfl⟩
 rw [← hT] at hG hDD
 have hol := out_len es
 have hOk := ok.2.2
 have hL1 : (s ++ outW es).length ≤ 16777216 := by
  have : cntE es + s.length + t.length ≤ 8388608 := hOk
  rw [List.length_append]; omega
 have hL2 : (t ++ inpW es).length ≤ 16777216 := by
  have : cntE es + s.length + t.length ≤ 8388608 := hOk
  rw [List.length_append]; omega
 have hEW := hE.below bW
 have hRaW : RdI W B s := RdI.below hRa bW
 have hRbW : RdI W C t := RdI.below hRb bW
 obtain ⟨⟨c0, c1, c2, c3⟩, f0, f1, f2, f3⟩ := t_box4 k0
 cases T
 case false =>
  obtain rfl : D = false := by rw [hDD]; rfl
  clear hDD hT hol hOk hL1 hL2; have hG_h := lH hG; have bW_h := lH bW; have k0_h := lH k0; have hD_h := lH hD; have hm_h := lH hm; have hp_h := lH hp; have hr_h := lH hr; clear hG bW k0 hD hm hp hr
  go_enter Tryz.func29, Tryz.ntmps29
  go_upto_region 1 with (fail)
  rw [← hW]
  clear hW
  go_wp2_with (fail)
  refine (hG_h.out).mono ?_
  rintro e w1 ⟨rfl, hb1⟩
  have hB := below_trans bW_h.out hb1 bW_h.out.size
  clear hb1; have hB_h := lH hB; clear hB
  go_wp2_with (fail)
  go_ret
  exact ⟨rfl, hB_h.out⟩
 case true =>
 obtain ⟨n, e1', hn1, hm60, hs12, ht12, hinW⟩ := grB_parts hT.symm
 have e1'' : z = (n : Int) := e1'
 subst e1''
 have hegB : ∀ e, e ∈ es → egB e = true := by
  have hv := hT.symm
  unfold grB at hv
  simp only [Bool.and_eq_true] at hv
  exact List.all_eq_true.1 hv.2.1
 have hm60' : m ≤ 60 := by have : es.length ≤ 60 := hm60; rw [a1, List.length_map] at this; omega
 have hsp : p ≤ 12 := by rw [hp]; exact hs12
 have htr : r ≤ 12 := by rw [hr]; exact ht12
 rw [Bool.true_and] at hDD
 have hO1 : ((rowsO (B, b, s) hs m).map fun h : Hd => h.2.2).flatten = orgW ((n : Int), es, s, t) := by
  unfold rowsO; rw [List.take_of_length_le (by omega), List.map_cons, List.flatten_cons, ← outW_flat, ← a1]; rfl
 have hI1 : ((rowsI (C, d, t) hs m).map fun h : Hd => h.2.2).flatten = dstW ((n : Int), es, s, t) := by
  unfold rowsI; rw [List.take_of_length_le (by omega), List.map_cons, List.flatten_cons, ← inpW_flat, ← a1]; rfl
 have hl1 : (rowsO (B, b, s) hs m).length = m + 1 := by unfold rowsO; simp; omega
 have hl2 : (rowsI (C, d, t) hs m).length = m + 1 := by unfold rowsI; simp; omega
 have hrd1 : ∀ W', Below W.heap.size W W' → ∀ x, x ∈ rowsO (B, b, s) hs m → RdI W' x.1 x.2.2 := fun W' hb x hx => by
  rcases List.mem_cons.1 hx with rfl | hx
  · exact hRaW.below hb
  · obtain ⟨y, hy, rfl⟩ := List.mem_map.1 hx
    exact ((hEW.below hb).2 y (List.mem_of_mem_take hy)).2
 have hrd2 : ∀ W', Below W.heap.size W W' → ∀ x, x ∈ rowsI (C, d, t) hs m → RdI W' x.1 x.2.2 := fun W' hb x hx => by
  rcases List.mem_cons.1 hx with rfl | hx
  · exact hRbW.below hb
  · obtain ⟨y, hy, rfl⟩ := List.mem_map.1 hx
    exact ((hEW.below hb).2 y (List.mem_of_mem_take hy)).1
 have hLo : (orgW ((n : Int), es, s, t)).length ≤ 1048576 ∧ (dstW ((n : Int), es, s, t)).length ≤ 1048576 := by
  have hb : ∀ l : List Eg, (∀ e, e ∈ l → egB e = true) → (outW l).length ≤ 2 * l.length ∧ (inpW l).length ≤ 2 * l.length := by
   intro l
   induction l with
   | nil => intro _; simp [outW, inpW]
   | cons e r ih =>
     intro h
     have h1 := egB_len (h e (by simp))
     have h2 := ih fun x hx => h x (by simp [hx])
     simp only [outW, inpW, List.length_append, List.length_cons]; omega
  have h2 := hb es hegB
  have h3 : es.length ≤ 60 := hm60
  have h4 : s.length ≤ 12 := hs12
  have h5 : t.length ≤ 12 := ht12
  constructor
  · show (s ++ outW es).length ≤ _
    rw [List.length_append]; omega
  · show (t ++ inpW es).length ≤ _
    rw [List.length_append]; omega
 have hU1 := fun (W' : World) (Q : Option Addr) (q : Nat) (hb : Below W.heap.size W W') (h : Sl W' 23 1 Q (m + 1) q ((rowsO (B, b, s) hs m).map Hd.val)) => occursOnce_any (n : Int) Q q (m + 1) (rowsO (B, b, s) hs m) (orgW ((n : Int), es, s, t)) W' (rows_rd h (hrd1 W' hb)) hl1 (by omega) hO1 hLo.1
 have hU2 := fun (W' : World) (Q : Option Addr) (q : Nat) (hb : Below W.heap.size W W') (h : Sl W' 23 1 Q (m + 1) q ((rowsI (C, d, t) hs m).map Hd.val)) => occursOnce_any (n : Int) Q q (m + 1) (rowsI (C, d, t) hs m) (dstW ((n : Int), es, s, t)) W' (rows_rd h (hrd2 W' hb)) hl2 (by omega) hI1 hLo.2
 obtain ⟨T1, hT1⟩ : ∃ T, T = prmN (n : Int) (orgW ((n : Int), es, s, t)) := ⟨_, rfl⟩
 obtain ⟨T2, hT2⟩ : ∃ T, T = prmN (n : Int) (dstW ((n : Int), es, s, t)) := ⟨_, rfl⟩
 simp only [← hT1] at hU1
 simp only [← hT2] at hU2
 have hDT : D = (T1 && T2) := by rw [hDD, hT1, hT2]
 have hsv : (Hd.val (B, b, s)) = .slice B p b := by unfold Hd.val; rw [hp]
 have htv : (Hd.val (C, d, t)) = .slice C r d := by unfold Hd.val; rw [hr]
 clear hDD hT hol hOk hL1 hL2 hegB hinW e1' hO1 hI1 hl1 hl2 hrd1 hrd2 hLo hT1 hT2 hD hRa hRb hE e1 e2 e3 hG0 ok hm60 hs12 ht12; have hG_h := lH hG; have bW_h := lH bW; have k0_h := lH k0; have hm_h := lH hm; have hp_h := lH hp; have hr_h := lH hr; have a1_h := lH a1; have hEW_h := lH hEW; have hRaW_h := lH hRaW; have hRbW_h := lH hRbW; have hU1_h := lH hU1; have hU2_h := lH hU2; have hDT_h := lH hDT; have hsv_h := lH hsv; have htv_h := lH htv; clear hG bW k0 hm hp hr a1 hEW hRaW hRbW hU1 hU2 hDT hsv htv
 go_enter Tryz.func29, Tryz.ntmps29
 go_upto_region 1 with (fail)
 rw [← hW]
 clear hW
 go_wp2_with (fail)
 refine (hG_h.out).mono ?_
 rintro e w1 ⟨rfl, hb1⟩
 have k1 := t_box_below k0_h.out hb1
 clear c0 c1 c2 c3 f0 f1 f2 f3; have hb1_h := lH hb1; have k1_h := lH k1; clear hb1 k1
 go_wp2_with (fail)
 go_cut [3, 4] (fun x y wx => ∃ Q1 Q2 : Nat, x = .slice (some ⟨Q1, 0, none⟩) 1 1 ∧ y = .slice (some ⟨Q2, 0, none⟩) 1 1 ∧ Sl wx 23 1 (some ⟨Q1, 0, none⟩) 1 1 [.slice B p b] ∧ Sl wx 23 1 (some ⟨Q2, 0, none⟩) 1 1 [.slice C r d] ∧ Q1 ≠ Q2 ∧ W.heap.size ≤ Q1 ∧ W.heap.size ≤ Q2 ∧ Below W.heap.size W wx)
 case first =>
  refine beginH (fun w' => w'.heap[w.heap.size]? = some (.cells #[.int .i64 (n : Int), .slice A m c, .slice B p b, .slice C r d] tGr)) (by kernel_rfl) ?_
  have hbd : Below w1.heap.size w1 w1.drew := below_drew (Below.refl _ _)
  generalize w1.drew = W4 at hbd ⊢
  have k4 := t_box_below k1_h.out hbd
  have hb4 := below_trans hb1_h.out hbd hb1_h.out.size
  have hz4 := hb4.size
  clear hbd; have k4_h := lH k4; have hb4_h := lH hb4; clear k4 hb4
  refine tkH 0 ?_ rfl k4_h.out (fun W' hW' => ?_) ?_; rotate_left; · (obtain ⟨⟨y0, y1, y2, y3⟩, y4, y5, y6, y7⟩ := t_box4 hW'; clear hW'; go_simp; first | done | with_reducible rfl)
  simp only [Act.put, nS]
  refine tkH 1 ?_ rfl k4_h.out (fun W' hW' => ?_) ?_; rotate_left; · (obtain ⟨⟨y0, y1, y2, y3⟩, y4, y5, y6, y7⟩ := t_box4 hW'; clear hW'; go_simp; first | done | with_reducible rfl)
  simp only [Act.put, nS]
  refine tkH 3 ?_ rfl k4_h.out (fun W' hW' => ?_) ?_; rotate_left; · (obtain ⟨⟨y0, y1, y2, y3⟩, y4, y5, y6, y7⟩ := t_box4 hW'; clear hW'; go_simp; first | done | with_reducible rfl)
  simp only [Act.put, nS]
  refine tkH 4 ?_ rfl k4_h.out (fun W' hW' => ?_) ?_; rotate_left; · (obtain ⟨⟨y0, y1, y2, y3⟩, y4, y5, y6, y7⟩ := t_box4 hW'; clear hW'; go_simp; first | done | with_reducible rfl)
  simp only [Act.put, nS]
  refine valOrH 2 5 (vi := .slice (some ⟨W4.heap.size, 0, none⟩) 1 1) (wi := W4.alloc (.cells #[.slice B p b] 23)) (vj := .slice (some ⟨W4.heap.size, 0, none⟩) 1 1) (wj := W4.alloc (.cells #[.slice C r d] 23)) rfl rfl (by kernel_rfl) (by rfl) (by rfl) ?hr1 ?hr2 ?hS1 ?h1 ?hS2 ?h2
  case hr1 => (go_simp; first | done | with_reducible rfl | (constructor <;> with_reducible rfl))
  case hr2 => (go_simp; first | done | with_reducible rfl | (constructor <;> with_reducible rfl))
  case hS1 => exact t_box_below k4_h.out (t_below_alloc _ _)
  case hS2 => exact t_box_below k4_h.out (t_below_alloc _ _)
  case h1 =>
   have hs1 : Sl (W4.alloc (.cells #[.slice B p b] 23)) 23 1 (some ⟨W4.heap.size, 0, none⟩) 1 1 [.slice B p b] := Sl.laid W4 23 1 1 #[.slice B p b] (by unfold maxLen; omega) rfl
   have bA := t_below_alloc W4 (.cells #[.slice B p b] 23)
   have hzA : (W4.alloc (.cells #[.slice B p b] 23)).heap.size = W4.heap.size + 1 := World.size_alloc _ _
   have kA := t_box_below k4_h.out bA
   have hbA := below_trans hb4_h.out bA hb4_h.out.size
   generalize W4.alloc (.cells #[.slice B p b] 23) = W5 at hs1 bA hzA kA hbA ⊢
   have bB := t_below_alloc W5 (.cells #[.slice C r d] 23)
   have kB := t_box_below kA bB
   have hs1' := hs1.below bB
   have hs2 : Sl (W5.alloc (.cells #[.slice C r d] 23)) 23 1 (some ⟨W5.heap.size, 0, none⟩) 1 1 [.slice C r d] := Sl.laid W5 23 1 1 #[.slice C r d] (by unfold maxLen; omega) rfl
   have hbB := below_trans hbA bB hbA.size
   clear hs1 bA bB hbA; have kA_h := lH kA; have kB_h := lH kB; have hs1'_h := lH hs1'; have hs2_h := lH hs2; have hbB_h := lH hbB; have hzA_h := lH hzA; clear kA kB hs1' hs2 hbB hzA
   simp only [Act.put, nS]
   refine tkH 6 ?_ rfl kA_h.out (fun W' hW' => ?_) ?_; rotate_left; · (skip; clear hW'; go_simp; first | done | with_reducible rfl)
   simp only [Act.put, nS]
   refine oneH 5 rfl (by kernel_rfl) (by rfl) (fun K hK => ?_)
   go_simp
   refine hK _ _ kB_h.out ?_
   clear hK K
   refine tkH 7 ?_ rfl kB_h.out (fun W' hW' => ?_) ?_; rotate_left; · (skip; clear hW'; go_simp; first | done | with_reducible rfl)
   simp only [Act.put, nS]
   refine doneH (by kernel_rfl) ?_
   go_wp2_with (fail)
   go_meet
   exact ⟨W4.heap.size, W5.heap.size, rfl, rfl, hs1'_h.out, hs2_h.out, by have := hzA_h.out; omega, hz4, by have := hzA_h.out; omega, hbB_h.out⟩
  case h2 =>
   have hs1 : Sl (W4.alloc (.cells #[.slice C r d] 23)) 23 1 (some ⟨W4.heap.size, 0, none⟩) 1 1 [.slice C r d] := Sl.laid W4 23 1 1 #[.slice C r d] (by unfold maxLen; omega) rfl
   have bA := t_below_alloc W4 (.cells #[.slice C r d] 23)
   have hzA : (W4.alloc (.cells #[.slice C r d] 23)).heap.size = W4.heap.size + 1 := World.size_alloc _ _
   have kA := t_box_below k4_h.out bA
   have hbA := below_trans hb4_h.out bA hb4_h.out.size
   generalize W4.alloc (.cells #[.slice C r d] 23) = W5 at hs1 bA hzA kA hbA ⊢
   have bB := t_below_alloc W5 (.cells #[.slice B p b] 23)
   have kB := t_box_below kA bB
   have hs1' := hs1.below bB
   have hs2 : Sl (W5.alloc (.cells #[.slice B p b] 23)) 23 1 (some ⟨W5.heap.size, 0, none⟩) 1 1 [.slice B p b] := Sl.laid W5 23 1 1 #[.slice B p b] (by unfold maxLen; omega) rfl
   have hbB := below_trans hbA bB hbA.size
   clear hs1 bA bB hbA; have kA_h := lH kA; have kB_h := lH kB; have hs1'_h := lH hs1'; have hs2_h := lH hs2; have hbB_h := lH hbB; have hzA_h := lH hzA; clear kA kB hs1' hs2 hbB hzA
   simp only [Act.put, nS]
   refine oneH 2 rfl (by kernel_rfl) (by rfl) (fun K hK => ?_)
   go_simp
   refine hK _ _ kB_h.out ?_
   clear hK K
   refine tkH 6 ?_ rfl kB_h.out (fun W' hW' => ?_) ?_; rotate_left; · (skip; clear hW'; go_simp; first | done | with_reducible rfl)
   simp only [Act.put, nS]
   refine tkH 7 ?_ rfl kB_h.out (fun W' hW' => ?_) ?_; rotate_left; · (skip; clear hW'; go_simp; first | done | with_reducible rfl)
   simp only [Act.put, nS]
   refine doneH (by kernel_rfl) ?_
   go_wp2_with (fail)
   go_meet
   exact ⟨W5.heap.size, W4.heap.size, rfl, rfl, hs2_h.out, hs1'_h.out, by have := hzA_h.out; omega, by have := hzA_h.out; omega, hz4, hbB_h.out⟩
 case rest =>
 obtain ⟨Q1, Q2, rfl, rfl, hs1, hs2, hne, hq1, hq2, hWc⟩ := hcut
 obtain ⟨w2, rfl⟩ : ∃ x, x = wc := ⟨_, rfl⟩
 have k2 := t_box_below k0_h.out hWc
 obtain ⟨⟨c0, c1, c2, c3⟩, f0, f1, f2, f3⟩ := t_box4 k2
 have hs1' : Sl w2 23 1 (some ⟨Q1, 0, none⟩) (0 + 1) 1 ((rowsO (B, b, s) hs 0).map Hd.val) := by unfold rowsO; simp only [List.take_zero, List.map_nil, List.map_cons]; rw [hsv_h.out]; exact hs1
 have hs2' : Sl w2 23 1 (some ⟨Q2, 0, none⟩) (0 + 1) 1 ((rowsI (C, d, t) hs 0).map Hd.val) := by unfold rowsI; simp only [List.take_zero, List.map_nil, List.map_cons]; rw [htv_h.out]; exact hs2
 have hap : ∀ x, x ∈ fpA (some (⟨Q1, 0, none⟩ : Addr)) → ¬ x ∈ fpA (some (⟨Q2, 0, none⟩ : Addr)) := fun x hx hx' => by simp at hx hx'; omega
 have hf1 : Fresh W.heap.size (some (⟨Q1, 0, none⟩ : Addr)) := fun x hx => by simp at hx; omega
 have hf2 : Fresh W.heap.size (some (⟨Q2, 0, none⟩ : Addr)) := fun x hx => by simp at hx; omega
 clear hs1 hs2 k2 hne hq1 hq2; have hs1'_h := lH hs1'; have hs2'_h := lH hs2'; have hap_h := lH hap; have hf1_h := lH hf1; have hf2_h := lH hf2; have hWc_h := lH hWc; clear hs1' hs2' hap hf1 hf2 hWc
 go_wp2_with (fail)
 clear c0 c1 c2 c3 f0 f1 f2 f3
 go_loopw [19, 3, 4] (fun i x y wr => ∃ (k c1 c2 : Nat) (A1 A2 : Option Addr), k ≤ m ∧ i = .int .i64 k ∧ x = .slice A1 (k + 1) c1 ∧ y = .slice A2 (k + 1) c2 ∧ Sl wr 23 1 A1 (k + 1) c1 ((rowsO (B, b, s) hs k).map Hd.val) ∧ Sl wr 23 1 A2 (k + 1) c2 ((rowsI (C, d, t) hs k).map Hd.val) ∧ (∀ x, x ∈ fpA A1 → ¬ x ∈ fpA A2) ∧ Fresh W.heap.size A1 ∧ Fresh W.heap.size A2 ∧ Below W.heap.size W wr) (fun i _ _ _ => m - (intOf i).toNat)
 case atStart => exact ⟨0, 1, 1, _, _, Nat.zero_le _, rfl, rfl, rfl, hs1'_h.out, hs2'_h.out, hap_h.out, hf1_h.out, hf2_h.out, hWc_h.out⟩
 case round =>
  clear hs1'_h hs2'_h hap_h hf1_h hf2_h hWc_h
  obtain ⟨k, e1, e2, A1, A2, hk, rfl, rfl, rfl, hS1, hS2, hap, hf1, hf2, hB1⟩ := hrel
  obtain ⟨wo, rfl⟩ : ∃ x, x = wr := ⟨_, rfl⟩
  have kr := t_box_below k0_h.out hB1
  by_cases hlt : k < m
  · obtain ⟨ad, κ, vv, B1, b1, s1, C1, b2, t1, rfl, hn, ⟨d0, d1, d2, d3⟩, -, -⟩ := (hEW_h.out.below hB1).at_ (j := k) (by rw [← hm_h.out]; exact hlt)
    have hst1 := rowsO_step (a := (B, b, s)) hn
    have hst2 := rowsI_step (a := (C, d, t)) hn
    simp only at hst1 hst2
    obtain ⟨p1, hp1⟩ : ∃ p1, p1 = s1.length := ⟨_, rfl⟩
    obtain ⟨r1, hr1'⟩ : ∃ r1, r1 = t1.length := ⟨_, rfl⟩
    rw [← hp1] at d2
    rw [← hr1'] at d3
    obtain ⟨W6, hW6, bW6, k6⟩ := (⟨_, rfl, t_below_alloc _ _, heap_alloc_new _ _⟩ : ∃ W, W = wo.alloc (.cells #[.int .i64 κ, .int .i64 vv, .slice B1 p1 b1, .slice C1 r1 b2] tEd) ∧ Below wo.heap.size wo W ∧ W.heap[wo.heap.size]? = some (.cells #[.int .i64 κ, .int .i64 vv, .slice B1 p1 b1, .slice C1 r1 b2] tEd))
    obtain ⟨⟨y0, y1, y2, y3⟩, g0, g1, g2, g3⟩ := t_box4 k6
    have hS1' := (hS1.below bW6).alloc (.cells #[.slice C1 r1 b2] 23)
    have hlt1 := hS1.lt
    have hlt2 := hS2.lt
    have hz6 := bW6.size
    have hz0 := hB1.size
    have hS26 := hS2.below bW6
    have hB6 := below_trans hB1 bW6 hB1.size
    have hr1_h := lH hr1'
    have hkI : (k : Int) < (m : Int) := by omega
    clear hr1' hn kr hS1 hS2 hB1; have hp1_h := lH hp1; have k6_h := lH k6; have hst1_h := lH hst1; have hst2_h := lH hst2; have hS1'_h := lH hS1'; have hS26_h := lH hS26; have hap_h := lH hap; have hf1_h := lH hf1; have hf2_h := lH hf2; have hB6_h := lH hB6; have hlt1_h := lH hlt1; have hlt2_h := lH hlt2; have bW6_h := lH bW6; clear hp1 k6 hst1 hst2 hS1' hS26 hap hf1 hf2 hB6 hlt1 hlt2 bW6
    go_upto_region 7 with (fail)
    rw [← hW6]
    clear hW6 d0 d1 d2 d3
    go_upto_region 8 with (at_builtin; refine wpList_append_Sl _ rfl _ _ _ rfl 23 Tryz.underlying80 info_ints rfl (by omega) rfl (hS1'_h.out) rfl (news := [.slice C1 r1 b2]) rfl (Sl.rdc (Sl.laid W6 23 1 1 #[.slice C1 r1 b2] (by unfold maxLen; omega) rfl)) (by intro u hu; simp at hu; subst hu; rfl) (by unfold maxLen; omega) (by omega) ?_; intro A3 c3 w3 hsA3 hA3 hkA3)
    have bal := t_below_alloc W6 (.cells #[.slice C1 r1 b2] 23)
    have hza : (W6.alloc (.cells #[.slice C1 r1 b2] 23)).heap.size = W6.heap.size + 1 := World.size_alloc _ _
    have hf1' := hf1_h.out
    have hf2' := hf2_h.out
    have hl1' := hlt1_h.out
    have hl2' := hlt2_h.out
    have hap' := hap_h.out
    have hS2a := (hS26_h.out.alloc (.cells #[.slice C1 r1 b2] 23)).keeps hkA3 (fun x hx e => hap' x e hx)
    have k6' := t_box_keeps (t_box_below k6_h.out bal) hkA3 (fun e => by have := hl1' _ e; omega)
    have hB7 := below_keeps (below_trans hB6_h.out bal hB6_h.out.size) hkA3 (Nat.le_trans hB6_h.out.size bal.size) hf1'
    have hsz3 := hkA3.size
    have hap3 : ∀ x, x ∈ fpA A3 → ¬ x ∈ fpA A2 := fun x hx hx' => by
     rcases hA3 x hx with h | h
     · exact hap' x h hx'
     · have := hl2' x hx'; omega
    have hf3 : Fresh W.heap.size A3 := fun x hx => by
     rcases hA3 x hx with h | h
     · exact hf1' x h
     · omega
    have hl3 := hsA3.lt
    have hl2b := hS2a.lt
    have hS2b := hS2a.alloc (.cells #[.slice B1 p1 b1] 23)
    clear y0 y1 y2 y3 g0 g1 g2 g3 hA3 hkA3 bal hf1' hl1' hl2' hap'
    obtain ⟨⟨y0, y1, y2, y3⟩, g0, g1, g2, g3⟩ := t_box4 k6'
    clear k6' hS2a hf2'; have hsA3_h := lH hsA3; have hS2b_h := lH hS2b; have hB7_h := lH hB7; have hap3_h := lH hap3; have hf3_h := lH hf3; have hl3_h := lH hl3; have hl2b_h := lH hl2b; clear hsA3 hS2b hB7 hap3 hf3 hl3 hl2b
    go_wp2_with (at_builtin; refine wpList_append_Sl _ rfl _ _ _ rfl 23 Tryz.underlying80 info_ints rfl (by omega) rfl (hS2b_h.out) rfl (news := [.slice B1 p1 b1]) rfl (Sl.rdc (Sl.laid w3 23 1 1 #[.slice B1 p1 b1] (by unfold maxLen; omega) rfl)) (by intro u hu; simp at hu; subst hu; rfl) (by unfold maxLen; omega) (by omega) ?_; intro A4 c4 w4 hsA4 hA4 hkA4)
    have bal := t_below_alloc w3 (.cells #[.slice B1 p1 b1] 23)
    have hzb : (w3.alloc (.cells #[.slice B1 p1 b1] 23)).heap.size = w3.heap.size + 1 := World.size_alloc _ _
    have hap3' := hap3_h.out
    have hl3' := hl3_h.out
    have hf2' := hf2_h.out
    have hS1c := (hsA3_h.out.alloc (.cells #[.slice B1 p1 b1] 23)).keeps hkA4 (fun x hx e => hap3' x hx e)
    have hB8 := below_keeps (below_trans hB7_h.out bal hB7_h.out.size) hkA4 (Nat.le_trans hB7_h.out.size bal.size) hf2'
    have hsz7 := hB7_h.out.size
    have hap4 : ∀ x, x ∈ fpA A3 → ¬ x ∈ fpA A4 := fun x hx hx' => by
     rcases hA4 x hx' with h | h
     · exact hap3' x hx h
     · have := hl3' x hx; omega
    have hf4 : Fresh W.heap.size A4 := fun x hx => by
     rcases hA4 x hx with h | h
     · exact hf2' x h
     · omega
    have hS1d : Sl w4 23 1 A3 (k + 1 + 1) c3 ((rowsO (B, b, s) hs (k + 1)).map Hd.val) := by
     rw [hst1_h.out, List.map_append]
     show Sl w4 _ 1 A3 (k + 1 + 1) c3 (_ ++ [.slice C1 t1.length b2])
     rw [← hr1_h.out]; exact hS1c
    have hS2d : Sl w4 23 1 A4 (k + 1 + 1) c4 ((rowsI (C, d, t) hs (k + 1)).map Hd.val) := by
     rw [hst2_h.out, List.map_append]
     show Sl w4 _ 1 A4 (k + 1 + 1) c4 (_ ++ [.slice B1 s1.length b1])
     rw [← hp1_h.out]; exact hsA4
    clear y0 y1 y2 y3 g0 g1 g2 g3 hA4 hkA4 bal hap3' hl3' hf2' hS1c hsA4; have hS1d_h := lH hS1d; have hS2d_h := lH hS2d; have hB8_h := lH hB8; have hap4_h := lH hap4; have hf4_h := lH hf4; clear hS1d hS2d hB8 hap4 hf4
    go_wp2_with (fail)
    go_roundw
    case rel => exact ⟨k + 1, c3, c4, A3, A4, by omega, by go_num, rfl, rfl, hS1d_h.out, hS2d_h.out, hap4_h.out, hf3_h.out, hf4_h.out, hB8_h.out⟩
    case measure => simp [intOf]; omega
  · obtain rfl : m = k := by omega
    have hV1 := hU1_h.out wo A1 e1 hB1 hS1
    obtain ⟨⟨y0, y1, y2, y3⟩, g0, g1, g2, g3⟩ := t_box4 kr
    clear hap hf1 hf2 kr hS1; have hV1_h := lH hV1; have hB1_h := lH hB1; have hS2_h := lH hS2; clear hV1 hB1 hS2
    go_wp2_with (fail)
    refine (hV1_h.out).mono ?_
    rintro e w3 ⟨rfl, hb3⟩
    have hB3 := below_trans hB1_h.out hb3 hB1_h.out.size
    have hS23 := hS2_h.out.below hb3
    have kr3 := t_box_below k0_h.out hB3
    have hBz := below_trans bW_h.out hB3 bW_h.out.size
    clear y0 y1 y2 y3 g0 g1 g2 g3 hb3
    cases T1
    case false =>
     obtain rfl : D = false := hDT_h.out
     clear hS23 kr3 hB3; have hBz_h := lH hBz; clear hBz
     go_wp2_with (fail)
     go_ret
     exact ⟨rfl, hBz_h.out⟩
    case true =>
     obtain rfl : D = T2 := hDT_h.out.trans (Bool.true_and _)
     have hV2 := hU2_h.out w3 A2 e2 hB3 hS23
     obtain ⟨⟨y0, y1, y2, y3⟩, g0, g1, g2, g3⟩ := t_box4 kr3
     clear hS23 kr3 hB3; have hBz_h := lH hBz; have hV2_h := lH hV2; clear hBz hV2
     go_wp2_with (fail)
     refine (hV2_h.out).mono ?_
     rintro e w4 ⟨rfl, hb4⟩
     have hBy := below_trans hBz_h.out hb4 hBz_h.out.size
     clear hb4 y0 y1 y2 y3 g0 g1 g2 g3; have hBy_h := lH hBy; clear hBy
     go_wp2_with (fail)
     go_ret
     exact ⟨rfl, hBy_h.out⟩
theorem mono_gr {g : Gr} (h : monoB g = true) : grB g = true := by
 unfold monoB at h
 simp only [Bool.and_eq_true] at h
 exact h.1
def cgG (g : Gr) : Gr := renG g (cnM g).1 (cnM g).2
theorem cgG_ok {g : Gr} {n : Nat} (ok : OkG g) (hMo : Mono g n) : OkG (cgG g) := renG_ok ok (cnM_perm hMo).2.1 (cnM_perm hMo).2.2
theorem mono_inW {g : Gr} {n : Nat} (h : Mono g n) : inW (n : Int) (t_allW g) = true := by
 unfold inW
 rw [List.all_eq_true]
 intro x hx
 have := h.inn x hx
 show t_inB x 0 ((n : Int) - 1) = true
 unfold t_inB
 rw [decide_eq_true_eq]
 omega
set_option maxRecDepth 100000 in
set_option maxHeartbeats 4000000 in
theorem canonical_any {v : Value} {g : Gr} (w : World) (n : Nat) (h : RdGr w v g) (ok : OkG g) (hMo : Mono g n) (hv : grB g = true) :
  Calls Tryz.prog 30 #[v] w fun e w' => ∃ v' fp, e = .returned v' ∧ OwGr w' v' (cgG g) fp ∧ FreshL w.heap.size fp ∧ Below w.heap.size w w' := by
 obtain ⟨m, hm⟩ : ∃ m, g.2.1.length = m := ⟨_, rfl⟩
 have hl1 := (cnM_perm hMo).1.2
 have hl2 := (cnM_perm hMo).2.2
 have hpe := (cnM_perm hMo).2.1
 rw [hm] at hl2
 have hm60 : m ≤ 60 := by rw [← hm]; exact hMo.m60
 have hin := mono_inW hMo
 obtain ⟨P, hP⟩ : ∃ P, cgG g = P := ⟨_, rfl⟩
 have hP' : renG g (cnM g).1 (cnM g).2 = P := hP
 rw [hP]
 obtain ⟨A, n0, c, B, m0, d, C, k0', e0, rfl⟩ := h.shape
 obtain ⟨z, hz⟩ : ∃ z, z = g.1 := ⟨_, rfl⟩
 rw [← hz] at h ⊢
 obtain ⟨W, hW, bW, k0, k1⟩ := allocs2 w (.cells #[.int .i64 z, .slice A n0 c, .slice B m0 d, .slice C k0' e0] tGr) (.cells #[.int .i64 0, .slice none 0 0, .slice none 0 0, .slice none 0 0] tGr)
 have hF := fun (W' : World) (hb : Below W.heap.size W W') => canonicalNumbers_any W' n m ((h.below bW).below hb) hMo hv hm
 have hR := fun (W' : World) (T U : Addr) (hb : Below W.heap.size W W') (ht : IS W' (some T) n (cnM g).1) (hu : IS W' (some U) m (cnM g).2) => renumbered_any W' n m (some T) n (cnM g).1 (some U) m (cnM g).2 ((h.below bW).below hb) ok ht.rd hu.rd hMo.hn hm hl1 hl2 hin hpe hm60
 simp only [hP'] at hR
 obtain ⟨⟨c0, c1, c2, c3⟩, f0, f1, f2, f3⟩ := t_box4 k0
 clear hMo hv hm h hz hP hP' hl1 hl2 hpe hin; have bW_h := lH bW; have k0_h := lH k0; have k1_h := lH k1; have hF_h := lH hF; have hR_h := lH hR; clear bW k0 k1 hF hR
 go_enter Tryz.func30, Tryz.ntmps30
 go_upto_region 1 with (fail)
 rw [← hW]
 clear hW
 refine beginH (fun w' => w'.heap[w.heap.size]? = some (.cells #[.int .i64 z, .slice A n0 c, .slice B m0 d, .slice C k0' e0] tGr)) (by kernel_rfl) ?_
 have hbd : Below W.heap.size W W.drew := below_drewN (Below.refl _ _) 1
 generalize W.drew = W1 at hbd ⊢
 have kd := t_box_below k0_h.out hbd
 clear c0 c1 c2 c3 f0 f1 f2 f3
 refine tkH 0 ?_ rfl kd (fun W' hW' => ?_) ?_; rotate_left; · (obtain ⟨⟨y0, y1, y2, y3⟩, z0, z1, z2, z3⟩ := t_box4 hW'; clear hW'; go_simp; first | done | with_reducible rfl)
 simp only [Act.put, nS]
 refine tkH 1 ?_ rfl kd (fun W' hW' => ?_) ?_; rotate_left; · (obtain ⟨⟨y0, y1, y2, y3⟩, z0, z1, z2, z3⟩ := t_box4 hW'; clear hW'; go_simp; first | done | with_reducible rfl)
 simp only [Act.put, nS]
 refine' callH 2 (f := _) (args := _) rfl (by kernel_rfl) (by rfl) ?_ ?_; rotate_left 2; · (go_simp; first | done | with_reducible rfl | (constructor <;> with_reducible rfl))
 refine (hF_h.out W1 hbd).mono ?_
 rintro e w2 ⟨Wa, Ea, rfl, hI1, hI2, _, _, _, hb2⟩
 have hb12 := below_trans hbd hb2 hbd.size
 have kd2 := t_box_below kd hb2
 have hRc := hR_h.out w2 Wa Ea hb12 hI1 hI2
 refine ⟨_, rfl, kd2, ?_⟩
 simp only [Act.put, nS]
 refine tkH 3 ?_ rfl kd2 (fun W' hW' => ?_) ?_; rotate_left; · (skip; clear hW'; go_simp; first | done | with_reducible rfl)
 simp only [Act.put, nS]
 refine tkH 4 ?_ rfl kd2 (fun W' hW' => ?_) ?_; rotate_left; · (skip; clear hW'; go_simp; first | done | with_reducible rfl)
 simp only [Act.put, nS]
 refine' callH 5 (f := _) (args := _) rfl (by kernel_rfl) (by rfl) ?_ ?_; rotate_left 2; · (go_simp; first | done | with_reducible rfl | (constructor <;> with_reducible rfl))
 refine (hRc).mono ?_
 rintro e w6 ⟨v6, fp6, rfl, hO6, hf6, hb6⟩
 have kd6 := t_box_below kd2 hb6
 obtain ⟨A6, n6, c6, B6, m6, d6, C6, q6, u6, rfl⟩ := hO6.shape
 refine ⟨_, rfl, kd6, ?_⟩
 simp only [Act.put, nS]
 have hb16 := below_trans hb12 hb6 hb12.size
 have k1d := t_box_below k1_h.out hb16
 have hk1 := t_box_lt k1_h.out
 have hz2 := hb12.size
 have hB6 := below_trans bW_h.out hb16 bW_h.out.size
 obtain ⟨⟨d0, d1, d2, d3⟩, g0', g1, g2, g3⟩ := t_box4 k1d
 obtain ⟨s1, s2⟩ := set4 (a := .int .i64 P.1) (b := .slice A6 n6 c6) (c := .slice B6 m6 d6) (d := .slice C6 q6 u6) k1d
 have hBs := below_keeps hB6 s2 hB6.size (fun k hk => by omega)
 have hwW := bW_h.out.size
 have hOs := hO6.keeps s2 (fun x hx e => by have := hf6 x hx; omega)
 have hFs : FreshL w.heap.size fp6 := fun x hx => by have := hf6 x hx; omega
 have kds := t_box_keeps kd6 s2 (by omega)
 clear hb6 hO6 hB6 k1d s2 hf6 hRc hI1 hI2 hb2 hbd kd kd2 hb12; have s1_h := lH s1; have hBs_h := lH hBs; have hOs_h := lH hOs; have hFs_h := lH hFs; clear s1 hBs hOs hFs
 refine oneH 6 rfl (by kernel_rfl) (by rfl) (fun K hK => ?_)
 go_simp
 refine hK _ _ kds ?_
 clear hK K
 refine doneH (by kernel_rfl) ?_
 go_wp2_with (fail)
 refine bodyPost_ret (results_cell_row rfl _ _ (w.heap.size + 1) _ _ (0, 0) _ rfl s1_h.out Tryz.underlying29 rfl (by kernel_rfl)) rfl ?_
 exact ⟨_, _, rfl, hOs_h.out, hFs_h.out, hBs_h.out⟩
set_option maxRecDepth 100000 in
set_option maxHeartbeats 4000000 in
theorem cnGraph_any {v : Value} {g : Gr} (w : World) (n : Nat) (h : RdGr w v g) (ok : OkG g) (hMo : Mono g n) (_hv : grB g = true) :
  Calls Tryz.prog 26 #[v] w fun e w' => ∃ v' fp, e = .returned v' ∧ OwGr w' v' (cgG g) fp ∧ FreshL w.heap.size fp ∧ Below w.heap.size w w' := by
 obtain ⟨m, hm⟩ : ∃ m, g.2.1.length = m := ⟨_, rfl⟩
 have hl1 := (cnM_perm hMo).1.2
 have hl2 := (cnM_perm hMo).2.2
 have hpe := (cnM_perm hMo).2.1
 rw [hm] at hl2
 have hm60 : m ≤ 60 := by rw [← hm]; exact hMo.m60
 have hin := mono_inW hMo
 obtain ⟨P, hP⟩ : ∃ P, cgG g = P := ⟨_, rfl⟩
 have hP' : renG g (cnM g).1 (cnM g).2 = P := hP
 rw [hP]
 obtain ⟨A, n0, c, B, m0, d, C, k0', e0, rfl⟩ := h.shape
 obtain ⟨z, hz⟩ : ∃ z, z = g.1 := ⟨_, rfl⟩
 rw [← hz] at h ⊢
 obtain ⟨W, hW, bW, k0, k1⟩ := allocs2 w (.cells #[.int .i64 z, .slice A n0 c, .slice B m0 d, .slice C k0' e0] tGr) (.cells #[.int .i64 0, .slice none 0 0, .slice none 0 0, .slice none 0 0] tGr)
 have hF := fun (W' : World) (hb : Below W.heap.size W W') => cnNumbers_any W' n m ((h.below bW).below hb) hMo hm
 have hR := fun (W' : World) (T U : Addr) (hb : Below W.heap.size W W') (ht : IS W' (some T) n (cnM g).1) (hu : IS W' (some U) m (cnM g).2) => hgRenumber_any W' n m (some T) n (cnM g).1 (some U) m (cnM g).2 ((h.below bW).below hb) ok ht.rd hu.rd hMo.hn hm hl1 hl2 hin hpe hm60
 simp only [hP'] at hR
 obtain ⟨⟨c0, c1, c2, c3⟩, f0, f1, f2, f3⟩ := t_box4 k0
 clear hMo _hv hm h hz hP hP' hl1 hl2 hpe hin; have bW_h := lH bW; have k0_h := lH k0; have k1_h := lH k1; have hF_h := lH hF; have hR_h := lH hR; clear bW k0 k1 hF hR
 go_enter Tryz.func26, Tryz.ntmps26
 go_upto_region 1 with (fail)
 rw [← hW]
 clear hW
 go_wp2_with (fail)
 refine (hF_h.out W (Below.refl _ _)).mono ?_
 rintro e w2 ⟨Wa, Ea, rfl, hI1, hI2, _, _, _, hb2⟩
 have kd2 := t_box_below k0_h.out hb2
 have hRc := hR_h.out w2 Wa Ea hb2 hI1 hI2
 have k1b := t_box_below k1_h.out hb2
 have hB2 := below_trans bW_h.out hb2 bW_h.out.size
 have hz2 := hb2.size
 clear c0 c1 c2 c3 f0 f1 f2 f3
 obtain ⟨⟨c0, c1, c2, c3⟩, f0, f1, f2, f3⟩ := t_box4 kd2
 clear hb2 hI1 hI2 kd2; have hRc_h := lH hRc; have k1b_h := lH k1b; have hB2_h := lH hB2; clear hRc k1b hB2
 go_wp2_with (fail)
 refine (hRc_h.out).mono ?_
 rintro e w6 ⟨v6, fp6, rfl, hO6, hf6, hb6⟩
 obtain ⟨A6, n6, c6, B6, m6, d6, C6, q6, u6, rfl⟩ := hO6.shape
 have k1d := t_box_below k1b_h.out hb6
 have hk1 := t_box_lt k1b_h.out
 have hB6 := below_trans hB2_h.out hb6 hB2_h.out.size
 obtain ⟨⟨d0, d1, d2, d3⟩, g0', g1, g2, g3⟩ := t_box4 k1d
 obtain ⟨s1, s2⟩ := set4 (a := .int .i64 P.1) (b := .slice A6 n6 c6) (c := .slice B6 m6 d6) (d := .slice C6 q6 u6) k1d
 have hBs := below_keeps hB6 s2 hB6.size (fun k hk => by omega)
 have hwW := bW_h.out.size
 have hOs := hO6.keeps s2 (fun x hx e => by have := hf6 x hx; omega)
 have hFs : FreshL w.heap.size fp6 := fun x hx => by have := hf6 x hx; omega
 clear hb6 hO6 hB6 k1d s2 hf6; have s1_h := lH s1; have hBs_h := lH hBs; have hOs_h := lH hOs; have hFs_h := lH hFs; clear s1 hBs hOs hFs
 go_wp2_with (fail)
 refine bodyPost_ret (results_cell_row rfl _ _ (w.heap.size + 1) _ _ (0, 0) _ rfl s1_h.out Tryz.underlying29 rfl (by kernel_rfl)) rfl ?_
 exact ⟨_, _, rfl, hOs_h.out, hFs_h.out, hBs_h.out⟩
set_option maxRecDepth 100000 in
set_option maxHeartbeats 8000000 in
theorem axSame_any {v v' : Value} {g g' : Gr} (w : World) (h : RdGr w v g) (h' : RdGr w v' g') (ok : OkG g) (ok' : OkG g') :
  Calls Tryz.prog 61 #[v, v'] w fun e w' => e = .returned (.bool (decide (g = g'))) ∧ Below w.heap.size w w' := by
 obtain ⟨D, hD⟩ : ∃ D, D = decide (g = g') := ⟨_, rfl⟩
 rw [← hD]
 obtain ⟨A, c, hs, ⟨B, b, s⟩, ⟨C, d, t⟩, rfl, e1, e2, e3, hE, hRa, hRb⟩ := h
 obtain ⟨A', c', hs', ⟨B', b', s'⟩, ⟨C', d', t'⟩, rfl, e1', e2', e3', hE', hRa', hRb'⟩ := h'
 obtain ⟨z, L, s0, t0⟩ := g
 obtain ⟨z', L', s0', t0'⟩ := g'
 have a1 : L = hs.map egOf := e1
 have a2 : s = s0 := e2
 have a3 : t = t0 := e3
 have a1' : L' = hs'.map egOf := e1'
 have a2' : s' = s0' := e2'
 have a3' : t' = t0' := e3'
 subst a2 a3 a2' a3'
 have hRs : RdI w B s := hRa
 have hRt : RdI w C t := hRb
 have hRs' : RdI w B' s' := hRa'
 have hRt' : RdI w C' t' := hRb'
 obtain ⟨E1, hE1⟩ : ∃ E, E = decide (s = s') := ⟨_, rfl⟩
 obtain ⟨E2, hE2⟩ : ∃ E, E = decide (t = t') := ⟨_, rfl⟩
 obtain ⟨E3, hE3⟩ : ∃ E, E = decide (L = L') := ⟨_, rfl⟩
 have hDD : D = (decide (z = z') && (E3 && (E1 && E2))) := by
  rw [hD, hE1, hE2, hE3, Bool.eq_iff_iff]
  simp only [Prod.mk.injEq, decide_eq_true_eq, Bool.and_eq_true]
 have hLl : L.length = hs.length := by rw [a1, List.length_map]
 have hLl' : L'.length = hs'.length := by rw [a1', List.length_map]
 have hlen1 : L.length ≤ 1048576 := ok.1.1
 have hlen2 : L'.length ≤ 1048576 := ok'.1.1
 have ls : s.length ≤ 1048576 := ok.1.2.1
 have lt : t.length ≤ 1048576 := ok.1.2.2
 have ls' : s'.length ≤ 1048576 := ok'.1.2.1
 have lt' : t'.length ≤ 1048576 := ok'.1.2.2
 have hlE : ∀ x, x ∈ L → x.2.2.1.length ≤ 1048576 ∧ x.2.2.2.length ≤ 1048576 := ok.2.1
 have hlE' : ∀ x, x ∈ L' → x.2.2.1.length ≤ 1048576 ∧ x.2.2.2.length ≤ 1048576 := ok'.2.1
 show Calls Tryz.prog _ #[.agg #[.int .i64 z, .slice A hs.length c, .slice B s.length b, .slice C t.length d], .agg #[.int .i64 z', .slice A' hs'.length c', .slice B' s'.length b', .slice C' t'.length d']] w _
 obtain ⟨p, hp⟩ : ∃ p, s.length = p := ⟨_, rfl⟩
 obtain ⟨r, hr⟩ : ∃ p, t.length = p := ⟨_, rfl⟩
 obtain ⟨p', hp'⟩ : ∃ p, s'.length = p := ⟨_, rfl⟩
 obtain ⟨r', hr'⟩ : ∃ p, t'.length = p := ⟨_, rfl⟩
 obtain ⟨m, hm⟩ : ∃ p, hs.length = p := ⟨_, rfl⟩
 obtain ⟨m', hm'⟩ : ∃ p, hs'.length = p := ⟨_, rfl⟩
 have hS1 := fun (W : World) (hb : Below w.heap.size w W) => l1Same_any B B' b b' p p' s s' W (hRs.below hb) (hRs'.below hb) hp hp' (by omega) (by omega)
 have hS2 := fun (W : World) (hb : Below w.heap.size w W) => l1Same_any C C' d d' r r' t t' W (hRt.below hb) (hRt'.below hb) hr hr' (by omega) (by omega)
 simp only [← hE1] at hS1
 simp only [← hE2] at hS2
 rw [hp, hr, hp', hr', hm, hm']
 rw [hm] at hLl
 rw [hm'] at hLl'
 obtain ⟨W, hW, bW, k0, k1⟩ := allocs2 w (.cells #[.int .i64 z, .slice A m c, .slice B p b, .slice C r d] tGr) (.cells #[.int .i64 z', .slice A' m' c', .slice B' p' b', .slice C' r' d'] tGr)
 obtain ⟨⟨c0, c1, c2, c3⟩, f0, f1, f2, f3⟩ := t_box4 k0
 obtain ⟨⟨d0, d1, d2, d3⟩, g0, g1, g2, g3⟩ := t_box4 k1
 have hmI : m ≤ 1048576 ∧ m' ≤ 1048576 := by omega
 clear hD hE1 hE2 e1 e2 e3 e1' e2' e3' hRa hRb hRa' hRb' hRs hRt hRs' hRt' hlen1 hlen2 ls lt ls' lt' ok ok' hp hr hp' hr'; have hS1_h := lH hS1; have hS2_h := lH hS2; have bW_h := lH bW; have k0_h := lH k0; have k1_h := lH k1; have hDD_h := lH hDD; have hE_h := lH hE; have hE'_h := lH hE'; have a1_h := lH a1; have a1'_h := lH a1'; have hLl_h := lH hLl; have hLl'_h := lH hLl'; have hlE_h := lH hlE; have hlE'_h := lH hlE'; have hE3_h := lH hE3; have hm_h := lH hm; have hm'_h := lH hm'; clear hS1 hS2 bW k0 k1 hDD hE hE' a1 a1' hLl hLl' hlE hlE' hE3 hm hm'
 by_cases hk : z = z'
 case neg =>
  obtain rfl : D = false := by rw [hDD_h.out, decide_eq_false hk]; rfl
  go_enter Tryz.func61, Tryz.ntmps61
  go_upto_region 1 with (fail)
  rw [← hW]
  clear hW
  go_wp2_with (fail)
  go_ret
  exact ⟨rfl, bW_h.out⟩
 subst hk
 by_cases hmm : m = m'
 case neg =>
  have hmm' : ¬ (m : Int) = (m' : Int) := by omega
  obtain rfl : E3 = false := by
   rw [hE3_h.out]
   exact decide_eq_false fun e => hmm (by rw [← hLl_h.out, ← hLl'_h.out, e])
  obtain rfl : D = false := by rw [hDD_h.out]; simp
  go_enter Tryz.func61, Tryz.ntmps61
  go_upto_region 1 with (fail)
  rw [← hW]
  clear hW
  go_wp2_with (fail)
  go_ret
  exact ⟨rfl, bW_h.out⟩
 subst hmm
 go_enter Tryz.func61, Tryz.ntmps61
 go_upto_region 1 with (fail)
 rw [← hW]
 clear hW
 go_wp2_with (fail)
 refine ((hS1_h.out W bW_h.out)).mono ?_
 rintro e w1 ⟨rfl, hb1⟩
 have hB1 := below_trans bW_h.out hb1 bW_h.out.size
 cases E1
 case false =>
  obtain rfl : D = false := by rw [hDD_h.out]; simp
  clear hb1; have hB1_h := lH hB1; clear hB1
  go_wp2_with (fail)
  go_ret
  exact ⟨rfl, hB1_h.out⟩
 have k01 := t_box_below k0_h.out hb1
 have k11 := t_box_below k1_h.out hb1
 clear c0 c1 c2 c3 f0 f1 f2 f3 d0 d1 d2 d3 g0 g1 g2 g3
 obtain ⟨⟨c0, c1, c2, c3⟩, f0, f1, f2, f3⟩ := t_box4 k01
 obtain ⟨⟨d0, d1, d2, d3⟩, g0, g1, g2, g3⟩ := t_box4 k11
 clear hb1; have hB1_h := lH hB1; have k01_h := lH k01; have k11_h := lH k11; clear hB1 k01 k11
 go_wp2_with (fail)
 refine ((hS2_h.out w1 hB1_h.out)).mono ?_
 rintro e w2 ⟨rfl, hb2⟩
 have hB2 := below_trans hB1_h.out hb2 hB1_h.out.size
 cases E2
 case false =>
  obtain rfl : D = false := by rw [hDD_h.out]; simp
  clear hb2; have hB2_h := lH hB2; clear hB2
  go_wp2_with (fail)
  go_ret
  exact ⟨rfl, hB2_h.out⟩
 have k02 := t_box_below k01_h.out hb2
 have k12 := t_box_below k11_h.out hb2
 have hDE : D = E3 := by rw [hDD_h.out]; simp
 clear c0 c1 c2 c3 f0 f1 f2 f3 d0 d1 d2 d3 g0 g1 g2 g3
 obtain ⟨⟨c0, c1, c2, c3⟩, f0, f1, f2, f3⟩ := t_box4 k02
 obtain ⟨⟨d0, d1, d2, d3⟩, g0, g1, g2, g3⟩ := t_box4 k12
 clear hb2; have hB2_h := lH hB2; have k02_h := lH k02; have k12_h := lH k12; have hDE_h := lH hDE; clear hB2 k02 k12 hDE
 go_wp2_with (fail)
 clear c0 c1 c2 c3 f0 f1 f2 f3 d0 d1 d2 d3 g0 g1 g2 g3
 go_loopw [41] (fun i wr => ∃ k : Nat, k ≤ m ∧ i = .int .i64 k ∧ L.take k = L'.take k ∧ Below w2.heap.size w2 wr) (fun i _ => m - (intOf i).toNat)
 case atStart => exact ⟨0, Nat.zero_le _, rfl, by simp, Below.refl _ _⟩
 case round =>
  obtain ⟨k, hk, rfl, hpre, hbo⟩ := hrel
  obtain ⟨wo, rfl⟩ : ∃ x, x = wr := ⟨_, rfl⟩
  by_cases hlt : k < m
  · have hBo := below_trans hB2_h.out hbo hB2_h.out.size
    obtain ⟨ad, κ, vl, B1, b1, l1, C1, b2, l2, hae, hn1, ⟨u0, u1, u2, u3⟩, hr1, hr2⟩ := (hE_h.out.below hBo).at_ (j := k) (by rw [hm_h.out]; exact hlt)
    obtain ⟨ad', κ', vl', B1', b1', l1', C1', b2', l2', hae', hn1', ⟨v0, v1, v2, v3⟩, hr1', hr2'⟩ := (hE'_h.out.below hBo).at_ (j := k) (by rw [hm'_h.out]; exact hlt)
    subst hae hae'
    have hx : L[k]? = some (κ, vl, l1, l2) := by rw [a1_h.out, List.getElem?_map, hn1]; rfl
    have hx' : L'[k]? = some (κ', vl', l1', l2') := by rw [a1'_h.out, List.getElem?_map, hn1']; rfl
    have hl := hlE_h.out _ (List.mem_of_getElem? hx)
    have hl' := hlE'_h.out _ (List.mem_of_getElem? hx')
    simp only at hl hl'
    have hno : (κ, vl, l1, l2) ≠ (κ', vl', l1', l2') → D = false := fun hne => by
     rw [hDE_h.out, hE3_h.out]
     refine decide_eq_false fun e => hne ?_
     rw [e, hx'] at hx
     exact (Option.some.inj hx).symm
    have hyes : (κ, vl, l1, l2) = (κ', vl', l1', l2') → L.take (k + 1) = L'.take (k + 1) := fun e => by rw [List.take_add_one, List.take_add_one, hx, hx', hpre, e]
    obtain ⟨q1, hq1⟩ : ∃ q, l1.length = q := ⟨_, rfl⟩
    obtain ⟨q2, hq2⟩ : ∃ q, l2.length = q := ⟨_, rfl⟩
    obtain ⟨q1', hq1'⟩ : ∃ q, l1'.length = q := ⟨_, rfl⟩
    obtain ⟨q2', hq2'⟩ : ∃ q, l2'.length = q := ⟨_, rfl⟩
    rw [hq1] at u2
    rw [hq2] at u3
    rw [hq1'] at v2
    rw [hq2'] at v3
    obtain ⟨W7, hW7, b7, k6, k7⟩ := allocs2 wo (.cells #[.int .i64 κ, .int .i64 vl, .slice B1 q1 b1, .slice C1 q2 b2] tEd) (.cells #[.int .i64 κ', .int .i64 vl', .slice B1' q1' b1', .slice C1' q2' b2'] tEd)
    have hs1 := fun (W' : World) (hb : Below wo.heap.size wo W') => l1Same_any B1 B1' b1 b1' q1 q1' l1 l1' W' (hr1.below hb) (hr1'.below hb) hq1 hq1' (by omega) (by omega)
    have hs2 := fun (W' : World) (hb : Below wo.heap.size wo W') => l1Same_any C1 C1' b2 b2' q2 q2' l2 l2' W' (hr2.below hb) (hr2'.below hb) hq2 hq2' (by omega) (by omega)
    obtain ⟨T1, hT1⟩ : ∃ T, decide (l1 = l1') = T := ⟨_, rfl⟩
    obtain ⟨T2, hT2⟩ : ∃ T, decide (l2 = l2') = T := ⟨_, rfl⟩
    simp only [hT1] at hs1
    simp only [hT2] at hs2
    have kz := t_box_below k02_h.out hbo
    have kz' := t_box_below k12_h.out hbo
    have hbo7 := below_trans hbo b7 hbo.size
    have hBo7 := below_trans hBo b7 hBo.size
    have hkI : (k : Int) < (m : Int) := by omega
    obtain ⟨⟨c0, c1, c2, c3⟩, f0, f1, f2, f3⟩ := t_box4 kz
    obtain ⟨⟨d0, d1, d2, d3⟩, g0, g1, g2, g3⟩ := t_box4 kz'
    clear kz kz' hr1 hr2 hr1' hr2' hn1 hn1' hq1 hq2 hq1' hq2' hx hx' hbo hBo hl hl' hpre
    obtain ⟨⟨x0, x1, x2, x3⟩, x4, x5, x6, x7⟩ := t_box4 k6
    obtain ⟨⟨y0, y1, y2, y3⟩, y4, y5, y6, y7⟩ := t_box4 k7
    have hE1 := t_below_alloc wo (.cells #[.int .i64 κ, .int .i64 vl, .slice B1 q1 b1, .slice C1 q2 b2] tEd)
    have c0' := (hE1.cell (World.block_lt_of_cell? _ _ c0)).trans c0
    have c1' := (hE1.cell (World.block_lt_of_cell? _ _ c1)).trans c1
    have d1' := (hE1.cell (World.block_lt_of_cell? _ _ d1)).trans d1
    have v0' := (hE1.cell (World.block_lt_of_cell? _ _ v0)).trans v0
    have v1' := (hE1.cell (World.block_lt_of_cell? _ _ v1)).trans v1
    have v2' := (hE1.cell (World.block_lt_of_cell? _ _ v2)).trans v2
    have v3' := (hE1.cell (World.block_lt_of_cell? _ _ v3)).trans v3
    have hno_h := lH hno; have hyes_h := lH hyes; have b7_h := lH b7; have k6_h := lH k6; have k7_h := lH k7; have hs1_h := lH hs1; have hs2_h := lH hs2; have hT1_h := lH hT1; have hT2_h := lH hT2; have hbo7_h := lH hbo7; have hBo7_h := lH hBo7; have hE1_h := lH hE1; clear hno hyes b7 k6 k7 hs1 hs2 hT1 hT2 hbo7 hBo7 hE1
    go_upto_region 7 with (fail)
    rw [← hW7]
    clear hW7 c0 c1 c2 c3 f0 f1 f2 f3 d0 d1 d2 d3 g0 g1 g2 g3 u0 u1 u2 u3 v0 v1 v2 v3 c0' c1' d1' v0' v1' v2' v3' hE1_h
    by_cases hκ : κ = κ'
    case neg =>
     obtain rfl : D = false := hno_h.out fun e => hκ (congrArg (·.1) e)
     go_wp2_with (fail)
     go_ret
     exact ⟨rfl, hBo7_h.out⟩
    by_cases hvl : vl = vl'
    case neg =>
     obtain rfl : D = false := hno_h.out fun e => hvl (congrArg (·.2.1) e)
     go_wp2_with (fail)
     go_ret
     exact ⟨rfl, hBo7_h.out⟩
    subst hκ hvl
    go_wp2_with (fail)
    refine ((hs1_h.out W7 b7_h.out)).mono ?_
    rintro e w8 ⟨rfl, hb8⟩
    have hBo8 := below_trans hBo7_h.out hb8 hBo7_h.out.size
    cases T1
    case false =>
     obtain rfl : D = false := hno_h.out fun e => (of_decide_eq_false hT1_h.out) (congrArg (·.2.2.1) e)
     clear hb8; have hBo8_h := lH hBo8; clear hBo8
     go_wp2_with (fail)
     go_ret
     exact ⟨rfl, hBo8_h.out⟩
    have k68 := t_box_below k6_h.out hb8
    have k78 := t_box_below k7_h.out hb8
    have b78 := below_trans b7_h.out hb8 b7_h.out.size
    have hbo8 := below_trans hbo7_h.out hb8 hbo7_h.out.size
    clear x0 x1 x2 x3 x4 x5 x6 x7 y0 y1 y2 y3 y4 y5 y6 y7
    obtain ⟨⟨x0, x1, x2, x3⟩, x4, x5, x6, x7⟩ := t_box4 k68
    obtain ⟨⟨y0, y1, y2, y3⟩, y4, y5, y6, y7⟩ := t_box4 k78
    clear k68 k78 hb8; have hBo8_h := lH hBo8; have b78_h := lH b78; have hbo8_h := lH hbo8; clear hBo8 b78 hbo8
    go_wp2_with (fail)
    refine ((hs2_h.out w8 b78_h.out)).mono ?_
    rintro e w9 ⟨rfl, hb9⟩
    have hBo9 := below_trans hBo8_h.out hb9 hBo8_h.out.size
    have hbo9 := below_trans hbo8_h.out hb9 hbo8_h.out.size
    cases T2
    case false =>
     obtain rfl : D = false := hno_h.out fun e => (of_decide_eq_false hT2_h.out) (congrArg (·.2.2.2) e)
     clear hb9; have hBo9_h := lH hBo9; clear hBo9
     go_wp2_with (fail)
     go_ret
     exact ⟨rfl, hBo9_h.out⟩
    have hpre2 := hyes_h.out (by rw [of_decide_eq_true hT1_h.out, of_decide_eq_true hT2_h.out])
    clear hb9 hBo9; have hbo9_h := lH hbo9; have hpre2_h := lH hpre2; clear hbo9 hpre2
    go_wp2_with (fail)
    go_roundw
    case rel => exact ⟨k + 1, by omega, by go_num, hpre2_h.out, hbo9_h.out⟩
    case measure => simp [intOf]; omega
  · obtain rfl : m = k := by omega
    have hLL : L = L' := by rw [List.take_of_length_le (by rw [hLl_h.out]; exact Nat.le_refl _), List.take_of_length_le (by rw [hLl'_h.out]; exact Nat.le_refl _)] at hpre; exact hpre
    have hDt : D = true := by rw [hDE_h.out, hE3_h.out]; exact decide_eq_true hLL
    have hBe := below_trans hB2_h.out hbo hB2_h.out.size
    subst hDt
    have hBe_h := lH hBe; clear hBe
    go_wp2_with (fail)
    go_ret
    exact ⟨rfl, hBe_h.out⟩
set_option maxHeartbeats 400000 in
theorem slicesEqual_any (A B : Option Addr) (c d : Nat) (l m : List Int) (w : World) (ha : RdI w A l) (hb : RdI w B m) (hl : l.length ≤ 17592186044416) :
  Calls Tryz.prog 87 #[.slice A l.length c, .slice B m.length d] w fun e w' => e = .returned (.bool (decide (l = m))) ∧ Qt w w' := by
 by_cases hlen : l.length = m.length
 · have h0 : ((l.length : Int) != (m.length : Int)) = false := by rw [hlen]; simp
   go_enter Tryz.func87, Tryz.ntmps87
   go_wp2
   go_loopw [13] (fun i wr => ∃ k n : Nat, k ≤ l.length ∧ i = .int .i64 k ∧ l.take k = m.take k ∧ wr = w.drewN n)
    (fun i _ => l.length - (intOf i).toNat)
   case atStart => exact ⟨0, 0, Nat.zero_le _, rfl, by simp, rfl⟩
   case round =>
    obtain ⟨k, n, hk, rfl, htk, rfl⟩ := hrel
    by_cases hlt : k < l.length
    · obtain ⟨ad, x, rfl, hx, hc⟩ := ha.at_ hlt
      obtain ⟨ad', y, rfl, hy, hc'⟩ := hb.at_ (j := k) (by omega)
      have hlt2 : (k : Int) < (m.length : Int) := by omega
      have HT := lH htk; have HL := lH hlen; have HX := lH hx; have HY := lH hy; clear htk hlen hx hy ha hb h0
      go_wp2
      go_quiet (fail)
      go_wp2
      · have hne : (x != y) = true := by assumption
        go_ret
        refine ⟨ret_bool ?_, _, World.drewN_drewN _ _ _⟩
        have : ¬ l = m := by
         intro e
         have h1 := HX.out; have h2 := HY.out
         rw [e, h2] at h1
         simp at hne; exact hne (Option.some.inj h1).symm
        simp [this]
      · have heq : (x != y) = false := by assumption
        go_roundw
        case rel =>
         refine ⟨k + 1, _, by omega, by go_num, ?_, rfl⟩
         have e : x = y := by simpa using heq
         rw [List.take_add_one, List.take_add_one, HT.out, HX.out, HY.out, e]
        case measure => simp [intOf]; omega
    · obtain rfl : k = l.length := by omega
      have HT := lH htk; clear htk
      go_wp2
      go_ret
      refine ⟨ret_bool ?_, _, rfl⟩
      have := HT.out
      rw [List.take_of_length_le (Nat.le_refl _), List.take_of_length_le (by omega)] at this
      simp [this]
 · have h0 : ((l.length : Int) != (m.length : Int)) = true := by simp; omega
   go_enter Tryz.func87, Tryz.ntmps87
   go_wp2
   go_ret
   refine ⟨ret_bool ?_, 0, rfl⟩
   have : ¬ l = m := fun e => hlen (by rw [e])
   simp [this]
set_option maxRecDepth 100000 in
set_option maxHeartbeats 4000000 in
theorem equalEdges_any (k v : Int) (B C : Option Addr) (b c : Nat) (l m : List Int) (k' v' : Int) (B' C' : Option Addr) (b' c' : Nat) (l' m' : List Int) (w : World) (h1 : RdI w B l) (h2 : RdI w C m) (h1' : RdI w B' l') (h2' : RdI w C' m') (hl : l.length ≤ 1048576) (hm : m.length ≤ 1048576) :
  Calls Tryz.prog 89 #[.agg #[.int .i64 k, .int .i64 v, .slice B l.length b, .slice C m.length c], .agg #[.int .i64 k', .int .i64 v', .slice B' l'.length b', .slice C' m'.length c']] w fun e w' => e = .returned (.bool (decide (((k, v, l, m) : Eg) = (k', v', l', m')))) ∧ Below w.heap.size w w' := by
 obtain ⟨D, hD⟩ : ∃ D, D = decide (((k, v, l, m) : Eg) = (k', v', l', m')) := ⟨_, rfl⟩
 rw [← hD]
 obtain ⟨E1, hE1⟩ : ∃ E, E = decide (l = l') := ⟨_, rfl⟩
 obtain ⟨E2, hE2⟩ : ∃ E, E = decide (m = m') := ⟨_, rfl⟩
 have hDD : D = (decide (k = k') && (decide (v = v') && (E1 && E2))) := by
  rw [hD, hE1, hE2, Bool.eq_iff_iff]
  simp
 have hS1 := fun (W : World) (hb : Below w.heap.size w W) => slicesEqual_any B B' b b' l l' W (h1.below hb) (h1'.below hb) (by omega)
 have hS2 := fun (W : World) (hb : Below w.heap.size w W) => slicesEqual_any C C' c c' m m' W (h2.below hb) (h2'.below hb) (by omega)
 obtain ⟨p, hp⟩ : ∃ p, p = l.length := ⟨_, rfl⟩
 obtain ⟨q, hq⟩ : ∃ p, p = m.length := ⟨_, rfl⟩
 obtain ⟨p', hp'⟩ : ∃ p, p = l'.length := ⟨_, rfl⟩
 obtain ⟨q', hq'⟩ : ∃ p, p = m'.length := ⟨_, rfl⟩
 simp only [← hp, ← hp', ← hE1] at hS1
 simp only [← hq, ← hq', ← hE2] at hS2
 rw [← hp, ← hq, ← hp', ← hq']
 obtain ⟨W, hW, bW, k0, k1⟩ := allocs2 w (.cells #[.int .i64 k, .int .i64 v, .slice B p b, .slice C q c] tEd) (.cells #[.int .i64 k', .int .i64 v', .slice B' p' b', .slice C' q' c'] tEd)
 obtain ⟨⟨c0, c1, c2, c3⟩, f0, f1, f2, f3⟩ := t_box4 k0
 obtain ⟨⟨d0, d1, d2, d3⟩, g0, g1, g2, g3⟩ := t_box4 k1
 clear hD hE1 hE2 h1 h2 h1' h2' hl hm hp hq hp' hq'; have hS1_h := lH hS1; have hS2_h := lH hS2; have bW_h := lH bW; have k0_h := lH k0; have k1_h := lH k1; have hDD_h := lH hDD; clear hS1 hS2 bW k0 k1 hDD
 by_cases hk : k = k'
 case neg =>
  have hbq : (k == k') = false := by rw [beq_eq_false_iff_ne]; exact hk
  obtain rfl : D = false := by rw [hDD_h.out, decide_eq_false hk]; rfl
  go_enter Tryz.func89, Tryz.ntmps89
  go_upto_region 1 with (fail)
  rw [← hW]
  clear hW
  go_wp2_with (fail)
  go_ret
  exact ⟨rfl, bW_h.out⟩
 subst hk
 by_cases hv : v = v'
 case neg =>
  have hbq : (v == v') = false := by rw [beq_eq_false_iff_ne]; exact hv
  obtain rfl : D = false := by rw [hDD_h.out, decide_eq_false hv]; simp
  go_enter Tryz.func89, Tryz.ntmps89
  go_upto_region 1 with (fail)
  rw [← hW]
  clear hW
  go_wp2_with (fail)
  go_ret
  exact ⟨rfl, bW_h.out⟩
 subst hv
 have hDE : D = (E1 && E2) := by rw [hDD_h.out]; simp
 have hDE_h := lH hDE; clear hDE
 go_enter Tryz.func89, Tryz.ntmps89
 go_upto_region 1 with (fail)
 rw [← hW]
 clear hW
 go_wp2_with (fail)
 refine ((hS1_h.out _ bW_h.out)).mono ?_
 rintro e w1 ⟨rfl, hq1⟩
 have hb1 : Below W.heap.size W w1 := Qt.below hq1
 have hB1 := below_trans bW_h.out hb1 bW_h.out.size
 have k01 := t_box_below k0_h.out hb1
 have k11 := t_box_below k1_h.out hb1
 clear c0 c1 c2 c3 f0 f1 f2 f3 d0 d1 d2 d3 g0 g1 g2 g3 hq1
 obtain ⟨⟨c0, c1, c2, c3⟩, f0, f1, f2, f3⟩ := t_box4 k01
 obtain ⟨⟨d0, d1, d2, d3⟩, g0, g1, g2, g3⟩ := t_box4 k11
 clear k01 k11 hb1
 cases E1
 case false =>
  obtain rfl : D = false := hDE_h.out
  have hB1_h := lH hB1; clear hB1
  go_wp2_with (fail)
  go_ret
  exact ⟨rfl, hB1_h.out⟩
 case true =>
  obtain rfl : D = E2 := hDE_h.out.trans (Bool.true_and _)
  have hB1_h := lH hB1; clear hB1
  go_wp2_with (fail)
  refine ((hS2_h.out _ hB1_h.out)).mono ?_
  rintro e w2 ⟨rfl, hq2⟩
  have hB2 := below_trans hB1_h.out (Qt.below hq2) hB1_h.out.size
  clear hq2; have hB2_h := lH hB2; clear hB2
  go_wp2_with (fail)
  go_ret
  exact ⟨rfl, hB2_h.out⟩
theorem cell_below {w w' : World} {ad : Addr} {u : Value} (h : w.cell? ad = some u) (hb : Below w.heap.size w w') : w'.cell? ad = some u := (hb.cell (World.block_lt_of_cell? w _ h)).trans h
set_option maxRecDepth 100000 in
set_option maxHeartbeats 4000000 in
theorem edgesEqual_any (A B : Option Addr) (c d m : Nat) (hs gs : List EHd) (L M : List Eg) (w : World) (ha : RdE w A hs) (hb : RdE w B gs) (ea : L = hs.map egOf) (eb : M = gs.map egOf) (hla : L.length = m) (hlb : M.length = m) (hm : m ≤ 1048576) (hL : ∀ e, e ∈ L → e.2.2.1.length ≤ 1048576 ∧ e.2.2.2.length ≤ 1048576) :
  Calls Tryz.prog 88 #[.slice A m c, .slice B m d, .func (.func 89) #[] #[]] w fun e w' => e = .returned (.bool (decide (L = M))) ∧ Below w.heap.size w w' := by
 obtain ⟨T, hT⟩ : ∃ T, T = decide (L = M) := ⟨_, rfl⟩
 rw [← hT]
 have h1 : hs.length = m := by rw [← hla, ea, List.length_map]
 have h2 : gs.length = m := by rw [← hlb, eb, List.length_map]
 have ea_h := lH ea; have eb_h := lH eb; have hT_h := lH hT; have hL_h := lH hL; have h1_h := lH h1; have h2_h := lH h2; have hla_h := lH hla; have hlb_h := lH hlb; clear ea eb hT hL h1 h2 hla hlb
 go_enter Tryz.func88, Tryz.ntmps88
 go_wp2_with (fail)
 go_loopw [17] (fun i wr => ∃ k : Nat, k ≤ m ∧ i = .int .i64 k ∧ L.take k = M.take k ∧ Below w.heap.size w wr) (fun i _ => m - (intOf i).toNat)
 case atStart => exact ⟨0, Nat.zero_le _, rfl, by simp, Below.refl _ _⟩
 case round =>
  obtain ⟨k, hk, rfl, htk, hB⟩ := hrel
  obtain ⟨wo, rfl⟩ : ∃ x, x = wr := ⟨_, rfl⟩
  by_cases hlt : k < m
  case neg =>
   obtain rfl : m = k := by omega
   have ht : T = true := by
    rw [hT_h.out]
    rw [List.take_of_length_le (Nat.le_of_eq hla_h.out), List.take_of_length_le (Nat.le_of_eq hlb_h.out)] at htk
    exact decide_eq_true htk
   subst ht
   have htk_h := lH htk; have hB_h := lH hB; clear htk hB
   go_wp2_with (fail)
   go_ret
   exact ⟨rfl, hB_h.out⟩
  obtain ⟨ad, κ, vv, B1, b1, s1, C1, b2, t1, rfl, hn, ⟨d0, d1, d2, d3⟩, hr1, hr2⟩ := (ha.below hB).at_ (j := k) (by rw [h1_h.out]; exact hlt)
  obtain ⟨ad3, κ', vv', B3, b3, s3, C3, b4, t3, rfl, hn3, ⟨y0, y1, y2, y3⟩, hr3, hr4⟩ := (hb.below hB).at_ (j := k) (by rw [h2_h.out]; exact hlt)
  have hek : L[k]? = some (κ, vv, s1, t1) := by rw [ea_h.out, List.getElem?_map, hn]; rfl
  have hem : M[k]? = some (κ', vv', s3, t3) := by rw [eb_h.out, List.getElem?_map, hn3]; rfl
  have hln := hL_h.out _ (List.mem_of_getElem? hek)
  have hkI : (k : Int) < (m : Int) := by omega
  obtain ⟨W6, hW6, bW6, k6, k7⟩ := allocs2 wo (.cells #[.int .i64 κ, .int .i64 vv, .slice B1 s1.length b1, .slice C1 t1.length b2] tEd) (.cells #[.int .i64 κ', .int .i64 vv', .slice B3 s3.length b3, .slice C3 t3.length b4] tEd)
  have hQ := equalEdges_any κ vv B1 C1 b1 b2 s1 t1 κ' vv' B3 C3 b3 b4 s3 t3 W6 (hr1.below bW6) (hr2.below bW6) (hr3.below bW6) (hr4.below bW6) hln.1 hln.2
  obtain ⟨E, hE⟩ : ∃ E, E = decide (((κ, vv, s1, t1) : Eg) = (κ', vv', s3, t3)) := ⟨_, rfl⟩
  rw [← hE] at hQ
  have hyes : E = true → L.take (k + 1) = M.take (k + 1) := fun hh => by
   have := of_decide_eq_true (hE.symm.trans hh)
   rw [List.take_add_one, List.take_add_one, hek, hem, htk, this]
  have hnot : E = false → T = false := fun hh => by
   rw [hT_h.out]
   refine decide_eq_false fun e => ?_
   have := of_decide_eq_false (hE.symm.trans hh)
   rw [e, hem] at hek
   exact this (Option.some.inj hek).symm
  have hB6 := below_trans hB bW6 hB.size
  obtain ⟨p1, hp1⟩ : ∃ p1, p1 = s1.length := ⟨_, rfl⟩
  obtain ⟨r1, hr1'⟩ : ∃ r1, r1 = t1.length := ⟨_, rfl⟩
  obtain ⟨p3, hp3⟩ : ∃ p1, p1 = s3.length := ⟨_, rfl⟩
  obtain ⟨r3, hr3'⟩ : ∃ r1, r1 = t3.length := ⟨_, rfl⟩
  rw [← hp1, ← hp3, ← hr1', ← hr3'] at hQ
  rw [← hp1, ← hp3, ← hr1', ← hr3'] at hW6
  rw [← hp1, ← hr1'] at k6
  rw [← hp3, ← hr3'] at k7
  rw [← hp1] at d2
  rw [← hr1'] at d3
  rw [← hp3] at y2
  rw [← hr3'] at y3
  obtain ⟨⟨x0, x1, x2, x3⟩, x4, x5, x6, x7⟩ := t_box4 k6
  obtain ⟨⟨z0, z1, z2, z3⟩, z4, z5, z6, z7⟩ := t_box4 k7
  have bA := t_below_alloc wo (.cells #[.int .i64 κ, .int .i64 vv, .slice B1 p1 b1, .slice C1 r1 b2] tEd)
  have y0 := cell_below y0 bA
  have y1 := cell_below y1 bA
  have y2 := cell_below y2 bA
  have y3 := cell_below y3 bA
  clear hn hn3 hr1 hr2 hr3 hr4 hek hem hln hE hp1 hr1' hp3 hr3' htk hB bA k6 k7 bW6; have hQ_h := lH hQ; have hyes_h := lH hyes; have hnot_h := lH hnot; have hB6_h := lH hB6; clear hQ hyes hnot hB6
  go_upto_region 7 with (fail)
  rw [← hW6]
  clear hW6
  go_wp2_with (fail)
  refine (hQ_h.out).mono ?_
  rintro e w7 ⟨rfl, hb7⟩
  have hB7 := below_trans hB6_h.out hb7 hB6_h.out.size
  clear hb7
  cases E
  case false =>
   obtain rfl : T = false := hnot_h.out rfl
   have hB7_h := lH hB7; clear hB7
   go_wp2_with (fail)
   go_ret
   exact ⟨rfl, hB7_h.out⟩
  case true =>
   have htk := hyes_h.out rfl
   have hB7_h := lH hB7; have htk_h := lH htk; clear hB7 htk
   go_wp2_with (fail)
   go_roundw
   case rel => exact ⟨k + 1, by omega, by go_num, htk_h.out, hB7_h.out⟩
   case measure => simp [intOf]; omega
set_option maxRecDepth 100000 in
set_option maxHeartbeats 4000000 in
theorem edgesLen_any (A B : Option Addr) (c d m n : Nat) (fv : Value) (w : World) (hmn : ¬ m = n) (_hm : m ≤ 1048576) (_hn : n ≤ 1048576) :
  Calls Tryz.prog 88 #[.slice A m c, .slice B n d, fv] w fun e w' => e = .returned (.bool false) ∧ Below w.heap.size w w' := by
 have hI : ¬ (m : Int) = (n : Int) := by omega
 go_enter Tryz.func88, Tryz.ntmps88
 go_wp2_with (fail)
 go_ret
 exact ⟨rfl, Below.refl _ _⟩
set_option maxRecDepth 100000 in
set_option maxHeartbeats 4000000 in
theorem equalGraphs_any {v v' : Value} {g g' : Gr} (w : World) (h : RdGr w v g) (h' : RdGr w v' g') (ok : OkG g) (ok' : OkG g') :
  Calls Tryz.prog 62 #[v, v'] w fun e w' => e = .returned (.bool (decide (g = g'))) ∧ Below w.heap.size w w' := by
 obtain ⟨D, hD⟩ : ∃ D, D = decide (g = g') := ⟨_, rfl⟩
 rw [← hD]
 obtain ⟨A, c, hs, ⟨B, b, s⟩, ⟨C, d, t⟩, rfl, e1, e2, e3, hE, hRa, hRb⟩ := h
 obtain ⟨A', c', hs', ⟨B', b', s'⟩, ⟨C', d', t'⟩, rfl, e1', e2', e3', hE', hRa', hRb'⟩ := h'
 obtain ⟨z, L, s0, t0⟩ := g
 obtain ⟨z', L', s0', t0'⟩ := g'
 have a1 : L = hs.map egOf := e1
 have a2 : s = s0 := e2
 have a3 : t = t0 := e3
 have a1' : L' = hs'.map egOf := e1'
 have a2' : s' = s0' := e2'
 have a3' : t' = t0' := e3'
 subst a2 a3 a2' a3'
 have hRs : RdI w B s := hRa
 have hRt : RdI w C t := hRb
 have hRs' : RdI w B' s' := hRa'
 have hRt' : RdI w C' t' := hRb'
 obtain ⟨E1, hE1⟩ : ∃ E, E = decide (s = s') := ⟨_, rfl⟩
 obtain ⟨E2, hE2⟩ : ∃ E, E = decide (t = t') := ⟨_, rfl⟩
 obtain ⟨E3, hE3⟩ : ∃ E, E = decide (L = L') := ⟨_, rfl⟩
 have hDD : D = (decide (z = z') && (E1 && (E2 && E3))) := by
  rw [hD, hE1, hE2, hE3, Bool.eq_iff_iff]
  simp only [Prod.mk.injEq, decide_eq_true_eq, Bool.and_eq_true]
  exact ⟨fun ⟨q1, q2, q3, q4⟩ => ⟨q1, q3, q4, q2⟩, fun ⟨q1, q3, q4, q2⟩ => ⟨q1, q2, q3, q4⟩⟩
 have hLl : L.length = hs.length := by rw [a1, List.length_map]
 have hLl' : L'.length = hs'.length := by rw [a1', List.length_map]
 have hlen1 : L.length ≤ 1048576 := ok.1.1
 have hlen2 : L'.length ≤ 1048576 := ok'.1.1
 have ls : s.length ≤ 1048576 := ok.1.2.1
 have lt : t.length ≤ 1048576 := ok.1.2.2
 have hlE : ∀ x, x ∈ L → x.2.2.1.length ≤ 1048576 ∧ x.2.2.2.length ≤ 1048576 := ok.2.1
 show Calls Tryz.prog _ #[.agg #[.int .i64 z, .slice A hs.length c, .slice B s.length b, .slice C t.length d], .agg #[.int .i64 z', .slice A' hs'.length c', .slice B' s'.length b', .slice C' t'.length d']] w _
 have hS1 := fun (W : World) (hb : Below w.heap.size w W) => slicesEqual_any B B' b b' s s' W (hRs.below hb) (hRs'.below hb) (by omega)
 have hS2 := fun (W : World) (hb : Below w.heap.size w W) => slicesEqual_any C C' d d' t t' W (hRt.below hb) (hRt'.below hb) (by omega)
 have hS3 : ∀ (W : World), Below w.heap.size w W → Calls Tryz.prog 88 #[.slice A hs.length c, .slice A' hs'.length c', .func (.func 89) #[] #[]] W fun e w' => e = .returned (.bool E3) ∧ Below W.heap.size W w' := fun W hb => by
  by_cases hmn : hs.length = hs'.length
  · have := edgesEqual_any A A' c c' hs.length hs hs' L L' W (hE.below hb) (hE'.below hb) a1 a1' hLl (hLl'.trans hmn.symm) (by omega) hlE
    rw [← hE3] at this
    rw [← hmn]
    exact this
  · have he : E3 = false := by rw [hE3]; exact decide_eq_false fun e => hmn (by rw [← hLl, ← hLl', e])
    rw [he]
    exact edgesLen_any A A' c c' hs.length hs'.length _ W hmn (by omega) (by omega)
 obtain ⟨p, hp⟩ : ∃ p, p = s.length := ⟨_, rfl⟩
 obtain ⟨r, hr⟩ : ∃ p, p = t.length := ⟨_, rfl⟩
 obtain ⟨p', hp'⟩ : ∃ p, p = s'.length := ⟨_, rfl⟩
 obtain ⟨r', hr'⟩ : ∃ p, p = t'.length := ⟨_, rfl⟩
 obtain ⟨m, hm⟩ : ∃ p, p = hs.length := ⟨_, rfl⟩
 obtain ⟨m', hm'⟩ : ∃ p, p = hs'.length := ⟨_, rfl⟩
 simp only [← hp, ← hp', ← hE1] at hS1
 simp only [← hr, ← hr', ← hE2] at hS2
 simp only [← hm, ← hm'] at hS3
 rw [← hp, ← hr, ← hp', ← hr', ← hm, ← hm']
 obtain ⟨W, hW, bW, k0, k1⟩ := allocs2 w (.cells #[.int .i64 z, .slice A m c, .slice B p b, .slice C r d] tGr) (.cells #[.int .i64 z', .slice A' m' c', .slice B' p' b', .slice C' r' d'] tGr)
 obtain ⟨⟨c0, c1, c2, c3⟩, f0, f1, f2, f3⟩ := t_box4 k0
 obtain ⟨⟨d0, d1, d2, d3⟩, g0, g1, g2, g3⟩ := t_box4 k1
 clear hD hE1 hE2 hE3 e1 e2 e3 e1' e2' e3' hE hE' hRa hRb hRa' hRb' hRs hRt hRs' hRt' a1 a1' hLl hLl' hlen1 hlen2 ls lt hlE ok ok' hp hr hp' hr' hm hm'; have hS1_h := lH hS1; have hS2_h := lH hS2; have hS3_h := lH hS3; have bW_h := lH bW; have k0_h := lH k0; have k1_h := lH k1; have hDD_h := lH hDD; clear hS1 hS2 hS3 bW k0 k1 hDD
 by_cases hk : z = z'
 case neg =>
  have hbq : (z == z') = false := by rw [beq_eq_false_iff_ne]; exact hk
  obtain rfl : D = false := by rw [hDD_h.out, decide_eq_false hk]; rfl
  go_enter Tryz.func62, Tryz.ntmps62
  go_upto_region 1 with (fail)
  rw [← hW]
  clear hW
  go_wp2_with (fail)
  go_ret
  exact ⟨rfl, bW_h.out⟩
 subst hk
 have hbq : (z == z) = true := by simp
 have hDE : D = (E1 && (E2 && E3)) := by rw [hDD_h.out]; simp
 have hDE_h := lH hDE; clear hDE
 go_enter Tryz.func62, Tryz.ntmps62
 go_upto_region 1 with (fail)
 rw [← hW]
 clear hW
 go_wp2_with (fail)
 refine ((hS1_h.out _ bW_h.out)).mono ?_
 rintro e w1 ⟨rfl, hq1⟩
 have hb1 : Below W.heap.size W w1 := Qt.below hq1
 have hB1 := below_trans bW_h.out hb1 bW_h.out.size
 have k01 := t_box_below k0_h.out hb1
 have k11 := t_box_below k1_h.out hb1
 clear c0 c1 c2 c3 f0 f1 f2 f3 d0 d1 d2 d3 g0 g1 g2 g3 hq1 hb1
 obtain ⟨⟨c0, c1, c2, c3⟩, f0, f1, f2, f3⟩ := t_box4 k01
 obtain ⟨⟨d0, d1, d2, d3⟩, g0, g1, g2, g3⟩ := t_box4 k11
 cases E1
 case false =>
  obtain rfl : D = false := hDE_h.out
  have hB1_h := lH hB1; clear hB1
  go_wp2_with (fail)
  go_ret
  exact ⟨rfl, hB1_h.out⟩
 have hD2 : D = (E2 && E3) := hDE_h.out.trans (Bool.true_and _)
 have hB1_h := lH hB1; have k01_h := lH k01; have k11_h := lH k11; have hD2_h := lH hD2; clear hB1 k01 k11 hD2
 go_wp2_with (fail)
 refine ((hS2_h.out _ hB1_h.out)).mono ?_
 rintro e w2 ⟨rfl, hq2⟩
 have hb2 : Below w1.heap.size w1 w2 := Qt.below hq2
 have hB2 := below_trans hB1_h.out hb2 hB1_h.out.size
 have k02 := t_box_below k01_h.out hb2
 have k12 := t_box_below k11_h.out hb2
 clear c0 c1 c2 c3 f0 f1 f2 f3 d0 d1 d2 d3 g0 g1 g2 g3 hq2 hb2
 obtain ⟨⟨c0, c1, c2, c3⟩, f0, f1, f2, f3⟩ := t_box4 k02
 obtain ⟨⟨d0, d1, d2, d3⟩, g0, g1, g2, g3⟩ := t_box4 k12
 cases E2
 case false =>
  obtain rfl : D = false := hD2_h.out
  have hB2_h := lH hB2; have k02_h := lH k02; have k12_h := lH k12; clear hB2 k02 k12
  go_wp2_with (fail)
  go_ret
  exact ⟨rfl, hB2_h.out⟩
 obtain rfl : D = E3 := hD2_h.out.trans (Bool.true_and _)
 have hB2_h := lH hB2; have k02_h := lH k02; have k12_h := lH k12; clear hB2 k02 k12
 go_wp2_with (fail)
 refine ((hS3_h.out _ hB2_h.out)).mono ?_
 rintro e w3 ⟨rfl, hb3⟩
 have hB3 := below_trans hB2_h.out hb3 hB2_h.out.size
 clear hb3; have hB3_h := lH hB3; clear hB3
 go_wp2_with (fail)
 go_ret
 exact ⟨rfl, hB3_h.out⟩
set_option maxRecDepth 100000 in
set_option maxHeartbeats 4000000 in
theorem isomorphic_any {v v' : Value} {g g' : Gr} (w : World) (n n' : Nat) (h : RdGr w v g) (ok : OkG g) (hMo : Mono g n) (hv : grB g = true) (h' : RdGr w v' g') (ok' : OkG g') (hMo' : Mono g' n') (hv' : grB g' = true) :
  Calls Tryz.prog 39 #[v, v'] w fun e w' => e = .returned (.bool (decide (cgG g = cgG g'))) ∧ Below w.heap.size w w' := by
 have okc := cgG_ok ok hMo
 have okc' := cgG_ok ok' hMo'
 obtain ⟨A, n0, c, B, m0, d, C, k0', e0, rfl⟩ := h.shape
 obtain ⟨A', n0', c', B', m0', d', C', k0'', e0', rfl⟩ := h'.shape
 obtain ⟨z, hz⟩ : ∃ z, z = g.1 := ⟨_, rfl⟩
 obtain ⟨z', hz'⟩ : ∃ z, z = g'.1 := ⟨_, rfl⟩
 rw [← hz] at h ⊢
 rw [← hz'] at h' ⊢
 obtain ⟨W, hW, bW, k0, k1⟩ := allocs2 w (.cells #[.int .i64 z, .slice A n0 c, .slice B m0 d, .slice C k0' e0] tGr) (.cells #[.int .i64 z', .slice A' n0' c', .slice B' m0' d', .slice C' k0'' e0'] tGr)
 have hC1 := fun (W' : World) (hb : Below W.heap.size W W') => canonical_any W' n ((h.below bW).below hb) ok hMo hv
 have hC2 := fun (W' : World) (hb : Below W.heap.size W W') => canonical_any W' n' ((h'.below bW).below hb) ok' hMo' hv'
 obtain ⟨P, hP⟩ : ∃ P, cgG g = P := ⟨_, rfl⟩
 obtain ⟨P', hP'⟩ : ∃ P, cgG g' = P := ⟨_, rfl⟩
 simp only [hP] at hC1 okc
 simp only [hP'] at hC2 okc'
 rw [hP, hP']
 clear h h' hz hz' ok ok' hMo hMo' hv hv' hP hP'; have bW_h := lH bW; have k0_h := lH k0; have k1_h := lH k1; have hC1_h := lH hC1; have hC2_h := lH hC2; have okc_h := lH okc; have okc'_h := lH okc'; clear bW k0 k1 hC1 hC2 okc okc'
 go_enter Tryz.func39, Tryz.ntmps39
 go_upto_region 1 with (fail)
 rw [← hW]
 clear hW
 refine beginH (fun w' => Below W.heap.size W w') (by kernel_rfl) ?_
 have hbd : Below W.heap.size W W.drew := below_drewN (Below.refl _ _) 1
 generalize W.drew = W1 at hbd ⊢
 refine tkH 0 ?_ rfl hbd (fun W' hW' => ?_) ?_; rotate_left; · (obtain ⟨⟨⟨c0, c1, c2, c3⟩, f0, f1, f2, f3⟩, ⟨d0, d1, d2, d3⟩, g0, g1, g2, g3⟩ := (⟨t_box4 (t_box_below k0_h.out hW'), t_box4 (t_box_below k1_h.out hW')⟩ : _ ∧ _); clear hW'; go_simp; first | done | with_reducible rfl)
 simp only [Act.put, nS]
 refine tkH 2 ?_ rfl hbd (fun W' hW' => ?_) ?_; rotate_left; · (obtain ⟨⟨⟨c0, c1, c2, c3⟩, f0, f1, f2, f3⟩, ⟨d0, d1, d2, d3⟩, g0, g1, g2, g3⟩ := (⟨t_box4 (t_box_below k0_h.out hW'), t_box4 (t_box_below k1_h.out hW')⟩ : _ ∧ _); clear hW'; go_simp; first | done | with_reducible rfl)
 simp only [Act.put, nS]
 refine relT [(1, 6), (3, 8)] (fun _ => []) (fun d _ v w => if d = 6 then RdGr w v P else RdGr w v P') (fun _ _ => []) 2 rfl (by kernel_rfl) ?st1 ?co1 (fun w' hw' => below_trans hbd hw' hbd.size) ?sp1 ?fi1
 case st1 => exact fun d xs => Stb.ite (fun _ _ _ h hb => h.below hb) (fun _ _ _ h hb => h.below hb)
 case co1 => exact fun z hz xs ys v w hd h => h
 case sp1 =>
  refine ⟨⟨_, rfl, fun xs w5 hb5 hd K hK => ?_⟩, ⟨_, rfl, fun xs w5 hb5 hd K hK => ?_⟩, trivial⟩
  · simp only [putZ, List.foldl_cons, List.foldl_nil, Act.put, nS] at hK ⊢
    refine wp_callZ (f := ?f_1) (args := ?args_1) ?hr_1 ?hc_1
    case hr_1 => (go_simp; first | done | with_reducible rfl | (constructor <;> with_reducible rfl))
    case hc_1 =>
     refine (hC1_h.out w5 (below_trans hbd hb5 hbd.size)).mono ?_
     rintro e w6 ⟨v6, fp6, rfl, hO6, _, hb6⟩
     exact ⟨_, rfl, hK _ _ hb6 hO6.rd fun b hb => by cases hb⟩
  · simp only [putZ, List.foldl_cons, List.foldl_nil, Act.put, nS] at hK ⊢
    refine wp_callZ (f := ?f_2) (args := ?args_2) ?hr_2 ?hc_2
    case hr_2 => (go_simp; first | done | with_reducible rfl | (constructor <;> with_reducible rfl))
    case hc_2 =>
     refine (hC2_h.out w5 (below_trans hbd hb5 hbd.size)).mono ?_
     rintro e w6 ⟨v6, fp6, rfl, hO6, _, hb6⟩
     exact ⟨_, rfl, hK _ _ hb6 hO6.rd fun b hb => by cases hb⟩
 case fi1 =>
  intro xs w6 hb6 hR hO hD
  have h1 : RdGr w6 (xs 6) P := hR (1, 6) (by simp)
  have h2 : RdGr w6 (xs 8) P' := hR (3, 8) (by simp)
  obtain ⟨va, hva⟩ : ∃ v, xs 6 = v := ⟨_, rfl⟩
  obtain ⟨vb, hvb⟩ : ∃ v, xs 8 = v := ⟨_, rfl⟩
  rw [hva] at h1
  rw [hvb] at h2
  have hEq := equalGraphs_any w6 h1 h2 okc_h.out okc'_h.out
  have hb26 := below_trans hbd hb6 hbd.size
  clear hR hO hD h1 h2; have hEq_h := lH hEq; clear hEq
  simp only [putZ, List.foldl_cons, List.foldl_nil, Act.put, nS, hva, hvb, mkZ]
  refine' callH 4 (f := _) (args := _) rfl (by kernel_rfl) (by rfl) ?_ ?_; rotate_left 2; · (go_simp; first | done | with_reducible rfl | (constructor <;> with_reducible rfl))
  refine (hEq_h.out).mono ?_
  rintro e w7 ⟨rfl, hb7⟩
  have hb27 := below_trans hb26 hb7 hb26.size
  refine ⟨_, rfl, hb27, ?_⟩
  simp only [Act.put, nS]
  refine tkH 5 ?_ rfl hb27 (fun W' hW' => ?_) ?_; rotate_left; · (skip; clear hW'; go_simp; first | done | with_reducible rfl)
  simp only [Act.put, nS]
  refine doneH (by kernel_rfl) ?_
  have hBe := below_trans bW_h.out hb27 bW_h.out.size
  go_wp2_with (fail)
  go_ret
  exact ⟨rfl, hBe⟩
set_option maxRecDepth 100000 in
set_option maxHeartbeats 4000000 in
theorem cnSame_any {v v' : Value} {g g' : Gr} (w : World) (n n' : Nat) (h : RdGr w v g) (ok : OkG g) (hMo : Mono g n) (hv : grB g = true) (h' : RdGr w v' g') (ok' : OkG g') (hMo' : Mono g' n') (hv' : grB g' = true) :
  Calls Tryz.prog 38 #[v, v'] w fun e w' => e = .returned (.bool (decide (cgG g = cgG g'))) ∧ Below w.heap.size w w' := by
 have okc := cgG_ok ok hMo
 have okc' := cgG_ok ok' hMo'
 obtain ⟨A, n0, c, B, m0, d, C, k0', e0, rfl⟩ := h.shape
 obtain ⟨A', n0', c', B', m0', d', C', k0'', e0', rfl⟩ := h'.shape
 obtain ⟨z, hz⟩ : ∃ z, z = g.1 := ⟨_, rfl⟩
 obtain ⟨z', hz'⟩ : ∃ z, z = g'.1 := ⟨_, rfl⟩
 rw [← hz] at h ⊢
 rw [← hz'] at h' ⊢
 obtain ⟨W, hW, bW, k0, k1⟩ := allocs2 w (.cells #[.int .i64 z, .slice A n0 c, .slice B m0 d, .slice C k0' e0] tGr) (.cells #[.int .i64 z', .slice A' n0' c', .slice B' m0' d', .slice C' k0'' e0'] tGr)
 have hC1 := fun (W' : World) (hb : Below W.heap.size W W') => cnGraph_any W' n ((h.below bW).below hb) ok hMo hv
 have hC2 := fun (W' : World) (hb : Below W.heap.size W W') => cnGraph_any W' n' ((h'.below bW).below hb) ok' hMo' hv'
 obtain ⟨P, hP⟩ : ∃ P, cgG g = P := ⟨_, rfl⟩
 obtain ⟨P', hP'⟩ : ∃ P, cgG g' = P := ⟨_, rfl⟩
 simp only [hP] at hC1 okc
 simp only [hP'] at hC2 okc'
 rw [hP, hP']
 clear h h' hz hz' ok ok' hMo hMo' hv hv' hP hP'; have bW_h := lH bW; have k0_h := lH k0; have k1_h := lH k1; have hC1_h := lH hC1; have hC2_h := lH hC2; have okc_h := lH okc; have okc'_h := lH okc'; clear bW k0 k1 hC1 hC2 okc okc'
 go_enter Tryz.func38, Tryz.ntmps38
 go_upto_region 1 with (fail)
 rw [← hW]
 clear hW
 refine beginH (fun w' => Below W.heap.size W w') (by kernel_rfl) ?_
 have hbd : Below W.heap.size W W.drew := below_drewN (Below.refl _ _) 1
 generalize W.drew = W1 at hbd ⊢
 refine tkH 0 ?_ rfl hbd (fun W' hW' => ?_) ?_; rotate_left; · (obtain ⟨⟨⟨c0, c1, c2, c3⟩, f0, f1, f2, f3⟩, ⟨d0, d1, d2, d3⟩, g0, g1, g2, g3⟩ := (⟨t_box4 (t_box_below k0_h.out hW'), t_box4 (t_box_below k1_h.out hW')⟩ : _ ∧ _); clear hW'; go_simp; first | done | with_reducible rfl)
 simp only [Act.put, nS]
 refine tkH 2 ?_ rfl hbd (fun W' hW' => ?_) ?_; rotate_left; · (obtain ⟨⟨⟨c0, c1, c2, c3⟩, f0, f1, f2, f3⟩, ⟨d0, d1, d2, d3⟩, g0, g1, g2, g3⟩ := (⟨t_box4 (t_box_below k0_h.out hW'), t_box4 (t_box_below k1_h.out hW')⟩ : _ ∧ _); clear hW'; go_simp; first | done | with_reducible rfl)
 simp only [Act.put, nS]
 refine relT [(1, 6), (3, 8)] (fun _ => []) (fun d _ v w => if d = 6 then RdGr w v P else RdGr w v P') (fun _ _ => []) 2 rfl (by kernel_rfl) ?st1 ?co1 (fun w' hw' => below_trans hbd hw' hbd.size) ?sp1 ?fi1
 case st1 => exact fun d xs => Stb.ite (fun _ _ _ h hb => h.below hb) (fun _ _ _ h hb => h.below hb)
 case co1 => exact fun z hz xs ys v w hd h => h
 case sp1 =>
  refine ⟨⟨_, rfl, fun xs w5 hb5 hd K hK => ?_⟩, ⟨_, rfl, fun xs w5 hb5 hd K hK => ?_⟩, trivial⟩
  · simp only [putZ, List.foldl_cons, List.foldl_nil, Act.put, nS] at hK ⊢
    refine wp_callZ (f := ?f_1) (args := ?args_1) ?hr_1 ?hc_1
    case hr_1 => (go_simp; first | done | with_reducible rfl | (constructor <;> with_reducible rfl))
    case hc_1 =>
     refine (hC1_h.out w5 (below_trans hbd hb5 hbd.size)).mono ?_
     rintro e w6 ⟨v6, fp6, rfl, hO6, _, hb6⟩
     exact ⟨_, rfl, hK _ _ hb6 hO6.rd fun b hb => by cases hb⟩
  · simp only [putZ, List.foldl_cons, List.foldl_nil, Act.put, nS] at hK ⊢
    refine wp_callZ (f := ?f_2) (args := ?args_2) ?hr_2 ?hc_2
    case hr_2 => (go_simp; first | done | with_reducible rfl | (constructor <;> with_reducible rfl))
    case hc_2 =>
     refine (hC2_h.out w5 (below_trans hbd hb5 hbd.size)).mono ?_
     rintro e w6 ⟨v6, fp6, rfl, hO6, _, hb6⟩
     exact ⟨_, rfl, hK _ _ hb6 hO6.rd fun b hb => by cases hb⟩
 case fi1 =>
  intro xs w6 hb6 hR hO hD
  have h1 : RdGr w6 (xs 6) P := hR (1, 6) (by simp)
  have h2 : RdGr w6 (xs 8) P' := hR (3, 8) (by simp)
  obtain ⟨va, hva⟩ : ∃ v, xs 6 = v := ⟨_, rfl⟩
  obtain ⟨vb, hvb⟩ : ∃ v, xs 8 = v := ⟨_, rfl⟩
  rw [hva] at h1
  rw [hvb] at h2
  have hEq := axSame_any w6 h1 h2 okc_h.out okc'_h.out
  have hb26 := below_trans hbd hb6 hbd.size
  clear hR hO hD h1 h2; have hEq_h := lH hEq; clear hEq
  simp only [putZ, List.foldl_cons, List.foldl_nil, Act.put, nS, hva, hvb, mkZ]
  refine' callH 4 (f := _) (args := _) rfl (by kernel_rfl) (by rfl) ?_ ?_; rotate_left 2; · (go_simp; first | done | with_reducible rfl | (constructor <;> with_reducible rfl))
  refine (hEq_h.out).mono ?_
  rintro e w7 ⟨rfl, hb7⟩
  have hb27 := below_trans hb26 hb7 hb26.size
  refine ⟨_, rfl, hb27, ?_⟩
  simp only [Act.put, nS]
  refine tkH 5 ?_ rfl hb27 (fun W' hW' => ?_) ?_; rotate_left; · (skip; clear hW'; go_simp; first | done | with_reducible rfl)
  simp only [Act.put, nS]
  refine doneH (by kernel_rfl) ?_
  have hBe := below_trans bW_h.out hb27 bW_h.out.size
  go_wp2_with (fail)
  go_ret
  exact ⟨rfl, hBe⟩
def sgR (a b : Gr) : Bool × Bool := if monoB a && monoB b then (decide (cgG a = cgG b), true) else (false, false)
theorem sgR_no {a b : Gr} (h : (monoB a && monoB b) = false) : sgR a b = (false, false) := by unfold sgR; rw [h]; rfl
theorem sgR_yes {a b : Gr} (h1 : monoB a = true) (h2 : monoB b = true) : sgR a b = (decide (cgG a = cgG b), true) := by unfold sgR; rw [h1, h2]; rfl
set_option maxRecDepth 100000 in
set_option maxHeartbeats 4000000 in
theorem iSameGraphs_law {v v' : Value} {g g' : Gr} {w : World} (h : RdGr w v g) (h' : RdGr w v' g') (ok : OkG g) (ok' : OkG g') :
  Calls Tryz.prog 15 #[v, v'] w fun e w' => e = .returned (.tuple #[.bool (sgR g g').1, .bool (sgR g g').2]) ∧ Below w.heap.size w w' := by
 obtain ⟨M, hM⟩ : ∃ M, sgR g g' = M := ⟨_, rfl⟩
 rw [hM]
 obtain ⟨T1, hT1⟩ : ∃ D, monoB g = D := ⟨_, rfl⟩
 obtain ⟨T2, hT2⟩ : ∃ D, monoB g' = D := ⟨_, rfl⟩
 have hno : (T1 && T2) = false → M = (false, false) := fun hh => hM.symm.trans (sgR_no (by rw [hT1, hT2]; exact hh))
 have hyes : T1 = true → T2 = true → M = (decide (cgG g = cgG g'), true) := fun a b => hM.symm.trans (sgR_yes (hT1.trans a) (hT2.trans b))
 obtain ⟨A, n0, c, B, m0, d, C, k0', e0, rfl⟩ := h.shape
 obtain ⟨A', n0', c', B', m0', d', C', k0'', e0', rfl⟩ := h'.shape
 obtain ⟨z, hz⟩ : ∃ z, z = g.1 := ⟨_, rfl⟩
 obtain ⟨z', hz'⟩ : ∃ z, z = g'.1 := ⟨_, rfl⟩
 rw [← hz] at h ⊢
 rw [← hz'] at h' ⊢
 obtain ⟨W, hW, bW, k0, k1⟩ := allocs2 w (.cells #[.int .i64 z, .slice A n0 c, .slice B m0 d, .slice C k0' e0] tGr) (.cells #[.int .i64 z', .slice A' n0' c', .slice B' m0' d', .slice C' k0'' e0'] tGr)
 have hG := isMonogamous_any W (h.below bW) ok
 have hG' := fun (W' : World) (hb : Below W.heap.size W W') => isMonogamous_any W' ((h'.below bW).below hb) ok'
 rw [hT1] at hG
 simp only [hT2] at hG'
 have hF : ∀ (W' : World), Below W.heap.size W W' → T1 = true → T2 = true → Calls Tryz.prog 39 #[.agg #[.int .i64 z, .slice A n0 c, .slice B m0 d, .slice C k0' e0], .agg #[.int .i64 z', .slice A' n0' c', .slice B' m0' d', .slice C' k0'' e0']] W' fun e w' => e = .returned (.bool (decide (cgG g = cgG g'))) ∧ Below W'.heap.size W' w' := fun W' hb a b => by
  obtain ⟨n, hMo⟩ := mono_of (hT1.trans a)
  obtain ⟨n', hMo'⟩ := mono_of (hT2.trans b)
  exact isomorphic_any W' n n' ((h.below bW).below hb) ok hMo (mono_gr (hT1.trans a)) ((h'.below bW).below hb) ok' hMo' (mono_gr (hT2.trans b))
 obtain ⟨D, hD⟩ : ∃ D, decide (cgG g = cgG g') = D := ⟨_, rfl⟩
 simp only [hD] at hF hyes
 obtain ⟨⟨c0, c1, c2, c3⟩, f0, f1, f2, f3⟩ := t_box4 k0
 obtain ⟨⟨d0, d1, d2, d3⟩, g0', g1, g2, g3⟩ := t_box4 k1
 clear h h' hz hz' hT1 hT2 ok ok' hM hD; have bW_h := lH bW; have k0_h := lH k0; have k1_h := lH k1; have hG_h := lH hG; have hF_h := lH hF; have hno_h := lH hno; have hyes_h := lH hyes; have hG'_h := lH hG'; clear bW k0 k1 hG hF hno hyes hG'
 go_enter Tryz.func15, Tryz.ntmps15
 go_upto_region 1 with (fail)
 rw [← hW]
 clear hW
 go_wp2_with (fail)
 refine (hG_h.out).mono ?_
 rintro e w1 ⟨rfl, hb1⟩
 have hB1 := below_trans bW_h.out hb1 bW_h.out.size
 cases T1
 case false =>
  have hM0 := hno_h.out rfl
  have hB1_h := lH hB1; have hM0_h := lH hM0; clear hB1 hM0
  go_wp2_with (fail)
  go_ret2
  exact ⟨by rw [hM0_h.out]; rfl, hB1_h.out⟩
 have k01 := t_box_below k0_h.out hb1
 have k11 := t_box_below k1_h.out hb1
 clear c0 c1 c2 c3 f0 f1 f2 f3 d0 d1 d2 d3 g0' g1 g2 g3
 obtain ⟨⟨c0, c1, c2, c3⟩, f0, f1, f2, f3⟩ := t_box4 k01
 obtain ⟨⟨d0, d1, d2, d3⟩, g0', g1, g2, g3⟩ := t_box4 k11
 have hB1_h := lH hB1; have k01_h := lH k01; have k11_h := lH k11; have hb1_h := lH hb1; clear hB1 k01 k11 hb1
 go_wp2_with (fail)
 refine (hG'_h.out w1 hb1_h.out).mono ?_
 rintro e w2 ⟨rfl, hb2⟩
 have hB2 := below_trans hB1_h.out hb2 hB1_h.out.size
 have hb12 := below_trans hb1_h.out hb2 hb1_h.out.size
 cases T2
 case false =>
  have hM0 := hno_h.out rfl
  have hB2_h := lH hB2; have hM0_h := lH hM0; clear hB2 hM0
  go_wp2_with (fail)
  go_ret2
  exact ⟨by rw [hM0_h.out]; rfl, hB2_h.out⟩
 have k02 := t_box_below k01_h.out hb2
 have k12 := t_box_below k11_h.out hb2
 have hM1 := hyes_h.out (by trivial) (by trivial)
 have hF2 := hF_h.out w2 hb12 (by trivial) (by trivial)
 clear c0 c1 c2 c3 f0 f1 f2 f3 d0 d1 d2 d3 g0' g1 g2 g3
 obtain ⟨⟨c0, c1, c2, c3⟩, f0, f1, f2, f3⟩ := t_box4 k02
 obtain ⟨⟨d0, d1, d2, d3⟩, g0', g1, g2, g3⟩ := t_box4 k12
 have hB2_h := lH hB2; have k02_h := lH k02; have k12_h := lH k12; have hM1_h := lH hM1; have hF2_h := lH hF2; clear hB2 k02 k12 hM1 hF2
 go_wp2_with (fail)
 refine (hF2_h.out).mono ?_
 rintro e w3 ⟨rfl, hb3⟩
 have hB3 := below_trans hB2_h.out hb3 hB2_h.out.size
 clear hb3; have hB3_h := lH hB3; clear hB3
 go_wp2_with (fail)
 go_ret2
 exact ⟨by rw [hM1_h.out]; rfl, hB3_h.out⟩
set_option maxRecDepth 100000 in
set_option maxHeartbeats 4000000 in
theorem sSameGraphs_law {v v' : Value} {g g' : Gr} {w : World} (h : RdGr w v g) (h' : RdGr w v' g') (ok : OkG g) (ok' : OkG g') :
  Calls Tryz.prog 14 #[v, v'] w fun e w' => e = .returned (.tuple #[.bool (sgR g g').1, .bool (sgR g g').2]) ∧ Below w.heap.size w w' := by
 obtain ⟨M, hM⟩ : ∃ M, sgR g g' = M := ⟨_, rfl⟩
 rw [hM]
 obtain ⟨T1, hT1⟩ : ∃ D, monoB g = D := ⟨_, rfl⟩
 obtain ⟨T2, hT2⟩ : ∃ D, monoB g' = D := ⟨_, rfl⟩
 have hno : (T1 && T2) = false → M = (false, false) := fun hh => hM.symm.trans (sgR_no (by rw [hT1, hT2]; exact hh))
 have hyes : T1 = true → T2 = true → M = (decide (cgG g = cgG g'), true) := fun a b => hM.symm.trans (sgR_yes (hT1.trans a) (hT2.trans b))
 obtain ⟨A, n0, c, B, m0, d, C, k0', e0, rfl⟩ := h.shape
 obtain ⟨A', n0', c', B', m0', d', C', k0'', e0', rfl⟩ := h'.shape
 obtain ⟨z, hz⟩ : ∃ z, z = g.1 := ⟨_, rfl⟩
 obtain ⟨z', hz'⟩ : ∃ z, z = g'.1 := ⟨_, rfl⟩
 rw [← hz] at h ⊢
 rw [← hz'] at h' ⊢
 obtain ⟨W, hW, bW, k0, k1⟩ := allocs2 w (.cells #[.int .i64 z, .slice A n0 c, .slice B m0 d, .slice C k0' e0] tGr) (.cells #[.int .i64 z', .slice A' n0' c', .slice B' m0' d', .slice C' k0'' e0'] tGr)
 have hG := mtTwo_any W (h.below bW) (h'.below bW) ok ok'
 rw [hT1, hT2] at hG
 have hF : ∀ (W' : World), Below W.heap.size W W' → T1 = true → T2 = true → Calls Tryz.prog 38 #[.agg #[.int .i64 z, .slice A n0 c, .slice B m0 d, .slice C k0' e0], .agg #[.int .i64 z', .slice A' n0' c', .slice B' m0' d', .slice C' k0'' e0']] W' fun e w' => e = .returned (.bool (decide (cgG g = cgG g'))) ∧ Below W'.heap.size W' w' := fun W' hb a b => by
  obtain ⟨n, hMo⟩ := mono_of (hT1.trans a)
  obtain ⟨n', hMo'⟩ := mono_of (hT2.trans b)
  exact cnSame_any W' n n' ((h.below bW).below hb) ok hMo (mono_gr (hT1.trans a)) ((h'.below bW).below hb) ok' hMo' (mono_gr (hT2.trans b))
 obtain ⟨D, hD⟩ : ∃ D, decide (cgG g = cgG g') = D := ⟨_, rfl⟩
 simp only [hD] at hF hyes
 obtain ⟨⟨c0, c1, c2, c3⟩, f0, f1, f2, f3⟩ := t_box4 k0
 obtain ⟨⟨d0, d1, d2, d3⟩, g0', g1, g2, g3⟩ := t_box4 k1
 clear h h' hz hz' hT1 hT2 ok ok' hM hD; have bW_h := lH bW; have k0_h := lH k0; have k1_h := lH k1; have hG_h := lH hG; have hF_h := lH hF; have hno_h := lH hno; have hyes_h := lH hyes; clear bW k0 k1 hG hF hno hyes
 go_enter Tryz.func14, Tryz.ntmps14
 go_upto_region 1 with (fail)
 rw [← hW]
 clear hW
 go_wp2_with (fail)
 refine (hG_h.out).mono ?_
 rintro e w2 ⟨rfl, hb12⟩
 have hB2 := below_trans bW_h.out hb12 bW_h.out.size
 by_cases hTT : (T1 && T2) = true
 case neg =>
  have hTf : (T1 && T2) = false := by simpa using hTT
  have hM0 := hno_h.out hTf
  rw [hTf]
  have hB2_h := lH hB2; have hM0_h := lH hM0; clear hB2 hM0
  go_wp2_with (fail)
  go_ret2
  exact ⟨by rw [hM0_h.out]; rfl, hB2_h.out⟩
 rw [hTT]
 rw [Bool.and_eq_true] at hTT
 obtain ⟨hTa, hTb⟩ := hTT
 subst hTa hTb
 have k02 := t_box_below k0_h.out hb12
 have k12 := t_box_below k1_h.out hb12
 have hM1 := hyes_h.out (by trivial) (by trivial)
 have hF2 := hF_h.out w2 hb12 (by trivial) (by trivial)
 clear c0 c1 c2 c3 f0 f1 f2 f3 d0 d1 d2 d3 g0' g1 g2 g3
 obtain ⟨⟨c0, c1, c2, c3⟩, f0, f1, f2, f3⟩ := t_box4 k02
 obtain ⟨⟨d0, d1, d2, d3⟩, g0', g1, g2, g3⟩ := t_box4 k12
 have hB2_h := lH hB2; have k02_h := lH k02; have k12_h := lH k12; have hM1_h := lH hM1; have hF2_h := lH hF2; clear hB2 k02 k12 hM1 hF2
 go_wp2_with (fail)
 refine (hF2_h.out).mono ?_
 rintro e w3 ⟨rfl, hb3⟩
 have hB3 := below_trans hB2_h.out hb3 hB2_h.out.size
 clear hb3; have hB3_h := lH hB3; clear hB3
 go_wp2_with (fail)
 go_ret2
 exact ⟨by rw [hM1_h.out]; rfl, hB3_h.out⟩
@[simp] theorem eh_length (l : List EHd) : (eh l).length = 2 * l.length := by
  induction l with
  | nil => rfl
  | cons a r ih => simp only [eh, List.length_cons, ih]; omega
section
variable {w w' : World} {fp : List Nat} {ls : List Hd}
theorem OwLs.wr (h : OwLs w fp ls) {i : Nat} {B : Option Addr} {c : Nat} {l l' : List Int} (hi : ls[i]? = some (B, c, l)) (hk : Keeps (· ∈ fpA B) w w') (hI : IS w' B c l') : OwLs w' fp (ls.set i (B, c, l')) := by
 have hap : ∀ (k : Nat) (x : Hd), ls[k]? = some x → i ≠ k → ∀ b, b ∈ fpA x.1 → ¬ b ∈ fpA B := fun k x hx hne b hb hb' => by
  have hp := List.pairwise_iff_getElem.1 h.apart
  obtain ⟨hi', ei⟩ := List.getElem?_eq_some_iff.1 hi
  obtain ⟨hk', ek⟩ := List.getElem?_eq_some_iff.1 hx
  rcases Nat.lt_or_gt_of_ne hne with hlt | hlt
  · exact hp i k hi' hk' hlt b (by rw [ei]; exact hb') (by rw [ek]; exact hb)
  · exact hp k i hk' hi' hlt b (by rw [ek]; exact hb) (by rw [ei]; exact hb')
 have hget : ∀ (k : Nat) (x : Hd), (ls.set i (B, c, l'))[k]? = some x → ∃ y : Hd, ls[k]? = some y ∧ y.1 = x.1 := by
  intro k x hx
  rw [List.getElem?_set] at hx
  split at hx
  · rename_i hk; subst hk
    simp at hx
    exact ⟨_, hi, by rw [← hx.2]⟩
  · exact ⟨x, hx, rfl⟩
 refine ⟨fun x hx => ?_, ?_, fun x hx => ?_⟩
 · obtain ⟨k, hkk⟩ := List.mem_iff_getElem?.1 hx
   rw [List.getElem?_set] at hkk
   split at hkk
   · simp at hkk
     rw [← hkk.2]
     exact hI
   · rename_i hik
     exact (h.rows x (List.mem_of_getElem? hkk)).keeps hk fun b hb hb' => hap k x hkk hik b hb hb'
 · refine List.pairwise_iff_getElem.2 fun a b ha hb hab => ?_
   obtain ⟨x, hx, ex⟩ := hget a _ (List.getElem?_eq_getElem ha)
   obtain ⟨y, hy, ey⟩ := hget b _ (List.getElem?_eq_getElem hb)
   rw [← ex, ← ey]
   obtain ⟨ha', e1⟩ := List.getElem?_eq_some_iff.1 hx
   obtain ⟨hb', e2⟩ := List.getElem?_eq_some_iff.1 hy
   rw [← e1, ← e2]
   exact List.pairwise_iff_getElem.1 h.apart a b ha' hb' hab
 · obtain ⟨k, hkk⟩ := List.mem_iff_getElem?.1 hx
   obtain ⟨y, hy, e⟩ := hget k x hkk
   rw [← e]; exact h.outer y (List.mem_of_getElem? hy)
end
@[simp] theorem marksE_length : ∀ (k : Nat) (L : List Eg), (marksE k L).length = L.length
  | _, [] => rfl
  | k, e :: r => by simp [marksE, marksE_length]
set_option maxRecDepth 100000 in
set_option maxHeartbeats 2000000 in
theorem eqGraph_law {v v' : Value} {g g' : Gr} {w : World} (h : RdGr w v g) (h' : RdGr w v' g') (ok : OkG g) :
  Calls Tryz.prog 11 #[v, v'] w fun e w' => e = .returned (.bool (decide (g = g'))) ∧ Below w.heap.size w w' := by
 obtain ⟨A, c, hs, ⟨B, b, s⟩, ⟨C, d, t⟩, rfl, e1, e2, e3, hE, hRa, hRb⟩ := h
 obtain ⟨A', c', hs', ⟨B', b', s'⟩, ⟨C', d', t'⟩, rfl, e1', e2', e3', hE', hRa', hRb'⟩ := h'
 obtain ⟨z, es, s0, t0⟩ := g
 obtain ⟨z', es', s0', t0'⟩ := g'
 have a1 : es = hs.map egOf := e1
 have a2 : s = s0 := e2
 have a3 : t = t0 := e3
 have b1 : es' = hs'.map egOf := e1'
 have b2 : s' = s0' := e2'
 have b3 : t' = t0' := e3'
 subst a1 a2 a3 b1 b2 b3
 obtain ⟨⟨ok1, ok2, ok3⟩, ok4, -⟩ := ok
 have ok1' : hs.length ≤ 1048576 := by have : (hs.map egOf).length ≤ 1048576 := ok1; simpa using this
 have ok2' : s.length ≤ 1048576 := ok2
 have ok3' : t.length ≤ 1048576 := ok3
 have hQ0 := fun (W : World) (hb : Below w.heap.size w W) => eqEdgeS_any A A' c c' hs hs' W (hE.below hb) (hE'.below hb) ok1' (fun x hx => ok4 _ (List.mem_map_of_mem hx))
 have hQ1 := fun (W : World) (hb : Below w.heap.size w W) => eqIntS_any B B' b b' s s' W (RdI.below hRa hb) (RdI.below hRa' hb) (by omega)
 have hQ2 := fun (W : World) (hb : Below w.heap.size w W) => eqIntS_any C C' d d' t t' W (RdI.below hRb hb) (RdI.below hRb' hb) (by omega)
 show Calls Tryz.prog _ #[.agg #[.int .i64 z, .slice A hs.length c, .slice B s.length b, .slice C t.length d], .agg #[.int .i64 z', .slice A' hs'.length c', .slice B' s'.length b', .slice C' t'.length d']] w fun e w' => e = .returned (.bool (decide (((z, hs.map egOf, s, t) : Gr) = (z', hs'.map egOf, s', t')))) ∧ Below w.heap.size w w'
 obtain ⟨D, hD⟩ : ∃ D, D = decide (((z, hs.map egOf, s, t) : Gr) = (z', hs'.map egOf, s', t')) := ⟨_, rfl⟩
 obtain ⟨D0, hD0⟩ : ∃ D, D = decide (hs.map egOf = hs'.map egOf) := ⟨_, rfl⟩
 obtain ⟨D1, hD1⟩ : ∃ D, D = decide (s = s') := ⟨_, rfl⟩
 obtain ⟨D2, hD2⟩ : ∃ D, D = decide (t = t') := ⟨_, rfl⟩
 rw [← hD]
 simp only [← hD0] at hQ0
 simp only [← hD1] at hQ1
 simp only [← hD2] at hQ2
 have hDD : D = (decide (z = z') && (D0 && (D1 && D2))) := by
  rw [hD, hD0, hD1, hD2, Bool.eq_iff_iff]; simp
 obtain ⟨n, hn⟩ : ∃ n, n = hs.length := ⟨_, rfl⟩
 obtain ⟨n', hn'⟩ : ∃ n, n = hs'.length := ⟨_, rfl⟩
 obtain ⟨p, hp⟩ : ∃ p, p = s.length := ⟨_, rfl⟩
 obtain ⟨q, hq⟩ : ∃ q, q = t.length := ⟨_, rfl⟩
 obtain ⟨p', hp'⟩ : ∃ p, p = s'.length := ⟨_, rfl⟩
 obtain ⟨q', hq'⟩ : ∃ q, q = t'.length := ⟨_, rfl⟩
 simp only [← hn, ← hn'] at hQ0
 simp only [← hp, ← hp'] at hQ1
 simp only [← hq, ← hq'] at hQ2
 rw [← hn, ← hn', ← hp, ← hq, ← hp', ← hq']
 obtain ⟨W, hW, bW, k0, k1⟩ := allocs2 w (.cells #[.int .i64 z, .slice A n c, .slice B p b, .slice C q d] tGr) (.cells #[.int .i64 z', .slice A' n' c', .slice B' p' b', .slice C' q' d'] tGr)
 obtain ⟨⟨c0, c1, c2, c3⟩, f0, f1, f2, f3⟩ := t_box4 k0
 obtain ⟨⟨d0, d1, d2, d3⟩, g0, g1, g2, g3⟩ := t_box4 k1
 clear hE hE' hRa hRa' hRb hRb' hD hD0 hD1 hD2 hn hn' hp hq hp' hq' e1 e2 e3 e1' e2' e3' ok1 ok2 ok3 ok4
 by_cases e0 : z = z'
 · have t0 : (z != z') = false := by simp [e0]
   rw [decide_eq_true e0] at hDD
   cases D0
   · obtain rfl : D = false := by rw [hDD]; rfl
     clear e0 hDD; have hQ0_h := lH hQ0; have hQ1_h := lH hQ1; have hQ2_h := lH hQ2; have k0_h := lH k0; have k1_h := lH k1; have bW_h := lH bW; clear hQ0 hQ1 hQ2 k0 k1 bW
     go_enter Tryz.func11, Tryz.ntmps11
     go_upto_region 1 with (fail)
     rw [← hW]
     clear hW
     go_wp2_with (fail)
     refine (hQ0_h.out W bW_h.out).mono ?_
     rintro e w1 ⟨rfl, hb1⟩
     go_wp2_with (fail)
     go_ret
     exact ⟨rfl, below_trans bW_h.out hb1 bW_h.out.size⟩
   · cases D1
     · obtain rfl : D = false := by rw [hDD]; rfl
       clear e0 hDD; have hQ0_h := lH hQ0; have hQ1_h := lH hQ1; have hQ2_h := lH hQ2; have k0_h := lH k0; have k1_h := lH k1; have bW_h := lH bW; clear hQ0 hQ1 hQ2 k0 k1 bW
       go_enter Tryz.func11, Tryz.ntmps11
       go_upto_region 1 with (fail)
       rw [← hW]
       clear hW
       go_wp2_with (fail)
       refine (hQ0_h.out W bW_h.out).mono ?_
       rintro e w1 ⟨rfl, hb1⟩
       clear c0 c1 c2 c3 f0 f1 f2 f3 d0 d1 d2 d3 g0 g1 g2 g3
       obtain ⟨⟨c0, c1, c2, c3⟩, f0, f1, f2, f3⟩ := t_box4 (t_box_below k0_h.out hb1)
       obtain ⟨⟨d0, d1, d2, d3⟩, g0, g1, g2, g3⟩ := t_box4 (t_box_below k1_h.out hb1)
       have hB1 := below_trans bW_h.out hb1 bW_h.out.size
       clear hb1; have hB1_h := lH hB1; clear hB1
       go_wp2_with (fail)
       refine (hQ1_h.out w1 hB1_h.out).mono ?_
       rintro e w2 ⟨rfl, hq2⟩
       have hB2 := below_trans hB1_h.out hq2.below hB1_h.out.size
       clear hq2; have hB2_h := lH hB2; clear hB2
       go_wp2_with (fail)
       go_ret
       exact ⟨rfl, hB2_h.out⟩
     · obtain rfl : D = D2 := by rw [hDD]; rfl
       clear e0 hDD; have hQ0_h := lH hQ0; have hQ1_h := lH hQ1; have hQ2_h := lH hQ2; have k0_h := lH k0; have k1_h := lH k1; have bW_h := lH bW; clear hQ0 hQ1 hQ2 k0 k1 bW
       go_enter Tryz.func11, Tryz.ntmps11
       go_upto_region 1 with (fail)
       rw [← hW]
       clear hW
       go_wp2_with (fail)
       refine (hQ0_h.out W bW_h.out).mono ?_
       rintro e w1 ⟨rfl, hb1⟩
       clear c0 c1 c2 c3 f0 f1 f2 f3 d0 d1 d2 d3 g0 g1 g2 g3
       have k0a := t_box_below k0_h.out hb1
       have k1a := t_box_below k1_h.out hb1
       obtain ⟨⟨c0, c1, c2, c3⟩, f0, f1, f2, f3⟩ := t_box4 k0a
       obtain ⟨⟨d0, d1, d2, d3⟩, g0, g1, g2, g3⟩ := t_box4 k1a
       have hB1 := below_trans bW_h.out hb1 bW_h.out.size
       clear hb1; have hB1_h := lH hB1; have k0a_h := lH k0a; have k1a_h := lH k1a; clear hB1 k0a k1a
       go_wp2_with (fail)
       refine (hQ1_h.out w1 hB1_h.out).mono ?_
       rintro e w2 ⟨rfl, hq2⟩
       clear c0 c1 c2 c3 f0 f1 f2 f3 d0 d1 d2 d3 g0 g1 g2 g3
       obtain ⟨⟨c0, c1, c2, c3⟩, f0, f1, f2, f3⟩ := t_box4 (box_qt k0a_h.out hq2)
       obtain ⟨⟨d0, d1, d2, d3⟩, g0, g1, g2, g3⟩ := t_box4 (box_qt k1a_h.out hq2)
       have hB2 := below_trans hB1_h.out hq2.below hB1_h.out.size
       clear hq2; have hB2_h := lH hB2; clear hB2
       go_wp2_with (fail)
       refine (hQ2_h.out w2 hB2_h.out).mono ?_
       rintro e w3 ⟨rfl, hq3⟩
       have hB3 := below_trans hB2_h.out hq3.below hB2_h.out.size
       clear hq3; have hB3_h := lH hB3; clear hB3
       cases D
       · go_wp2_with (fail)
         go_ret
         exact ⟨rfl, hB3_h.out⟩
       · go_wp2_with (fail)
         go_ret
         exact ⟨rfl, hB3_h.out⟩
 · have t0 : (z != z') = true := by simp [e0]
   obtain rfl : D = false := by rw [hDD, decide_eq_false e0]; rfl
   clear e0 hDD; have hQ0_h := lH hQ0; have hQ1_h := lH hQ1; have hQ2_h := lH hQ2; have k0_h := lH k0; have k1_h := lH k1; have bW_h := lH bW; clear hQ0 hQ1 hQ2 k0 k1 bW
   go_enter Tryz.func11, Tryz.ntmps11
   go_upto_region 1 with (fail)
   rw [← hW]
   clear hW
   go_wp2_with (fail)
   go_ret
   exact ⟨rfl, bW_h.out⟩
end Go.Proofs.YtjompikdkhhlgaaGreat
