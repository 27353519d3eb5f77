/-
  What the texts above it need, part 4.
-/
import Derived.Test.YtpkmjenoniedjaaGreatKSpiderGraph3
import Derived.Deep.LoopGhost
import Derived.Shelf.SlSortCmp.WholeK
namespace Go.Proofs.YtpkmjenoniedjaaGreat
open Go.RowKit
section
variable {W w w' : World} {n : Nat} {es : List Eg} {x1 x2 x3 : Value} {b : Nat} {Bf Bh : Addr} {mw me : Nat} {s : WE} {qd : Nat} {Q O : Option Addr} {qn qc on oc : Nat}
theorem KW.putE (h : KW W n es x1 x2 x3 b Bf Bh mw me s qd w Q qn qc O on oc) {x : Int} (hM : MI w' me (s.2 ++ [x])) (hk : Keeps (fun k => k = me) w w') :
  w'.heap[b]? = some (.cells #[.int .i64 (n : Int), x1, x2, x3, .slice (some Bf) n n, .slice (some Bh) n n, .map (some mw), .map (some me), .slice Q qn qc, .slice O on oc] tWk) ∧ IS w' O oc s.2 ∧
  ∀ (w1 : World) (O' : Option Addr) (c' : Nat), IS w1 O' c' (s.2 ++ [x]) → (∀ b, b ∈ fpA O' → b ∈ fpA O ∨ w'.heap.size ≤ b) → Keeps (· ∈ fpA O) w' w1 →
    w1.heap[b]? = some (.cells #[.int .i64 (n : Int), x1, x2, x3, .slice (some Bf) n n, .slice (some Bh) n n, .map (some mw), .map (some me), .slice Q qn qc, .slice O on oc] tWk) ∧
    KW W n es x1 x2 x3 b Bf Bh mw me (s.1, s.2 ++ [x]) qd (w1.setCell ⟨b, 9, none⟩ (.slice O' (on + 1) c')) Q qn qc O' (on + 1) c' ∧ StepK b mw me w Q O (w1.setCell ⟨b, 9, none⟩ (.slice O' (on + 1) c')) Q O' := by
 obtain ⟨s1, s2, s3, s4⟩ := h.sep
 have hb1 := t_box_keeps h.box hk (fun e => s2 e.symm)
 have hq1 := h.que.keeps hk fun x hx e => (s3 x hx).2.2 e
 have ho1 := h.ord.keeps hk fun x hx e => (s4 x hx).2.2 e
 have hf1 := h.bef.keeps hk fun x hx e => h.off.1 (.inr (.inr (.inl ((by simpa using hx : x = Bf.block).symm.trans e))))
 have hh1 := h.beh.keeps hk fun x hx e => h.off.2 (.inr (.inr (.inl ((by simpa using hx : x = Bh.block).symm.trans e))))
 have hw1 := h.wir.keeps hk (fun e => h.mne e)
 refine ⟨hb1, ho1, fun w1 O' c' hI hO hk1 => ?_⟩
 have hz := hk.size
 have hb2 := t_box_keeps hb1 hk1 (fun hx => (s4 _ hx).1 rfl)
 obtain ⟨t1, t2⟩ := set10_9 (x := .slice O' (on + 1) c') hb2
 have hOn : ∀ x, x ∈ fpA O' → x ∈ fpA O ∨ w.heap.size ≤ x := fun x hx => (hO x hx).imp id fun h1 => Nat.le_trans hz h1
 have hltQ : ∀ x, x ∈ fpA Q → x < w.heap.size := fun x hx => h.que.lt x hx
 have hown : ∀ x, OwnK b mw me Q O' x → OwnK b mw me Q O x ∨ w.heap.size ≤ x := fun x hx => by
  rcases hx with hx | hx | hx | hx | hx
  · exact .inl (.inl hx)
  · exact .inl (.inr (.inl hx))
  · exact .inl (.inr (.inr (.inl hx)))
  · exact .inl (.inr (.inr (.inr (.inl hx))))
  · exact (hOn x hx).imp (fun h1 => .inr (.inr (.inr (.inr h1)))) id
 have hK : Keeps (OwnK b mw me Q O) w (w1.setCell ⟨b, 9, none⟩ (.slice O' (on + 1) c')) := ((hk.mono (T := OwnK b mw me Q O) fun x _ e => .inr (.inr (.inl e))).trans (hk1.mono fun x _ e => .inr (.inr (.inr (.inr e))))).trans (t2.mono fun x _ e => .inl e)
 have hbf := h.bef.lt Bf.block (by simp)
 have hbh := h.beh.lt Bh.block (by simp)
 have hO0 : ∀ x, x ∈ fpA O' → x ≠ b := fun x hx e => by
  rcases hOn x hx with h1 | h1
  · exact (s4 x h1).1 e
  · have := t_box_lt h.box; omega
 have hnotO : ∀ x, ¬ OwnK b mw me Q O x → ¬ x ∈ fpA O ∧ ¬ x = b := fun x hx => ⟨fun e => hx (.inr (.inr (.inr (.inr e)))), fun e => hx (.inl e)⟩
 have hbfe : ∀ x, x ∈ fpA (some Bf) → x = Bf.block := fun x hx => by simpa using hx
 have hbhe : ∀ x, x ∈ fpA (some Bh) → x = Bh.block := fun x hx => by simpa using hx
 have hMk := (hM.keeps hk1 fun hx => (s4 _ hx).2.2 rfl).keeps t2 s2
 refine ⟨hb2, ⟨t1, (hf1.keeps hk1 fun x hx e => ?_).keeps t2 fun x hx e => ?_, (hh1.keeps hk1 fun x hx e => ?_).keeps t2 fun x hx e => ?_, (hw1.keeps hk1 fun hx => (s4 _ hx).2.1 rfl).keeps t2 s1, hMk, (hq1.keeps hk1 fun x hx e => h.qo x hx e).keeps t2 fun x hx e => (s3 x hx).1 e, ?_, h.qln, ?_, h.qle, fun x hx => ?_, h.bfn, ⟨fun hx => ?_, fun hx => ?_⟩, fun x hx hO => ?_, h.mne, ?_⟩, hK, hown⟩
 · rw [hbfe x hx] at e; exact (hnotO _ h.off.1).1 e
 · rw [hbfe x hx] at e; exact (hnotO _ h.off.1).2 e
 · rw [hbhe x hx] at e; exact (hnotO _ h.off.2).1 e
 · rw [hbhe x hx] at e; exact (hnotO _ h.off.2).2 e
 · exact hI.keeps t2 fun x hx e => hO0 x hx e
 · show (s.2 ++ [x]).length = _
   rw [List.length_append, h.oln]
   rfl
 · rcases hown x hx with h1 | h1
   · exact h.new x h1
   · have := h.bel.size; omega
 · rcases hown _ hx with h1 | h1
   · exact h.off.1 h1
   · omega
 · rcases hown _ hx with h1 | h1
   · exact h.off.2 h1
   · omega
 · rcases hOn x hO with h1 | h1
   · exact h.qo x hx h1
   · have := hltQ x hx; omega
 · exact below_keeps h.bel hK h.bel.size h.new
end
theorem StepK.pre {b mw me : Nat} {w w1 w' : World} {Q O Q' O' : Option Addr} (hb : Below w.heap.size w w1) (h : StepK b mw me w1 Q O w' Q' O') : StepK b mw me w Q O w' Q' O' :=
 ⟨(Keeps.of_below hb _).trans h.1, fun x hx => (h.2 x hx).imp id fun h1 => Nat.le_trans hb.size h1⟩
def PostK (W : World) (n : Nat) (es : List Eg) (x1 x2 x3 : Value) (b : Nat) (Bf Bh : Addr) (mw me : Nat) (s' : WE) (qd : Nat) (w : World) (Q O : Option Addr) (e : Ending) (w' : World) : Prop :=
 e = .returned (.tuple #[]) ∧ ∃ (Q' : Option Addr) (qn' qc' : Nat) (O' : Option Addr) (on' oc' : Nat), KW W n es x1 x2 x3 b Bf Bh mw me s' qd w' Q' qn' qc' O' on' oc' ∧ StepK b mw me w Q O w' Q' O'
set_option maxRecDepth 100000 in
set_option maxHeartbeats 8000000 in
theorem edge_any {W : World} {g : Gr} {n m c : Nat} {hs : List EHd} {A : Option Addr} {x2 x3 : Value} {b : Nat} {Bf Bh : Addr} {mw me : Nat} {s : WE} {qd : Nat} {Q O : Option Addr} {qn qc on oc : Nat} (e : Int) (w : World)
  (h : KW W n g.2.1 (.slice A m c) x2 x3 b Bf Bh mw me s qd w Q qn qc O on oc) (hE : RdE W A hs) (e1 : g.2.1 = hs.map egOf) (hm : hs.length = m) (hMo : Mono g n) (hs0 : WInv g n s) (he : e < (m : Int)) :
  Calls Tryz.prog 86 #[.pointer (some ⟨b, 0, none⟩), .int .i64 e] w (PostK W n g.2.1 (.slice A m c) x2 x3 b Bf Bh mw me (stepE g s e) qd w Q O) := by
 have hn100 := hMo.n100
 have hm60 : m ≤ 60 := by have := hMo.m60; rw [e1, List.length_map, hm] at this; exact this
 have hle := hs0.le
 obtain ⟨⟨c0, c1, c2, c3, c4, c5, c6, c7, c8, c9⟩, f8, f9⟩ := box10 h.box
 by_cases hneg : e < 0
 · have hst : stepE g s e = s := by unfold stepE; rw [if_pos (.inl hneg)]
   rw [hst]
   have h_h := lH h; have hE_h := lH hE; have e1_h := lH e1; have hm_h := lH hm; have hMo_h := lH hMo; have hs0_h := lH hs0; have hle_h := lH hle; have hst_h := lH hst; clear h hE e1 hm hMo hs0 hle hst
   go_enter Tryz.func86, Tryz.ntmps86
   go_wp2_with (fail)
   go_end0
   exact ⟨rfl, Q, qn, qc, O, on, oc, h_h.out, StepK.refl _ _ _ _ _ _⟩
 · have hwf : (Lit.int .i64 e).wf = true := WalkArith.wf_i64 (by omega)
   have hMI := h.edg
   have hnd := hs0.nd2
   by_cases hmem : e ∈ s.2
   · have hst : stepE g s e = s := by unfold stepE; rw [if_pos (.inr hmem)]
     rw [hst]
     have h_h := lH h; have hE_h := lH hE; have e1_h := lH e1; have hm_h := lH hm; have hMo_h := lH hMo; have hs0_h := lH hs0; have hle_h := lH hle; have hst_h := lH hst; have hMI_h := lH hMI; have hnd_h := lH hnd; have hmem_h := lH hmem; clear h hE e1 hm hMo hs0 hle hst hMI hnd hmem
     go_enter Tryz.func86, Tryz.ntmps86
     go_wp2_with (at_lookup; refine wp_mi_ok rfl _ _ rfl rfl hMI_h.out hnd_h.out e rfl hwf true (decide_eq_true hmem_h.out) ?_)
     go_end0
     exact ⟨rfl, Q, qn, qc, O, on, oc, h_h.out, StepK.refl _ _ _ _ _ _⟩
   · have hst : stepE g s e = (giveL s.1 (wiresE (edgeAt g e)), s.2 ++ [e]) := by unfold stepE; rw [if_neg (fun x => x.elim hneg hmem)]
     obtain ⟨ee, rfl⟩ : ∃ ee : Nat, e = (ee : Int) := ⟨e.toNat, by omega⟩
     have hee : ee < m := by omega
     have hon : on ≤ m := by rw [← h.oln, ← hm]; have := hle.2; rw [e1, List.length_map] at this; exact this
     have hwl := hMo.wires (e := (ee : Int)) (by omega) (by rw [e1, List.length_map, hm]; exact he)
     obtain ⟨q, hq⟩ : ∃ q, s.2.length = q := ⟨_, rfl⟩
     have hq60 : q ≤ 60 := by have := hle.2; rw [e1, List.length_map, hm, hq] at this; omega
     rw [hst]
     have h_h := lH h; have hE_h := lH hE; have e1_h := lH e1; have hm_h := lH hm; have hMo_h := lH hMo; have hs0_h := lH hs0; have hle_h := lH hle; have hst_h := lH hst; have hMI_h := lH hMI; have hnd_h := lH hnd; have hmem_h := lH hmem; have hq_h := lH hq; have hwl_h := lH hwl; clear h hE e1 hm hMo hs0 hle hst hMI hnd hmem hq hwl
     go_enter Tryz.func86, Tryz.ntmps86
     go_wp2_with (at_lookup; refine wp_mi_ok rfl _ _ rfl rfl hMI_h.out hnd_h.out (ee : Int) rfl hwf false (decide_eq_false hmem_h.out) ?_)
     refine beginZw 10 (fun w' => w'.heap[b]? = some (.cells #[.int .i64 (n : Int), .slice A m c, x2, x3, .slice (some Bf) n n, .slice (some Bh) n n, .map (some mw), .map (some me), .slice Q qn qc, .slice O on oc] tWk) ∧ MI w' me s.2) (by kernel_rfl) (fun W1 hW1 => ?_)
     have hbd : Below w.heap.size w W1 := by rw [hW1]; exact below_drewN (Below.refl _ _) 1
     have h1 := h_h.out.below hbd
     clear hW1 c0 c1 c2 c3 c4 c5 c6 c7 c8 c9 f8 f9; have h1_h := lH h1; have hbd_h := lH hbd; clear h1 hbd
     refine tkC 0 ?_ rfl (⟨h1_h.out.box, h1_h.out.edg⟩ : _ ∧ _) (fun W' hW' => ?_) ?_; rotate_left; · (obtain ⟨⟨c0, c1, c2, c3, c4, c5, c6, c7, c8, c9⟩, f8, f9⟩ := box10 hW'.1; have hlen := fun ty => hW'.2.len hnd_h.out ty; rw [hq_h.out] at hlen; clear hW'; go_simp; first | done | with_reducible rfl)
     simp only [Act.put, nS]
     refine tkC 1 ?_ rfl (⟨h1_h.out.box, h1_h.out.edg⟩ : _ ∧ _) (fun W' hW' => ?_) ?_; rotate_left; · (obtain ⟨⟨c0, c1, c2, c3, c4, c5, c6, c7, c8, c9⟩, f8, f9⟩ := box10 hW'.1; have hlen := fun ty => hW'.2.len hnd_h.out ty; rw [hq_h.out] at hlen; clear hW'; go_simp; first | done | with_reducible rfl)
     simp only [Act.put, nS]
     refine tkC 2 ?_ rfl (⟨h1_h.out.box, h1_h.out.edg⟩ : _ ∧ _) (fun W' hW' => ?_) ?_; rotate_left; · (obtain ⟨⟨c0, c1, c2, c3, c4, c5, c6, c7, c8, c9⟩, f8, f9⟩ := box10 hW'.1; have hlen := fun ty => hW'.2.len hnd_h.out ty; rw [hq_h.out] at hlen; clear hW'; go_simp; first | done | with_reducible rfl)
     simp only [Act.put, nS]
     refine tkC 3 ?_ rfl (⟨h1_h.out.box, h1_h.out.edg⟩ : _ ∧ _) (fun W' hW' => ?_) ?_; rotate_left; · (obtain ⟨⟨c0, c1, c2, c3, c4, c5, c6, c7, c8, c9⟩, f8, f9⟩ := box10 hW'.1; have hlen := fun ty => hW'.2.len hnd_h.out ty; rw [hq_h.out] at hlen; clear hW'; go_simp; first | done | with_reducible rfl)
     simp only [Act.put, nS]
     refine tkC 4 ?_ rfl (⟨h1_h.out.box, h1_h.out.edg⟩ : _ ∧ _) (fun W' hW' => ?_) ?_; rotate_left; · (obtain ⟨⟨c0, c1, c2, c3, c4, c5, c6, c7, c8, c9⟩, f8, f9⟩ := box10 hW'.1; have hlen := fun ty => hW'.2.len hnd_h.out ty; rw [hq_h.out] at hlen; clear hW'; go_simp; first | done | with_reducible rfl)
     simp only [Act.put, nS]
     refine tkC 5 ?_ rfl (⟨h1_h.out.box, h1_h.out.edg⟩ : _ ∧ _) (fun W' hW' => ?_) ?_; rotate_left; · (obtain ⟨⟨c0, c1, c2, c3, c4, c5, c6, c7, c8, c9⟩, f8, f9⟩ := box10 hW'.1; have hlen := fun ty => hW'.2.len hnd_h.out ty; rw [hq_h.out] at hlen; clear hW'; go_simp; first | done | with_reducible rfl)
     simp only [Act.put, nS]
     refine tkC 6 ?_ rfl (⟨h1_h.out.box, h1_h.out.edg⟩ : _ ∧ _) (fun W' hW' => ?_) ?_; rotate_left; · (obtain ⟨⟨c0, c1, c2, c3, c4, c5, c6, c7, c8, c9⟩, f8, f9⟩ := box10 hW'.1; have hlen := fun ty => hW'.2.len hnd_h.out ty; rw [hq_h.out] at hlen; clear hW'; go_simp; first | done | with_reducible rfl)
     simp only [Act.put, nS]
     refine tkC 7 ?_ rfl (⟨h1_h.out.box, h1_h.out.edg⟩ : _ ∧ _) (fun W' hW' => ?_) ?_; rotate_left; · (obtain ⟨⟨c0, c1, c2, c3, c4, c5, c6, c7, c8, c9⟩, f8, f9⟩ := box10 hW'.1; have hlen := fun ty => hW'.2.len hnd_h.out ty; rw [hq_h.out] at hlen; clear hW'; go_simp; first | done | with_reducible rfl)
     simp only [Act.put, nS]
     refine tkC 8 ?_ rfl (⟨h1_h.out.box, h1_h.out.edg⟩ : _ ∧ _) (fun W' hW' => ?_) ?_; rotate_left; · (obtain ⟨⟨c0, c1, c2, c3, c4, c5, c6, c7, c8, c9⟩, f8, f9⟩ := box10 hW'.1; have hlen := fun ty => hW'.2.len hnd_h.out ty; rw [hq_h.out] at hlen; clear hW'; go_simp; first | done | with_reducible rfl)
     simp only [Act.put, nS]
     refine tkC 9 ?_ rfl (⟨h1_h.out.box, h1_h.out.edg⟩ : _ ∧ _) (fun W' hW' => ?_) ?_; rotate_left; · (obtain ⟨⟨c0, c1, c2, c3, c4, c5, c6, c7, c8, c9⟩, f8, f9⟩ := box10 hW'.1; have hlen := fun ty => hW'.2.len hnd_h.out ty; rw [hq_h.out] at hlen; clear hW'; go_simp; first | done | with_reducible rfl)
     simp only [Act.put, nS]
     obtain ⟨w2, hrun, hM2, hk2⟩ := h1_h.out.edg.put (y := (ee : Int)) (q := (q : Int)) (by rw [hq_h.out]; unfold maxLen; omega) hwf (by rw [hq_h.out])
     obtain ⟨hb2, hq2, hfin⟩ := h1_h.out.putE hM2 hk2
     have hsl : Sl (w2.alloc (.cells #[.int .i64 (ee : Int)] tInt)) tInt 1 O on oc (ints s.2) := by
      have := hq2
      unfold IS at this
      rw [h1_h.out.oln] at this
      exact this.alloc _
     have hbx3 := t_box_below hb2 (t_below_alloc w2 (.cells #[.int .i64 (ee : Int)] tInt))
     clear hM2 hq2; have hk2_h := lH hk2; have hb2_h := lH hb2; have hfin_h := lH hfin; have hsl_h := lH hsl; have hbx3_h := lH hbx3; clear hk2 hb2 hfin hsl hbx3
     refine oneZ 10 rfl (by kernel_rfl) (by rfl) (fun K hK => ?_)
     go_simp
     refine hK _ _ (fun h => by cases h) ?_
     clear hK K hrun
     refine doneZ (by kernel_rfl) ?_
     obtain ⟨⟨c0, c1, c2, c3, c4, c5, c6, c7, c8, c9⟩, f8, f9⟩ := box10 hb2_h.out
     obtain ⟨⟨y0, y1, y2, y3, y4, y5, y6, y7, y8, y9⟩, g8, g9⟩ := box10 hbx3_h.out
     go_upto_region 5 with (at_builtin; refine wpList_append_Sl _ rfl _ _ _ rfl 3 Tryz.underlying23 info_int rfl (by omega) rfl hsl_h.out rfl (news := [.int .i64 (ee : Int)]) rfl (Sl.rdc (Sl.laid w2 3 1 1 #[.int .i64 (ee : Int)] (by unfold maxLen; omega) rfl)) (by intro u hu; simp at hu; subst hu; rfl) (by unfold maxLen; omega) (by omega) ?_; intro A5 cap5 w3 hs3 hA3 hk3; have hI3 : IS w3 A5 cap5 (s.2 ++ [(ee : Int)]) := (by unfold IS; rw [List.length_append, h_h.out.oln, show ints (s.2 ++ [(ee : Int)]) = ints s.2 ++ [.int .i64 (ee : Int)] by simp [ints]]; exact hs3); obtain ⟨hb3, hKW, hSt⟩ := hfin_h.out _ _ _ hI3 (fun b hb => (hA3 b hb).imp id fun h => Nat.le_trans (t_below_alloc w2 (.cells #[.int .i64 (ee : Int)] tInt)).size h) (((Keeps.refl _ w2).alloc _).trans hk3); clear hs3 hA3 hk3 hI3 c0 c1 c2 c3 c4 c5 c6 c7 c8 c9 f8 f9 y0 y1 y2 y3 y4 y5 y6 y7 y8 y9 g8 g9; obtain ⟨⟨z0, z1, z2, z3, z4, z5, z6, z7, z8, z9⟩, e8, e9⟩ := box10 hb3; have hKW_h := lH hKW; have hSt_h := lH hSt; clear hKW hSt hb3)
     generalize (w3.setCell ⟨b, 9, none⟩ (.slice A5 (on + 1) cap5)) = w4 at hKW_h hSt_h ⊢
     clear z0 z1 z2 z3 z4 z5 z6 z7 z8 z9 e8 e9 hfin_h hsl_h hbx3_h hb2_h hk2_h h1_h
     have hB4 := hKW_h.out.bel
     obtain ⟨ad, κ, vl, B1, b1, l1, C1, b2, l2, hae, hn1, ⟨d0, d1, d2, d3⟩, hr1, hr2⟩ := (hE_h.out.below hB4).at_ (j := ee) (by rw [hm_h.out]; exact hee)
     subst hae
     have hed : edgeAt g (ee : Int) = (κ, vl, l1, l2) := by
      unfold edgeAt
      rw [Int.toNat_natCast, List.getD_eq_getElem?_getD, e1_h.out, List.getElem?_map, hn1]
      rfl
     obtain ⟨⟨g1, g2⟩, _⟩ := egB_len (hMo_h.out.kind (κ, vl, l1, l2) (by rw [e1_h.out]; exact List.mem_map.2 ⟨_, List.mem_of_getElem? hn1, rfl⟩))
     simp only at g1 g2
     have hwl' := hwl_h.out
     rw [hed] at hwl'
     obtain ⟨l, hl⟩ : ∃ l, l = l1 ++ l2 := ⟨_, rfl⟩
     have hwr : ∀ x, x ∈ l → 0 ≤ x ∧ x < (n : Int) := fun x hx => hwl' x (by rw [hl] at hx; exact hx)
     have hwe : wiresE (edgeAt g (ee : Int)) = l := by rw [hed, hl]; rfl
     obtain ⟨p, hp⟩ : ∃ p, l.length = p := ⟨_, rfl⟩
     have hp4 : p ≤ 4 := by rw [← hp, hl, List.length_append]; omega
     obtain ⟨p1, hp1⟩ : ∃ p1, l1.length = p1 := ⟨_, rfl⟩
     obtain ⟨p2, hp2⟩ : ∃ p2, l2.length = p2 := ⟨_, rfl⟩
     have hbd4 : Below w4.heap.size w4 w4.drew := below_drewN (Below.refl _ _) 1
     have hkw5 := hKW_h.out.below hbd4
     have r1 := hr1.below hbd4
     have r2 := hr2.below hbd4
     have u2 := (hbd4.cell (World.block_lt_of_cell? _ _ d2)).trans d2
     have u3 := (hbd4.cell (World.block_lt_of_cell? _ _ d3)).trans d3
     rw [hp1] at u2
     rw [hp2] at u3
     refine beginH (fun w' => Below w4.drew.heap.size w4.drew w') (by kernel_rfl) ?_
     have hSt5 := hSt_h.out.below hbd4
     generalize w4.drew = w5 at hkw5 r1 r2 u2 u3 hSt5 ⊢
     have hJ0 := joined_any (some ⟨w5.heap.size, 0, none⟩) 2 [(B1, b1, l1), (C1, b2, l2)] (w5.alloc (.cells #[.slice B1 l1.length b1, .slice C1 l2.length b2] 23)) (rd2 r1 r2) (by simp) (by simp; omega)
     rw [show (([(B1, b1, l1), (C1, b2, l2)] : List Hd).map fun h : Hd => h.2.2).flatten = l by rw [hl]; simp, hp1, hp2] at hJ0
     have hJ : Calls Tryz.prog 52 #[.slice (some ⟨w5.heap.size, 0, none⟩) 2 2] (w5.alloc (.cells #[.slice B1 p1 b1, .slice C1 p2 b2] 23)) (RetI (w5.alloc (.cells #[.slice B1 p1 b1, .slice C1 p2 b2] 23)) l) := hJ0
     unfold RetI at hJ
     rw [hp] at hJ
     have heI : (ee : Int) < (m : Int) := by omega
     have k5 := hkw5.box
     have hgd := fun k => giveL_nodup (l := l.take k) hs0_h.out.nd1
     have hgr : ∀ k y, y ∈ giveL s.1 (l.take k) → 0 ≤ y ∧ y < (n : Int) := fun k y hy => by
      rcases mem_giveL.1 hy with hy | hy
      · exact hs0_h.out.rg1 y hy
      · exact hwr y (List.mem_of_mem_take hy)
     clear hJ0 d0 d1 d2 d3 hwl' hr1 hr2 r1 r2 hn1 hbd4 hKW_h hSt_h hB4 hed; have hJ_h := lH hJ; have hkw5_h := lH hkw5; have hwr_h := lH hwr; have hwe_h := lH hwe; have hp_h := lH hp; have hp1_h := lH hp1; have hp2_h := lH hp2; have hl_h := lH hl; have u2_h := lH u2; have u3_h := lH u3; have k5_h := lH k5; have hgd_h := lH hgd; have hgr_h := lH hgr; have hSt5_h := lH hSt5; clear hJ hkw5 hwr hwe hp hp1 hp2 hl u2 u3 k5 hgd hgr hSt5
     refine tkH 0 ?_ rfl (Below.refl _ _) (fun W' hW' => ?_) ?_; rotate_left; · (obtain ⟨⟨c0, c1, c2, c3, c4, c5, c6, c7, c8, c9⟩, f8, f9⟩ := box10 (t_box_below k5_h.out hW'); have u4 := (hW'.cell (World.block_lt_of_cell? _ _ u2_h.out)).trans u2_h.out; have u5 := (hW'.cell (World.block_lt_of_cell? _ _ u3_h.out)).trans u3_h.out; clear hW'; go_simp; first | done | with_reducible rfl)
     simp only [Act.put, nS]
     refine tkH 1 ?_ rfl (Below.refl _ _) (fun W' hW' => ?_) ?_; rotate_left; · (obtain ⟨⟨c0, c1, c2, c3, c4, c5, c6, c7, c8, c9⟩, f8, f9⟩ := box10 (t_box_below k5_h.out hW'); have u4 := (hW'.cell (World.block_lt_of_cell? _ _ u2_h.out)).trans u2_h.out; have u5 := (hW'.cell (World.block_lt_of_cell? _ _ u3_h.out)).trans u3_h.out; clear hW'; go_simp; first | done | with_reducible rfl)
     simp only [Act.put, nS]
     refine tkH 2 ?_ rfl (Below.refl _ _) (fun W' hW' => ?_) ?_; rotate_left; · (obtain ⟨⟨c0, c1, c2, c3, c4, c5, c6, c7, c8, c9⟩, f8, f9⟩ := box10 (t_box_below k5_h.out hW'); have u4 := (hW'.cell (World.block_lt_of_cell? _ _ u2_h.out)).trans u2_h.out; have u5 := (hW'.cell (World.block_lt_of_cell? _ _ u3_h.out)).trans u3_h.out; clear hW'; go_simp; first | done | with_reducible rfl)
     simp only [Act.put, nS]
     refine tkH 3 ?_ rfl (Below.refl _ _) (fun W' hW' => ?_) ?_; rotate_left; · (obtain ⟨⟨c0, c1, c2, c3, c4, c5, c6, c7, c8, c9⟩, f8, f9⟩ := box10 (t_box_below k5_h.out hW'); have u4 := (hW'.cell (World.block_lt_of_cell? _ _ u2_h.out)).trans u2_h.out; have u5 := (hW'.cell (World.block_lt_of_cell? _ _ u3_h.out)).trans u3_h.out; clear hW'; go_simp; first | done | with_reducible rfl)
     simp only [Act.put, nS]
     refine tkH 4 ?_ rfl (Below.refl _ _) (fun W' hW' => ?_) ?_; rotate_left; · (obtain ⟨⟨c0, c1, c2, c3, c4, c5, c6, c7, c8, c9⟩, f8, f9⟩ := box10 (t_box_below k5_h.out hW'); have u4 := (hW'.cell (World.block_lt_of_cell? _ _ u2_h.out)).trans u2_h.out; have u5 := (hW'.cell (World.block_lt_of_cell? _ _ u3_h.out)).trans u3_h.out; clear hW'; go_simp; first | done | with_reducible rfl)
     simp only [Act.put, nS]
     refine tkH 5 ?_ rfl (Below.refl _ _) (fun W' hW' => ?_) ?_; rotate_left; · (obtain ⟨⟨c0, c1, c2, c3, c4, c5, c6, c7, c8, c9⟩, f8, f9⟩ := box10 (t_box_below k5_h.out hW'); have u4 := (hW'.cell (World.block_lt_of_cell? _ _ u2_h.out)).trans u2_h.out; have u5 := (hW'.cell (World.block_lt_of_cell? _ _ u3_h.out)).trans u3_h.out; clear hW'; go_simp; first | done | with_reducible rfl)
     simp only [Act.put, nS]
     refine tkH 6 ?_ rfl (Below.refl _ _) (fun W' hW' => ?_) ?_; rotate_left; · (obtain ⟨⟨c0, c1, c2, c3, c4, c5, c6, c7, c8, c9⟩, f8, f9⟩ := box10 (t_box_below k5_h.out hW'); have u4 := (hW'.cell (World.block_lt_of_cell? _ _ u2_h.out)).trans u2_h.out; have u5 := (hW'.cell (World.block_lt_of_cell? _ _ u3_h.out)).trans u3_h.out; clear hW'; go_simp; first | done | with_reducible rfl)
     simp only [Act.put, nS]
     refine tkH 7 ?_ rfl (Below.refl _ _) (fun W' hW' => ?_) ?_; rotate_left; · (obtain ⟨⟨c0, c1, c2, c3, c4, c5, c6, c7, c8, c9⟩, f8, f9⟩ := box10 (t_box_below k5_h.out hW'); have u4 := (hW'.cell (World.block_lt_of_cell? _ _ u2_h.out)).trans u2_h.out; have u5 := (hW'.cell (World.block_lt_of_cell? _ _ u3_h.out)).trans u3_h.out; clear hW'; go_simp; first | done | with_reducible rfl)
     simp only [Act.put, nS]
     refine tkH 8 ?_ rfl (Below.refl _ _) (fun W' hW' => ?_) ?_; rotate_left; · (obtain ⟨⟨c0, c1, c2, c3, c4, c5, c6, c7, c8, c9⟩, f8, f9⟩ := box10 (t_box_below k5_h.out hW'); have u4 := (hW'.cell (World.block_lt_of_cell? _ _ u2_h.out)).trans u2_h.out; have u5 := (hW'.cell (World.block_lt_of_cell? _ _ u3_h.out)).trans u3_h.out; clear hW'; go_simp; first | done | with_reducible rfl)
     simp only [Act.put, nS]
     refine tkH 9 ?_ rfl (Below.refl _ _) (fun W' hW' => ?_) ?_; rotate_left; · (obtain ⟨⟨c0, c1, c2, c3, c4, c5, c6, c7, c8, c9⟩, f8, f9⟩ := box10 (t_box_below k5_h.out hW'); have u4 := (hW'.cell (World.block_lt_of_cell? _ _ u2_h.out)).trans u2_h.out; have u5 := (hW'.cell (World.block_lt_of_cell? _ _ u3_h.out)).trans u3_h.out; clear hW'; go_simp; first | done | with_reducible rfl)
     simp only [Act.put, nS]
     refine tkH 10 ?_ rfl (Below.refl _ _) (fun W' hW' => ?_) ?_; rotate_left; · (obtain ⟨⟨c0, c1, c2, c3, c4, c5, c6, c7, c8, c9⟩, f8, f9⟩ := box10 (t_box_below k5_h.out hW'); have u4 := (hW'.cell (World.block_lt_of_cell? _ _ u2_h.out)).trans u2_h.out; have u5 := (hW'.cell (World.block_lt_of_cell? _ _ u3_h.out)).trans u3_h.out; clear hW'; go_simp; first | done | with_reducible rfl)
     simp only [Act.put, nS]
     refine tkH 11 ?_ rfl (Below.refl _ _) (fun W' hW' => ?_) ?_; rotate_left; · (obtain ⟨⟨c0, c1, c2, c3, c4, c5, c6, c7, c8, c9⟩, f8, f9⟩ := box10 (t_box_below k5_h.out hW'); have u4 := (hW'.cell (World.block_lt_of_cell? _ _ u2_h.out)).trans u2_h.out; have u5 := (hW'.cell (World.block_lt_of_cell? _ _ u3_h.out)).trans u3_h.out; clear hW'; go_simp; first | done | with_reducible rfl)
     simp only [Act.put, nS]
     refine tkH 12 ?_ rfl (Below.refl _ _) (fun W' hW' => ?_) ?_; rotate_left; · (obtain ⟨⟨c0, c1, c2, c3, c4, c5, c6, c7, c8, c9⟩, f8, f9⟩ := box10 (t_box_below k5_h.out hW'); have u4 := (hW'.cell (World.block_lt_of_cell? _ _ u2_h.out)).trans u2_h.out; have u5 := (hW'.cell (World.block_lt_of_cell? _ _ u3_h.out)).trans u3_h.out; clear hW'; go_simp; first | done | with_reducible rfl)
     simp only [Act.put, nS]
     refine tkH 13 ?_ rfl (Below.refl _ _) (fun W' hW' => ?_) ?_; rotate_left; · (obtain ⟨⟨c0, c1, c2, c3, c4, c5, c6, c7, c8, c9⟩, f8, f9⟩ := box10 (t_box_below k5_h.out hW'); have u4 := (hW'.cell (World.block_lt_of_cell? _ _ u2_h.out)).trans u2_h.out; have u5 := (hW'.cell (World.block_lt_of_cell? _ _ u3_h.out)).trans u3_h.out; clear hW'; go_simp; first | done | with_reducible rfl)
     simp only [Act.put, nS]
     refine tkH 14 ?_ rfl (Below.refl _ _) (fun W' hW' => ?_) ?_; rotate_left; · (obtain ⟨⟨c0, c1, c2, c3, c4, c5, c6, c7, c8, c9⟩, f8, f9⟩ := box10 (t_box_below k5_h.out hW'); have u4 := (hW'.cell (World.block_lt_of_cell? _ _ u2_h.out)).trans u2_h.out; have u5 := (hW'.cell (World.block_lt_of_cell? _ _ u3_h.out)).trans u3_h.out; clear hW'; go_simp; first | done | with_reducible rfl)
     simp only [Act.put, nS]
     refine tkH 15 ?_ rfl (Below.refl _ _) (fun W' hW' => ?_) ?_; rotate_left; · (obtain ⟨⟨c0, c1, c2, c3, c4, c5, c6, c7, c8, c9⟩, f8, f9⟩ := box10 (t_box_below k5_h.out hW'); have u4 := (hW'.cell (World.block_lt_of_cell? _ _ u2_h.out)).trans u2_h.out; have u5 := (hW'.cell (World.block_lt_of_cell? _ _ u3_h.out)).trans u3_h.out; clear hW'; go_simp; first | done | with_reducible rfl)
     simp only [Act.put, nS]
     refine tkH 16 ?_ rfl (Below.refl _ _) (fun W' hW' => ?_) ?_; rotate_left; · (obtain ⟨⟨c0, c1, c2, c3, c4, c5, c6, c7, c8, c9⟩, f8, f9⟩ := box10 (t_box_below k5_h.out hW'); have u4 := (hW'.cell (World.block_lt_of_cell? _ _ u2_h.out)).trans u2_h.out; have u5 := (hW'.cell (World.block_lt_of_cell? _ _ u3_h.out)).trans u3_h.out; clear hW'; go_simp; first | done | with_reducible rfl)
     simp only [Act.put, nS]
     refine tkH 17 ?_ rfl (Below.refl _ _) (fun W' hW' => ?_) ?_; rotate_left; · (obtain ⟨⟨c0, c1, c2, c3, c4, c5, c6, c7, c8, c9⟩, f8, f9⟩ := box10 (t_box_below k5_h.out hW'); have u4 := (hW'.cell (World.block_lt_of_cell? _ _ u2_h.out)).trans u2_h.out; have u5 := (hW'.cell (World.block_lt_of_cell? _ _ u3_h.out)).trans u3_h.out; clear hW'; go_simp; first | done | with_reducible rfl)
     simp only [Act.put, nS]
     refine tkH 21 ?_ rfl (Below.refl _ _) (fun W' hW' => ?_) ?_; rotate_left; · (obtain ⟨⟨c0, c1, c2, c3, c4, c5, c6, c7, c8, c9⟩, f8, f9⟩ := box10 (t_box_below k5_h.out hW'); have u4 := (hW'.cell (World.block_lt_of_cell? _ _ u2_h.out)).trans u2_h.out; have u5 := (hW'.cell (World.block_lt_of_cell? _ _ u3_h.out)).trans u3_h.out; clear hW'; go_simp; first | done | with_reducible rfl)
     simp only [Act.put, nS]
     refine oneH 18 rfl (by kernel_rfl) (by rfl) (fun K hK => ?_)
     go_simp
     refine hK _ _ (t_below_alloc _ _) ?_
     clear hK K
     refine' callH 19 (f := _) (args := _) rfl (by kernel_rfl) (by rfl) ?_ ?_; rotate_left 2; · (go_simp; first | done | with_reducible rfl | (constructor <;> with_reducible rfl))
     refine (hJ_h.out).mono ?_
     rintro e w7 ⟨A7, cap7, rfl, hI7, hF7, hb7⟩
     have hb57 := below_trans (t_below_alloc w5 (.cells #[.slice B1 p1 b1, .slice C1 p2 b2] 23)) hb7 (t_below_alloc w5 _).size
     refine ⟨_, rfl, hb57, ?_⟩
     simp only [Act.put, nS]
     refine tkH 20 ?_ rfl hb57 (fun W' hW' => ?_) ?_; rotate_left; · (skip; clear hW'; go_simp; first | done | with_reducible rfl)
     simp only [Act.put, nS]
     refine doneH (by kernel_rfl) ?_
     have hkw7 := hkw5_h.out.below hb57
     have hSt7 := hSt5_h.out.below hb57
     have hA7 : ∀ x, x ∈ fpA A7 → ¬ OwnK b mw me Q A5 x := fun x hx ho => by
      have h1 := hkw5_h.out.own_lt ho
      have h2 := hF7 x hx
      have h3 := (t_below_alloc w5 (.cells #[.slice B1 p1 b1, .slice C1 p2 b2] 23)).size
      omega
     clear hJ_h u2_h u3_h k5_h hb7 hF7 hb57 hkw5_h hSt5_h; have hkw7_h := lH hkw7; have hSt7_h := lH hSt7; have hA7_h := lH hA7; have hI7_h := lH hI7; clear hkw7 hSt7 hA7 hI7
     go_wp2_with (fail)
     go_loopw [61] (fun i wr => ∃ (k : Nat) (Q' : Option Addr) (qn' qc' : Nat), k ≤ p ∧ i = .int .i64 k ∧ KW W n g.2.1 (.slice (some ad) m c) x2 x3 b Bf Bh mw me (giveL s.1 (l.take k), s.2 ++ [(ee : Int)]) qd wr Q' qn' qc' A5 (on + 1) cap5 ∧ IS wr A7 cap7 l ∧ StepK b mw me W1 Q O wr Q' A5 ∧ ∀ x, x ∈ fpA A7 → ¬ OwnK b mw me Q' A5 x) (fun i _ => p - (intOf i).toNat)
     case atStart => exact ⟨0, Q, qn, qc, Nat.zero_le _, rfl, hkw7_h.out, hI7_h.out, hSt7_h.out, hA7_h.out⟩
     case round =>
      clear hkw7_h hI7_h hSt7_h hA7_h
      obtain ⟨k, Q', qn', qc', hk, rfl, hK, hI, hS, hA⟩ := hrel
      obtain ⟨wo, rfl⟩ : ∃ x, x = wr := ⟨_, rfl⟩
      by_cases hlt : k < p
      · obtain ⟨x, hx⟩ : ∃ x, l[k]? = some x := ⟨_, List.getElem?_eq_getElem (by rw [hp_h.out]; exact hlt)⟩
        obtain ⟨cd, hcd, yj⟩ := hI.rd k _ hx
        subst hcd
        have hcw := wire_any x wo hK hn100 (hgd_h.out k) (hgr_h.out k) (hwr_h.out x (List.mem_of_getElem? hx))
        have hgs : giveL (giveL s.1 (l.take k)) [x] = giveL s.1 (l.take (k + 1)) := by
         rw [← giveL_append, List.take_add_one, hx]
         rfl
        simp only [hgs] at hcw
        have hkI : (k : Int) < (p : Int) := by omega
        clear hgs hx; have hK_h := lH hK; have hI_h := lH hI; have hS_h := lH hS; have hA_h := lH hA; have hcw_h := lH hcw; clear hK hI hS hA hcw
        go_wp2_with (fail)
        refine (hcw_h.out).mono ?_
        rintro e w8 ⟨rfl, Q8, qn8, qc8, hK8, hS8⟩
        have hI8 := hI_h.out.keeps hS8.1 fun x hx => hA_h.out x hx
        have hA8 : ∀ x, x ∈ fpA (some cd) → ¬ OwnK b mw me Q8 A5 x := fun x hx ho => by
         rcases hS8.2 x ho with h1 | h1
         · exact hA_h.out x hx h1
         · have := hI_h.out.lt x hx; omega
        have hSt8 := hS_h.out.trans hS8
        clear hS8 hcw_h hK_h hI_h hS_h hA_h; have hK8_h := lH hK8; have hI8_h := lH hI8; have hA8_h := lH hA8; have hSt8_h := lH hSt8; clear hK8 hI8 hA8 hSt8
        go_wp2_with (fail)
        go_roundw
        case rel => exact ⟨k + 1, Q8, qn8, qc8, by omega, by go_num, hK8_h.out, hI8_h.out, hSt8_h.out, hA8_h.out⟩
        case measure => simp [intOf]; omega
      · obtain rfl : p = k := by omega
        rw [List.take_of_length_le (by rw [hp_h.out]; exact Nat.le_refl _)] at hK
        have hK_h := lH hK; have hS_h := lH hS; clear hK hS; clear hI hA
        go_wp2_with (fail)
        go_end0
        refine ⟨rfl, Q', qn', qc', A5, on + 1, cap5, ?_, hS_h.out.pre hbd_h.out⟩
        rw [hwe_h.out]
        exact hK_h.out
set_option maxHeartbeats 1000000 in
theorem occursOnce_any (n : Int) (A : Option Addr) (c m : Nat) (hs : List Hd) (L : List Int) (w : World) (h : RdR w A hs) (hm : hs.length = m) (hl : m ≤ 1048576) (hL : (hs.map fun h : Hd => h.2.2).flatten = L) (hN : L.length ≤ 1048576) :
  Calls Tryz.prog 40 #[.int .i64 n, .slice A m c] w fun e w' => e = .returned (.bool (prmN n L)) ∧ Below w.heap.size w w' := by
 have hJ := joined_any A c hs w h (by rw [hm]; exact hl) (by rw [hL]; exact hN)
 rw [hm, hL] at hJ
 unfold RetI at hJ
 obtain ⟨q, hq⟩ : ∃ q, q = L.length := ⟨_, rfl⟩
 rw [← hq] at hJ
 obtain ⟨T, hT⟩ : ∃ T, T = prmN n L := ⟨_, rfl⟩
 rw [← hT]
 clear h hm hL; have hJ_h := lH hJ; have hq_h := lH hq; have hT_h := lH hT; clear hJ hq hT
 go_enter Tryz.func40, Tryz.ntmps40
 go_wp2_with (fail)
 refine (hJ_h.out).mono ?_
 rintro e w1 ⟨A1, c1, rfl, hI, hF, hb1⟩
 have hP := isPermN_any A1 c1 n L w1 hI.rd hN
 rw [← hq_h.out, ← hT_h.out] at hP
 clear hI hF; have hP_h := lH hP; have hb1_h := lH hb1; clear hP hb1
 go_wp2_with (fail)
 refine (hP_h.out).mono ?_
 rintro e w2 ⟨rfl, hb2⟩
 have hB := below_trans hb1_h.out hb2 hb1_h.out.size
 clear hb2; have hB_h := lH hB; clear hB
 go_wp2_with (fail)
 go_ret
 exact ⟨rfl, hB_h.out⟩
set_option maxHeartbeats 2000000 in
theorem l1Has_any (A : Option Addr) (c m : Nat) (l : List Int) (x : Int) (w : World) (h : RdI w A l) (hm : l.length = m) (hl : m ≤ 1048576) :
  Calls Tryz.prog 62 #[.slice A m c, .int .i64 x] w fun e w' => e = .returned (.bool (l.contains x)) ∧ w' = w := by
 obtain ⟨T, hT⟩ : ∃ T, T = l.contains x := ⟨_, rfl⟩
 rw [← hT]
 have hT_h := lH hT; have hm_h := lH hm; clear hT hm
 go_enter Tryz.func62, Tryz.ntmps62
 go_wp2_with (fail)
 go_loopw [9] (fun i wr => ∃ k : Nat, k ≤ m ∧ i = .int .i64 k ∧ (l.take k).contains x = false ∧ wr = w) (fun i _ => m - (intOf i).toNat)
 case atStart => exact ⟨0, Nat.zero_le _, rfl, by simp, rfl⟩
 case round =>
  obtain ⟨k, hk, rfl, hno, rfl⟩ := hrel
  by_cases hlt : k < m
  · obtain ⟨ad, y, rfl, hy, hc⟩ := h.at_ (j := k) (by rw [hm_h.out]; exact hlt)
    have hkI : (k : Int) < (m : Int) := by omega
    by_cases hyx : y = x
    · subst hyx
      have ht : T = true := by rw [hT_h.out, List.contains_iff_mem]; exact List.mem_of_getElem? hy
      subst ht
      have hy_h := lH hy; have hno_h := lH hno; clear hy hno
      go_wp2_with (fail)
      go_ret
      exact ⟨rfl, rfl⟩
    · have hbq : (y == x) = false := by rw [beq_eq_false_iff_ne]; exact hyx
      have hno2 : (l.take (k + 1)).contains x = false := by
       rw [List.take_add_one, hy, Bool.eq_false_iff, ne_eq, List.contains_iff_mem]
       rw [Bool.eq_false_iff, ne_eq, List.contains_iff_mem] at hno
       intro hh
       rcases List.mem_append.1 hh with hh | hh
       · exact hno hh
       · simp at hh; exact hyx hh.symm
      have hy_h := lH hy; have hno_h := lH hno; have hno2_h := lH hno2; clear hy hno hno2
      go_wp2_with (fail)
      go_roundw
      case rel => exact ⟨k + 1, by omega, by go_num, hno2_h.out, trivial⟩
      case measure => simp [intOf]; omega
  · obtain rfl : m = k := by omega
    rw [List.take_of_length_le (by rw [hm_h.out]; exact Nat.le_refl _), ← hT_h.out] at hno
    subst hno
    go_wp2_with (fail)
    go_ret
    exact ⟨rfl, rfl⟩
set_option maxHeartbeats 4000000 in
theorem l1Same_any (A B : Option Addr) (c d p q : Nat) (l m : List Int) (w : World) (h : RdI w A l) (h' : RdI w B m) (hp : l.length = p) (hq : m.length = q) (hl : p ≤ 1048576) (hl' : q ≤ 1048576) :
  Calls Tryz.prog 63 #[.slice A p c, .slice B q d] w fun e w' => e = .returned (.bool (decide (l = m))) ∧ Below w.heap.size w w' := by
 obtain ⟨T, hT⟩ : ∃ T, T = decide (l = m) := ⟨_, rfl⟩
 rw [← hT]
 by_cases hpq : p = q
 case neg =>
  have ht : T = false := by rw [hT]; exact decide_eq_false fun e => hpq (by rw [← hp, ← hq, e])
  subst ht
  have hnI : ¬ (p : Int) = (q : Int) := by omega
  have hbq : ((p : Int) == (q : Int)) = false := by rw [beq_eq_false_iff_ne]; exact hnI
  have hT_h := lH hT; have hp_h := lH hp; have hq_h := lH hq; clear hT hp hq
  go_enter Tryz.func63, Tryz.ntmps63
  go_wp2_with (fail)
  go_ret
  exact ⟨rfl, Below.refl _ _⟩
 subst hpq
 have hT_h := lH hT; have hp_h := lH hp; have hq_h := lH hq; clear hT hp hq
 go_enter Tryz.func63, Tryz.ntmps63
 go_wp2_with (fail)
 go_loopw [13] (fun i wr => ∃ (k nq : Nat), k ≤ p ∧ i = .int .i64 k ∧ l.take k = m.take k ∧ wr = w.drewN nq) (fun i _ => p - (intOf i).toNat)
 case atStart => exact ⟨0, 0, Nat.zero_le _, rfl, by simp, rfl⟩
 case round =>
  obtain ⟨k, nq, hk, rfl, htk, hwr⟩ := hrel
  have hBw : Below w.heap.size w wr := by rw [hwr]; exact below_drewN (Below.refl _ _) nq
  by_cases hlt : k < p
  · obtain ⟨ad, x, rfl, hx, hc⟩ := (RdI.below' h hBw).at_ (j := k) (by rw [hp_h.out]; exact hlt)
    obtain ⟨bd, y, rfl, hy, hc'⟩ := (RdI.below' h' hBw).at_ (j := k) (by rw [hq_h.out]; exact hlt)
    have hkI : (k : Int) < (p : Int) := by omega
    by_cases hxy : x = y
    · subst hxy
      have htk2 : l.take (k + 1) = m.take (k + 1) := by rw [List.take_add_one, List.take_add_one, hx, hy, htk]
      have hbq : (x == x) = true := by simp
      have hx_h := lH hx; have hy_h := lH hy; have htk_h := lH htk; have htk2_h := lH htk2; have hwr_h := lH hwr; have hBw_h := lH hBw; clear hx hy htk htk2 hwr hBw
      go_wp2_with (fail)
      go_quiet (fail)
      go_wp2_with (fail)
      go_roundw
      case rel => exact ⟨k + 1, _, by omega, by go_num, htk2_h.out, by rw [hwr_h.out]; exact World.drewN_drewN _ _ _⟩
      case measure => simp [intOf]; omega
    · have ht : T = false := by
       rw [hT_h.out]
       refine decide_eq_false fun e => hxy ?_
       rw [e, hy] at hx
       exact (Option.some.inj hx).symm
      subst ht
      have hbq : (x == y) = false := by rw [beq_eq_false_iff_ne]; exact hxy
      have hx_h := lH hx; have hy_h := lH hy; have htk_h := lH htk; have hwr_h := lH hwr; have hBw_h := lH hBw; clear hx hy htk hwr hBw
      go_wp2_with (fail)
      go_quiet (fail)
      go_wp2_with (fail)
      go_ret
      exact ⟨rfl, below_drewN hBw_h.out _⟩
  · obtain rfl : p = k := by omega
    rw [List.take_of_length_le (by rw [hp_h.out]; exact Nat.le_refl _), List.take_of_length_le (by rw [hq_h.out]; exact Nat.le_refl _)] at htk
    have ht : T = true := by rw [hT_h.out]; exact decide_eq_true htk
    subst ht
    have htk_h := lH htk; have hwr_h := lH hwr; have hBw_h := lH hBw; clear htk hwr hBw
    go_wp2_with (fail)
    go_ret
    exact ⟨rfl, hBw_h.out⟩
section
variable {P : Program} {w : World} {e : TypeId} {sz n cap : Nat} {A : Option Addr} {xs : List Value}
theorem Sl.slicedG (hs : Sl w e sz A n cap xs) (t : TypeId) {z : Option Value} {bytes : Nat} (ht : P.underlying t = some (.slice e)) (hinfo : (P.info? e).map (fun i => (i.zero, i.size, i.bytes)) = some (z, sz, bytes))
  (lo hi mx : Option Value) (l hgh m : Nat) (hlo : OptIs lo l (l = 0)) (hhi : OptIs hi hgh (hgh = n ∧ mx = none)) (hmx : OptIs mx m (m = cap)) (h1 : l ≤ hgh) (h2 : hgh ≤ n) (h3 : hgh ≤ m) (h4 : m ≤ cap) :
  ∃ A', (∀ w', (Instr.sliceAt t (.slice A n cap) lo hi mx).run P w' = .ok (.slice A' (hgh - l) (m - l)) w') ∧ Sl w e sz A' (hgh - l) (m - l) ((xs.drop (l * sz)).take ((hgh - l) * sz)) ∧ (∀ b, b ∈ fpA A' → b ∈ fpA A) := by
 obtain ⟨hcut, hfp, hsub⟩ := hs.cut h1 h2 h3 h4
 refine ⟨_, fun w => ?_, hcut, hfp⟩
 unfold OptIs at hlo hhi hmx
 obtain ⟨i, hi', hzz⟩ := Option.map_eq_some_iff.1 hinfo
 simp only [Prod.mk.injEq] at hzz
 have hb : ∀ (k : IntKind) (i : Int) (j y : Nat) (code : BoundsCode), i = (j : Int) → j ≤ y → (Instr.sliceBound (.int k i) y code).run P w = .ok j w := by
  intro k i j y code e hj
  subst e
  rw [run_sliceBound w k _ y code (by omega) (by omega)]; simp
 have hsb : (Instr.sliceBounds true n cap lo hi mx).run P w = .ok (l, hgh, m) w := by
  unfold Instr.sliceBounds
  cases mx with
  | none =>
    subst hmx
    cases hi with
    | none =>
      obtain ⟨rfl, _⟩ := hhi
      cases lo with
      | none => subst hlo; simp
      | some v => obtain ⟨k, L, rfl, hL⟩ := hlo; simp [hb k L l _ _ hL h1]
    | some v =>
      obtain ⟨k, L, rfl, hL⟩ := hhi
      have hb1 := hb k L hgh m .sliceAcap hL h3
      cases lo with
      | none => subst hlo; simp [hb1]
      | some v => obtain ⟨k', L', rfl, hL'⟩ := hlo; simp [hb1, hb k' L' l _ _ hL' h1]
  | some vm =>
    obtain ⟨km, M, rfl, hM⟩ := hmx
    have hb0 := hb km M m cap .slice3Acap hM h4
    cases hi with
    | none => obtain ⟨_, h0⟩ := hhi; cases h0
    | some v =>
      obtain ⟨k, L, rfl, hL⟩ := hhi
      have hb1 := hb k L hgh m .slice3B hL h3
      cases lo with
      | none => subst hlo; simp [hb0, hb1]
      | some v => obtain ⟨k', L', rfl, hL'⟩ := hlo; simp [hb0, hb1, hb k' L' l _ _ hL' h1]
 have hrun : (Instr.slice t (.slice A n cap) lo hi mx).run P w = .ok (.slice (if m = l then A else A.map (·.add (l * sz))) (hgh - l) (m - l)) w := by
  simp only [Instr.slice, Sem.run_bind, run_underlying ht, Result.andThen_ok, hsb]
  simp [sizeOf, typeInfo, hi', hzz.2.1]
 simp [Instr.sliceAt, run_underlying ht, hrun]
end
theorem pop_sl {w : World} {Q : Option Addr} {q1 c1 : Nat} {L : List Int} (h : IS w Q (c1 + 1) L) (hq : L.length = q1 + 1) :
  ∃ Q1, (∀ w', (Instr.sliceAt 23 (.slice Q (q1 + 1) (c1 + 1)) (some (.int .i64 1)) none none).run Tryz.prog w' = .ok (.slice Q1 q1 c1) w') ∧ IS w Q1 c1 (L.drop 1) ∧ ∀ b, b ∈ fpA Q1 → b ∈ fpA Q := by
 have hs : Sl w tInt 1 Q (q1 + 1) (c1 + 1) (ints L) := by unfold IS at h; rwa [hq] at h
 obtain ⟨A', h1, h2, h3⟩ := Sl.slicedG hs 23 (P := Tryz.prog) Tryz.underlying23 info_int (some (.int .i64 ((1 : Nat) : Int))) none none 1 (q1 + 1) (c1 + 1) (optSome rfl) (optNone ⟨rfl, rfl⟩) (optNone rfl) (by omega) (Nat.le_refl _) (by have := hs.2.1; omega) (Nat.le_refl _)
 refine ⟨A', h1, ?_, h3⟩
 unfold IS
 have e : ints (L.drop 1) = ((ints L).drop (1 * 1)).take ((q1 + 1 - 1) * 1) := by
  rw [List.take_of_length_le (by simp [hq])]
  simp [ints]
 rw [e, List.length_drop, hq]
 exact h2
section
variable {W w : World} {n : Nat} {es : List Eg} {x1 x2 x3 : Value} {b : Nat} {Bf Bh : Addr} {mw me : Nat} {s : WE} {qd : Nat} {Q O : Option Addr} {qn qc on oc : Nat}
theorem KW.pop (h : KW W n es x1 x2 x3 b Bf Bh mw me s qd w Q qn qc O on oc) {Q1 : Option Addr} {q1 c1 : Nat} (hq : qn = q1 + 1) (hI : IS w Q1 c1 ((s.1.drop qd).drop 1)) (hf : ∀ x, x ∈ fpA Q1 → x ∈ fpA Q) :
  KW W n es x1 x2 x3 b Bf Bh mw me s (qd + 1) (w.setCell ⟨b, 8, none⟩ (.slice Q1 q1 c1)) Q1 q1 c1 O on oc ∧ StepK b mw me w Q O (w.setCell ⟨b, 8, none⟩ (.slice Q1 q1 c1)) Q1 O := by
 obtain ⟨s1, s2, s3, s4⟩ := h.sep
 obtain ⟨t1, t2⟩ := set10_8 (x := .slice Q1 q1 c1) h.box
 have hln := h.qln
 rw [List.length_drop, hq] at hln
 have hbfe : ∀ x, x ∈ fpA (some Bf) → x = Bf.block := fun x hx => by simpa using hx
 have hbhe : ∀ x, x ∈ fpA (some Bh) → x = Bh.block := fun x hx => by simpa using hx
 have hown : ∀ x, OwnK b mw me Q1 O x → OwnK b mw me Q O x := fun x hx => by
  rcases hx with hx | hx | hx | hx | hx
  · exact .inl hx
  · exact .inr (.inl hx)
  · exact .inr (.inr (.inl hx))
  · exact .inr (.inr (.inr (.inl (hf x hx))))
  · exact .inr (.inr (.inr (.inr hx)))
 have hd : s.1.drop (qd + 1) = (s.1.drop qd).drop 1 := by rw [List.drop_drop]
 refine ⟨⟨t1, h.bef.keeps t2 fun x hx e => h.off.1 (.inl ((hbfe x hx).symm.trans e)), h.beh.keeps t2 fun x hx e => h.off.2 (.inl ((hbhe x hx).symm.trans e)), h.wir.keeps t2 s1, h.edg.keeps t2 s2, ?_, h.ord.keeps t2 fun x hx e => (s4 x hx).1 e, ?_, h.oln, by omega, fun x hx => h.new x (hown x hx), h.bfn, ⟨fun hx => h.off.1 (hown _ hx), fun hx => h.off.2 (hown _ hx)⟩, fun x hx => h.qo x (hf x hx), h.mne, below_keeps h.bel t2 h.bel.size fun x e => h.new x (.inl e)⟩, t2.mono fun x _ e => .inl e, fun x hx => .inl (hown x hx)⟩
 · rw [hd]
   exact hI.keeps t2 fun x hx e => (s3 x (hf x hx)).1 e
 · rw [List.length_drop]
   omega
end
set_option maxRecDepth 100000 in
set_option maxHeartbeats 8000000 in
theorem walk_any {W : World} {g : Gr} {n m c : Nat} {hs : List EHd} {A : Option Addr} {x2 x3 : Value} {b : Nat} {Bf Bh : Addr} {mw me : Nat} {s : WE} {Q O : Option Addr} {qn qc on oc : Nat} (w : World)
  (h : KW W n g.2.1 (.slice A m c) x2 x3 b Bf Bh mw me s 0 w Q qn qc O on oc) (hE : RdE W A hs) (e1 : g.2.1 = hs.map egOf) (hm : hs.length = m) (hMo : Mono g n) (hs0 : WInv g n s) :
  Calls Tryz.prog 73 #[.pointer (some ⟨b, 0, none⟩)] w (PostK W n g.2.1 (.slice A m c) x2 x3 b Bf Bh mw me (finW g s) (finW g s).1.length w Q O) := by
 have hn100 := hMo.n100
 have hWk := fun k => hs0.walk hMo k
 have hfin := fun k => finW_eq hMo (s := s) (k := k)
 have h_h := lH h; have hE_h := lH hE; have e1_h := lH e1; have hm_h := lH hm; have hMo_h := lH hMo; have hs0_h := lH hs0; have hWk_h := lH hWk; have hfin_h := lH hfin; clear h hE e1 hm hMo hs0 hWk hfin
 go_enter Tryz.func73, Tryz.ntmps73
 go_wp2_with (fail)
 go_loopg [2] (n + 1) (fun gk (_ : Value) wr => ∃ (k : Nat) (Q' : Option Addr) (qn' qc' : Nat) (O' : Option Addr) (on' oc' : Nat), k + gk = n + 1 ∧ k ≤ n ∧ KW W n g.2.1 (.slice A m c) x2 x3 b Bf Bh mw me (walkTo g s k) k wr Q' qn' qc' O' on' oc' ∧ StepK b mw me w Q O wr Q' O')
 case atStart => exact ⟨0, Q, qn, qc, O, on, oc, by omega, Nat.zero_le _, h_h.out, StepK.refl _ _ _ _ _ _⟩
 case round =>
  obtain ⟨k, Q', qn', qc', O', on', oc', hgk, hk, hK, hS⟩ := hrel
  obtain ⟨wo, rfl⟩ : ∃ x, x = wr := ⟨_, rfl⟩
  obtain ⟨⟨c0, c1, c2, c3, c4, c5, c6, c7, c8, c9⟩, f8, f9⟩ := box10 hK.box
  have hqle := hK.qle
  have hqln := hK.qln
  have hwle := (hWk_h.out k).le.1
  rw [List.length_drop] at hqln
  by_cases hlt : 0 < qn'
  · have hkl : k < (walkTo g s k).1.length := by omega
    obtain ⟨x, hx⟩ : ∃ x, (walkTo g s k).1[k]? = some x := ⟨_, List.getElem?_eq_getElem hkl⟩
    have hxr := (hWk_h.out k).rg1 x (List.mem_of_getElem? hx)
    obtain ⟨xx, rfl⟩ : ∃ xx : Nat, x = (xx : Int) := ⟨x.toNat, by omega⟩
    have hq0 : ((walkTo g s k).1.drop k)[0]? = some (xx : Int) := by rw [List.getElem?_drop]; exact hx
    obtain ⟨qa, hqa, p0'⟩ := hK.que.rd 0 _ hq0
    have p0 : wo.cell? qa = some (.int .i64 (xx : Int)) := p0'
    have hqcl := hK.que.2.1
    obtain ⟨q1, rfl⟩ : ∃ q1, qn' = q1 + 1 := ⟨qn' - 1, by omega⟩
    obtain ⟨c1', rfl⟩ : ∃ c1', qc' = c1' + 1 := ⟨qc' - 1, by rw [List.length_drop] at hqcl; omega⟩
    obtain ⟨Q1, hsl, hI1, hf1⟩ := pop_sl hK.que (by rw [List.length_drop]; exact hqln)
    obtain ⟨hK1, hS1⟩ := hK.pop rfl hI1 hf1
    have hgt : decide ((q1 : Int) + 1 > 0) = true := decide_eq_true (by omega)
    subst hqa
    clear hI1 hf1 hqln hqle hwle hq0 hqcl; have hK_h := lH hK; have hS_h := lH hS; have hK1_h := lH hK1; have hS1_h := lH hS1; have hx_h := lH hx; clear hK hS hK1 hS1 hx
    have hst : walkTo g s (k + 1) = stepE g (stepE g (walkTo g s k) (toE g (xx : Int))) (fromE g (xx : Int)) := by
     show roundW g (walkTo g s k) k = _
     unfold roundW
     rw [if_pos hkl, show (walkTo g s k).1.getD k 0 = (xx : Int) by rw [List.getD_eq_getElem?_getD, hx_h.out]; rfl]
    have hml : g.2.1.length = m := by rw [e1_h.out, List.length_map, hm_h.out]
    have ht1 := toE_rng g (xx : Int)
    have ht2 := fromE_rng g (xx : Int)
    rw [hml] at ht1 ht2
    clear p0'; have hst_h := lH hst; have hml_h := lH hml; clear hst hml
    go_upto_region 3 with (fail)
    generalize (wo.setCell ⟨b, 8, none⟩ (.slice Q1 q1 c1')) = w1 at hK1_h hS1_h ⊢
    clear c0 c1 c2 c3 c4 c5 c6 c7 c8 c9 f8 f9 p0 hsl hgt
    obtain ⟨⟨c0, c1, c2, c3, c4, c5, c6, c7, c8, c9⟩, f8, f9⟩ := box10 hK1_h.out.box
    obtain ⟨za, hza, p1⟩ := hK1_h.out.beh.rd xx _ (tabK_get (by omega))
    obtain rfl := Option.some.inj hza
    have hce := edge_any (toE g (xx : Int)) w1 hK1_h.out hE_h.out e1_h.out hm_h.out hMo_h.out (hWk_h.out k) ht1.2
    rw [show atE inE g.2.1 g.2.1.length (xx : Int) = toE g (xx : Int) from rfl] at p1
    obtain ⟨tt, htt⟩ : ∃ tt, toE g (xx : Int) = tt := ⟨_, rfl⟩
    rw [htt] at p1 hce ht1
    have hin1 := (hWk_h.out k).step hMo_h.out (e := tt) (by rw [hml_h.out]; exact ht1.2)
    have hxn : (xx : Int) < (n : Int) := hxr.2
    clear hza; have hce_h := lH hce; have htt_h := lH htt; have hin1_h := lH hin1; clear hce htt hin1
    go_wp2_with (fail)
    refine (hce_h.out).mono ?_
    rintro e w2 ⟨rfl, Q2, qn2, qc2, O2, on2, oc2, hK2, hS2⟩
    clear c0 c1 c2 c3 c4 c5 c6 c7 c8 c9 f8 f9 p1 hce_h
    obtain ⟨⟨c0, c1, c2, c3, c4, c5, c6, c7, c8, c9⟩, f8, f9⟩ := box10 hK2.box
    obtain ⟨za, hza, p1⟩ := hK2.bef.rd xx _ (tabK_get (by omega))
    obtain rfl := Option.some.inj hza
    rw [show atE outE g.2.1 g.2.1.length (xx : Int) = fromE g (xx : Int) from rfl] at p1
    have hce := edge_any (fromE g (xx : Int)) w2 hK2 hE_h.out e1_h.out hm_h.out hMo_h.out hin1_h.out ht2.2
    rw [← htt_h.out, ← hst_h.out] at hce
    obtain ⟨tf, htf⟩ : ∃ tf, fromE g (xx : Int) = tf := ⟨_, rfl⟩
    rw [htf] at p1 hce ht2
    have hS12 := (hS_h.out.trans hS1_h.out).trans hS2
    clear hza hS2 hS1_h hS_h hK1_h hK_h hK2; have hce_h := lH hce; have htf_h := lH htf; have hS12_h := lH hS12; clear hce htf hS12
    go_wp2_with (fail)
    refine (hce_h.out).mono ?_
    rintro e w3 ⟨rfl, Q3, qn3, qc3, O3, on3, oc3, hK3, hS3⟩
    have hS13 := hS12_h.out.trans hS3
    have hkn : k + 1 ≤ n := by have := (hWk_h.out k).le.1; omega
    clear hS3 hS12_h hce_h c0 c1 c2 c3 c4 c5 c6 c7 c8 c9 f8 f9 p1; have hK3_h := lH hK3; have hS13_h := lH hS13; clear hK3 hS13
    go_wp2_with (fail)
    go_roundg (gk - 1)
    case measure => omega
    case rel => exact ⟨k + 1, Q3, qn3, qc3, O3, on3, oc3, by omega, hkn, hK3_h.out, hS13_h.out⟩
  · obtain rfl : qn' = 0 := by omega
    have hend := hfin_h.out k hk (by omega)
    have hlen : (walkTo g s k).1.length = k := by omega
    clear hqle hqln hwle; have hK_h := lH hK; have hS_h := lH hS; have hend_h := lH hend; have hlen_h := lH hlen; clear hK hS hend hlen
    go_wp2_with (fail)
    go_end0
    refine ⟨rfl, Q', 0, qc', O', on', oc', ?_, hS_h.out⟩
    rw [hend_h.out, hlen_h.out]
    exact hK_h.out
theorem OI.low {w0 w w' : World} {A : Option Addr} {c : Nat} {l : List Int} (h : OI w0 w A c l) (hb : Below w.heap.size w w') : OI w0 w' A c l := ⟨h.is.below hb, h.new, below_trans h.below_ hb h.below_.size⟩
theorem OI.sl {w0 w : World} {A : Option Addr} {c n : Nat} {l : List Int} (h : OI w0 w A c l) (hn : l.length = n) : Sl w tInt 1 A n c (ints l) := by
 have := h.is
 unfold IS at this
 rwa [hn] at this
set_option maxRecDepth 100000 in
set_option maxHeartbeats 8000000 in
theorem code_any {W : World} {g : Gr} {n m c : Nat} {hs : List EHd} {A : Option Addr} {x2 x3 : Value} {b : Nat} {Bf Bh : Addr} {mw me : Nat} {s : WE} {qd : Nat} {Q O : Option Addr} {qn qc on oc : Nat} (w : World)
  (h : KW W n g.2.1 (.slice A m c) x2 x3 b Bf Bh mw me s qd w Q qn qc O on oc) (hE : RdE W A hs) (e1 : g.2.1 = hs.map egOf) (hm : hs.length = m) (hMo : Mono g n) (hs0 : WInv g n s) :
  Calls Tryz.prog 90 #[.pointer (some ⟨b, 0, none⟩)] w (RetI w (codeM g s)) := by
 have hn100 := hMo.n100
 have hle := hs0.le
 have hm60 : m ≤ 60 := by have := hMo.m60; rw [e1, List.length_map, hm] at this; exact this
 have hon : on ≤ 60 := by rw [← h.oln]; rw [e1, List.length_map, hm] at hle; omega
 obtain ⟨⟨c0, c1, c2, c3, c4, c5, c6, c7, c8, c9⟩, f8, f9⟩ := box10 h.box
 have hcl := codeTo_len (g := g) (s := s) (fun x hx => by
  have hr := hs0.rg2 x hx
  have he := hMo.kind _ (edge_mem (g := g) (i := x.toNat) (by omega))
  obtain ⟨⟨l1, l2⟩, _⟩ := egB_len he
  unfold edgeAt wiresE
  rw [List.length_append]
  omega)
 have hO0 : OI w (w.alloc (.cells #[] tInt)) (some ⟨w.heap.size, 0, none⟩) 0 (codeTo g s 0) := by
  refine ⟨by unfold IS; simpa [ints, codeTo] using Sl.laid w tInt 1 0 #[] (Nat.zero_le _) rfl, fun b hb => ?_, (Below.refl _ _).alloc (Nat.le_refl _) _⟩
  have : b = w.heap.size := by simpa using hb
  subst this; exact Nat.le_refl _
 have hb0 := t_below_alloc w (.cells #[] tInt)
 obtain ⟨⟨y0, y1, y2, y3, y4, y5, y6, y7, y8, y9⟩, g8, g9⟩ := box10 (t_box_below h.box hb0)
 have h_h := lH h; have hE_h := lH hE; have e1_h := lH e1; have hm_h := lH hm; have hMo_h := lH hMo; have hs0_h := lH hs0; have hle_h := lH hle; have hcl_h := lH hcl; have hO0_h := lH hO0; have hb0_h := lH hb0; clear h hE e1 hm hMo hs0 hle hcl hO0 hb0
 go_enter Tryz.func90, Tryz.ntmps90
 go_wp2_with (fail)
 clear c0 c1 c2 c3 c4 c5 c6 c7 c8 c9 f8 f9 y0 y1 y2 y3 y4 y5 y6 y7 y8 y9 g8 g9
 go_loopw [15, 3] (fun i v wr => ∃ (k : Nat) (D : Option Addr) (dc dl : Nat), k ≤ on ∧ i = .int .i64 k ∧ v = .slice D dl dc ∧ (codeTo g s k).length = dl ∧ OI w wr D dc (codeTo g s k)) (fun i _ _ => on - (intOf i).toNat)
 case atStart => exact ⟨0, _, 0, 0, Nat.zero_le _, rfl, rfl, rfl, hO0_h.out⟩
 case round =>
  clear hO0_h
  obtain ⟨k, D, dc, dl, hk, rfl, rfl, hdl, hO⟩ := hrel
  obtain ⟨wo, rfl⟩ : ∃ x, x = wr := ⟨_, rfl⟩
  have hKo := h_h.out.below hO.below_
  have hoo : s.2.length = on := hKo.oln
  by_cases hlt : k < on
  · obtain ⟨e, he⟩ : ∃ e, s.2[k]? = some e := ⟨_, List.getElem?_eq_getElem (by omega)⟩
    have hem := List.mem_of_getElem? he
    have her := hs0_h.out.rg2 e hem
    obtain ⟨ee, rfl⟩ : ∃ ee : Nat, e = (ee : Int) := ⟨e.toNat, by omega⟩
    have hml : g.2.1.length = m := by rw [e1_h.out, List.length_map, hm_h.out]
    obtain ⟨oa, hoa, p0⟩ := hKo.ord.rd k _ he
    subst hoa
    have hBW := hKo.bel
    obtain ⟨ad, κ, vl, B1, b1, l1, C1, b2, l2, hae, hn1, ⟨d0, d1, d2, d3⟩, hr1, hr2⟩ := (hE_h.out.below hBW).at_ (j := ee) (by rw [hm_h.out]; omega)
    subst hae
    have hed : edgeAt g (ee : Int) = (κ, vl, l1, l2) := by
     unfold edgeAt
     rw [Int.toNat_natCast, List.getD_eq_getElem?_getD, e1_h.out, List.getElem?_map, hn1]
     rfl
    obtain ⟨⟨g1, g2⟩, _⟩ := egB_len (hMo_h.out.kind (κ, vl, l1, l2) (by rw [e1_h.out]; exact List.mem_map.2 ⟨_, List.mem_of_getElem? hn1, rfl⟩))
    simp only at g1 g2
    obtain ⟨l, hl⟩ : ∃ l, l = l1 ++ l2 := ⟨_, rfl⟩
    have hwe : wiresE (edgeAt g (ee : Int)) = l := by rw [hed, hl]; rfl
    have hlm : ∀ x, x ∈ l → x ∈ s.1 := fun x hx => hs0_h.out.clo (ee : Int) hem x (by rw [hwe]; exact hx)
    have hcs := codeTo_step (g := g) he
    have hce : codeE s.1 (edgeAt g (ee : Int)) = [κ, vl] ++ l.map (idx s.1) := by unfold codeE; rw [hwe, hed]
    rw [hce] at hcs
    obtain ⟨p, hp⟩ : ∃ p, l.length = p := ⟨_, rfl⟩
    have hp4 : p ≤ 4 := by rw [← hp, hl, List.length_append]; omega
    obtain ⟨p1, hp1⟩ : ∃ p1, l1.length = p1 := ⟨_, rfl⟩
    obtain ⟨p2, hp2⟩ : ∃ p2, l2.length = p2 := ⟨_, rfl⟩
    rw [hp1] at d2
    rw [hp2] at d3
    have hdl360 : dl ≤ 360 := by have := hcl_h.out k; omega
    obtain ⟨⟨c0, c1, c2, c3, c4, c5, c6, c7, c8, c9⟩, f8, f9⟩ := box10 hKo.box
    obtain ⟨W6, hW6, bW6, k6⟩ := (⟨_, rfl, t_below_alloc _ _, heap_alloc_new _ _⟩ : ∃ W, W = wo.alloc (.cells #[.int .i64 κ, .int .i64 vl, .slice B1 p1 b1, .slice C1 p2 b2] tEd) ∧ Below wo.heap.size wo W ∧ W.heap[wo.heap.size]? = some (.cells #[.int .i64 κ, .int .i64 vl, .slice B1 p1 b1, .slice C1 p2 b2] tEd))
    have hO6 := hO.low bW6
    have hb7 := t_below_alloc W6 (.cells #[.int .i64 κ, .int .i64 vl] tInt)
    have hsl7 := (hO6.low hb7).sl hdl
    obtain ⟨⟨u0, u1, u2, u3⟩, v0, v1, v2, v3⟩ := t_box4 k6
    have heI : (ee : Int) < (m : Int) := by omega
    have hkI : (k : Int) < (on : Int) := by omega
    clear hed hce her hem hoo; have hn1_h := lH hn1; have hKo_h := lH hKo; have hO_h := lH hO; have hdl_h := lH hdl; have he_h := lH he; have hml_h := lH hml; have hBW_h := lH hBW; have hr1_h := lH hr1; have hr2_h := lH hr2; have hl_h := lH hl; have hwe_h := lH hwe; have hlm_h := lH hlm; have hcs_h := lH hcs; have hp_h := lH hp; have hp1_h := lH hp1; have hp2_h := lH hp2; have bW6_h := lH bW6; have k6_h := lH k6; have hO6_h := lH hO6; have hb7_h := lH hb7; have hsl7_h := lH hsl7; clear hn1 hKo hO hdl he hml hBW hr1 hr2 hl hwe hlm hcs hp hp1 hp2 bW6 k6 hO6 hb7 hsl7
    go_upto_region 6 with (fail)
    rw [← hW6]
    clear hW6 c0 c1 c2 c3 c4 c5 c6 c7 c8 c9 f8 f9 d0 d1 d2 d3 p0
    go_wp2_with (at_builtin; refine wpList_append_Sl _ rfl _ _ _ rfl 3 Tryz.underlying23 info_int rfl (by omega) rfl hsl7_h.out rfl (news := [.int .i64 κ, .int .i64 vl]) rfl (Sl.rdc (Sl.laid W6 3 1 2 #[.int .i64 κ, .int .i64 vl] (by unfold maxLen; omega) rfl)) (by intro u hu; simp at hu; rcases hu with rfl | rfl <;> rfl) (by unfold maxLen; omega) (by omega) ?_; intro A5 cap5 w7 hs7 hA7 hk7; have hO7 := (hO6_h.out.low hb7_h.out).join (v := [κ, vl]) (n := dl + 2) (by rw [hdl_h.out]; rfl) hs7 hA7 hk7; have k7 := t_box_keeps (t_box_below k6_h.out hb7_h.out) hk7 (fun h => by have := hO_h.out.is.lt _ h; omega); clear hs7 hA7 hk7 u0 u1 u2 u3 v0 v1 v2 v3; obtain ⟨⟨u0, u1, u2, u3⟩, v0, v1, v2, v3⟩ := t_box4 k7; have hO7_h := lH hO7; have k7_h := lH k7; clear hO7 k7)
    have hB7 := (h_h.out.below hO7_h.out.below_).bel
    have hrr := (hE_h.out.below hB7).2 _ (List.mem_of_getElem? hn1_h.out)
    have hJ0 := joined_any (some ⟨w7.heap.size, 0, none⟩) 2 [(B1, b1, l1), (C1, b2, l2)] (w7.alloc (.cells #[.slice B1 l1.length b1, .slice C1 l2.length b2] 23)) (rd2 hrr.1 hrr.2) (by simp) (by simp; omega)
    rw [show (([(B1, b1, l1), (C1, b2, l2)] : List Hd).map fun h : Hd => h.2.2).flatten = l by rw [hl_h.out]; simp, hp1_h.out, hp2_h.out] at hJ0
    have hJ : Calls Tryz.prog 52 #[.slice (some ⟨w7.heap.size, 0, none⟩) 2 2] (w7.alloc (.cells #[.slice B1 p1 b1, .slice C1 p2 b2] 23)) (RetI (w7.alloc (.cells #[.slice B1 p1 b1, .slice C1 p2 b2] 23)) l) := hJ0
    unfold RetI at hJ
    rw [hp_h.out] at hJ
    clear hrr hJ0 hsl7_h hb7_h hO6_h k6_h; have hJ_h := lH hJ; have hB7_h := lH hB7; clear hJ hB7
    go_wp2_with (fail)
    refine (hJ_h.out).mono ?_
    rintro e w8 ⟨A8, cap8, rfl, hI8, hF8, hb8⟩
    have hz7 := (t_below_alloc w7 (.cells #[.slice B1 p1 b1, .slice C1 p2 b2] 23)).size
    have hO8 := hO7_h.out.low (below_trans (t_below_alloc w7 (.cells #[.slice B1 p1 b1, .slice C1 p2 b2] 23)) hb8 hz7)
    have hA8 : ∀ x, x ∈ fpA A8 → ¬ x ∈ fpA A5 := fun x hx hh => by
     have := hO7_h.out.is.lt x hh
     have := hF8 x hx
     omega
    have hlen8 : (codeTo g s k ++ [κ, vl] ++ (l.take 0).map (idx s.1)).length = dl + 2 := by simp only [List.take_zero, List.map_nil, List.append_nil, List.length_append, List.length_cons, List.length_nil]; rw [hdl_h.out]
    have hO8' : OI w w8 A5 cap5 (codeTo g s k ++ [κ, vl] ++ (l.take 0).map (idx s.1)) := by simpa using hO8
    clear hF8 hb8 hz7 hO8 hO7_h hB7_h hJ_h u0 u1 u2 u3 v0 v1 v2 v3 k7_h; have hI8_h := lH hI8; have hA8_h := lH hA8; have hlen8_h := lH hlen8; have hO8'_h := lH hO8'; clear hI8 hA8 hlen8 hO8'
    go_wp2_with (fail)
    go_loopw [41, 3] (fun i v wr => ∃ (j : Nat) (D : Option Addr) (dc d2 : Nat), j ≤ p ∧ i = .int .i64 j ∧ v = .slice D d2 dc ∧ (codeTo g s k ++ [κ, vl] ++ (l.take j).map (idx s.1)).length = d2 ∧ OI w wr D dc (codeTo g s k ++ [κ, vl] ++ (l.take j).map (idx s.1)) ∧ IS wr A8 cap8 l ∧ ∀ x, x ∈ fpA A8 → ¬ x ∈ fpA D) (fun i _ _ => p - (intOf i).toNat)
    case atStart => exact ⟨0, A5, cap5, dl + 2, Nat.zero_le _, rfl, rfl, hlen8_h.out, hO8'_h.out, hI8_h.out, hA8_h.out⟩
    case round =>
     clear hI8_h hA8_h hlen8_h hO8'_h
     obtain ⟨j, D1, dc1, d2, hj, rfl, rfl, hd2, hO1, hI1, hA1⟩ := hrel
     obtain ⟨wi, rfl⟩ : ∃ x, x = wr := ⟨_, rfl⟩
     have hd4 : d2 = dl + 2 + min j p := by rw [← hd2]; simp only [List.length_append, List.length_cons, List.length_nil, List.length_map, List.length_take]; rw [hdl_h.out, hp_h.out]
     by_cases hltj : j < p
     · obtain ⟨x, hx⟩ : ∃ x, l[j]? = some x := ⟨_, List.getElem?_eq_getElem (by rw [hp_h.out]; exact hltj)⟩
       have hxm := hlm_h.out x (List.mem_of_getElem? hx)
       have hxr := hs0_h.out.rg1 x hxm
       have hwf : (Lit.int .i64 x).wf = true := WalkArith.wf_i64 (by omega)
       obtain ⟨q, hq⟩ : ∃ q, look s.1 x = q := ⟨_, rfl⟩
       have hqi : idx s.1 x = q := by rw [← hq, look_mem hxm]
       obtain ⟨ja, hja, p0⟩ := hI1.rd j _ hx
       subst hja
       have hKi := h_h.out.below hO1.below_
       have hMI := hKi.wir
       obtain ⟨⟨c0, c1, c2, c3, c4, c5, c6, c7, c8, c9⟩, f8, f9⟩ := box10 hKi.box
       have hb9 := t_below_alloc wi (.cells #[.int .i64 q] tInt)
       have hsl9 := (hO1.low hb9).sl hd2
       have hd100 : d2 ≤ 400 := by omega
       have hst : codeTo g s k ++ [κ, vl] ++ (l.take (j + 1)).map (idx s.1) = codeTo g s k ++ [κ, vl] ++ (l.take j).map (idx s.1) ++ [q] := by
        rw [List.take_add_one, hx, List.map_append, ← List.append_assoc]
        simp [hqi]
       have hjI : (j : Int) < (p : Int) := by omega
       have hnd := hs0_h.out.nd1
       clear hqi hx hxm hd4; have hO1_h := lH hO1; have hI1_h := lH hI1; have hA1_h := lH hA1; have hMI_h := lH hMI; have hq_h := lH hq; have hnd_h := lH hnd; have hKi_h := lH hKi; have hb9_h := lH hb9; have hsl9_h := lH hsl9; have hst_h := lH hst; have hd2_h := lH hd2; clear hO1 hI1 hA1 hMI hq hnd hKi hb9 hsl9 hst hd2
       go_wp2_with (first | (at_lookup; refine wp_mi_get rfl _ _ rfl rfl hMI_h.out hnd_h.out x rfl hwf q hq_h.out ?_) | (at_builtin; refine wpList_append_Sl _ rfl _ _ _ rfl 3 Tryz.underlying23 info_int rfl (by omega) rfl hsl9_h.out rfl (news := [.int .i64 q]) rfl (Sl.rdc (Sl.laid wi 3 1 1 #[.int .i64 q] (by unfold maxLen; omega) rfl)) (by intro u hu; simp at hu; subst hu; rfl) (by unfold maxLen; omega) (by omega) ?_; intro A9 cap9 w9 hs9 hA9 hk9))
       have hO9 := (hO1_h.out.low hb9_h.out).join (v := [q]) (n := d2 + 1) (by rw [hd2_h.out]; rfl) hs9 hA9 hk9
       have hI9 := (hI1_h.out.below hb9_h.out).keeps hk9 fun x hx => hA1_h.out x hx
       have hA9' : ∀ x, x ∈ fpA (some ja) → ¬ x ∈ fpA A9 := fun x hx hh => by
        rcases hA9 x hh with h1 | h1
        · exact hA1_h.out x hx h1
        · have h2 : wi.heap.size ≤ x := Nat.le_trans hb9_h.out.size h1
          have := hI1_h.out.lt x hx
          omega
       have hd9 : (codeTo g s k ++ [κ, vl] ++ (l.take (j + 1)).map (idx s.1)).length = d2 + 1 := by rw [hst_h.out, List.length_append, hd2_h.out]; rfl
       rw [← hst_h.out] at hO9
       clear hs9 hA9 hk9; have hO9_h := lH hO9; have hI9_h := lH hI9; have hA9'_h := lH hA9'; have hd9_h := lH hd9; clear hO9 hI9 hA9' hd9
       go_roundw
       case rel => exact ⟨j + 1, A9, cap9, d2 + 1, by omega, by go_num, rfl, hd9_h.out, hO9_h.out, hI9_h.out, hA9'_h.out⟩
       case measure => simp [intOf]; omega
     · obtain rfl : p = j := by omega
       have hfin : codeTo g s (k + 1) = codeTo g s k ++ [κ, vl] ++ (l.take p).map (idx s.1) := by
        rw [hcs_h.out, List.take_of_length_le (by rw [hp_h.out]; exact Nat.le_refl _), List.append_assoc]
       rw [← hfin] at hO1 hd2
       clear hI1 hA1 hfin hd4; have hO1_h := lH hO1; have hd2_h := lH hd2; clear hO1 hd2
       go_wp2_with (fail)
       go_roundw
       case rel => exact ⟨k + 1, D1, dc1, d2, by omega, by go_num, rfl, hd2_h.out, hO1_h.out⟩
       case measure => simp [intOf]; omega
  · obtain rfl : on = k := by omega
    have hend := codeTo_all g s (k := on) (by omega)
    rw [hend] at hO hdl
    clear hoo; have hO_h := lH hO; have hKo_h := lH hKo; have hdl_h := lH hdl; have hend_h := lH hend; clear hO hKo hdl hend
    go_wp2_with (fail)
    go_ret
    exact ⟨D, dc, by rw [hdl_h.out]; rfl, hO_h.out.is, hO_h.out.new, hO_h.out.below_⟩
def blkA : Value → List Nat
 | .agg cs => cs.toList.flatMap blkV
 | v => blkV v
def EndV (n : Nat) (es : List Eg) (v : Value) (w : World) : Prop := ∃ Bf Bh : Addr, v = .agg #[.slice (some Bf) n n, .slice (some Bh) n n] ∧ IS w (some Bf) n (tabK outE es n es.length) ∧ IS w (some Bh) n (tabK inE es n es.length) ∧ Bf.block ≠ Bh.block
def MapV (v : Value) (w : World) : Prop := ∃ b, v = .map (some b) ∧ MI w b []
theorem EndV.stb (n : Nat) (es : List Eg) : Stb (EndV n es) := fun _ _ _ ⟨Bf, Bh, e, h1, h2, h3⟩ hb => ⟨Bf, Bh, e, h1.below hb, h2.below hb, h3⟩
theorem MapV.stb : Stb MapV := fun _ _ _ ⟨b, e, h⟩ hb => ⟨b, e, h.below hb⟩
def BldV (n : Nat) (x1 x2 x3 v5 v6 v7 v : Value) : Prop := ∃ (Bf Bh : Addr) (mw me : Nat), v5 = .agg #[.slice (some Bf) n n, .slice (some Bh) n n] ∧ v6 = .map (some mw) ∧ v7 = .map (some me) ∧ v = .agg #[.int .i64 (n : Int), x1, x2, x3, .slice (some Bf) n n, .slice (some Bh) n n, .map (some mw), .map (some me), .slice none 0 0, .slice none 0 0]
def PtrV (v8 v : Value) (w : World) : Prop := ∃ (b : Nat) (cs : Array Value), v = .pointer (some ⟨b, 0, none⟩) ∧ v8 = .agg cs ∧ w.heap[b]? = some (.cells cs tWk)
set_option maxRecDepth 100000 in
set_option maxHeartbeats 8000000 in
theorem walkerOf_any {g : Gr} {n m c p bb r d : Nat} {A B C : Option Addr} (w : World) (h : RdGr w (.agg #[.int .i64 (n : Int), .slice A m c, .slice B p bb, .slice C r d]) g) (hMo : Mono g n) :
  Calls Tryz.prog 71 #[.agg #[.int .i64 (n : Int), .slice A m c, .slice B p bb, .slice C r d]] w fun e w' => ∃ (b : Nat) (Bf Bh : Addr) (mw me : Nat), e = .returned (.pointer (some ⟨b, 0, none⟩)) ∧ KW w n g.2.1 (.slice A m c) (.slice B p bb) (.slice C r d) b Bf Bh mw me ([], []) 0 w' none 0 0 none 0 0 := by
 have hn100 := hMo.n100
 have hmm := @run_makeMap Tryz.prog
 obtain ⟨W, hW, bW, k0⟩ := (⟨_, rfl, t_below_alloc _ _, heap_alloc_new _ _⟩ : ∃ W, W = w.alloc (.cells #[.int .i64 (n : Int), .slice A m c, .slice B p bb, .slice C r d] tGr) ∧ Below w.heap.size w W ∧ W.heap[w.heap.size]? = some (.cells #[.int .i64 (n : Int), .slice A m c, .slice B p bb, .slice C r d] tGr))
 have hC := fun (W' : World) (hb : Below w.heap.size w W') => ends_any W' n (h.below hb) hMo
 have h_h := lH h; have hMo_h := lH hMo; have bW_h := lH bW; have k0_h := lH k0; have hC_h := lH hC; clear h hMo bW k0 hC
 go_enter Tryz.func71, Tryz.ntmps71
 go_upto_region 1 with (fail)
 rw [← hW]
 clear hW
 refine beginH (fun w' => Below w.heap.size w w') (by kernel_rfl) ?_
 have hbd : Below w.heap.size w W.drew := below_drewN bW_h.out 1
 have k1 : W.drew.heap[w.heap.size]? = some (.cells #[.int .i64 (n : Int), .slice A m c, .slice B p bb, .slice C r d] tGr) := t_box_below k0_h.out (below_drewN (Below.refl W.heap.size W) 1)
 have hwW : w.heap.size ≤ W.drew.heap.size := hbd.size
 generalize W.drew = W1 at hbd k1 hwW ⊢
 refine relT [(0, 3), (1, 4), (2, 5), (3, 6), (4, 7), (5, 8), (6, 9), (7, 2)] (fun i => if i = 2 then [4] else if i = 5 then [3, 5, 6, 7] else if i = 6 then [8] else if i = 7 then [9] else [])
  (fun t xs v w => if t = 3 then v = .agg #[.int .i64 (n : Int), .slice A m c, .slice B p bb, .slice C r d] else if t = 4 then v = .agg #[.int .i64 (n : Int), .slice A m c, .slice B p bb, .slice C r d] else if t = 5 then EndV n g.2.1 v w else if t = 6 then MapV v w else if t = 7 then MapV v w else if t = 8 then BldV n (.slice A m c) (.slice B p bb) (.slice C r d) (xs 5) (xs 6) (xs 7) v else if t = 9 then PtrV (xs 8) v w else v = xs 9)
  (fun t v => if t = 3 then [] else if t = 4 then [] else if t = 8 then [] else if t = 2 then [] else blkA v) 0 rfl (by kernel_rfl) ?st1 ?co1 (fun w' hw' => below_trans hbd hw' hwW) ?sp1 ?fi1
 case st1 =>
  intro t xs
  refine Stb.ite (fun _ _ _ h _ => h) (Stb.ite (fun _ _ _ h _ => h) ((EndV.stb n g.2.1).ite (MapV.stb.ite (MapV.stb.ite (Stb.ite (fun _ _ _ h _ => h) (Stb.ite (fun _ _ _ ⟨b, cs, e1, e2, e3⟩ hb => ⟨b, cs, e1, e2, t_box_below e3 hb⟩) (fun _ _ _ h _ => h)))))))
 case co1 =>
  intro z hz xs ys v w hd h
  simp only [List.mem_cons, List.not_mem_nil, or_false] at hz
  rcases hz with rfl | rfl | rfl | rfl | rfl | rfl | rfl | rfl
  · exact h
  · exact h
  · exact h
  · exact h
  · exact h
  · have h5 := hd 5 (by decide)
    have h6 := hd 6 (by decide)
    have h7 := hd 7 (by decide)
    show BldV n (.slice A m c) (.slice B p bb) (.slice C r d) (ys 5) (ys 6) (ys 7) v
    rw [← h5, ← h6, ← h7]
    exact h
  · have h8 := hd 8 (by decide)
    show PtrV (ys 8) v w
    rw [← h8]
    exact h
  · have h9 := hd 9 (by decide)
    show v = ys 9
    rw [← h9]
    exact h
 case sp1 =>
  have hld : ∀ W', Below W1.heap.size W1 W' → _ := fun W' hb => t_box4 (t_box_below k1 hb)
  refine ⟨⟨_, rfl, fun xs w5 hb5 hd K hK => ?_⟩, ⟨_, rfl, fun xs w5 hb5 hd K hK => ?_⟩, ⟨_, rfl, fun xs w5 hb5 hd K hK => ?_⟩, ⟨_, rfl, fun xs w5 hb5 hd K hK => ?_⟩, ⟨_, rfl, fun xs w5 hb5 hd K hK => ?_⟩, ⟨_, rfl, fun xs w5 hb5 hd K hK => ?_⟩, ⟨_, rfl, fun xs w5 hb5 hd K hK => ?_⟩, ⟨_, rfl, fun xs w5 hb5 hd K hK => ?_⟩, trivial⟩
  · simp only [putZ, List.foldl_cons, List.foldl_nil, Act.put, nS] at hK ⊢
    obtain ⟨⟨y0, y1, y2, y3⟩, y4, y5, y6, y7⟩ := hld w5 hb5
    go_simp
    exact hK _ _ (Below.refl _ _) (by simp) fun b hb => by simp at hb
  · simp only [putZ, List.foldl_cons, List.foldl_nil, Act.put, nS] at hK ⊢
    obtain ⟨⟨y0, y1, y2, y3⟩, y4, y5, y6, y7⟩ := hld w5 hb5
    go_simp
    exact hK _ _ (Below.refl _ _) (by simp) fun b hb => by simp at hb
  · have h4 : xs 4 = .agg #[.int .i64 (n : Int), .slice A m c, .slice B p bb, .slice C r d] := hd 4 (by decide)
    simp only [putZ, List.foldl_cons, List.foldl_nil, Act.put, nS] at hK ⊢
    simp only [h4] at hK ⊢
    refine wp_callZ (f := ?f_1) (args := ?args_1) ?hr_1 ?hc_1
    case hr_1 => (go_simp; first | done | with_reducible rfl | (constructor <;> with_reducible rfl))
    case hc_1 =>
     refine (hC_h.out w5 (below_trans hbd hb5 hwW)).mono ?_
     rintro e w6 ⟨Bf, Bh, rfl, h1, h2, h3, h4', h5, hb6⟩
     refine ⟨_, rfl, hK _ _ hb6 (⟨Bf, Bh, rfl, h1, h2, h5⟩ : EndV n g.2.1 _ w6) fun b hb => ?_⟩
     have hb' : b ∈ blkA (.agg #[.slice (some Bf) n n, .slice (some Bh) n n]) := hb
     simp [blkA, blkV] at hb'
     rcases hb' with rfl | rfl
     · exact ⟨h3, h1.lt _ (by simp)⟩
     · exact ⟨h4', h2.lt _ (by simp)⟩
  · simp only [putZ, List.foldl_cons, List.foldl_nil, Act.put, nS] at hK ⊢
    go_simp
    exact hK _ _ (t_below_alloc _ _) (⟨_, rfl, MI.made w5⟩ : MapV _ _) fun b hb => by
     have hb' : b ∈ blkA (.map (some w5.heap.size)) := hb
     obtain rfl : b = w5.heap.size := by simpa [blkA, blkV] using hb'
     simp
  · simp only [putZ, List.foldl_cons, List.foldl_nil, Act.put, nS] at hK ⊢
    go_simp
    exact hK _ _ (t_below_alloc _ _) (⟨_, rfl, MI.made w5⟩ : MapV _ _) fun b hb => by
     have hb' : b ∈ blkA (.map (some w5.heap.size)) := hb
     obtain rfl : b = w5.heap.size := by simpa [blkA, blkV] using hb'
     simp
  · have h3 : xs 3 = .agg #[.int .i64 (n : Int), .slice A m c, .slice B p bb, .slice C r d] := hd 3 (by decide)
    obtain ⟨Bf, Bh, h5, _⟩ := (hd 5 (by decide) : EndV n g.2.1 (xs 5) w5)
    obtain ⟨mw, h6, _⟩ := (hd 6 (by decide) : MapV (xs 6) w5)
    obtain ⟨me, h7, _⟩ := (hd 7 (by decide) : MapV (xs 7) w5)
    simp only [putZ, List.foldl_cons, List.foldl_nil, Act.put, nS] at hK ⊢
    simp only [h3, h5, h6, h7] at hK ⊢
    go_simp
    exact hK _ _ (Below.refl _ _) (by simp; exact ⟨Bf, Bh, mw, me, rfl, rfl, rfl, rfl⟩) fun b hb => by cases hb
  · obtain ⟨Bf, Bh, mw, me, -, -, -, h8⟩ := (hd 8 (by decide) : BldV n (.slice A m c) (.slice B p bb) (.slice C r d) (xs 5) (xs 6) (xs 7) (xs 8))
    simp only [putZ, List.foldl_cons, List.foldl_nil, Act.put, nS] at hK ⊢
    simp only [h8] at hK ⊢
    go_simp
    exact hK _ _ (t_below_alloc _ _) (by simp; exact ⟨_, _, rfl, rfl, heap_alloc_new _ _⟩) fun b hb => by
     have hb' : b ∈ blkA (.pointer (some ⟨w5.heap.size, 0, none⟩)) := hb
     obtain rfl : b = w5.heap.size := by simpa [blkA, blkV] using hb'
     simp
  · obtain ⟨b, cs, h9, -⟩ := (hd 9 (by decide) : PtrV (xs 8) (xs 9) w5)
    simp only [putZ, List.foldl_cons, List.foldl_nil, Act.put, nS] at hK ⊢
    simp only [h9] at hK ⊢
    go_simp
    exact hK (.pointer (some ⟨b, 0, none⟩)) _ (Below.refl _ _) (by simp) fun b hb => by cases hb
 case fi1 =>
  intro xs w6 hb6 hR hO hD
  obtain ⟨Bf, Bh, h5, hI1, hI2, hne⟩ := (hR (2, 5) (by simp) : EndV n g.2.1 (xs 5) w6)
  obtain ⟨mw, h6, hM1⟩ := (hR (3, 6) (by simp) : MapV (xs 6) w6)
  obtain ⟨me, h7, hM2⟩ := (hR (4, 7) (by simp) : MapV (xs 7) w6)
  obtain ⟨Bf', Bh', mw', me', e5, e6, e7, h8⟩ := (hR (5, 8) (by simp) : BldV n (.slice A m c) (.slice B p bb) (.slice C r d) (xs 5) (xs 6) (xs 7) (xs 8))
  obtain ⟨b, cs, h9, e8, hbx⟩ := (hR (6, 9) (by simp) : PtrV (xs 8) (xs 9) w6)
  have h2 : xs 2 = xs 9 := hR (7, 2) (by simp)
  rw [h5] at e5
  rw [h6] at e6
  rw [h7] at e7
  obtain ⟨rfl, rfl⟩ : Bf = Bf' ∧ Bh = Bh' := by simpa using e5
  obtain rfl : mw = mw' := by simpa using e6
  obtain rfl : me = me' := by simpa using e7
  rw [h8] at e8
  obtain rfl := Value.agg.inj e8
  have o5 := hO (2, 5) (by simp)
  have o5f := o5 Bf.block (by show _ ∈ blkA (xs 5); rw [h5]; simp [blkA, blkV])
  have o5h := o5 Bh.block (by show _ ∈ blkA (xs 5); rw [h5]; simp [blkA, blkV])
  have o6 := hO (3, 6) (by simp) mw (by show _ ∈ blkA (xs 6); rw [h6]; simp [blkA, blkV])
  have o7 := hO (4, 7) (by simp) me (by show _ ∈ blkA (xs 7); rw [h7]; simp [blkA, blkV])
  have o9 := hO (6, 9) (by simp) b (by show _ ∈ blkA (xs 9); rw [h9]; simp [blkA, blkV])
  have d67 : mw ≠ me := fun e => hD (3, 6) (by simp) (4, 7) (by simp) (by decide) mw (by show _ ∈ blkA (xs 6); rw [h6]; simp [blkA, blkV]) (by show _ ∈ blkA (xs 7); rw [h7, e]; simp [blkA, blkV])
  have hbel := below_trans hbd hb6 hwW
  have n1 : ∀ x, x ∈ fpA (some Bf) → x = Bf.block := fun x hx => by simpa using hx
  have hoff : ∀ a : Addr, ∀ c l, IS w6 (some a) c l → ¬ OwnK b mw me none none a.block := fun a c l hI hx => by
   rcases hx with hx | hx | hx | hx | hx
   · exact is_ne_box hI hbx (by decide) hx
   · exact (hM1.ne_sl hI (x := a.block) (by simp)) hx.symm
   · exact (hM2.ne_sl hI (x := a.block) (by simp)) hx.symm
   · cases hx
   · cases hx
  have hKW : KW w n g.2.1 (.slice A m c) (.slice B p bb) (.slice C r d) b Bf Bh mw me ([], []) 0 w6 none 0 0 none 0 0 :=
   ⟨hbx, hI1, hI2, hM1, hM2, Sl.nil _ _ _, Sl.nil _ _ _, rfl, rfl, Nat.le_refl _, fun x hx => (by
    rcases hx with hx | hx | hx | hx | hx
    · omega
    · omega
    · omega
    · cases hx
    · cases hx), by omega, ⟨hoff Bf _ _ hI1, hoff Bh _ _ hI2⟩, fun x hx => (by cases hx), d67, hbel⟩
  clear hR hO hD hI1 hI2 hM1 hM2 hbx o5 o5f o5h o6 o7 o9 hoff n1 e5 e6 e7 e8; have hKW_h := lH hKW; clear hKW
  simp only [putZ, List.foldl_cons, List.foldl_nil, Act.put, nS, mkZ]
  simp only [h2, h9]
  refine doneH (by kernel_rfl) ?_
  go_wp2_with (fail)
  go_ret
  exact ⟨b, rfl, Bf, Bh, mw, me, hKW_h.out⟩
end Go.Proofs.YtpkmjenoniedjaaGreat
namespace Go.Proofs.YtpkmjenoniedjaaGreat
theorem nrM_mono (C : List Int) (r : Nat) : ∀ d, nrM C r ≤ nrM C (r + d)
 | 0 => Nat.le_refl _
 | d + 1 => Nat.le_trans (nrM_mono C r d) (Nat.le_add_right _ _)
theorem nrM_lt {C : List Int} {r s : Nat} (hr : C.getD r 0 = (r : Int)) (h : r < s) : nrM C r < nrM C s := by
 have h1 := nrM_mono C (r + 1) (s - (r + 1))
 rw [show r + 1 + (s - (r + 1)) = s by omega] at h1
 have h2 := nrM_new hr
 omega
theorem nrM_inj {C : List Int} {r s : Nat} (hr : C.getD r 0 = (r : Int)) (hs : C.getD s 0 = (s : Int)) (h : nrM C r = nrM C s) : r = s := by
 rcases Nat.lt_trichotomy r s with h1 | h1 | h1
 · have := nrM_lt hr h1; omega
 · exact h1
 · have := nrM_lt hs h1; omega
def numW (g : Gr) (w : Int) : Int := (numM (clsG g)).getD w.toNat 0
def numE (g : Gr) (e : Int) : Int := numW g ((wiresE (edgeAt g e)).getD 0 0)
section
variable {g : Gr} {n : Nat}
theorem cls_of (h : Mono g n) : Cls n (clsG g) := by
 have := Cls.joins (Cls.id n) h.pairs
 unfold clsG
 rw [h.hn, Int.toNat_natCast]
 exact this
theorem numW_eq (h : Mono g n) {w : Int} (hw : 0 ≤ w ∧ w < (n : Int)) : numW g w = (nrM (clsG g) (clsW g w).toNat : Int) := by
 unfold numW clsW
 rw [List.getD_eq_getElem?_getD, numM_get (cls_of h) (w := w.toNat) (by omega)]
 rfl
theorem numW_iff (h : Mono g n) {v w : Int} (hv : 0 ≤ v ∧ v < (n : Int)) (hw : 0 ≤ w ∧ w < (n : Int)) : numW g v = numW g w ↔ clsW g v = clsW g w := by
 rw [numW_eq h hv, numW_eq h hw]
 have hC := cls_of h
 constructor
 · intro e
   have e' : nrM (clsG g) (clsW g v).toNat = nrM (clsG g) (clsW g w).toNat := by omega
   have l1 := hC.le v.toNat (by omega)
   have l2 := hC.le w.toNat (by omega)
   have f1 := hC.fix v.toNat (by omega)
   have f2 := hC.fix w.toNat (by omega)
   unfold clsW at e' ⊢
   have := nrM_inj (r := ((clsG g).getD v.toNat 0).toNat) (s := ((clsG g).getD w.toNat 0).toNat) (by rw [f1]; omega) (by rw [f2]; omega) e'
   omega
 · intro e
   rw [e]
theorem first_rng (h : Mono g n) {e : Int} (h0 : 0 ≤ e) (hm : e < (g.2.1.length : Int)) : 0 ≤ (wiresE (edgeAt g e)).getD 0 0 ∧ (wiresE (edgeAt g e)).getD 0 0 < (n : Int) := h.wires h0 hm _ (first_mem h h0 hm)
theorem numE_iff (h : Mono g n) {e f : Int} (he : 0 ≤ e ∧ e < (g.2.1.length : Int)) (hf : 0 ≤ f ∧ f < (g.2.1.length : Int)) : numE g e = numE g f ↔ compE g e = compE g f := numW_iff h (first_rng h he.1 he.2) (first_rng h hf.1 hf.2)
def grpN (g : Gr) (q : Int) (k : Nat) : List Int := (idW k).filter fun e => decide (numE g e = q)
theorem grpN_succ (g : Gr) (q : Int) (k : Nat) : grpN g q (k + 1) = grpN g q k ++ if numE g (k : Int) = q then [(k : Int)] else [] := by
 unfold grpN
 rw [idW_succ, List.filter_append]
 congr 1
 split
 · rename_i h; simp [h]
 · rename_i h; simp [h]
theorem mem_grpN {q e : Int} {k : Nat} : e ∈ grpN g q k ↔ (0 ≤ e ∧ e < (k : Int)) ∧ numE g e = q := by
 unfold grpN
 rw [List.mem_filter, mem_idW, decide_eq_true_eq]
theorem grpN_len (g : Gr) (q : Int) (k : Nat) : (grpN g q k).length ≤ k := by
 have := List.length_filter_le (fun e => decide (numE g e = q)) (idW k)
 rw [idW_length] at this
 exact this
theorem grpN_eq (h : Mono g n) {e : Int} (he : 0 ≤ e ∧ e < (g.2.1.length : Int)) : grpN g (numE g e) g.2.1.length = grpC g (compE g e) := by
 unfold grpN grpC grpTo
 refine List.filter_congr fun x hx => ?_
 have hx' := mem_idW.1 hx
 have := numE_iff h hx' he
 by_cases e1 : numE g x = numE g e
 · rw [decide_eq_true e1, decide_eq_true (this.1 e1)]
 · rw [decide_eq_false e1, decide_eq_false fun h2 => e1 (this.2 h2)]
def keysTo (g : Gr) : Nat → List Int
 | 0 => []
 | k + 1 => if numE g (k : Int) ∈ keysTo g k then keysTo g k else keysTo g k ++ [numE g (k : Int)]
theorem mem_keys {q : Int} : ∀ {k : Nat}, q ∈ keysTo g k ↔ ∃ j : Nat, j < k ∧ numE g (j : Int) = q
 | 0 => ⟨fun h => (by cases h), fun ⟨j, hj, _⟩ => (by omega)⟩
 | k + 1 => by
   have ih := mem_keys (q := q) (k := k)
   unfold keysTo
   split
   · rename_i hin
     rw [ih]
     constructor
     · rintro ⟨j, hj, e⟩; exact ⟨j, by omega, e⟩
     · rintro ⟨j, hj, e⟩
       by_cases hjk : j < k
       · exact ⟨j, hjk, e⟩
       · obtain rfl : j = k := by omega
         rw [e] at hin
         exact ih.1 hin
   · rw [List.mem_append, ih, List.mem_singleton]
     constructor
     · rintro (⟨j, hj, e⟩ | rfl)
       · exact ⟨j, by omega, e⟩
       · exact ⟨k, by omega, rfl⟩
     · rintro ⟨j, hj, e⟩
       by_cases hjk : j < k
       · exact .inl ⟨j, hjk, e⟩
       · obtain rfl : j = k := by omega
         exact .inr e.symm
theorem grpN_pos {q : Int} {k : Nat} : q ∈ keysTo g k ↔ grpN g q k ≠ [] := by
 rw [mem_keys]
 constructor
 · rintro ⟨j, hj, e⟩ h0
   have : (j : Int) ∈ grpN g q k := mem_grpN.2 ⟨by omega, e⟩
   rw [h0] at this
   cases this
 · intro h0
   obtain ⟨x, hx⟩ := List.exists_mem_of_ne_nil _ h0
   obtain ⟨h1, h2⟩ := mem_grpN.1 hx
   exact ⟨x.toNat, by omega, by rw [show ((x.toNat : Nat) : Int) = x by omega]; exact h2⟩
theorem keep_iff (h : Mono g n) {q : Int} : (q ∈ keysTo g g.2.1.length ∧ ∀ w, w ∈ (openM g).1 → numW g w ≠ q) ↔ ∃ j : Nat, j < g.2.1.length ∧ numE g (j : Int) = q ∧ ¬ openC g (compE g (j : Int)) := by
 have hr := (openM_inv h).rg1
 rw [mem_keys]
 constructor
 · rintro ⟨⟨j, hj, e⟩, hno⟩
   refine ⟨j, hj, e, fun ⟨v, hv, e2⟩ => hno v hv ?_⟩
   rw [← e]
   exact (numW_iff h (hr v hv) (first_rng h (by omega) (by omega))).2 e2
 · rintro ⟨j, hj, e, hno⟩
   refine ⟨⟨j, hj, e⟩, fun v hv e2 => hno ⟨v, hv, ?_⟩⟩
   rw [← e] at e2
   exact (numW_iff h (hr v hv) (first_rng h (by omega) (by omega))).1 e2
theorem parts_of_keys (h : Mono g n) {K : List Int} (hnd : K.Nodup) (hK : ∀ q, q ∈ K ↔ ∃ j : Nat, j < g.2.1.length ∧ numE g (j : Int) = q ∧ ¬ openC g (compE g (j : Int))) {P : List Prt} (hP : P.Perm (K.map fun q => bestP g (grpN g q g.2.1.length))) (hs : P.Pairwise (fun x y => befP y x = false)) : P = partsM g := by
 have hrep : ∀ q, q ∈ K → ∃ f : Int, (0 ≤ f ∧ f < (g.2.1.length : Int)) ∧ numE g f = q ∧ (grpN g q g.2.1.length).getD 0 0 = f ∧ ¬ openC g (compE g f) := fun q hq => by
  obtain ⟨j, hj, e, hno⟩ := (hK q).1 hq
  have hne : grpN g q g.2.1.length ≠ [] := grpN_pos.1 (mem_keys.2 ⟨j, hj, e⟩)
  have hm : (grpN g q g.2.1.length).getD 0 0 ∈ grpN g q g.2.1.length := by
   cases hg : grpN g q g.2.1.length with
   | nil => exact absurd hg hne
   | cons a r => simp
  obtain ⟨h1, h2⟩ := mem_grpN.1 hm
  refine ⟨_, h1, h2, rfl, ?_⟩
  rw [← (numE_iff h (e := (j : Int)) (by omega) h1).1 (by rw [e, h2])]
  exact hno
 refine parts_eq h (κ := K.map fun q => compE g ((grpN g q g.2.1.length).getD 0 0)) ?_ (fun c => ?_) (hP.trans (List.Perm.of_eq ?_)) hs
 · unfold List.Nodup
   rw [List.pairwise_map]
   refine hnd.imp_of_mem fun {a b} ha hb hne e => hne ?_
   obtain ⟨f, f1, f2, f3, _⟩ := hrep a ha
   obtain ⟨f', f1', f2', f3', _⟩ := hrep b hb
   rw [f3, f3'] at e
   rw [← f2, ← f2']
   exact (numE_iff h f1 f1').2 e
 · rw [List.mem_map]
   constructor
   · rintro ⟨q, hq, rfl⟩
     obtain ⟨f, f1, f2, f3, f4⟩ := hrep q hq
     rw [f3]
     exact ⟨f4, f.toNat, by omega, by rw [show ((f.toNat : Nat) : Int) = f by omega]⟩
   · rintro ⟨hno, j, hj, rfl⟩
     have hq := (hK (numE g (j : Int))).2 ⟨j, hj, rfl, hno⟩
     obtain ⟨f, f1, f2, f3, _⟩ := hrep _ hq
     refine ⟨_, hq, ?_⟩
     rw [f3]
     exact (numE_iff h f1 (by omega)).1 f2
 · rw [List.map_map]
   refine List.map_congr_left fun q hq => ?_
   obtain ⟨f, f1, f2, f3, _⟩ := hrep q hq
   show _ = bestP g (grpC g (compE g ((grpN g q g.2.1.length).getD 0 0)))
   rw [f3, ← grpN_eq h f1, f2]
end
theorem least_end {l : List Int} {n : Nat} {v : Int} (hne : l ≠ []) (hr : ∀ x, x ∈ l → x < (n : Int)) (hn : n ≤ 100) (hle : ∀ x, x ∈ l → v ≤ x) (hv : v = (n : Int) ∨ v ∈ l) : v = leastW l := by
 have hm := leastW_mem hne fun x hx => by have := hr x hx; omega
 have h1 := hle _ hm
 obtain ⟨⟨_, h2⟩, _⟩ := foldl_min l 100
 rcases hv with rfl | hv
 · have := hr _ hm; omega
 · have := h2 v hv
   unfold leastW at h1 ⊢
   omega
def cmpL (l m : List Int) : Int := if l = m then 0 else if lexI l m then -1 else 1
def cmpP (a b : Prt) : Int := if cmpL a.1 b.1 = 0 then leastW a.2.1.1 - leastW b.2.1.1 else cmpL a.1 b.1
theorem cmpL_zero {l m : List Int} : cmpL l m = 0 ↔ l = m := by
 unfold cmpL
 split
 · rename_i h; simp [h]
 · rename_i h
   split <;> simp [h]
theorem cmpP_lt (a b : Prt) : decide (cmpP a b < 0) = befP a b := by
 unfold cmpP befP
 by_cases e : a.1 = b.1
 · rw [if_pos (cmpL_zero.2 e), if_pos e]
   congr 1
   exact propext (by omega)
 · rw [if_neg (fun h => e (cmpL_zero.1 h)), if_neg e]
   unfold cmpL
   rw [if_neg e]
   cases lexI a.1 b.1 <;> simp
open Go.RowKit
theorem isNaN_any (x : Int) (w : World) : Calls Tryz.prog 105 #[.int .i64 x] w fun e w' => e = .returned (.bool false) ∧ w' = w := by
 go_enter Tryz.func105, Tryz.ntmps105
 go_wp2_with (fail)
 go_ret
 simp
theorem cmpI_any (x y : Int) (w : World) : Calls Tryz.prog 93 #[.int .i64 x, .int .i64 y] w fun e w' => e = .returned (.int .i64 (if x < y then -1 else if y < x then 1 else 0)) ∧ w' = w := by
 have h1 := isNaN_any x
 have h2 := isNaN_any y
 by_cases a : x < y
 · rw [if_pos a]
   go_enter Tryz.func93, Tryz.ntmps93
   go_wp2_with (fail)
   refine (h1 w).mono ?_
   rintro e w' ⟨rfl, rfl⟩
   go_wp2_with (fail)
   refine (h2 w').mono ?_
   rintro e w2 ⟨rfl, rfl⟩
   go_wp2_with (fail)
   go_ret
   exact ⟨rfl, rfl⟩
 · rw [if_neg a]
   by_cases b : y < x
   · rw [if_pos b]
     go_enter Tryz.func93, Tryz.ntmps93
     go_wp2_with (fail)
     refine (h1 w).mono ?_
     rintro e w' ⟨rfl, rfl⟩
     go_wp2_with (fail)
     refine (h2 w').mono ?_
     rintro e w2 ⟨rfl, rfl⟩
     go_wp2_with (fail)
     go_ret
     exact ⟨rfl, rfl⟩
   · rw [if_neg b]
     go_enter Tryz.func93, Tryz.ntmps93
     go_wp2_with (fail)
     refine (h1 w).mono ?_
     rintro e w' ⟨rfl, rfl⟩
     go_wp2_with (fail)
     refine (h2 w').mono ?_
     rintro e w2 ⟨rfl, rfl⟩
     go_wp2_with (fail)
     go_ret
     exact ⟨rfl, rfl⟩
theorem cmpL_at {k : Nat} {l m : List Int} {x y : Int} (h : l.take k = m.take k) (hx : l[k]? = some x) (hy : m[k]? = some y) (hne : ¬ x = y) : cmpL l m = if x < y then -1 else if y < x then 1 else 0 := by
 have hlm : l ≠ m := fun e => by rw [e, hy] at hx; exact hne (Option.some.inj hx).symm
 unfold cmpL
 rw [if_neg hlm, lexI_at h hx hy hne]
 by_cases a : x < y
 · rw [if_pos (by simpa using a), if_pos a]
 · rw [if_neg (by simpa using a), if_neg a, if_pos (by omega)]
theorem cmpL_end {k : Nat} {l m : List Int} (h : l.take k = m.take k) (h1 : k ≤ l.length) (h2 : k ≤ m.length) (hk : k = l.length ∨ k = m.length) : cmpL l m = if l.length < m.length then -1 else if m.length < l.length then 1 else 0 := by
 unfold cmpL
 rw [lexI_end h h1 h2 hk]
 by_cases a : l.length < m.length
 · have hlm : l ≠ m := fun e => by rw [e] at a; omega
   rw [if_neg hlm, if_pos a, if_pos (by simpa using a)]
 · rw [if_neg a]
   by_cases b : m.length < l.length
   · have hlm : l ≠ m := fun e => by rw [e] at b; omega
     rw [if_neg hlm, if_pos b, if_neg (by simpa using a)]
   · have hlm : l = m := by
      rw [List.take_of_length_le (by omega), List.take_of_length_le (by omega)] at h
      exact h
     rw [if_neg b, if_pos hlm]
set_option maxHeartbeats 2000000 in
theorem compare_any (A B : Option Addr) (a b p q : Nat) (l m : List Int) (w : World) (hA : RdI w A l) (hB : RdI w B m) (hp : l.length = p) (hq : m.length = q) (hpb : p ≤ 1048576) (hqb : q ≤ 1048576) :
  Calls Tryz.prog 79 #[.slice A p a, .slice B q b] w fun e w' => e = .returned (.int .i64 (cmpL l m)) ∧ w' = w := by
 have hA_h := lH hA; have hB_h := lH hB; have hp_h := lH hp; have hq_h := lH hq; clear hA hB hp hq
 go_enter Tryz.func79, Tryz.ntmps79
 go_wp2_with (fail)
 go_loopw [11] (fun i wr => ∃ k : Nat, k ≤ p ∧ k ≤ q ∧ i = .int .i64 k ∧ l.take k = m.take k ∧ wr = w) (fun i _ => p - (intOf i).toNat)
 case atStart => exact ⟨0, Nat.zero_le _, Nat.zero_le _, rfl, by simp, rfl⟩
 case round =>
  obtain ⟨k, hk, hkq, rfl, htk, rfl⟩ := hrel
  by_cases hlt : k < p
  · obtain ⟨x, hx⟩ : ∃ x, l[k]? = some x := ⟨_, List.getElem?_eq_getElem (by rw [hp_h.out]; exact hlt)⟩
    obtain ⟨aa, rfl, px⟩ := hA_h.out k x hx
    have hkI : (k : Int) < (p : Int) := by omega
    by_cases hltq : k < q
    · obtain ⟨y, hy⟩ : ∃ y, m[k]? = some y := ⟨_, List.getElem?_eq_getElem (by rw [hq_h.out]; exact hltq)⟩
      obtain ⟨ba, rfl, py⟩ := hB_h.out k y hy
      have hkJ : (k : Int) < (q : Int) := by omega
      have hcc := cmpI_any x y wr
      by_cases hxy : x = y
      · subst hxy
        rw [if_neg (Int.lt_irrefl x), if_neg (Int.lt_irrefl x)] at hcc
        have htk2 : l.take (k + 1) = m.take (k + 1) := by rw [List.take_add_one, List.take_add_one, htk, hx, hy]
        clear htk hx hy; have hcc_h := lH hcc; have htk2_h := lH htk2; clear hcc htk2
        go_wp2_with (fail)
        refine (hcc_h.out).mono ?_
        rintro e w2 ⟨rfl, rfl⟩
        go_wp2_with (fail)
        go_roundw
        case rel => exact ⟨k + 1, by omega, by omega, by go_num, htk2_h.out, (by first | rfl | trivial)⟩
        case measure => simp [intOf]; omega
      · have hca := cmpL_at htk hx hy hxy
        have hnz : ¬ cmpL l m = 0 := fun e => by
         have := cmpL_zero.1 e
         rw [this, hy] at hx
         exact hxy (Option.some.inj hx).symm
        rw [← hca] at hcc
        obtain ⟨c, hc⟩ : ∃ c, cmpL l m = c := ⟨_, rfl⟩
        rw [hc] at hcc hnz
        clear htk hx hy hca; have hcc_h := lH hcc; have hc_h := lH hc; have hxy_h := lH hxy; clear hcc hc hxy
        go_wp2_with (fail)
        refine (hcc_h.out).mono ?_
        rintro e w2 ⟨rfl, rfl⟩
        go_wp2_with (fail)
        go_ret
        exact ⟨by rw [hc_h.out]; rfl, rfl⟩
    · obtain rfl : k = q := by omega
      have hce := cmpL_end htk (by rw [hp_h.out]; omega) (by rw [hq_h.out]; omega) (.inr (by rw [hq_h.out]))
      rw [hp_h.out, hq_h.out, if_neg (by omega), if_pos (by omega)] at hce
      clear htk hx; have hce_h := lH hce; clear hce
      go_wp2_with (fail)
      go_ret
      exact ⟨by rw [hce_h.out]; rfl, rfl⟩
  · obtain rfl : k = p := by omega
    have hce := cmpL_end htk (by rw [hp_h.out]; omega) (by rw [hq_h.out]; omega) (.inl (by rw [hp_h.out]))
    rw [hp_h.out, hq_h.out] at hce
    by_cases a : k < q
    · rw [if_pos a] at hce
      have aI : (k : Int) < (q : Int) := by omega
      clear htk; have hce_h := lH hce; clear hce
      go_wp2_with (fail)
      go_ret
      exact ⟨by rw [hce_h.out]; rfl, rfl⟩
    · rw [if_neg a, if_neg (by omega)] at hce
      have aI : ¬ (k : Int) < (q : Int) := by omega
      clear htk; have hce_h := lH hce; clear hce
      go_wp2_with (fail)
      go_ret
      exact ⟨by rw [hce_h.out]; rfl, rfl⟩
def WkR (w : World) (b mw me : Nat) (s : WE) : Prop := ∃ c0 c1 c2 c3 c4 c5 c8 c9, w.heap[b]? = some (.cells #[c0, c1, c2, c3, c4, c5, .map (some mw), .map (some me), c8, c9] tWk) ∧ MI w mw s.1 ∧ MI w me s.2
theorem WkR.below {w w' : World} {b mw me : Nat} {s : WE} (h : WkR w b mw me s) (hb : Below w.heap.size w w') : WkR w' b mw me s := by
 obtain ⟨c0, c1, c2, c3, c4, c5, c8, c9, h1, h2, h3⟩ := h
 exact ⟨c0, c1, c2, c3, c4, c5, c8, c9, t_box_below h1 hb, h2.below hb, h3.below hb⟩
theorem WkR.lt {w : World} {b mw me : Nat} {s : WE} (h : WkR w b mw me s) : b < w.heap.size ∧ mw < w.heap.size ∧ me < w.heap.size := by
 obtain ⟨c0, c1, c2, c3, c4, c5, c8, c9, h1, h2, h3⟩ := h
 exact ⟨t_box_lt h1, h2.lt, h3.lt⟩
theorem WkR.keeps {w w' : World} {b mw me : Nat} {s : WE} (h : WkR w b mw me s) {S : Nat → Prop} (hk : Keeps S w w') (h1 : ¬ S b) (h2 : ¬ S mw) (h3 : ¬ S me) : WkR w' b mw me s := by
 obtain ⟨c0, c1, c2, c3, c4, c5, c8, c9, e1, e2, e3⟩ := h
 exact ⟨c0, c1, c2, c3, c4, c5, c8, c9, t_box_keeps e1 hk h1, e2.keeps hk h2, e3.keeps hk h3⟩
theorem KW.rd {W w : World} {n : Nat} {es : List Eg} {x1 x2 x3 : Value} {b : Nat} {Bf Bh : Addr} {mw me : Nat} {s : WE} {qd : Nat} {Q O : Option Addr} {qn qc on oc : Nat} (h : KW W n es x1 x2 x3 b Bf Bh mw me s qd w Q qn qc O on oc) : WkR w b mw me s :=
 ⟨_, _, _, _, _, _, _, _, h.box, h.wir, h.edg⟩
set_option maxRecDepth 100000 in
set_option maxHeartbeats 8000000 in
theorem openWalk_any {v : Value} {g : Gr} (w : World) (n : Nat) (h : RdGr w v g) (hMo : Mono g n) :
  Calls Tryz.prog 54 #[v] w fun e w' => ∃ b mw me : Nat, e = .returned (.pointer (some ⟨b, 0, none⟩)) ∧ WkR w' b mw me (openM g) ∧ (w.heap.size ≤ b ∧ w.heap.size ≤ mw ∧ w.heap.size ≤ me) ∧ Below w.heap.size w w' := by
 have hn100 := hMo.n100
 have hgn := hMo.hn
 have hi12 := hMo.i12
 have ho12 := hMo.o12
 have hstart := startO_inv hMo
 have hin := hMo.inn
 have hW0 := h
 obtain ⟨A, c, hs, ⟨B, bb, s⟩, ⟨C, d, t⟩, rfl, e1, e2, e3, hE, hRa, hRb⟩ := h
 simp only [hgn] at hW0 ⊢
 simp only at e2 e3 hRa hRb
 obtain ⟨m, hm⟩ : ∃ m, hs.length = m := ⟨_, rfl⟩
 obtain ⟨p, hp⟩ : ∃ p, s.length = p := ⟨_, rfl⟩
 obtain ⟨r, hr⟩ : ∃ r, t.length = r := ⟨_, rfl⟩
 rw [hm, hp, hr] at hW0 ⊢
 have hp12 : p ≤ 12 := by rw [← hp, e2]; exact hi12
 have hr12 : r ≤ 12 := by rw [← hr, e3]; exact ho12
 obtain ⟨W, hWe, bW, k0⟩ := (⟨_, rfl, t_below_alloc _ _, heap_alloc_new _ _⟩ : ∃ W, W = w.alloc (.cells #[.int .i64 (n : Int), .slice A m c, .slice B p bb, .slice C r d] tGr) ∧ Below w.heap.size w W ∧ W.heap[w.heap.size]? = some (.cells #[.int .i64 (n : Int), .slice A m c, .slice B p bb, .slice C r d] tGr))
 have hcw := walkerOf_any W (hW0.below bW) hMo
 obtain ⟨L, hL⟩ : ∃ L, L = s ++ t := ⟨_, rfl⟩
 have hLr : ∀ x, x ∈ L → 0 ≤ x ∧ x < (n : Int) := fun x hx => by
  refine hin x ?_
  unfold t_allW
  rw [hL, e2, e3] at hx
  rcases List.mem_append.1 hx with hx | hx
  · exact List.mem_append_left _ hx
  · exact List.mem_append_right _ (List.mem_append_left _ hx)
 have hst : startO g = (giveL [] L, []) := by unfold startO; rw [hL, e2, e3]
 obtain ⟨q, hq⟩ : ∃ q, L.length = q := ⟨_, rfl⟩
 have hq24 : q ≤ 24 := by rw [← hq, hL, List.length_append]; omega
 obtain ⟨⟨c0, c1, c2, c3⟩, f0, f1, f2, f3⟩ := t_box4 k0
 have hEW := hE.below bW
 have hRaW := hRa.below bW
 have hRbW := hRb.below bW
 clear hi12 ho12 hin hgn hE hRa hRb hW0 e2 e3; have hMo_h := lH hMo; have hstart_h := lH hstart; have e1_h := lH e1; have hEW_h := lH hEW; have hRaW_h := lH hRaW; have hRbW_h := lH hRbW; have bW_h := lH bW; have k0_h := lH k0; have hcw_h := lH hcw; have hL_h := lH hL; have hLr_h := lH hLr; have hst_h := lH hst; have hq_h := lH hq; have hm_h := lH hm; have hp_h := lH hp; have hr_h := lH hr; clear hMo hstart e1 hEW hRaW hRbW bW k0 hcw hL hLr hst hq hm hp hr
 go_enter Tryz.func54, Tryz.ntmps54
 go_upto_region 1 with (fail)
 rw [← hWe]
 clear hWe
 go_wp2_with (fail)
 refine (hcw_h.out).mono ?_
 rintro e w1 ⟨b, Bf, Bh, mw, me, rfl, hK1⟩
 have hb1 := hK1.bel
 have k1 := t_box_below k0_h.out hb1
 have r1 := hRaW_h.out.below hb1
 have r2 := hRbW_h.out.below hb1
 have hJ0 := joined_any (some ⟨w1.heap.size, 0, none⟩) 2 [(B, bb, s), (C, d, t)] (w1.alloc (.cells #[.slice B s.length bb, .slice C t.length d] 23)) (rd2 r1 r2) (by simp) (by simp; rw [hp_h.out, hr_h.out]; omega)
 rw [show (([(B, bb, s), (C, d, t)] : List Hd).map fun h : Hd => h.2.2).flatten = L by rw [hL_h.out]; simp, hp_h.out, hr_h.out] at hJ0
 have hJ : Calls Tryz.prog 52 #[.slice (some ⟨w1.heap.size, 0, none⟩) 2 2] (w1.alloc (.cells #[.slice B p bb, .slice C r d] 23)) (RetI (w1.alloc (.cells #[.slice B p bb, .slice C r d] 23)) L) := hJ0
 unfold RetI at hJ
 rw [hq_h.out] at hJ
 clear c0 c1 c2 c3 f0 f1 f2 f3
 obtain ⟨⟨c0, c1, c2, c3⟩, f0, f1, f2, f3⟩ := t_box4 k1
 clear hJ0 r1 r2 hb1 k1 hcw_h; have hK1_h := lH hK1; have hJ_h := lH hJ; clear hK1 hJ
 go_wp2_with (fail)
 refine (hJ_h.out).mono ?_
 rintro e w7 ⟨A7, cap7, rfl, hI7, hF7, hb7⟩
 have hb17 := below_trans (t_below_alloc w1 (.cells #[.slice B p bb, .slice C r d] 23)) hb7 (t_below_alloc w1 _).size
 have hK7 := hK1_h.out.below hb17
 have hA7 : ∀ x, x ∈ fpA A7 → ¬ OwnK b mw me none none x := fun x hx ho => by
  have h1 := hK1_h.out.own_lt ho
  have h2 := hF7 x hx
  have h3 := (t_below_alloc w1 (.cells #[.slice B p bb, .slice C r d] 23)).size
  omega
 clear hJ_h hb7 hF7 hb17 hK1_h c0 c1 c2 c3 f0 f1 f2 f3; have hK7_h := lH hK7; have hA7_h := lH hA7; have hI7_h := lH hI7; clear hK7 hA7 hI7
 go_wp2_with (fail)
 go_loopw [15] (fun i wr => ∃ (k : Nat) (Q' : Option Addr) (qn' qc' : Nat), k ≤ q ∧ i = .int .i64 k ∧ KW W n g.2.1 (.slice A m c) (.slice B p bb) (.slice C r d) b Bf Bh mw me (giveL [] (L.take k), []) 0 wr Q' qn' qc' none 0 0 ∧ IS wr A7 cap7 L ∧ ∀ x, x ∈ fpA A7 → ¬ OwnK b mw me Q' none x) (fun i _ => q - (intOf i).toNat)
 case atStart => exact ⟨0, none, 0, 0, Nat.zero_le _, rfl, hK7_h.out, hI7_h.out, hA7_h.out⟩
 case round =>
  clear hK7_h hI7_h hA7_h
  obtain ⟨k, Q', qn', qc', hk, rfl, hK, hI, hA⟩ := hrel
  obtain ⟨wo, rfl⟩ : ∃ x, x = wr := ⟨_, rfl⟩
  by_cases hlt : k < q
  · obtain ⟨x, hx⟩ : ∃ x, L[k]? = some x := ⟨_, List.getElem?_eq_getElem (by rw [hq_h.out]; exact hlt)⟩
    obtain ⟨cd, hcd, yj⟩ := hI.rd k _ hx
    subst hcd
    have hcw := wire_any x wo hK hn100 (giveL_nodup List.nodup_nil) (fun y hy => by
     rcases mem_giveL.1 hy with hy | hy
     · cases hy
     · exact hLr_h.out y (List.mem_of_mem_take hy)) (hLr_h.out x (List.mem_of_getElem? hx))
    have hgs : giveL (giveL [] (L.take k)) [x] = giveL [] (L.take (k + 1)) := by
     rw [← giveL_append, List.take_add_one, hx]
     rfl
    simp only [hgs] at hcw
    have hkI : (k : Int) < (q : Int) := by omega
    clear hgs hx; have hK_h := lH hK; have hI_h := lH hI; have hA_h := lH hA; have hcw_h := lH hcw; clear hK hI hA hcw
    go_wp2_with (fail)
    refine (hcw_h.out).mono ?_
    rintro e w8 ⟨rfl, Q8, qn8, qc8, hK8, hS8⟩
    have hI8 := hI_h.out.keeps hS8.1 fun x hx => hA_h.out x hx
    have hA8 : ∀ x, x ∈ fpA (some cd) → ¬ OwnK b mw me Q8 none x := fun x hx ho => by
     rcases hS8.2 x ho with h1 | h1
     · exact hA_h.out x hx h1
     · have := hI_h.out.lt x hx; omega
    clear hS8 hcw_h hK_h hI_h hA_h; have hK8_h := lH hK8; have hI8_h := lH hI8; have hA8_h := lH hA8; clear hK8 hI8 hA8
    go_wp2_with (fail)
    go_roundw
    case rel => exact ⟨k + 1, Q8, qn8, qc8, by omega, by go_num, hK8_h.out, hI8_h.out, hA8_h.out⟩
    case measure => simp [intOf]; omega
  · obtain rfl : q = k := by omega
    rw [List.take_of_length_le (by rw [hq_h.out]; exact Nat.le_refl _), ← hst_h.out] at hK
    have hcx := walk_any wo hK hEW_h.out e1_h.out hm_h.out hMo_h.out hstart_h.out
    rw [show finW g (startO g) = openM g from rfl] at hcx
    clear hK hI hA; have hcx_h := lH hcx; clear hcx
    go_wp2_with (fail)
    refine (hcx_h.out).mono ?_
    rintro e w9 ⟨rfl, Q9, qn9, qc9, O9, on9, oc9, hK9, hS9⟩
    have hR9 := hK9.rd
    have hN9 := hK9.new
    have hb9 := below_trans bW_h.out hK9.bel bW_h.out.size
    have hbz := bW_h.out.size
    have n1 := hN9 b (.inl rfl)
    have n2 := hN9 mw (.inr (.inl rfl))
    have n3 := hN9 me (.inr (.inr (.inl rfl)))
    clear hS9 hK9 hN9 hcx_h; have hR9_h := lH hR9; have hb9_h := lH hb9; clear hR9 hb9
    go_wp2_with (fail)
    go_ret
    exact ⟨b, mw, me, rfl, hR9_h.out, ⟨by omega, by omega, by omega⟩, hb9_h.out⟩
abbrev tCp : TypeId := 96
structure PtS (w0 : World) (lb b mw me : Nat) (D : Option Addr) (dl dc : Nat) (least : Int) (P : Prt) (w : World) : Prop where
 box : w.heap[lb]? = some (.cells #[.pointer (some ⟨b, 0, none⟩), .slice D dl dc, .int .i64 least, .int .i64 P.2.2] tCp)
 wk : WkR w b mw me P.2.1
 cod : IS w D dc P.1
 len : P.1.length = dl
 new : w0.heap.size ≤ b ∧ w0.heap.size ≤ mw ∧ w0.heap.size ≤ me ∧ Fresh w0.heap.size D
 off : b ≠ lb
section
variable {w0 w w' : World} {lb b mw me : Nat} {D : Option Addr} {dl dc : Nat} {least : Int} {P : Prt}
theorem PtS.below (h : PtS w0 lb b mw me D dl dc least P w) (hb : Below w.heap.size w w') : PtS w0 lb b mw me D dl dc least P w' :=
 ⟨t_box_below h.box hb, h.wk.below hb, h.cod.below hb, h.len, h.new, h.off⟩
end
theorem PtS.store {w0 w : World} {lb : Nat} {x y z u : Value} (hbx : w.heap[lb]? = some (.cells #[x, y, z, u] tCp)) {b mw me : Nat} {D : Option Addr} {dl dc : Nat} {P : Prt} (hwk : WkR w b mw me P.2.1) (hcod : IS w D dc P.1) (hlen : P.1.length = dl) (hnew : w0.heap.size ≤ b ∧ w0.heap.size ≤ mw ∧ w0.heap.size ≤ me ∧ Fresh w0.heap.size D) (hlb : b ≠ lb) :
  PtS w0 lb b mw me D dl dc 0 P ((((w.setCell ⟨lb, 0, none⟩ (.pointer (some ⟨b, 0, none⟩))).setCell ⟨lb, 1, none⟩ (.slice D dl dc)).setCell ⟨lb, 2, none⟩ (.int .i64 0)).setCell ⟨lb, 3, none⟩ (.int .i64 P.2.2)) ∧
  Keeps (· = lb) w ((((w.setCell ⟨lb, 0, none⟩ (.pointer (some ⟨b, 0, none⟩))).setCell ⟨lb, 1, none⟩ (.slice D dl dc)).setCell ⟨lb, 2, none⟩ (.int .i64 0)).setCell ⟨lb, 3, none⟩ (.int .i64 P.2.2)) := by
 obtain ⟨s1, s2⟩ := set4 (a := .pointer (some ⟨b, 0, none⟩)) (b := .slice D dl dc) (c := .int .i64 0) (d := .int .i64 P.2.2) hbx
 have hwk' := hwk
 obtain ⟨c0, c1, c2, c3, c4, c5, c8, c9, e1, e2, e3⟩ := hwk
 refine ⟨⟨s1, hwk'.keeps s2 hlb (e2.ne_cells hbx) (e3.ne_cells hbx), hcod.keeps s2 fun x hx e => ?_, hlen, hnew, hlb⟩, s2⟩
 obtain ⟨a, rfl, rfl⟩ := mem_fpA.1 hx
 exact is_ne_box hcod hbx (by decide) e
theorem cmpL_neg {l m : List Int} : cmpL l m < 0 ↔ l ≠ m ∧ lexI l m = true := by
 unfold cmpL
 by_cases e : l = m
 · simp [e]
 · rw [if_neg e]
   cases lexI l m <;> simp [e]
theorem set4c {w : World} {B : Nat} {t : TypeId} {x y z u b : Value} (h : w.heap[B]? = some (.cells #[x, y, z, u] t)) :
  ((w.setCell ⟨B, 3, none⟩ b).heap[B]? = some (.cells #[x, y, z, b] t) ∧ Keeps (· = B) w (w.setCell ⟨B, 3, none⟩ b)) ∧ (w.setCell ⟨B, 2, none⟩ b).heap[B]? = some (.cells #[x, y, b, u] t) ∧ Keeps (· = B) w (w.setCell ⟨B, 2, none⟩ b) := by
 refine ⟨⟨by simp [World.setCell, Array.getElem?_modify, h], ?_⟩, by simp [World.setCell, Array.getElem?_modify, h], ?_⟩
 · exact (Keeps.refl (fun x => x = B) w).setCell (p := ⟨B, 3, none⟩) rfl _
 · exact (Keeps.refl (fun x => x = B) w).setCell (p := ⟨B, 2, none⟩) rfl _
theorem PtS.turn {w0 w w' : World} {lb b mw me : Nat} {D : Option Addr} {dl dc : Nat} {least : Int} {P : Prt} (h : PtS w0 lb b mw me D dl dc least P w) (hk : Keeps (· = lb) w w') : WkR w' b mw me P.2.1 ∧ IS w' D dc P.1 := by
 obtain ⟨c0, c1, c2, c3, c4, c5, c8, c9, e1, e2, e3⟩ := h.wk
 refine ⟨h.wk.keeps hk h.off (e2.ne_cells h.box) (e3.ne_cells h.box), h.cod.keeps hk fun x hx e => ?_⟩
 have hc := h.cod
 obtain ⟨a, rfl, rfl⟩ := mem_fpA.1 hx
 exact is_ne_box hc h.box (by decide) e
theorem codeM_len {g : Gr} {n : Nat} {s : WE} (hMo : Mono g n) (hs : WInv g n s) : (codeM g s).length ≤ 360 := by
 have h := codeTo_len (g := g) (s := s) (fun x hx => by
  have hr := hs.rg2 x hx
  have he := hMo.kind _ (edge_mem (g := g) (i := x.toNat) (by omega))
  obtain ⟨⟨l1, l2⟩, _⟩ := egB_len he
  unfold edgeAt wiresE
  rw [List.length_append]
  omega) s.2.length
 rw [codeTo_all g s (Nat.le_refl _)] at h
 have := hs.le.2
 have := hMo.m60
 omega
set_option maxRecDepth 100000 in
set_option maxHeartbeats 8000000 in
theorem closedPart_any {v : Value} {g : Gr} (w : World) (n m : Nat) (LA : Option Addr) (lc q : Nat) (l : List Int) (h : RdGr w v g) (hMo : Mono g n) (hm : g.2.1.length = m) (hl : RdI w LA l) (hq : l.length = q) (hq60 : q ≤ 60) (hl0 : 0 < q) (hlr : ∀ e, e ∈ l → 0 ≤ e ∧ e < (m : Int)) :
  Calls Tryz.prog 76 #[v, .slice LA q lc] w fun e w' => ∃ (b mw me : Nat) (D : Option Addr) (dl dc : Nat), e = .returned (.agg #[.pointer (some ⟨b, 0, none⟩), .slice D dl dc, .int .i64 (leastW (bestP g l).2.1.1), .int .i64 (bestP g l).2.2]) ∧ WkR w' b mw me (bestP g l).2.1 ∧ IS w' D dc (bestP g l).1 ∧ (bestP g l).1.length = dl ∧ (w.heap.size ≤ b ∧ w.heap.size ≤ mw ∧ w.heap.size ≤ me ∧ Fresh w.heap.size D) ∧ Below w.heap.size w w' := by
 have hn100 := hMo.n100
 have hm60 : m ≤ 60 := by rw [← hm]; exact hMo.m60
 have hgn := hMo.hn
 have hW0 := h
 obtain ⟨A, c, hs, ⟨B, bb, s⟩, ⟨C, d, t⟩, rfl, e1, e2, e3, hE, hRa, hRb⟩ := h
 have hml : hs.length = m := by rw [← hm, e1, List.length_map]
 simp only [hgn, hml] at hW0 ⊢
 obtain ⟨p, hp⟩ : ∃ p, s.length = p := ⟨_, rfl⟩
 obtain ⟨r, hr⟩ : ∃ r, t.length = r := ⟨_, rfl⟩
 rw [hp, hr] at hW0 ⊢
 -- three boxes
 obtain ⟨W, hWe, bW, k0, k1, k2⟩ : ∃ W, W = ((w.alloc (.cells #[.int .i64 (n : Int), .slice A m c, .slice B p bb, .slice C r d] tGr)).alloc (.cells #[.pointer none, .slice none 0 0, .int .i64 0, .int .i64 0] tCp)).alloc (.cells #[.pointer none, .slice none 0 0, .int .i64 0, .int .i64 0] tCp) ∧ Below w.heap.size w W ∧ W.heap[w.heap.size]? = some (.cells #[.int .i64 (n : Int), .slice A m c, .slice B p bb, .slice C r d] tGr) ∧ W.heap[w.heap.size + 1]? = some (.cells #[.pointer none, .slice none 0 0, .int .i64 0, .int .i64 0] tCp) ∧ W.heap[w.heap.size + 1 + 1]? = some (.cells #[.pointer none, .slice none 0 0, .int .i64 0, .int .i64 0] tCp) := by
  obtain ⟨W2, h2, b2, q0, q1⟩ := twoBoxesC w (.cells #[.int .i64 (n : Int), .slice A m c, .slice B p bb, .slice C r d] tGr) (.cells #[.pointer none, .slice none 0 0, .int .i64 0, .int .i64 0] tCp)
  refine ⟨_, rfl, ?_, ?_, ?_, ?_⟩
  · rw [← h2]; exact below_trans b2 (t_below_alloc _ _) b2.size
  · rw [← h2]; exact t_box_below q0 (t_below_alloc _ _)
  · rw [← h2]; exact t_box_below q1 (t_below_alloc _ _)
  · have := heap_alloc_new ((w.alloc (.cells #[.int .i64 (n : Int), .slice A m c, .slice B p bb, .slice C r d] tGr)).alloc (.cells #[.pointer none, .slice none 0 0, .int .i64 0, .int .i64 0] tCp)) (.cells #[.pointer none, .slice none 0 0, .int .i64 0, .int .i64 0] tCp)
    simpa using this
 have hWz : W.heap.size = w.heap.size + 1 + 1 + 1 := by rw [hWe]; simp
 clear hRa hRb e2 e3 hgn; have hMo_h := lH hMo; have hm_h := lH hm; have hW0_h := lH hW0; have e1_h := lH e1; have hml_h := lH hml; have hp_h := lH hp; have hr_h := lH hr; have bW_h := lH bW; have k0_h := lH k0; have k1_h := lH k1; have k2_h := lH k2; have hWz_h := lH hWz; have hq_h := lH hq; have hlr_h := lH hlr; have hE_h := lH hE; have hl_h := lH hl; clear hMo hm hW0 e1 hml hp hr bW k0 k1 k2 hWz hq hlr hE hl
 go_enter Tryz.func76, Tryz.ntmps76
 go_upto_region 2 with (fail)
 rw [← hWe]
 clear hWe
 go_wp2_with (fail)
 go_loopw [15] (fun i wr => ∃ k : Nat, k ≤ q ∧ i = .int .i64 k ∧ Keeps (· = w.heap.size + 1 + 1) W wr ∧ ((k = 0 ∧ wr.heap[w.heap.size + 1 + 1]? = some (.cells #[.pointer none, .slice none 0 0, .int .i64 0, .int .i64 0] tCp)) ∨ ∃ (b mw me : Nat) (D : Option Addr) (dl dc : Nat), 0 < k ∧ PtS W (w.heap.size + 1 + 1) b mw me D dl dc 0 (bestP g (l.take k)) wr)) (fun i _ => q - (intOf i).toNat)
 case atStart => exact ⟨0, Nat.zero_le _, rfl, Keeps.refl _ _, .inl ⟨rfl, k2_h.out⟩⟩
 case round =>
  obtain ⟨k, hk, rfl, hKe, hPt⟩ := hrel
  obtain ⟨wo, rfl⟩ : ∃ x, x = wr := ⟨_, rfl⟩
  have hwz := hWz_h.out
  have hBo := below_keeps bW_h.out hKe bW_h.out.size fun b hb => by omega
  have k0o := t_box_keeps k0_h.out hKe (by omega)
  obtain ⟨⟨c0, c1, c2, c3⟩, f0, f1, f2, f3⟩ := t_box4 k0o
  by_cases hlt : k < q
  · obtain ⟨e, he⟩ : ∃ e, l[k]? = some e := ⟨_, List.getElem?_eq_getElem (by rw [hq_h.out]; exact hlt)⟩
    have her := hlr_h.out e (List.mem_of_getElem? he)
    obtain ⟨la, hla, pl⟩ := (hl_h.out.below hBo) k _ he
    subst hla
    have hcw := walkerOf_any wo (hW0_h.out.below hBo) hMo_h.out
    have hEo := hE_h.out.below hBo
    have hkI : (k : Int) < (q : Int) := by omega
    have hst := startE_inv hMo_h.out (e := e) (by rw [hm_h.out]; exact her.2)
    have hfr := fromM_inv hMo_h.out (e := e) (by rw [hm_h.out]; exact her.2)
    have hKe_h := lH hKe; have hPt_h := lH hPt; have hBo_h := lH hBo; have k0o_h := lH k0o; have hcw_h := lH hcw; have hEo_h := lH hEo; have he_h := lH he; have hst_h := lH hst; have hfr_h := lH hfr; clear hKe hPt hBo k0o hcw hEo he hst hfr
    go_wp2_with (fail)
    refine (hcw_h.out).mono ?_
    rintro e w1 ⟨b, Bf, Bh, mw, me, rfl, hK1⟩
    have hce := edge_any e w1 hK1 hEo_h.out e1_h.out hml_h.out hMo_h.out (inv_nil g n) her.2
    rw [show stepE g ([], []) e = startE g e from rfl] at hce
    clear hK1 hcw_h pl c0 c1 c2 c3 f0 f1 f2 f3; have hce_h := lH hce; clear hce
    go_wp2_with (fail)
    refine (hce_h.out).mono ?_
    rintro e w2 ⟨rfl, Q2, qn2, qc2, O2, on2, oc2, hK2, hS2⟩
    have hcx := walk_any w2 hK2 hEo_h.out e1_h.out hml_h.out hMo_h.out hst_h.out
    rw [show finW g (startE g e) = fromM g e from rfl] at hcx
    clear hK2 hS2 hce_h; have hcx_h := lH hcx; clear hcx
    go_wp2_with (fail)
    refine (hcx_h.out).mono ?_
    rintro e w3 ⟨rfl, Q3, qn3, qc3, O3, on3, oc3, hK3, hS3⟩
    have hcc := code_any w3 hK3 hEo_h.out e1_h.out hml_h.out hMo_h.out hfr_h.out
    unfold RetI at hcc
    obtain ⟨cl, hcl⟩ : ∃ cl, (codeM g (fromM g e)).length = cl := ⟨_, rfl⟩
    rw [hcl] at hcc
    have hN3 := hK3.new
    clear hS3 hcx_h; have hcc_h := lH hcc; have hK3_h := lH hK3; have hcl_h := lH hcl; have hN3_h := lH hN3; clear hcc hK3 hcl hN3
    go_wp2_with (fail)
    refine (hcc_h.out).mono ?_
    rintro e w4 ⟨A4, cap4, rfl, hI4, hF4, hb4⟩
    have hwk4 := hK3_h.out.rd.below hb4
    have hb34 := below_trans hK3_h.out.bel hb4 hK3_h.out.bel.size
    have hKe4 := hKe_h.out.free (Keeps.of_below hb34 (fun _ => False)) (fun _ _ h => h.elim)
    have hsz3 := hK3_h.out.bel.size
    have hszo := hKe_h.out.size
    have hnew : W.heap.size ≤ b ∧ W.heap.size ≤ mw ∧ W.heap.size ≤ me ∧ Fresh W.heap.size A4 := ⟨by have := hN3_h.out b (.inl rfl); omega, by have := hN3_h.out mw (.inr (.inl rfl)); omega, by have := hN3_h.out me (.inr (.inr (.inl rfl))); omega, fun x hx => by have := hF4 x hx; omega⟩
    have hblb : b ≠ w.heap.size + 1 + 1 := by omega
    have hbs : bestP g (l.take (k + 1)) = if k = 0 then prtOf g e else prtNext g (bestP g (l.take k)) e := by
     rw [List.take_add_one, he_h.out]
     by_cases h0 : k = 0
     · subst h0
       rfl
     · rw [if_neg h0]
       exact bestP_snoc (by intro h; have := congrArg List.length h; rw [List.length_take, hq_h.out] at this; simp at this; omega) e
    clear hF4 hb4 hcc_h hK3_h hN3_h hKe_h
    rcases hPt_h.out with ⟨h0, hbx⟩ | ⟨b0, mw0, me0, D0, dl0, dc0, hpos, hP0⟩
    · subst h0
      have hbx4 := t_box_below hbx hb34
      obtain ⟨hP1, hk1⟩ := PtS.store (P := prtOf g e) hbx4 hwk4 hI4 hcl_h.out hnew hblb
      have hKe5 := hKe4.free hk1 fun _ _ e => e
      rw [if_pos rfl] at hbs
      have hP1' : PtS W (w.heap.size + 1 + 1) b mw me A4 cl cap4 0 (bestP g (l.take (0 + 1))) ((((w4.setCell ⟨w.heap.size + 1 + 1, 0, none⟩ (.pointer (some ⟨b, 0, none⟩))).setCell ⟨w.heap.size + 1 + 1, 1, none⟩ (.slice A4 cl cap4)).setCell ⟨w.heap.size + 1 + 1, 2, none⟩ (.int .i64 0)).setCell ⟨w.heap.size + 1 + 1, 3, none⟩ (.int .i64 1)) := by rw [hbs]; exact hP1
      obtain ⟨⟨c0, c1, c2, c3⟩, f0, f1, f2, f3⟩ := t_box4 hbx4
      clear hk1 hKe4 hbx4 hbx hPt_h hwk4 hI4 hb34 hbs hP1; have hP1'_h := lH hP1'; have hKe5_h := lH hKe5; have hnew_h := lH hnew; clear hP1' hKe5 hnew
      go_wp2_with (fail)
      go_roundw
      case rel => exact ⟨1, by omega, by go_num, hKe5_h.out, .inr ⟨b, mw, me, A4, cl, cap4, by omega, hP1'_h.out⟩⟩
      case measure => simp [intOf]; omega
    · have hP4 := hP0.below hb34
      have hneg : l.take k ≠ [] := by intro h; have := congrArg List.length h; rw [List.length_take, hq_h.out] at this; simp at this; omega
      obtain ⟨e', he', hb1, hb2⟩ := bestP_from (g := g) hneg
      have her' := hlr_h.out e' (List.mem_of_mem_take he')
      have hdl := codeM_len hMo_h.out (fromM_inv hMo_h.out (e := e') (by rw [hm_h.out]; exact her'.2))
      rw [← hb1, hP4.len] at hdl
      have hclb := codeM_len hMo_h.out hfr_h.out
      rw [hcl_h.out] at hclb
      have hcc := compare_any A4 D0 cap4 dc0 cl dl0 (codeM g (fromM g e)) (bestP g (l.take k)).1 w4 hI4.rd hP4.cod.rd hcl_h.out hP4.len (by omega) (by omega)
      have hways := bestP_ways (g := g) (l := l.take k)
      have hwl : (l.take k).length ≤ 60 := by rw [List.length_take]; omega
      rw [if_neg (by omega)] at hbs
      obtain ⟨P, hP⟩ : ∃ P, P = bestP g (l.take k) := ⟨_, rfl⟩
      rw [← hP] at hbs hcc hways hP4
      obtain ⟨ways, hwy⟩ : ∃ x, P.2.2 = x := ⟨_, rfl⟩
      have hbx4 := hP4.box
      rw [hwy] at hways hbx4
      obtain ⟨⟨c0, c1, c2, c3⟩, f0, f1, f2, f3⟩ := t_box4 hbx4
      obtain ⟨cc, hcv⟩ : ∃ cc, cmpL (codeM g (fromM g e)) P.1 = cc := ⟨_, rfl⟩
      rw [hcv] at hcc
      clear hP0 hneg he' hb1 hb2 her' hPt_h
      by_cases hc1 : cc < 0
      · have hnx : bestP g (l.take (k + 1)) = prtOf g e := by
         obtain ⟨n1, n2⟩ := cmpL_neg.1 (by rw [hcv]; exact hc1 : cmpL (codeM g (fromM g e)) P.1 < 0)
         rw [hbs]
         unfold prtNext
         rw [show (prtOf g e).1 = codeM g (fromM g e) from rfl, if_neg n1, if_pos n2]
        obtain ⟨hP1, hk1⟩ := PtS.store (P := prtOf g e) hbx4 hwk4 hI4 hcl_h.out hnew hblb
        have hKe5 := hKe4.free hk1 fun _ _ e => e
        have hP1' : PtS W (w.heap.size + 1 + 1) b mw me A4 cl cap4 0 (bestP g (l.take (k + 1))) ((((w4.setCell ⟨w.heap.size + 1 + 1, 0, none⟩ (.pointer (some ⟨b, 0, none⟩))).setCell ⟨w.heap.size + 1 + 1, 1, none⟩ (.slice A4 cl cap4)).setCell ⟨w.heap.size + 1 + 1, 2, none⟩ (.int .i64 0)).setCell ⟨w.heap.size + 1 + 1, 3, none⟩ (.int .i64 1)) := by rw [hnx]; exact hP1
        clear hk1 hKe4 hbx4 hwk4 hI4 hb34 hbs hP1 hP4 hnx hcv; have hP1'_h := lH hP1'; have hKe5_h := lH hKe5; have hnew_h := lH hnew; have hcc_h := lH hcc; have hP_h := lH hP; have hwy_h := lH hwy; clear hP1' hKe5 hnew hcc hP hwy
        go_wp2_with (fail)
        refine (hcc_h.out).mono ?_
        rintro e w5 ⟨rfl, rfl⟩
        go_wp2_with (fail)
        go_roundw
        case rel => exact ⟨k + 1, by omega, by go_num, hKe5_h.out, .inr ⟨b, mw, me, A4, cl, cap4, by omega, hP1'_h.out⟩⟩
        case measure => simp [intOf]; omega
      · by_cases hc0 : cc = 0
        · subst hc0
          have hec := cmpL_zero.1 hcv
          have hnx : bestP g (l.take (k + 1)) = (P.1, P.2.1, ways + 1) := by
           rw [hbs]
           unfold prtNext
           rw [show (prtOf g e).1 = codeM g (fromM g e) from rfl, if_pos hec, hwy]
          obtain ⟨⟨s1, s2⟩, _⟩ := set4c (b := .int .i64 (ways + 1)) hbx4
          obtain ⟨t1, t2⟩ := hP4.turn s2
          have hKe5 := hKe4.free s2 fun _ _ e => e
          have hP1' : PtS W (w.heap.size + 1 + 1) b0 mw0 me0 D0 dl0 dc0 0 (bestP g (l.take (k + 1))) (w4.setCell ⟨w.heap.size + 1 + 1, 3, none⟩ (.int .i64 (ways + 1))) := by
           rw [hnx]
           exact ⟨s1, t1, t2, hP4.len, hP4.new, hP4.off⟩
          have hwr : IntKind.i64.wrap (ways + 1) = ways + 1 := IntWalk.i64_in _ (by omega)
          clear s1 s2 t1 t2 hKe4 hbx4 hwk4 hI4 hb34 hbs hP4 hnx hcv hec; have hP1'_h := lH hP1'; have hKe5_h := lH hKe5; have hnew_h := lH hnew; have hcc_h := lH hcc; have hP_h := lH hP; have hwy_h := lH hwy; clear hP1' hKe5 hnew hcc hP hwy
          go_wp2_with (fail)
          refine (hcc_h.out).mono ?_
          rintro e w5 ⟨rfl, rfl⟩
          go_wp2_with (fail)
          go_roundw
          case rel => exact ⟨k + 1, by omega, by go_num, hKe5_h.out, .inr ⟨b0, mw0, me0, D0, dl0, dc0, by omega, hP1'_h.out⟩⟩
          case measure => simp [intOf]; omega
        · have hnx : bestP g (l.take (k + 1)) = P := by
           rw [hbs]
           unfold prtNext
           rw [if_neg (fun h => hc0 (by rw [← hcv]; exact cmpL_zero.2 h)), if_neg (fun h => hc1 (by rw [← hcv]; exact cmpL_neg.2 ⟨fun h2 => hc0 (by rw [← hcv]; exact cmpL_zero.2 h2), h⟩))]
          rw [← hnx] at hP4
          clear hbx4 hwk4 hI4 hb34 hbs hnx hcv; have hP4_h := lH hP4; have hKe4_h := lH hKe4; have hnew_h := lH hnew; have hcc_h := lH hcc; have hP_h := lH hP; have hwy_h := lH hwy; clear hP4 hKe4 hnew hcc hP hwy
          go_wp2_with (fail)
          refine (hcc_h.out).mono ?_
          rintro e w5 ⟨rfl, rfl⟩
          go_wp2_with (fail)
          go_roundw
          case rel => exact ⟨k + 1, by omega, by go_num, hKe4_h.out, .inr ⟨b0, mw0, me0, D0, dl0, dc0, by omega, hP4_h.out⟩⟩
          case measure => simp [intOf]; omega
  · obtain rfl : q = k := by omega
    rw [List.take_of_length_le (by rw [hq_h.out]; exact Nat.le_refl _)] at hPt
    rcases hPt with ⟨h0, _⟩ | ⟨b, mw, me, D, dl, dc, _, hP⟩
    · omega
    have hne : l ≠ [] := by intro h; have := hq_h.out; rw [h] at this; simp at this; omega
    obtain ⟨e', he', -, hb2⟩ := bestP_from (g := g) hne
    have her' := hlr_h.out e' he'
    have hinv := fromM_inv hMo_h.out (e := e') (by rw [hm_h.out]; exact her'.2)
    have hfirst := (from_wire hMo_h.out her'.1 (by rw [hm_h.out]; exact her'.2)).2 ⟨hMo_h.out.wires her'.1 (by rw [hm_h.out]; exact her'.2) _ (first_mem hMo_h.out her'.1 (by rw [hm_h.out]; exact her'.2)), rfl⟩
    rw [← hb2] at hinv hfirst
    obtain ⟨P, hPe⟩ : ∃ P, P = bestP g l := ⟨_, rfl⟩
    rw [← hPe] at hinv hfirst hP
    obtain ⟨ways, hwy⟩ : ∃ x, P.2.2 = x := ⟨_, rfl⟩
    have hnd := hinv.nd1
    have hrg := hinv.rg1
    have hne1 : P.2.1.1 ≠ [] := fun h => by rw [h] at hfirst; cases hfirst
    have hbx := hP.box
    rw [hwy] at hbx
    obtain ⟨_, s3, s4⟩ := set4c (b := .int .i64 (n : Int)) hbx
    obtain ⟨hwk, hcod⟩ := hP.turn s4
    have hlen := hP.len
    have hnew := hP.new
    have hoff := hP.off
    have hKe2 := hKe.free s4 fun _ _ e => e
    obtain ⟨⟨y0, y1, y2, y3⟩, y4, y5, y6, y7⟩ := t_box4 hbx
    obtain ⟨w5, hw5⟩ : ∃ w5, w5 = wo.setCell ⟨w.heap.size + 1 + 1, 2, none⟩ (.int .i64 (n : Int)) := ⟨_, rfl⟩
    rw [← hw5] at s3 hwk hcod hKe2
    have hwk' := hwk
    obtain ⟨d0, d1, d2, d3, d4, d5, d8, d9, k6, hM, hM2⟩ := hwk
    obtain ⟨⟨x0, x1, x2, x3, x4, x5, x6, x7, x8, x9⟩, _, _⟩ := box10 k6
    obtain ⟨⟨z0, z1, z2, z3⟩, z4, z5, z6, z7⟩ := t_box4 s3
    clear hP hne he' hb2 her' hinv hfirst hbx s4 hKe k0o; have hPe_h := lH hPe; have hwy_h := lH hwy; have hnd_h := lH hnd; have hrg_h := lH hrg; have hne1_h := lH hne1; have s3_h := lH s3; have hwk'_h := lH hwk'; have hcod_h := lH hcod; have hlen_h := lH hlen; have hnew_h := lH hnew; have hKe2_h := lH hKe2; have k6_h := lH k6; have hM_h := lH hM; have hM2_h := lH hM2; clear hPe hwy hnd hrg hne1 s3 hwk' hcod hlen hnew hKe2 k6 hM hM2
    go_upto_region 18 with (fail)
    rw [← hw5]
    clear hw5 y0 y1 y2 y3 y4 y5 y6 y7 c0 c1 c2 c3 f0 f1 f2 f3
    go_wp2_with (at_range; refine wp_mi_range rfl _ rfl rfl hM_h.out hnd_h.out ?_; intro w6 hR6 hb6 hz6)
    have hlw : (b ≠ w5.heap.size ∧ mw ≠ w5.heap.size ∧ me ≠ w5.heap.size) ∧ mw ≠ w.heap.size + 1 + 1 ∧ me ≠ w.heap.size + 1 + 1 ∧ w.heap.size + 1 + 1 < w5.heap.size := ⟨by have := t_box_lt k6_h.out; have := hM_h.out.lt; have := hM2_h.out.lt; omega, hM_h.out.ne_cells s3_h.out, hM2_h.out.ne_cells s3_h.out, t_box_lt s3_h.out⟩
    have hlD : ∀ x, x ∈ fpA D → x ≠ w.heap.size + 1 + 1 ∧ x ≠ w5.heap.size := fun x hx => by
     have h1 := hcod_h.out.lt x hx
     refine ⟨fun e => ?_, by omega⟩
     have hc := hcod_h.out
     obtain ⟨a, rfl, rfl⟩ := mem_fpA.1 hx
     exact is_ne_box hc s3_h.out (by decide) e
    have s6 := t_box_below s3_h.out hb6
    have hKe6 := hKe2_h.out.free (Keeps.of_below hb6 (fun _ => False)) (fun _ _ h => h.elim)
    clear x0 x1 x2 x3 x4 x5 x6 x7 x8 x9 z0 z1 z2 z3 z4 z5 z6 z7; have hR6_h := lH hR6; have hb6_h := lH hb6; have s6_h := lH s6; have hKe6_h := lH hKe6; have hlD_h := lH hlD; clear hR6 hb6 s6 hKe6 hlD
    go_frame
    go_loopw [11] (fun (_ : Value) wr => ∃ (L : Int → Bool) (cnt : Nat) (u : Int), MR wr mw w5.heap.size P.2.1.1 L cnt ∧ wr.heap[w.heap.size + 1 + 1]? = some (.cells #[.pointer (some ⟨b, 0, none⟩), .slice D dl dc, .int .i64 u, .int .i64 ways] tCp) ∧ (u = (n : Int) ∨ u ∈ P.2.1.1) ∧ (∀ x, x ∈ P.2.1.1 → L x = false → u ≤ x) ∧ (0 ≤ u ∧ u ≤ (n : Int)) ∧ Keeps (fun x => x = w.heap.size + 1 + 1 ∨ x = w5.heap.size) w6 wr) (fun _ wr => wr.rangeLeft mw w5.heap.size)
    case atStart => exact ⟨_, _, (n : Int), hR6_h.out, s6_h.out, .inl rfl, (fun x hx hL => by rw [decide_eq_true hx] at hL; cases hL), ⟨by omega, Int.le_refl _⟩, Keeps.refl _ _⟩
    case round =>
     clear hR6_h s6_h
     obtain ⟨L, cnt, u, hR, hbx, hu, hle, hur, hK⟩ := hrel
     obtain ⟨wi, rfl⟩ : ∃ x, x = wr := ⟨_, rfl⟩
     have hR_h := lH hR; have hbx_h := lH hbx; have hu_h := lH hu; have hle_h := lH hle; have hK_h := lH hK; clear hR hbx hu hle hK
     go_wp2_with (at_next; refine wp_mr_next rfl _ rfl rfl hR_h.out hnd_h.out ?_ ?_)
     · intro _ hL0
       have hul := least_end hne1_h.out (fun x hx => (hrg_h.out x hx).2) hn100 (fun x hx => hle_h.out x hx (hL0 x)) hu_h.out
       have hKi := hKe6_h.out.free hK_h.out (fun x h1 h2 => by have := hKe2_h.out.size; omega)
       have k1i := t_box_keeps k1_h.out hKi (by omega)
       obtain ⟨q1, q2⟩ := set4 (a := .pointer (some ⟨b, 0, none⟩)) (b := .slice D dl dc) (c := .int .i64 u) (d := .int .i64 ways) k1i
       have hWs := hWz_h.out
       have hnw := hnew_h.out
       have hwk9 := ((hwk'_h.out.below hb6_h.out).keeps hK_h.out (by omega) (by omega) (by omega)).keeps q2 (by omega) (by omega) (by omega)
       have hc9 := ((hcod_h.out.below hb6_h.out).keeps hK_h.out (fun x hx e => by have := hlD_h.out x hx; omega)).keeps q2 fun x hx e => by have := hnw.2.2.2 x hx; omega
       have hB9 := below_keeps (below_keeps bW_h.out hKi bW_h.out.size fun x e => by omega) q2 (by have := bW_h.out.size; have := hKi.size; omega) fun x e => by omega
       obtain ⟨⟨y0, y1, y2, y3⟩, y4, y5, y6, y7⟩ := t_box4 k1i
       obtain ⟨⟨z0, z1, z2, z3⟩, z4, z5, z6, z7⟩ := t_box4 hbx_h.out
       have hnw' : w.heap.size ≤ b ∧ w.heap.size ≤ mw ∧ w.heap.size ≤ me ∧ Fresh w.heap.size D := ⟨by omega, by omega, by omega, hnw.2.2.2.mono (by omega)⟩
       clear hKi k1i q2 hnw hL0; have q1_h := lH q1; have hwk9_h := lH hwk9; have hc9_h := lH hc9; have hB9_h := lH hB9; have hul_h := lH hul; have hnw'_h := lH hnw'; clear q1 hwk9 hc9 hB9 hul hnw'
       go_wp2_with (fail)
       refine bodyPost_ret (results_cell_row rfl _ _ (w.heap.size + 1) _ _ (0, 0) _ rfl q1_h.out Tryz.underlying96 rfl (by kernel_rfl)) rfl ?_
       refine ⟨b, mw, me, D, dl, dc, ?_, ?_⟩
       · rw [← hPe_h.out, hwy_h.out, ← hul_h.out]
       · rw [← hPe_h.out]
         exact ⟨hwk9_h.out, hc9_h.out, hlen_h.out, hnw'_h.out, hB9_h.out⟩
     · intro x w8 cnt' hxm hLx hwf hR8 hlt8 hk8 hz8 hen
       have hxr := hrg_h.out x hxm
       have hbx8 := t_box_keeps hbx_h.out hk8 (by omega)
       obtain ⟨⟨z0, z1, z2, z3⟩, z4, z5, z6, z7⟩ := t_box4 hbx8
       have hK8 := hK_h.out.trans (hk8.mono (T := fun x => x = w.heap.size + 1 + 1 ∨ x = w5.heap.size) fun _ _ e => .inr e)
       have key : ∀ u' : Int, (u' = u ∧ u ≤ x ∨ u' = x ∧ x < u) → MR (w8.setCell ⟨w.heap.size + 1 + 1, 2, none⟩ (.int .i64 u')) mw w5.heap.size P.2.1.1 (fun z => L z && !decide (z = x)) cnt' ∧ (w8.setCell ⟨w.heap.size + 1 + 1, 2, none⟩ (.int .i64 u')).heap[w.heap.size + 1 + 1]? = some (.cells #[.pointer (some ⟨b, 0, none⟩), .slice D dl dc, .int .i64 u', .int .i64 ways] tCp) ∧ (u' = (n : Int) ∨ u' ∈ P.2.1.1) ∧ (∀ y, y ∈ P.2.1.1 → (L y && !decide (y = x)) = false → u' ≤ y) ∧ (0 ≤ u' ∧ u' ≤ (n : Int)) ∧ Keeps (fun x => x = w.heap.size + 1 + 1 ∨ x = w5.heap.size) w6 (w8.setCell ⟨w.heap.size + 1 + 1, 2, none⟩ (.int .i64 u')) := fun u' hu' => by
        obtain ⟨_, s3, s4⟩ := set4c (b := .int .i64 u') hbx8
        refine ⟨hR8.keeps s4 hlw.2.1 (by omega), s3, ?_, fun y hy hL => ?_, ?_, hK8.trans (s4.mono fun _ _ e => .inl e)⟩
        · rcases hu' with ⟨rfl, _⟩ | ⟨rfl, _⟩
          · exact hu_h.out
          · exact .inr hxm
        · cases hLy : L y
          · have := hle_h.out y hy hLy
            omega
          · rw [hLy] at hL
            have : y = x := by simpa using hL
            omega
        · omega
       clear hk8 hbx8 hK8 hxm hLx; have hR8_h := lH hR8; have key_h := lH key; clear hR8 key
       by_cases hux : x < u
       · have hK9 := key_h.out x (.inr ⟨rfl, hux⟩)
         have hmn : min u x = x := by omega
         go_wp2_with (fail)
         go_roundw
         case rel => exact ⟨_, cnt', x, hK9⟩
         case measure => rw [hK9.1.left_eq, hR_h.out.left_eq]; exact hlt8
       · have hK9 := key_h.out u (.inl ⟨rfl, by omega⟩)
         have hmn : min u x = u := by omega
         go_wp2_with (fail)
         go_roundw
         case rel => exact ⟨_, cnt', u, hK9⟩
         case measure => rw [hK9.1.left_eq, hR_h.out.left_eq]; exact hlt8
structure Cp where
 b : Nat
 mw : Nat
 me : Nat
 D : Option Addr
 dl : Nat
 dc : Nat
 P : Prt
def Cp.cells (x : Cp) : List Value := [.pointer (some ⟨x.b, 0, none⟩), .slice x.D x.dl x.dc, .int .i64 (leastW x.P.2.1.1), .int .i64 x.P.2.2]
structure CpOk (w : World) (x : Cp) : Prop where
 wk : WkR w x.b x.mw x.me x.P.2.1
 cod : IS w x.D x.dc x.P.1
 len : x.P.1.length = x.dl
def CpGood (w : World) (x : Cp) : Prop := IS w x.D x.dc x.P.1 ∧ x.P.1.length = x.dl ∧ x.dl ≤ 1048576 ∧ 0 ≤ leastW x.P.2.1.1 ∧ leastW x.P.2.1.1 ≤ 100
theorem befP_ntrans {a b c : Prt} (h1 : befP a b = false) (h2 : befP b c = false) : befP a c = false := by
 cases h3 : befP a c
 · rfl
 · exfalso
   unfold befP at h1 h2 h3
   by_cases e1 : a.1 = b.1
   · rw [if_pos e1] at h1
     have h1' := of_decide_eq_false h1
     by_cases e2 : b.1 = c.1
     · rw [if_pos e2] at h2
       rw [if_pos (e1.trans e2)] at h3
       have h2' := of_decide_eq_false h2
       have h3' := of_decide_eq_true h3
       omega
     · rw [if_neg e2] at h2
       rw [if_neg (fun e => e2 (e1.symm.trans e)), e1, h2] at h3
       cases h3
   · rw [if_neg e1] at h1
     by_cases e2 : b.1 = c.1
     · rw [if_neg (fun e => e1 (e.trans e2.symm)), ← e2, h1] at h3
       cases h3
     · rw [if_neg e2] at h2
       have hba : lexI b.1 a.1 = true := (lexI_tri e1).resolve_left (by rw [h1]; simp)
       have hcb : lexI c.1 b.1 = true := (lexI_tri e2).resolve_left (by rw [h2]; simp)
       have hca := lexI_trans hcb hba
       by_cases e3 : a.1 = c.1
       · rw [e3, lexI_irr] at hca
         cases hca
       · rw [if_neg e3, lexI_asym hca] at h3
         cases h3
set_option maxHeartbeats 2000000 in
theorem cmpC_any (x y : Cp) (W : World) (hx : CpGood W x) (hy : CpGood W y) :
  Calls Tryz.prog 78 #[.agg x.cells.toArray, .agg y.cells.toArray] W fun e w' => e = .returned (.int .i64 (cmpP x.P y.P)) ∧ w' = (W.alloc (.cells x.cells.toArray tCp)).alloc (.cells y.cells.toArray tCp) := by
 obtain ⟨xb, xmw, xme, XD, xdl, xdc, P⟩ := x
 obtain ⟨yb, ymw, yme, YD, ydl, ydc, P'⟩ := y
 obtain ⟨h1, h2, h3, h4, h5⟩ := hx
 obtain ⟨k1, k2, k3, k4, k5⟩ := hy
 simp only at h1 h2 h3 h4 h5 k1 k2 k3 k4 k5
 show Calls _ _ #[.agg #[.pointer (some ⟨xb, 0, none⟩), .slice XD xdl xdc, .int .i64 (leastW P.2.1.1), .int .i64 P.2.2], .agg #[.pointer (some ⟨yb, 0, none⟩), .slice YD ydl ydc, .int .i64 (leastW P'.2.1.1), .int .i64 P'.2.2]] W fun e w' => e = .returned (.int .i64 (cmpP P P')) ∧ w' = (W.alloc (.cells #[.pointer (some ⟨xb, 0, none⟩), .slice XD xdl xdc, .int .i64 (leastW P.2.1.1), .int .i64 P.2.2] tCp)).alloc (.cells #[.pointer (some ⟨yb, 0, none⟩), .slice YD ydl ydc, .int .i64 (leastW P'.2.1.1), .int .i64 P'.2.2] tCp)
 obtain ⟨u, hu⟩ : ∃ u, leastW P.2.1.1 = u := ⟨_, rfl⟩
 obtain ⟨u', hu'⟩ : ∃ u, leastW P'.2.1.1 = u := ⟨_, rfl⟩
 rw [hu] at h4 h5 ⊢
 rw [hu'] at k4 k5 ⊢
 obtain ⟨wy, hwy⟩ : ∃ u, P.2.2 = u := ⟨_, rfl⟩
 obtain ⟨wy', hwy'⟩ : ∃ u, P'.2.2 = u := ⟨_, rfl⟩
 rw [hwy, hwy']
 obtain ⟨W2, hW2, b2, q0, q1⟩ := twoBoxesC W (.cells #[.pointer (some ⟨xb, 0, none⟩), .slice XD xdl xdc, .int .i64 u, .int .i64 wy] tCp) (.cells #[.pointer (some ⟨yb, 0, none⟩), .slice YD ydl ydc, .int .i64 u', .int .i64 wy'] tCp)
 rw [← hW2]
 have hcc := compare_any XD YD xdc ydc xdl ydl P.1 P'.1 W2 (h1.below b2).rd (k1.below b2).rd h2 k2 h3 k3
 obtain ⟨⟨c0, c1, c2, c3⟩, f0, f1, f2, f3⟩ := t_box4 q0
 obtain ⟨⟨d0, d1, d2, d3⟩, g0, g1, g2, g3⟩ := t_box4 q1
 have hcp : cmpP P P' = if cmpL P.1 P'.1 = 0 then u - u' else cmpL P.1 P'.1 := by unfold cmpP; rw [hu, hu']
 rw [hcp]
 obtain ⟨cc, hcv⟩ : ∃ cc, cmpL P.1 P'.1 = cc := ⟨_, rfl⟩
 rw [hcv] at hcc ⊢
 have hwr : IntKind.i64.wrap (u - u') = u - u' := IntWalk.i64_in _ (by omega)
 clear h1 h2 k1 k2 hu hu' hwy hwy' hcp hcv q0 q1; have hcc_h := lH hcc; have b2_h := lH b2; clear hcc b2
 by_cases h0 : cc = 0
 · subst h0
   rw [if_pos rfl]
   go_enter Tryz.func78, Tryz.ntmps78
   go_upto_region 1 with (fail)
   rw [← hW2]
   clear hW2
   go_wp2_with (fail)
   refine (hcc_h.out).mono ?_
   rintro e w3 ⟨rfl, rfl⟩
   go_wp2_with (fail)
   go_ret
   exact ⟨rfl, rfl⟩
 · rw [if_neg h0]
   go_enter Tryz.func78, Tryz.ntmps78
   go_upto_region 1 with (fail)
   rw [← hW2]
   clear hW2
   go_wp2_with (fail)
   refine (hcc_h.out).mono ?_
   rintro e w3 ⟨rfl, rfl⟩
   go_wp2_with (fail)
   go_ret
   exact ⟨rfl, rfl⟩
abbrev tMG : TypeId := 109
abbrev tIs : TypeId := 23
theorem zeroIs (w : World) : (zeroValue tIs).run Tryz.prog w = .ok (.slice none 0 0) w := by kernel_rfl
def headElem : Value → Option (DataW Value × List MemPlace)
 | .slice a n c => some (.held (.slice a n c), [])
 | _ => none
theorem headElem_inv {v : Value} {y : DataW Value × List MemPlace} (h : headElem v = some y) : (∃ a n c, v = .slice a n c) ∧ y = (.held v, []) := by
 unfold headElem at h
 split at h
 · exact ⟨⟨_, _, _, rfl⟩, (Option.some.inj h).symm⟩
 · cases h
theorem headElem_mk (h : Hd) : headElem h.val = some (.held h.val, []) := rfl
def noHd : Hd := (none, 0, [])
structure DK (D : DataW Value) (K : List Int) (H : Int → Hd) : Prop where
 has : ∀ q, Maps.has D (kI q) = decide (q ∈ K)
 at_ : ∀ q, D.atKey (kI q) (.held noHd.val) = .held (H q).val
 no : ∀ q, q ∉ K → H q = noHd
 map : Maps.IsMap D
def GM (w : World) (mb nb : Nat) (K : List Int) (H : Int → Hd) : Prop := ∃ D, w.ownsMap (H := Value) Tryz.prog tInt headElem mb nb D ∧ DK D K H
def GR (w : World) (mb r nb : Nat) (K : List Int) (H : Int → Hd) (L : Int → Bool) (cnt : Nat) : Prop := ∃ D left, w.ranges (H := Value) Tryz.prog tInt headElem mb r nb D left cnt ∧ DK D K H ∧ ∀ x, left (kI x) = L x
def setH (H : Int → Hd) (q : Int) (h : Hd) (x : Int) : Hd := if x = q then h else H x
def addK (K : List Int) (q : Int) : List Int := if q ∈ K then K else K ++ [q]
theorem mem_addK {K : List Int} {q x : Int} : x ∈ addK K q ↔ x ∈ K ∨ x = q := by
 unfold addK
 split
 · rename_i h
   exact ⟨.inl, fun e => e.elim id fun e => e ▸ h⟩
 · simp
def delK (K : List Int) (q : Int) : List Int := K.filter fun x => decide (x ≠ q)
theorem mem_delK {K : List Int} {q x : Int} : x ∈ delK K q ↔ x ∈ K ∧ x ≠ q := by unfold delK; rw [List.mem_filter, decide_eq_true_eq]
theorem DK.put {D : DataW Value} {K : List Int} {H : Int → Hd} (h : DK D K H) (q : Int) (hd : Hd) : DK (D.put (kI q) (.held hd.val)) (addK K q) (setH H q hd) := by
 refine ⟨fun x => ?_, fun x => ?_, fun x hx => ?_, h.map.put _ _⟩
 · by_cases e : x = q
   · subst e
     rw [Maps.has_put_same h.map (kI_key x), decide_eq_true (mem_addK.2 (.inr rfl))]
   · rw [Maps.has_put_other (fun h => e (kI_inj h)), h.has]
     congr 1
     exact propext ⟨fun hx => mem_addK.2 (.inl hx), fun hx => (mem_addK.1 hx).resolve_right e⟩
 · unfold setH
   by_cases e : x = q
   · subst e
     rw [Maps.atKey_put_same h.map (kI_key x), if_pos rfl]
   · rw [Maps.atKey_put_other (fun h => e (kI_inj h)), h.at_, if_neg e]
 · unfold setH
   rw [if_neg fun e => hx (mem_addK.2 (.inr e))]
   exact h.no x fun hk => hx (mem_addK.2 (.inl hk))
theorem DK.del {D : DataW Value} {K : List Int} {H : Int → Hd} (h : DK D K H) (q : Int) : DK (D.del (kI q)) (delK K q) (setH H q noHd) := by
 refine ⟨fun x => ?_, fun x => ?_, fun x hx => ?_, h.map.del _⟩
 · by_cases e : x = q
   · subst e
     rw [Maps.has_del_same, decide_eq_false fun hx => (mem_delK.1 hx).2 rfl]
   · rw [Maps.has_del_other (fun h => e (kI_inj h)), h.has]
     congr 1
     exact propext ⟨fun hx => mem_delK.2 ⟨hx, e⟩, fun hx => (mem_delK.1 hx).1⟩
 · unfold setH
   by_cases e : x = q
   · subst e
     rw [Maps.atKey_del_same, if_pos rfl]
   · rw [Maps.atKey_del_other (fun h => e (kI_inj h)), h.at_, if_neg e]
 · unfold setH
   split
   · rfl
   · rename_i e
     exact h.no x fun hk => hx (mem_delK.2 ⟨hk, e⟩)
section
variable {w w' : World} {mb r nb cnt : Nat} {K : List Int} {H : Int → Hd} {L : Int → Bool}
theorem GM.lt (h : GM w mb nb K H) : mb < w.heap.size := h.choose_spec.1.lt
theorem GM.frame (h : GM w mb nb K H) (hs : w'.heap[mb]? = w.heap[mb]?) : GM w' mb nb K H := by
 obtain ⟨D, ⟨es, clock, hb, q⟩, hD⟩ := h
 exact ⟨D, ⟨es, clock, hs.trans hb, q⟩, hD⟩
theorem GM.below (h : GM w mb nb K H) (hb : Below w.heap.size w w') : GM w' mb nb K H := h.frame (hb.block mb h.lt)
theorem GM.keeps (h : GM w mb nb K H) {S : Nat → Prop} (hk : Keeps S w w') (hS : ¬ S mb) : GM w' mb nb K H := h.frame (hk.block mb h.lt hS)
theorem GM.made (w : World) : GM (w.alloc (.map #[] 0)) w.heap.size 0 [] (fun _ => noHd) :=
 ⟨_, World.ownsMap_made w _ _ _, ⟨fun _ => rfl, fun _ => rfl, fun _ _ => rfl, Maps.isMap_empty⟩⟩
theorem GR.owns (h : GR w mb r nb K H L cnt) : GM w mb nb K H := by
 obtain ⟨D, left, h1, h2, _⟩ := h
 exact ⟨D, h1.owns, h2⟩
theorem GR.frame (h : GR w mb r nb K H L cnt) (hs : w'.heap[mb]? = w.heap[mb]?) (hr : w'.heap[r]? = w.heap[r]?) : GR w' mb r nb K H L cnt := by
 obtain ⟨D, left, ⟨es, clock, since, seen, c0, h1, h2, h3, h4, h5, q⟩, hD, hL⟩ := h
 exact ⟨D, left, ⟨es, clock, since, seen, c0, hs.trans h1, h2, h3, h4, hr.trans h5, q⟩, hD, hL⟩
theorem GR.lt (h : GR w mb r nb K H L cnt) : r < w.heap.size := by obtain ⟨D, left, h1, _⟩ := h; exact h1.lt
theorem GR.below (h : GR w mb r nb K H L cnt) (hb : Below w.heap.size w w') : GR w' mb r nb K H L cnt := h.frame (hb.block mb h.owns.lt) (hb.block r h.lt)
theorem GR.keeps (h : GR w mb r nb K H L cnt) {S : Nat → Prop} (hk : Keeps S w w') (hS : ¬ S mb) (hr : ¬ S r) : GR w' mb r nb K H L cnt := h.frame (hk.block mb h.owns.lt hS) (hk.block r h.lt hr)
theorem GR.left_eq (h : GR w mb r nb K H L cnt) : w.rangeLeft mb r = cnt := by obtain ⟨D, left, h1, _⟩ := h; exact h1.left_eq
theorem GM.ne_cells {g : Nat} {cs : Array Value} {t : TypeId} {fr : Nat × Nat} (h : GM w mb nb K H) (hg : w.heap[g]? = some (.cells cs t fr)) : mb ≠ g := fun e => by
 obtain ⟨D, ⟨es, clock, hb, _⟩, _⟩ := h
 rw [e, hg] at hb
 cases hb
theorem GM.ne_sl {x : Nat} {e : TypeId} {sz n cap : Nat} {A : Option Addr} {xs : List Value} (h : GM w mb nb K H) (hs : Sl w e sz A n cap xs) (hx : x ∈ fpA A) : mb ≠ x := by
 rcases hs.2.2.2 with ⟨rfl, _⟩ | ⟨g, off, cur, rfl, hg, _⟩
 · simp at hx
 · obtain rfl : x = g := by simpa using hx
   exact h.ne_cells hg
end
section
variable {w : World} {ops : Array Oper} {rest : List Oper} {o : Oper} {a : Act} {Q : Exit → Act → World → Prop} {mb nb : Nat} {K : List Int} {H : Int → Hd}
theorem wp_mg_get (hg : o.guard = none) (m x : Operand) (hop : o.op = Op.lookup tMG m x false) (hm : a.eval m = .map (some mb)) (h : GM w mb nb K H) (y : Int) (hx : a.eval x = .int .i64 y) (hw : (Lit.int .i64 y).wf = true)
  (u : Value) (hu : (H y).val = u) (hK : wpList Tryz.prog ops Q rest (a.put o.dst u) w) : wpList Tryz.prog ops Q (o :: rest) a w := by
 subst hu
 obtain ⟨D, h1, hD⟩ := h
 refine wpList_plain hg fun K' hK' => ?_
 obtain ⟨v, ps, hrun, hv⟩ := World.ownsMap.lookup h1 lawI Tryz.underlying109 (zeroIs w) (zd := .held noHd.val) (zp := []) rfl (Maps.keyOf_int_mk Tryz.underlying3 hw)
 obtain ⟨_, he⟩ := headElem_inv hv
 rw [show (Lit.int .i64 y : Lit) = kI y from rfl, hD.at_] at he
 injection he with he _
 injection he with he
 subst he
 unfold Oper.wp
 simp [execOp, hop, hm, hx, hrun, Result.andThen]
 exact hK' _ _ hK
theorem wp_mg_put (hg : o.guard = none) (m x v : Operand) (hop : o.op = Op.mapUpdate tMG m x v) (hm : a.eval m = .map (some mb)) (h : GM w mb nb K H) (hl : nb < maxLen) (y : Int) (hx : a.eval x = .int .i64 y) (hw : (Lit.int .i64 y).wf = true) (hd : Hd) (hv : a.eval v = hd.val)
  (hK : ∀ w', GM w' mb (nb + 1) (addK K y) (setH H y hd) → Keeps (fun k => k = mb) w w' → wpList Tryz.prog ops Q rest (a.put o.dst undef) w') : wpList Tryz.prog ops Q (o :: rest) a w := by
 obtain ⟨D, h1, hD⟩ := h
 refine wpList_mapUpdate_own w hg m x v tMG hop tInt tIs lawI Tryz.underlying109 headElem mb nb D hm h1 hl _ _ (kI y) hx hv (Maps.keyOf_int_mk Tryz.underlying3 hw) (.held hd.val) [] (headElem_mk hd) fun w' h2 h3 => ?_
 exact hK w' ⟨_, h2, hD.put y hd⟩ ((keeps_of_grown h3).mono fun k _ e => Option.some.inj e)
theorem wp_mg_del (hg : o.guard = none) (m x : Operand) (hop : o.op = Op.call { callee := Callee.builtin Builtin.delete, args := #[m, x], argTypes := #[tMG, tInt] }) (hm : a.eval m = .map (some mb)) (h : GM w mb nb K H) (y : Int) (hx : a.eval x = .int .i64 y) (hw : (Lit.int .i64 y).wf = true)
  (hK : ∀ w', GM w' mb nb (delK K y) (setH H y noHd) → Keeps (fun k => k = mb) w w' → wpList Tryz.prog ops Q rest (a.put o.dst (.tuple #[])) w') : wpList Tryz.prog ops Q (o :: rest) a w := by
 obtain ⟨D, h1, hD⟩ := h
 refine wpList_delete_own w hg m x tMG tInt hop tIs lawI Tryz.underlying109 headElem mb nb D hm h1 _ (kI y) hx (Maps.keyOf_int_mk Tryz.underlying3 hw) fun w' h2 h3 => ?_
 exact hK w' ⟨_, h2, hD.del y⟩ ((keeps_of_grown h3.grown).mono fun k _ e => Option.some.inj e)
theorem wp_mg_range (hg : o.guard = none) (m : Operand) (hop : o.op = Op.range tMG m) (hm : a.eval m = .map (some mb)) (h : GM w mb nb K H)
  (hK : ∀ w' cnt, GR w' mb w.heap.size nb K H (fun x => decide (x ∈ K)) cnt → Below w.heap.size w w' → w'.heap.size = w.heap.size + 1 → wpList Tryz.prog ops Q rest (a.put o.dst (.pointer (some ⟨w.heap.size, 0, none⟩))) w') : wpList Tryz.prog ops Q (o :: rest) a w := by
 obtain ⟨D, h1, hD⟩ := h
 refine wpList_range_own w hg m tMG hop tInt tIs lawI Tryz.underlying109 headElem mb nb D hm h1 fun w' h2 h3 h4 => ?_
 exact hK w' _ ⟨D, _, h2, hD, fun x => hD.has x⟩ ⟨h3.os, h3.tape, h3.output, h3.size, fun k hk => h3.block k hk (by simp)⟩ h4
set_option maxRecDepth 100000 in
theorem wp_gr_next (hg : o.guard = none) (it : Operand) (hop : o.op = Op.next it false) {r cnt : Nat} {L : Int → Bool} (hit : a.eval it = .pointer (some ⟨r, 0, none⟩)) (h : GR w mb r nb K H L cnt)
  (hDone : cnt = 0 → (∀ x, L x = false) → wpList Tryz.prog ops Q rest (a.put o.dst (.tuple #[.bool false])) w)
  (hMore : ∀ (x : Int) (w' : World) (cnt' : Nat), x ∈ K → L x = true → (Lit.int .i64 x).wf = true → GR w' mb r nb K H (fun z => L z && !decide (z = x)) cnt' → cnt' < cnt → Keeps (fun k => k = r) w w' → w'.heap.size = w.heap.size →
   (Instr.entry (.pointer (some ⟨r, 0, none⟩))).run Tryz.prog w' = .ok (.tuple #[.int .i64 x, (H x).val]) w' → wpList Tryz.prog ops Q rest (a.put o.dst (.tuple #[.bool true, .int .i64 x, (H x).val])) w') :
  wpList Tryz.prog ops Q (o :: rest) a w := by
 obtain ⟨D, left, hr, hD, hL⟩ := h
 refine wpList_next_ranges w hg it hop tInt lawI headElem (Value.int .i64) (fun t : Option Addr × Nat × Nat => Value.slice t.1 t.2.1 t.2.2) (fun key kl hkey => by obtain ⟨x, rfl, _⟩ := Maps.keyOf_int_inv Tryz.underlying3 hkey; exact ⟨x, rfl⟩) (fun v y hv => by obtain ⟨⟨a, n, c, rfl⟩, _⟩ := headElem_inv hv; exact ⟨(a, n, c), rfl⟩)
  mb r nb D left cnt hit hr (fun h0 h1 => hDone h0 fun x => by rw [← hL]; exact h1 _) fun x c kl y w' cnt' hkey hl hv hat h1 h2 h3 h4 h5 => ?_
 obtain ⟨x', ex, rfl, hwx⟩ := Maps.keyOf_int_inv Tryz.underlying3 hkey
 cases ex
 have hx : x ∈ K := by
  have := Maps.has_true_of_atKey (k := kI x) hat
  rw [hD.has] at this
  simpa using this
 obtain ⟨_, he⟩ := headElem_inv hv
 have h6 := hat (.held noHd.val)
 rw [show (Lit.int .i64 x : Lit) = kI x from rfl, hD.at_, he] at h6
 injection h6 with h6
 have h7 : (Hd.val (H x)) = Value.slice c.1 c.2.1 c.2.2 := h6
 rw [← h7] at h5 ⊢
 refine hMore x w' cnt' hx (by rw [← hL]; exact hl) hwx ⟨D, _, h1, hD, fun z => ?_⟩ h2 ((keeps_of_grown h3).mono fun k _ e => Option.some.inj e) h4 h5
 rw [hL]
 congr 2
 by_cases e : z = x
 · subst e
   rw [show (kI z).sameKey (.int .i64 z) = true from WideAt.sameKey_self (a := kI z) (kI_key z)]
   simp
 · rw [show (Lit.int .i64 x : Lit) = kI x from rfl, Maps.sameKey_ne (fun h => e (kI_inj h))]
   simp [e]
end
end Go.Proofs.YtpkmjenoniedjaaGreat
namespace Go.Proofs.YtpkmjenoniedjaaGreat
open Go.RowKit Go.Shelf
def rnS : Ren := ⟨fun | 6 => 77 | 14 => 91 | 15 => 92 | 20 => 95 | 21 => 96 | 22 => 97 | 23 => 98 | 24 => 99 | 25 => 100 | 26 => 101 | 27 => 102 | 28 => 103 | 29 => 104 | 46 => 106 | 47 => 107 | 48 => 108 | 49 => 109 | 50 => 110 | 57 => 111 | n => n,
 fun | 0 => 0 | 3 => 3 | 4 => 4 | 5 => 5 | 9 => 9 | 22 => 93 | 24 => 96 | 25 => 113 | 39 => 124 | 45 => 127 | 46 => 128 | 50 => 117 | 53 => 134 | 55 => 136 | 66 => 137 | 70 => 141 | 76 => 143 | 77 => 70 | n => n, fun n => n⟩
theorem layS : SlLaysF0.n6 Tryz.prog rnS where
 mixed := by kernel_rfl
 f6 := ⟨Tryz.f77.name, by decide, Tryz.func77.trans (congrArg some (by kernel_rfl))⟩
 f14 := ⟨Tryz.f91.name, by decide, Tryz.func91.trans (congrArg some (by kernel_rfl))⟩
 f15 := Tryz.func92.trans (congrArg some (by kernel_rfl))
 f20 := ⟨Tryz.f95.name, by decide, Tryz.func95.trans (congrArg some (by kernel_rfl))⟩
 f21 := ⟨Tryz.f96.name, by decide, Tryz.func96.trans (congrArg some (by kernel_rfl))⟩
 f22 := ⟨Tryz.f97.name, by decide, Tryz.func97.trans (congrArg some (by kernel_rfl))⟩
 f23 := ⟨Tryz.f98.name, by decide, Tryz.func98.trans (congrArg some (by kernel_rfl))⟩
 f24 := ⟨Tryz.f99.name, by decide, Tryz.func99.trans (congrArg some (by kernel_rfl))⟩
 f25 := ⟨Tryz.f100.name, by decide, Tryz.func100.trans (congrArg some (by kernel_rfl))⟩
 f26 := ⟨Tryz.f101.name, by decide, Tryz.func101.trans (congrArg some (by kernel_rfl))⟩
 f27 := ⟨Tryz.f102.name, by decide, Tryz.func102.trans (congrArg some (by kernel_rfl))⟩
 f28 := Tryz.func103.trans (congrArg some (by kernel_rfl))
 f29 := Tryz.func104.trans (congrArg some (by kernel_rfl))
 f46 := ⟨Tryz.f106.name, by decide, Tryz.func106.trans (congrArg some (by kernel_rfl))⟩
 f47 := Tryz.func107.trans (congrArg some (by kernel_rfl))
 f48 := Tryz.func108.trans (congrArg some (by kernel_rfl))
 f49 := ⟨Tryz.f109.name, by decide, Tryz.func109.trans (congrArg some (by kernel_rfl))⟩
 f50 := ⟨Tryz.f110.name, by decide, Tryz.func110.trans (congrArg some (by kernel_rfl))⟩
 f57 := ⟨Tryz.f111.name, by decide, Tryz.func111.trans (congrArg some (by kernel_rfl))⟩
 t0 := by kernel_rfl
 a0 := fun _ => by kernel_rfl
 z0 := fun _ => by kernel_rfl
 v0 := fun _ => by kernel_rfl
 t3 := by kernel_rfl
 a3 := fun _ => by kernel_rfl
 z3 := fun _ => by kernel_rfl
 v3 := fun _ => by kernel_rfl
 t4 := by kernel_rfl
 a4 := fun _ => by kernel_rfl
 z4 := fun _ => by kernel_rfl
 v4 := fun _ => by kernel_rfl
 t5 := by kernel_rfl
 a5 := fun _ => by kernel_rfl
 z5 := fun _ => by kernel_rfl
 v5 := fun _ => by kernel_rfl
 t9 := by kernel_rfl
 a9 := fun _ => by kernel_rfl
 z9 := fun _ => by kernel_rfl
 v9 := fun _ => by kernel_rfl
 t22 := by kernel_rfl
 a22 := fun _ => by kernel_rfl
 z22 := fun _ => by kernel_rfl
 v22 := fun _ => by kernel_rfl
 t25 := by kernel_rfl
 a25 := fun _ => by kernel_rfl
 z25 := fun _ => by kernel_rfl
 v25 := fun _ => by kernel_rfl
 t39 := by kernel_rfl
 a39 := fun _ => by kernel_rfl
 z39 := fun _ => by kernel_rfl
 v39 := fun _ => by kernel_rfl
 t45 := by kernel_rfl
 a45 := fun _ => by kernel_rfl
 z45 := fun _ => by kernel_rfl
 v45 := fun _ => by kernel_rfl
 t46 := by kernel_rfl
 a46 := fun _ => by kernel_rfl
 z46 := fun _ => by kernel_rfl
 v46 := fun _ => by kernel_rfl
 t50 := by kernel_rfl
 a50 := fun _ => by kernel_rfl
 z50 := fun _ => by kernel_rfl
 v50 := fun _ => by kernel_rfl
 t53 := by kernel_rfl
 a53 := fun _ => by kernel_rfl
 z53 := fun _ => by kernel_rfl
 v53 := fun _ => by kernel_rfl
 t55 := by kernel_rfl
 a55 := fun _ => by kernel_rfl
 z55 := fun _ => by kernel_rfl
 v55 := fun _ => by kernel_rfl
 t66 := by kernel_rfl
 a66 := fun _ => by kernel_rfl
 z66 := fun _ => by kernel_rfl
 v66 := fun _ => by kernel_rfl
 t70 := by kernel_rfl
 a70 := fun _ => by kernel_rfl
 z70 := fun _ => by kernel_rfl
 v70 := fun _ => by kernel_rfl
 t76 := by kernel_rfl
 a76 := fun _ => by kernel_rfl
 z76 := fun _ => by kernel_rfl
 v76 := fun _ => by kernel_rfl
 t77 := by kernel_rfl
 a77 := fun _ => by kernel_rfl
 z77 := fun _ => by kernel_rfl
 v77 := fun _ => by kernel_rfl
theorem flat_get {α : Type} {f : α → List Value} {k : Nat} (hk : ∀ x, (f x).length = k) : ∀ (l : List α) (i r : Nat) (x : α), l[i]? = some x → r < k → (l.flatMap f)[i * k + r]? = (f x)[r]?
 | [], i, _, _, h, _ => by simp at h
 | a :: l, 0, r, x, h, hr => by
   obtain rfl : a = x := by simpa using h
   rw [List.flatMap_cons, Nat.zero_mul, Nat.zero_add, List.getElem?_append_left (by rw [hk]; exact hr)]
 | a :: l, i + 1, r, x, h, hr => by
   rw [List.flatMap_cons, List.getElem?_append_right (by rw [hk, Nat.add_mul]; omega), hk, show (i + 1) * k + r - k = i * k + r by rw [Nat.add_mul]; omega]
   exact flat_get hk l i r x (by simpa using h) hr
theorem flat_len {α : Type} {f : α → List Value} {k : Nat} (hk : ∀ x, (f x).length = k) : ∀ l : List α, (l.flatMap f).length = l.length * k
 | [] => by simp
 | a :: l => by rw [List.flatMap_cons, List.length_append, hk, flat_len hk l, List.length_cons, Nat.add_mul]; omega
theorem flatK_list {α : Type} [Inhabited α] {f : α → List Value} {k : Nat} (hk : ∀ x, (f x).length = k) (h0 : 0 < k) (d : Array α) : (Sort.flatK f k d).toList = d.toList.flatMap f := by
 apply List.ext_getElem?
 intro j
 by_cases hj : j < d.size * k
 · have hi : j / k < d.size := by rw [Nat.div_lt_iff_lt_mul h0]; exact hj
   have hr : j % k < k := Nat.mod_lt _ h0
   have h1 := flat_get hk d.toList (j / k) (j % k) d[j / k]! (by rw [Array.getElem?_toList, Array.getElem?_eq_getElem hi, getElem!_pos d _ hi]) hr
   rw [show j / k * k + j % k = j by rw [Nat.mul_comm]; exact Nat.div_add_mod j k] at h1
   rw [h1]
   have h2 := Sort.get_flatK f k d j hj
   rw [Array.getElem?_toList, Array.getElem?_eq_getElem (by rw [Sort.size_flatK]; exact hj), ← getElem!_pos (Sort.flatK f k d) j (by rw [Sort.size_flatK]; exact hj), h2, List.getElem?_eq_getElem (by rw [hk]; exact hr), getElem!_pos (f d[j / k]!) _ (by rw [hk]; exact hr)]
 · rw [List.getElem?_eq_none (by simp [Sort.size_flatK]; omega), List.getElem?_eq_none (by rw [flat_len hk]; simp; omega)]
theorem sort_keeps {α : Type} [Inhabited α] (enc : α → List Value) (k : Nat) (w : World) (blk off n : Nat) (d : Array α) (os : Array Obj) : Keeps (fun b => b = blk) w (sortWorldK enc k w blk off n d os) := by
 refine ⟨rfl, rfl, rfl, ?_, fun i hi hne => ?_⟩
 · show w.heap.size ≤ ((w.heap.modify blk _) ++ os).size
   simp
 · show ((w.heap.modify blk (Sort.onCells (Sort.putCells id off (Sort.flatK enc k d)))) ++ os)[i]? = _
   rw [Array.getElem?_append_left (by simpa using hi), Array.getElem?_modify, if_neg (fun e => hne e.symm)]
theorem sort_sl {α : Type} [Inhabited α] {enc : α → List Value} {k : Nat} (hk : ∀ x, (enc x).length = k) (h0 : 0 < k) {w : World} {blk off n cap : Nat} {e : TypeId} {xs : List Value} (hs : Sl w e k (some ⟨blk, off, none⟩) n cap xs) (m : Nat) (d : Array α) (hd : d.size = n) (os : Array Obj) :
  Sl (sortWorldK enc k w blk off m d os) e k (some ⟨blk, off, none⟩) n cap (d.toList.flatMap enc) := by
 obtain ⟨hl, hn, hm, hh⟩ := hs
 refine ⟨by rw [flat_len hk]; simp [hd], hn, hm, .inr ?_⟩
 rcases hh with ⟨h, _⟩ | ⟨g, off', cur, hA, hg, hc, ht⟩
 · cases h
 · obtain ⟨rfl, rfl⟩ : blk = g ∧ off = off' := by simpa using hA
   have hlt : blk < w.heap.size := (Array.getElem?_eq_some_iff.1 hg).1
   refine ⟨blk, off, Sort.putCells id off (Sort.flatK enc k d) cur, rfl, ?_, ?_, ?_⟩
   · show ((w.heap.modify blk (Sort.onCells (Sort.putCells id off (Sort.flatK enc k d)))) ++ os)[blk]? = _
     rw [Array.getElem?_append_left (by simpa using hlt), Array.getElem?_modify, if_pos rfl, hg]
     rfl
   · unfold Sort.putCells
     rw [Array.size_mapIdx]
     exact hc
   · rw [← flatK_list hk h0]
     have hcap := Nat.mul_le_mul_right k hn
     apply List.ext_getElem?
     intro j
     unfold Sort.putCells
     rw [List.getElem?_take]
     by_cases hj : j < n * k
     · rw [if_pos hj, List.getElem?_drop, Array.getElem?_toList, Array.getElem?_mapIdx, Array.getElem?_eq_getElem (by omega), Option.map_some, if_pos (by rw [Sort.size_flatK, hd]; omega), Array.getElem?_toList, Array.getElem?_eq_getElem (by rw [Sort.size_flatK, hd]; exact hj), show off + j - off = j by omega, getElem!_pos _ _ (by rw [Sort.size_flatK, hd]; exact hj)]
       rfl
     · rw [if_neg hj, List.getElem?_eq_none (by simp [Sort.size_flatK, hd]; omega)]
theorem holds_of_sl {α : Type} [Inhabited α] {enc : α → List Value} {k : Nat} (hk : ∀ x, (enc x).length = k) (h0 : 0 < k) {w : World} {blk off n cap : Nat} {e : TypeId} {d : Array α} (hd : d.size = n) (hs : Sl w e k (some ⟨blk, off, none⟩) n cap (d.toList.flatMap enc)) : Sort.HoldsK enc k w blk off d := by
 intro j hj
 have hj' : j < n * k := by rw [Sort.size_flatK, hd] at hj; exact hj
 have h1 : (d.toList.flatMap enc)[j]? = some ((Sort.flatK enc k d)[j]!) := by
  rw [← flatK_list hk h0, Array.getElem?_toList, Array.getElem?_eq_getElem hj, getElem!_pos (Sort.flatK enc k d) j hj]
 obtain ⟨ad, hA, _, hc, hf⟩ := hs.cell h1
 obtain rfl := Option.some.inj hA
 rw [addr_lit] at hc
 have := hf j
 rw [addr_lit] at this
 exact ⟨hc, this⟩
abbrev Sp (w : World) : Type := { x : Cp // CpGood w x }
instance spInh (w : World) : Inhabited (Sp w) := ⟨⟨⟨0, 0, 0, none, 0, 0, ([], ([], []), 0)⟩, Sl.nil _ _ _, rfl, Nat.zero_le _, (by decide), (by decide)⟩⟩
def spEnc (w : World) (x : Sp w) : List Value := x.1.cells
def spCmp (w : World) (x y : Sp w) : Int := cmpP x.1.P y.1.P
theorem sp_lt (w : World) (x y : Sp w) : ltOf (spCmp w) x y = befP x.1.P y.1.P := cmpP_lt _ _
theorem sp_swo (w : World) : Sort.SWO (ltOf (spCmp w)) :=
 ⟨fun x => by rw [sp_lt]; exact befP_irr _, fun x y z h1 h2 => by rw [sp_lt] at h1 h2 ⊢; exact befP_trans h1 h2, fun x y z h1 h2 => by rw [sp_lt] at h1 h2 ⊢; exact befP_ntrans h1 h2⟩
theorem good_keeps {w w' : World} {blk : Nat} {cs : Array Value} {x : Cp} (h : CpGood w x) (hb : w.heap[blk]? = some (.cells cs tCp)) (hk : Keeps (fun b => b = blk) w w') : CpGood w' x := by
 obtain ⟨h1, h2⟩ := h
 refine ⟨h1.keeps hk fun b hb' e => ?_, h2⟩
 have h1' := h1
 obtain ⟨a, hA, rfl⟩ := mem_fpA.1 hb'
 rw [hA] at h1'
 exact is_ne_box h1' hb (by decide) e
theorem sl_box {w : World} {e : TypeId} {sz n cap blk off : Nat} {xs : List Value} (hs : Sl w e sz (some ⟨blk, off, none⟩) n cap xs) : ∃ cur, w.heap[blk]? = some (.cells cur e (0, 0)) := by
 rcases hs.2.2.2 with ⟨h, _⟩ | ⟨g, off', cur, hA, hg, _⟩
 · cases h
 · obtain ⟨rfl, rfl⟩ : blk = g ∧ off = off' := by simpa using hA
   exact ⟨cur, hg⟩
theorem sp_cmp (w : World) (blk off size : Nat) {cs : Array Value} (hb : w.heap[blk]? = some (.cells cs tCp)) : CmpLays Tryz.prog 78 #[] (spEnc w) 4 (spCmp w) blk off size w := by
 intro m os dk _ x y
 have hk := sort_keeps (spEnc w) 4 w blk off m dk os
 refine (cmpC_any x.1 y.1 _ (good_keeps x.2 hb hk) (good_keeps y.2 hb hk)).mono ?_
 rintro e w' ⟨rfl, rfl⟩
 refine ⟨rfl, 0, #[.cells x.1.cells.toArray tCp, .cells y.1.cells.toArray tCp], ?_⟩
 rw [Sort.alloc_eq_grow, Sort.alloc_eq_grow, Sort.grow_grow]
 rfl
theorem lift_sp (w : World) : ∀ xs : List Cp, (∀ x, x ∈ xs → CpGood w x) → ∃ dl : List (Sp w), dl.map (fun x => x.1) = xs
 | [], _ => ⟨[], rfl⟩
 | x :: r, h => by
   obtain ⟨dl, hd⟩ := lift_sp w r fun y hy => h y (List.mem_cons_of_mem _ hy)
   exact ⟨⟨x, h x (List.mem_cons_self ..)⟩ :: dl, by rw [List.map_cons, hd]⟩
theorem sortParts_any (w : World) (blk off cap : Nat) (xs : List Cp) (hs : Sl w tCp 4 (some ⟨blk, off, none⟩) xs.length cap (xs.flatMap Cp.cells)) (hg : ∀ x, x ∈ xs → CpGood w x) (hl : xs.length ≤ 1048576) :
  Calls Tryz.prog 77 #[.slice (some ⟨blk, off, none⟩) xs.length cap, .func (.func 78) #[] #[]] w fun e w' =>
   e = .returned (.tuple #[]) ∧ ∃ ys : List Cp, ys.Perm xs ∧ ys.Pairwise (fun x y => befP y.P x.P = false) ∧ Sl w' tCp 4 (some ⟨blk, off, none⟩) ys.length cap (ys.flatMap Cp.cells) ∧ Keeps (fun b => b = blk) w w' := by
 obtain ⟨cur, hb⟩ := sl_box hs
 obtain ⟨dl, hdl⟩ : ∃ dl : List (Sp w), dl.map (·.1) = xs := lift_sp w xs hg
 have hlen : dl.length = xs.length := by rw [← hdl, List.length_map]
 have hfl : ∀ l : List (Sp w), l.flatMap (spEnc w) = (l.map (·.1)).flatMap Cp.cells := fun l => by rw [List.flatMap_map]; rfl
 have hk : ∀ x : Sp w, (spEnc w x).length = 4 := fun _ => rfl
 have hsz : dl.toArray.size = xs.length := by simpa using hlen
 have hs' : Sl w tCp 4 (some ⟨blk, off, none⟩) xs.length cap (dl.toArray.toList.flatMap (spEnc w)) := by rw [hfl, hdl]; exact hs
 have hH := holds_of_sl hk (by decide) hsz hs'
 have hc := AnyQ.slices_SortFunc layS 4 (fun _ => by kernel_rfl) (fun _ => by kernel_rfl) (spEnc w) hk (fun x v hv => by
  simp only [spEnc, Cp.cells, List.mem_cons, List.not_mem_nil, or_false] at hv
  rcases hv with rfl | rfl | rfl | rfl <;> rfl) (spCmp w) (sp_swo w) 78 #[] blk off cap dl.toArray w (enters_of Tryz.func78 (by kernel_rfl) rfl) (sp_cmp w blk off _ hb) hH (Array.getElem?_eq_some_iff.1 hb).1 (by rw [hsz]; omega)
 rw [hsz] at hc
 refine hc.mono ?_
 rintro e w' ⟨rfl, d', n, os, hp, hso, rfl⟩
 obtain ⟨hp1, _, hp2⟩ := hp
 rw [hsz] at hp1
 have hp3 : d'.toList.Perm dl := by
  have e1 : (d'.extract 0 xs.length).toList = d'.toList := by rw [← hp1]; simp
  have e2 : (dl.toArray.extract 0 xs.length).toList = dl := by rw [← hsz]; simp
  rw [e1, e2] at hp2
  exact hp2
 refine ⟨rfl, d'.toList.map (·.1), ?_, ?_, ?_, sort_keeps _ _ _ _ _ _ _ _⟩
 · rw [← hdl]
   exact hp3.map _
 · rw [List.pairwise_map, List.pairwise_iff_getElem]
   intro i j hi hj hij
   have hi' : i < d'.size := by simpa using hi
   have hj' : j < d'.size := by simpa using hj
   have := hso i j (Nat.zero_le _) hij (by omega)
   rw [sp_lt, getElem!_pos d' i hi', getElem!_pos d' j hj'] at this
   simpa using this
 · have h3 := sort_sl hk (by decide) hs n d' hp1 os
   rw [List.length_map, Array.length_toList, hp1, ← hfl]
   exact h3
end Go.Proofs.YtpkmjenoniedjaaGreat
namespace Go.Proofs.YtpkmjenoniedjaaGreat
open Go.RowKit
structure GrS (g : Gr) (W : World) (mb k : Nat) (H : Int → Hd) (w : World) : Prop where
 map : GM w mb k (keysTo g k) H
 lst : ∀ q, (H q).2.2 = grpN g q k
 is : ∀ q, IS w (H q).1 (H q).2.1 (H q).2.2
 ap : ∀ q q', q ≠ q' → ∀ b, b ∈ fpA (H q).1 → ¬ b ∈ fpA (H q').1
 new : W.heap.size ≤ mb ∧ ∀ q, Fresh W.heap.size (H q).1
 bel : Below W.heap.size W w
section
variable {g : Gr} {W w w' : World} {mb k : Nat} {H : Int → Hd}
theorem GrS.below (h : GrS g W mb k H w) (hb : Below w.heap.size w w') : GrS g W mb k H w' :=
 ⟨h.map.below hb, h.lst, fun q => (h.is q).below hb, h.ap, h.new, below_trans h.bel hb h.bel.size⟩
theorem GrS.made (g : Gr) (W : World) : GrS g W W.heap.size 0 (fun _ => noHd) (W.alloc (.map #[] 0)) :=
 ⟨GM.made W, fun _ => rfl, fun _ => Sl.nil _ _ _, fun _ _ _ b hb => (by cases hb), ⟨Nat.le_refl _, fun _ => Fresh.none_ _⟩, t_below_alloc _ _⟩
theorem GrS.step (h : GrS g W mb k H w) {q : Int} (hq : numE g (k : Int) = q) {A5 : Option Addr} {cap5 : Nat} {w5 w6 : World} (hI : IS w5 A5 cap5 ((H q).2.2 ++ [(k : Int)])) (hA : ∀ b, b ∈ fpA A5 → b ∈ fpA (H q).1 ∨ w.heap.size ≤ b) (hk : Keeps (· ∈ fpA (H q).1) w w5)
  (hM : GM w6 mb (k + 1) (addK (keysTo g k) q) (setH H q (A5, cap5, (H q).2.2 ++ [(k : Int)]))) (hk6 : Keeps (fun x => x = mb) w5 w6) : GrS g W mb (k + 1) (setH H q (A5, cap5, (H q).2.2 ++ [(k : Int)])) w6 := by
 have hlt : ∀ q b, b ∈ fpA (H q).1 → b < w.heap.size := fun q b hb => (h.is q).lt b hb
 have hmb : ∀ q b, b ∈ fpA (H q).1 → b ≠ mb := fun q b hb e => h.map.ne_sl (h.is q) hb e.symm
 have hml := h.map.lt
 have hA5 : ∀ b, b ∈ fpA A5 → b ≠ mb := fun b hb e => by
  rcases hA b hb with h1 | h1
  · exact hmb q b h1 e
  · omega
 refine ⟨?_, fun x => ?_, fun x => ?_, fun x y hne b hb hb' => ?_, ⟨h.new.1, fun x => ?_⟩, below_keeps (below_keeps h.bel hk h.bel.size fun b hb => h.new.2 q b hb) hk6 (Nat.le_trans h.bel.size hk.size) fun b e => by rw [e]; exact h.new.1⟩
 · have : keysTo g (k + 1) = addK (keysTo g k) q := by
    rw [keysTo, hq]
    rfl
   rw [this]
   exact hM
 · unfold setH
   rw [grpN_succ, hq]
   split
   · rename_i e
     subst e
     rw [if_pos rfl, ← h.lst]
   · rename_i e
     rw [if_neg (fun h => e h.symm), List.append_nil]
     exact h.lst x
 · unfold setH
   split
   · exact hI.keeps hk6 hA5
   · rename_i e
     exact ((h.is x).keeps hk fun b hb hb' => h.ap x q e b hb hb').keeps hk6 (hmb x)
 · unfold setH at hb hb'
   by_cases e1 : x = q
   · have e2 : ¬ y = q := fun e2 => hne (e1.trans e2.symm)
     rw [if_pos e1] at hb
     rw [if_neg e2] at hb'
     rcases hA b hb with h1 | h1
     · exact h.ap q y (fun e => e2 e.symm) b h1 hb'
     · have := hlt y b hb'; omega
   · rw [if_neg e1] at hb
     by_cases e2 : y = q
     · rw [if_pos e2] at hb'
       rcases hA b hb' with h1 | h1
       · exact h.ap x q e1 b hb h1
       · have := hlt x b hb; omega
     · rw [if_neg e2] at hb'
       exact h.ap x y hne b hb hb'
 · unfold setH
   split
   · intro b hb
     rcases hA b hb with h1 | h1
     · exact h.new.2 q b h1
     · have := h.bel.size; omega
   · exact h.new.2 x
end
theorem numW_rng {g : Gr} {n : Nat} (h : Mono g n) {w : Nat} (hw : w < n) : (numM (clsG g))[w]? = some (numW g (w : Int)) ∧ 0 ≤ numW g (w : Int) ∧ numW g (w : Int) ≤ (n : Int) := by
 have h1 := numM_get (cls_of h) hw
 have h2 : numW g (w : Int) = (nrM (clsG g) ((clsG g).getD w 0).toNat : Int) := by
  rw [numW_eq h (by omega)]
  rfl
 rw [h2]
 have h3 := nrM_le (clsG g) ((clsG g).getD w 0).toNat
 have h4 := (cls_of h).le w hw
 exact ⟨h1, by omega, by omega⟩
def RetCps (w : World) (ps : List Prt) (e : Ending) (w' : World) : Prop :=
 ∃ (A : Option Addr) (cap : Nat) (xs : List Cp), e = .returned (.slice A xs.length cap) ∧ Sl w' tCp 4 A xs.length cap (xs.flatMap Cp.cells) ∧ (∀ x, x ∈ xs → CpOk w' x) ∧ xs.map (·.P) = ps ∧ Below w.heap.size w w'
theorem info_cp : (Tryz.prog.info? tCp).map (fun i => (i.zero, i.size, i.bytes)) = some (some (.agg #[.pointer none, .slice none 0 0, .int .i64 0, .int .i64 0]), 4, 48) := by kernel_rfl
theorem flat4 (xs : List Cp) (x : Cp) : (xs ++ [x]).flatMap Cp.cells = xs.flatMap Cp.cells ++ x.cells := by simp
theorem CpOk.below {w w' : World} {x : Cp} (h : CpOk w x) (hb : Below w.heap.size w w') : CpOk w' x := ⟨h.wk.below hb, h.cod.below hb, h.len⟩
theorem CpOk.keeps {w w' : World} {x : Cp} (h : CpOk w x) {A : Option Addr} {n cap : Nat} {xs : List Value} (hs : Sl w tCp 4 A n cap xs) {S : Nat → Prop} (hk : Keeps S w w') (hS : ∀ b, S b → b ∈ fpA A) : CpOk w' x := by
 obtain ⟨c0, c1, c2, c3, c4, c5, c8, c9, e1, e2, e3⟩ := h.wk
 have hc := h.cod
 have key : ∀ {g : Nat} {cs : Array Value} {t : TypeId}, w.heap[g]? = some (.cells cs t) → tCp ≠ t → ¬ S g := fun hg ht hs' => by
  obtain ⟨a, rfl, rfl⟩ := mem_fpA.1 (hS _ hs')
  rcases hs.2.2.2 with ⟨h0, _⟩ | ⟨g, off, cur, hA, hg', _⟩
  · cases h0
  · obtain rfl := Option.some.inj hA
    rw [hg'] at hg
    injection hg with hg
    injection hg with _ h1
    exact ht h1
 refine ⟨h.wk.keeps hk (key e1 (by decide)) (fun hs' => e2.ne_sl hs (hS _ hs') rfl) (fun hs' => e3.ne_sl hs (hS _ hs') rfl), hc.keeps hk fun b hb => ?_, h.len⟩
 obtain ⟨a, hA, rfl⟩ := mem_fpA.1 hb
 rcases hc.2.2.2 with ⟨h0, _⟩ | ⟨g, off, cur, hA', hg, _⟩
 · rw [hA] at h0; cases h0
 · rw [hA'] at hA
   obtain rfl := Option.some.inj hA
   exact key hg (by decide)
theorem sl_addr {w : World} {e : TypeId} {sz n cap : Nat} {A : Option Addr} {xs : List Value} (hs : Sl w e sz A n cap xs) (h0 : 0 < n) : ∃ blk off, A = some ⟨blk, off, none⟩ := by
 rcases hs.2.2.2 with ⟨_, h⟩ | ⟨g, off, cur, hA, _⟩
 · have := hs.2.1; omega
 · exact ⟨g, off, hA⟩
theorem GR.rng {w : World} {mb r nb cnt : Nat} {K : List Int} {H : Int → Hd} {L : Int → Bool} (h : GR w mb r nb K H L cnt) : (∀ cs t fr, w.heap[r]? ≠ some (.cells cs t fr)) ∧ ∀ es c, w.heap[r]? ≠ some (.map es c) := by
 obtain ⟨D, left, ⟨es, clock, since, seen, c0, h1, h2, h3, h4, h5, q⟩, hD, hL⟩ := h
 exact ⟨fun _ _ _ h => (by rw [h5] at h; cases h), fun _ _ h => (by rw [h5] at h; cases h)⟩
theorem sl_rng {w : World} {r : Nat} (hr : ∀ cs t fr, w.heap[r]? ≠ some (.cells cs t fr)) {e : TypeId} {sz n cap : Nat} {A : Option Addr} {xs : List Value} (hs : Sl w e sz A n cap xs) : ∀ b, b ∈ fpA A → b ≠ r := fun b hb e => by
 rcases hs.2.2.2 with ⟨rfl, _⟩ | ⟨g, off, cur, rfl, hg, _⟩
 · cases hb
 · obtain rfl : b = g := by simpa using hb
   rw [e] at hg
   exact hr _ _ _ hg
theorem mi_rng {w : World} {r b : Nat} {l : List Int} (hr : ∀ es c, w.heap[r]? ≠ some (.map es c)) (h : MI w b l) : b ≠ r := fun e => by
 obtain ⟨es, clock, hb, _⟩ := h
 rw [e] at hb
 exact hr _ _ hb
theorem CpOk.rng {w w' : World} {x : Cp} (h : CpOk w x) {mb r nb cnt : Nat} {K : List Int} {H : Int → Hd} {L : Int → Bool} (hR : GR w mb r nb K H L cnt) (hk : Keeps (· = r) w w') : CpOk w' x := by
 obtain ⟨h1, h2⟩ := hR.rng
 have hwk := h.wk
 obtain ⟨c0, c1, c2, c3, c4, c5, c8, c9, e1, e2, e3⟩ := hwk
 exact ⟨h.wk.keeps hk (fun e => h1 _ _ _ (e ▸ e1)) (mi_rng h2 e2) (mi_rng h2 e3), h.cod.keeps hk (sl_rng h1 h.cod), h.len⟩
theorem leastW_rng : ∀ (l : List Int) (a : Int), 0 ≤ a → a ≤ 100 → (∀ x, x ∈ l → 0 ≤ x) → 0 ≤ l.foldl min a ∧ l.foldl min a ≤ 100
 | [], a, h, h', _ => ⟨h, h'⟩
 | x :: l, a, h, h', hx => by
   rw [List.foldl_cons]
   have h0 := hx x (List.mem_cons_self ..)
   by_cases e : a ≤ x
   · rw [show min a x = a by omega]
     exact leastW_rng l a h h' fun y hy => hx y (List.mem_cons_of_mem _ hy)
   · rw [show min a x = x by omega]
     exact leastW_rng l x h0 (by omega) fun y hy => hx y (List.mem_cons_of_mem _ hy)
theorem best_facts {g : Gr} {n m : Nat} (hMo : Mono g n) (hm : g.2.1.length = m) {q : Int} (h : 0 < (grpN g q m).length) : (bestP g (grpN g q m)).1.length ≤ 360 ∧ 0 ≤ leastW (bestP g (grpN g q m)).2.1.1 ∧ leastW (bestP g (grpN g q m)).2.1.1 ≤ 100 := by
 obtain ⟨e, he, h1, h2⟩ := bestP_from (g := g) (l := grpN g q m) (by intro e; rw [e] at h; exact absurd h (by decide))
 have hr := (mem_grpN.1 he).1
 have hI := fromM_inv hMo (e := e) (by rw [hm]; exact hr.2)
 refine ⟨by rw [h1]; exact codeM_len hMo hI, ?_⟩
 rw [h2]
 exact leastW_rng _ 100 (by decide) (by decide) fun x hx => (hI.rg1 x hx).1
set_option maxRecDepth 100000 in
set_option maxHeartbeats 8000000 in
theorem closedParts_any {v : Value} {g : Gr} (w : World) (n m ob ow oe : Nat) (h : RdGr w v g) (hMo : Mono g n) (hv : grB g = true) (hm : g.2.1.length = m) (hw : WkR w ob ow oe (openM g)) :
  Calls Tryz.prog 57 #[v, .pointer (some ⟨ob, 0, none⟩)] w (RetCps w (partsM g)) := by
 have hn100 := hMo.n100
 have hm60 : m ≤ 60 := by rw [← hm]; exact hMo.m60
 have hgn := hMo.hn
 have hW0 := h
 obtain ⟨A, c, hs, ⟨B, bb, s⟩, ⟨C, d, t⟩, rfl, e1, e2, e3, hE, hRa, hRb⟩ := h
 have hml : hs.length = m := by rw [← hm, e1, List.length_map]
 simp only [hgn, hml] at hW0 ⊢
 obtain ⟨p, hp⟩ : ∃ p, s.length = p := ⟨_, rfl⟩
 obtain ⟨r, hr⟩ : ∃ r, t.length = r := ⟨_, rfl⟩
 rw [hp, hr] at hW0 ⊢
 obtain ⟨W, hWe, bW, k0⟩ := (⟨_, rfl, t_below_alloc _ _, heap_alloc_new _ _⟩ : ∃ W, W = w.alloc (.cells #[.int .i64 (n : Int), .slice A m c, .slice B p bb, .slice C r d] tGr) ∧ Below w.heap.size w W ∧ W.heap[w.heap.size]? = some (.cells #[.int .i64 (n : Int), .slice A m c, .slice B p bb, .slice C r d] tGr))
 obtain ⟨⟨c0, c1, c2, c3⟩, f0, f1, f2, f3⟩ := t_box4 k0
 have hmm := @run_makeMap Tryz.prog
 have hcc := components_any W n (hW0.below bW) hgn hv
 clear hRa hRb e2 e3 hgn; have hMo_h := lH hMo; have hm_h := lH hm; have hW0_h := lH hW0; have e1_h := lH e1; have hml_h := lH hml; have hp_h := lH hp; have hr_h := lH hr; have bW_h := lH bW; have k0_h := lH k0; have hE_h := lH hE; have hw_h := lH hw; have hv_h := lH hv; have hcc_h := lH hcc; clear hMo hm hW0 e1 hml hp hr bW k0 hE hw hv hcc
 go_enter Tryz.func57, Tryz.ntmps57
 go_upto_region 1 with (fail)
 rw [← hWe]
 clear hWe
 go_wp2_with (fail)
 refine (hcc_h.out).mono ?_
 rintro e w1 ⟨G1, cg, rfl, hI1, hF1, hb1⟩
 have k1 := t_box_below k0_h.out hb1
 have hB1 := below_trans bW_h.out hb1 bW_h.out.size
 obtain ⟨w2, hw2⟩ : ∃ w2, w2 = w1.alloc (.map #[] 0) := ⟨_, rfl⟩
 have hG2 := GrS.made g w1
 rw [← hw2] at hG2
 have k2 := t_box_below k1 hG2.bel
 clear hcc_h hb1 hF1 k0_h; clear c0 c1 c2 c3 f0 f1 f2 f3
 obtain ⟨⟨c0, c1, c2, c3⟩, f0, f1, f2, f3⟩ := t_box4 k2
 have hI1_h := lH hI1; have k1_h := lH k1; have hB1_h := lH hB1; have hG2_h := lH hG2; have k2_h := lH k2; clear hI1 k1 hB1 hG2 k2
 go_upto_region 3 with (fail)
 rw [← hw2]
 clear hw2
 go_wp2_with (fail)
 clear c0 c1 c2 c3 f0 f1 f2 f3
 go_loopw [24] (fun i wr => ∃ (k : Nat) (H : Int → Hd), k ≤ m ∧ i = .int .i64 k ∧ GrS g w1 w1.heap.size k H wr) (fun i _ => m - (intOf i).toNat)
 case atStart => exact ⟨0, _, Nat.zero_le _, rfl, hG2_h.out⟩
 case round =>
  clear hG2_h k2_h
  obtain ⟨k, H, hk, rfl, hG⟩ := hrel
  obtain ⟨wo, rfl⟩ : ∃ x, x = wr := ⟨_, rfl⟩
  have hBo := below_trans hB1_h.out hG.bel hB1_h.out.size
  by_cases hlt : k < m
  · obtain ⟨ad, κ, vl, B1, b1, l1, C1, b2, l2, hae, hn1, ⟨d0, d1, d2, d3⟩, hr1, hr2⟩ := (hE_h.out.below hBo).at_ (j := k) (by rw [hml_h.out]; exact hlt)
    subst hae
    have hed : edgeAt g (k : Int) = (κ, vl, l1, l2) := by
     unfold edgeAt
     rw [Int.toNat_natCast, List.getD_eq_getElem?_getD, e1_h.out, List.getElem?_map, hn1]
     rfl
    obtain ⟨⟨g1, g2⟩, g3⟩ := egB_len (hMo_h.out.kind (κ, vl, l1, l2) (by rw [e1_h.out]; exact List.mem_map.2 ⟨_, List.mem_of_getElem? hn1, rfl⟩))
    simp only at g1 g2 g3
    have hwl := hMo_h.out.wires (e := (k : Int)) (by omega) (by rw [hm_h.out]; omega)
    rw [hed] at hwl
    obtain ⟨l, hl⟩ : ∃ l, l = l1 ++ l2 := ⟨_, rfl⟩
    obtain ⟨q, hq⟩ : ∃ q, l.length = q := ⟨_, rfl⟩
    have hq1 : 1 ≤ q ∧ q ≤ 4 := by rw [← hq, hl, List.length_append]; omega
    obtain ⟨x0, hx0⟩ : ∃ x, l[0]? = some x := ⟨_, List.getElem?_eq_getElem (by omega)⟩
    have hxr := hwl x0 (by rw [show wiresE (κ, vl, l1, l2) = l from hl.symm]; exact List.mem_of_getElem? hx0)
    obtain ⟨xx, rfl⟩ : ∃ xx : Nat, x0 = (xx : Int) := ⟨x0.toNat, by omega⟩
    obtain ⟨hnx, hnr1, hnr2⟩ := numW_rng hMo_h.out (w := xx) (by omega)
    have hnE : numE g (k : Int) = numW g (xx : Int) := by
     unfold numE
     rw [hed, show wiresE (κ, vl, l1, l2) = l from hl.symm, List.getD_eq_getElem?_getD, hx0]
     rfl
    obtain ⟨qv, hqv⟩ : ∃ q, numW g (xx : Int) = q := ⟨_, rfl⟩
    rw [hqv] at hnx hnr1 hnr2 hnE
    obtain ⟨p1, hp1⟩ : ∃ p1, l1.length = p1 := ⟨_, rfl⟩
    obtain ⟨p2, hp2⟩ : ∃ p2, l2.length = p2 := ⟨_, rfl⟩
    rw [hp1] at d2
    rw [hp2] at d3
    obtain ⟨W6, hW6, bW6, k6⟩ := (⟨_, rfl, t_below_alloc _ _, heap_alloc_new _ _⟩ : ∃ W, W = wo.alloc (.cells #[.int .i64 κ, .int .i64 vl, .slice B1 p1 b1, .slice C1 p2 b2] tEd) ∧ Below wo.heap.size wo W ∧ W.heap[wo.heap.size]? = some (.cells #[.int .i64 κ, .int .i64 vl, .slice B1 p1 b1, .slice C1 p2 b2] tEd))
    have hJ0 := joined_any (some ⟨W6.heap.size, 0, none⟩) 2 [(B1, b1, l1), (C1, b2, l2)] (W6.alloc (.cells #[.slice B1 l1.length b1, .slice C1 l2.length b2] 23)) (rd2 (hr1.below bW6) (hr2.below bW6)) (by simp) (by simp; omega)
    rw [show (([(B1, b1, l1), (C1, b2, l2)] : List Hd).map fun h : Hd => h.2.2).flatten = l by rw [hl]; simp, hp1, hp2] at hJ0
    have hJ : Calls Tryz.prog 52 #[.slice (some ⟨W6.heap.size, 0, none⟩) 2 2] (W6.alloc (.cells #[.slice B1 p1 b1, .slice C1 p2 b2] 23)) (RetI (W6.alloc (.cells #[.slice B1 p1 b1, .slice C1 p2 b2] 23)) l) := hJ0
    unfold RetI at hJ
    rw [hq] at hJ
    obtain ⟨⟨u0, u1, u2, u3⟩, v0, v1, v2, v3⟩ := t_box4 k6
    have kb := t_box_below k1_h.out hG.bel
    obtain ⟨⟨y0, y1, y2, y3⟩, y4, y5, y6, y7⟩ := t_box4 kb
    have hkI : (k : Int) < (m : Int) := by omega
    clear hJ0 hr1 hr2 hwl hed hn1 kb; have hG_h := lH hG; have hBo_h := lH hBo; have hl_h := lH hl; have hq_h := lH hq; have hx0_h := lH hx0; have hnx_h := lH hnx; have hnE_h := lH hnE; have hqv_h := lH hqv; have hp1_h := lH hp1; have hp2_h := lH hp2; have bW6_h := lH bW6; have k6_h := lH k6; have hJ_h := lH hJ; clear hG hBo hl hq hx0 hnx hnE hqv hp1 hp2 bW6 k6 hJ
    go_upto_region 6 with (fail)
    rw [← hW6]
    clear hW6 d0 d1 d2 d3 y0 y1 y2 y3 y4 y5 y6 y7
    go_wp2_with (fail)
    refine (hJ_h.out).mono ?_
    rintro e w8 ⟨A8, cap8, rfl, hI8, hF8, hb8⟩
    have hb68 := below_trans (t_below_alloc W6 (.cells #[.slice B1 p1 b1, .slice C1 p2 b2] 23)) hb8 (t_below_alloc W6 _).size
    have hbo8 := below_trans bW6_h.out hb68 bW6_h.out.size
    have hG8 := hG_h.out.below hbo8
    obtain ⟨ja, hja, p0'⟩ := hI8.rd 0 _ hx0_h.out
    subst hja
    have p0 : w8.cell? ja = some (.int .i64 (xx : Int)) := p0'
    obtain ⟨ga, hga, pg⟩ := (hI1_h.out.below hG8.bel).rd xx _ hnx_h.out
    subst hga
    have hxn : (xx : Int) < (n : Int) := hxr.2
    obtain ⟨⟨HA, hc, l0⟩, hHq⟩ : ∃ h, H qv = h := ⟨_, rfl⟩
    obtain ⟨n0, hn0⟩ : ∃ n0, l0.length = n0 := ⟨_, rfl⟩
    have hval : (H qv).val = .slice HA n0 hc := by rw [hHq, ← hn0]; rfl
    have hn60 : n0 ≤ 60 := by
     have h1 := hG8.lst qv
     rw [hHq] at h1
     have h2 := grpN_len g qv k
     rw [← h1] at h2
     simp only at h2
     omega
    have hwf : (Lit.int .i64 qv).wf = true := WalkArith.wf_i64 (by omega)
    have hGM := hG8.map
    have his := hG8.is qv
    rw [hHq] at his
    have hb9 := t_below_alloc w8 (.cells #[.int .i64 (k : Int)] tInt)
    have hsl9 : Sl (w8.alloc (.cells #[.int .i64 (k : Int)] tInt)) tInt 1 HA n0 hc (ints l0) := by
     have := his.below hb9
     unfold IS at this
     rw [hn0] at this
     exact this
    have hG9 := hG8.below hb9
    clear hI8 hF8 hb8 hb68 hJ_h p0' his hbo8 hG8 u0 u1 u2 u3 v0 v1 v2 v3; have hGM_h := lH hGM; have hval_h := lH hval; have hHq_h := lH hHq; have hn0_h := lH hn0; have hsl9_h := lH hsl9; have hG9_h := lH hG9; clear hGM hval hHq hn0 hsl9 hG9
    go_wp2_with (first
     | (at_lookup; refine wp_mg_get rfl _ _ rfl rfl hGM_h.out qv rfl hwf (.slice HA n0 hc) hval_h.out ?_)
     | (at_builtin; refine wpList_append_Sl _ rfl _ _ _ rfl 3 Tryz.underlying23 info_int rfl (by omega) rfl hsl9_h.out rfl (news := [.int .i64 (k : Int)]) rfl (Sl.rdc (Sl.laid w8 3 1 1 #[.int .i64 (k : Int)] (by unfold maxLen; omega) rfl)) (by intro u hu; simp at hu; subst hu; rfl) (by unfold maxLen; omega) (by omega) ?_; intro A9 cap9 w9 hs9 hA9 hk9)
     | (at_mapUpdate; refine wp_mg_put rfl _ _ _ rfl rfl (hG9_h.out.map.keeps hk9 (fun hx => hG9_h.out.map.ne_sl (hG9_h.out.is qv) (by rw [hHq_h.out]; exact hx) rfl)) (by unfold maxLen; omega) qv rfl hwf (A9, cap9, l0 ++ [(k : Int)]) (by show Value.slice A9 (n0 + 1) cap9 = Value.slice A9 (l0 ++ [(k : Int)]).length cap9; rw [List.length_append, hn0_h.out]; rfl) ?_; intro w10 hM10 hk10))
    have hI9 : IS w9 A9 cap9 ((H qv).2.2 ++ [(k : Int)]) := by
     rw [hHq_h.out]
     unfold IS
     rw [List.length_append, show l0.length = n0 from hn0_h.out, show ints (l0 ++ [(k : Int)]) = ints l0 ++ [.int .i64 (k : Int)] by simp [ints]]
     exact hs9
    have hG10 := hG9_h.out.step hnE_h.out (A5 := A9) (cap5 := cap9) (w5 := w9) (w6 := w10) hI9 (by rw [hHq_h.out]; exact hA9) (by rw [hHq_h.out]; exact hk9) (by rw [hHq_h.out]; exact hM10) hk10
    clear hs9 hA9 hk9 hM10 hk10 hI9 p0 pg; have hG10_h := lH hG10; clear hG10
    go_roundw
    case rel => exact ⟨k + 1, _, by omega, by go_num, hG10_h.out⟩
    case measure => simp [intOf]; omega
  · obtain rfl : m = k := by omega
    have hwk := hw_h.out.below hBo
    obtain ⟨d0, d1, d2, d3, d4, d5, d8, d9, ko, hM, _⟩ := hwk
    obtain ⟨⟨x0, x1, x2, x3, x4, x5, x6, x7, x8, x9⟩, _, _⟩ := box10 ko
    have hop := openM_inv hMo_h.out
    have hnd := hop.nd1
    have hrg := hop.rg1
    have hmb := hG.map.lt
    clear hop ko; have hG_h := lH hG; have hBo_h := lH hBo; have hM_h := lH hM; have hnd_h := lH hnd; have hrg_h := lH hrg; clear hG hBo hM hnd hrg
    go_wp2_with (at_range; refine wp_mi_range rfl _ rfl rfl hM_h.out hnd_h.out ?_; intro w5 hR5 hb5 hz5)
    clear x0 x1 x2 x3 x4 x5 x6 x7 x8 x9
    have hG5 := hG_h.out.below hb5
    have hM5 := hG5.map
    have hR5_h := lH hR5; have hb5_h := lH hb5; have hG5_h := lH hG5; have hM5_h := lH hM5; clear hR5 hb5 hG5 hM5
    go_frame
    go_loopw [11] (fun (_ : Value) wr => ∃ (L : Int → Bool) (cnt : Nat) (K : List Int) (H' : Int → Hd), MR wr ow wo.heap.size (openM g).1 L cnt ∧ GM wr w1.heap.size m K H' ∧ (∀ q, q ∈ K ↔ q ∈ keysTo g m ∧ ∀ x, x ∈ (openM g).1 → L x = false → numW g x ≠ q) ∧ (∀ q, q ∈ K → H' q = H q) ∧ Keeps (fun x => x = w1.heap.size ∨ x = wo.heap.size) w5 wr) (fun _ wr => wr.rangeLeft ow wo.heap.size)
    case atStart => exact ⟨_, _, _, _, hR5_h.out, hM5_h.out, fun q => ⟨fun h => ⟨h, fun x hx hL => by rw [decide_eq_true hx] at hL; cases hL⟩, fun h => h.1⟩, fun _ _ => rfl, Keeps.refl _ _⟩
    case round =>
     clear hR5_h hM5_h
     obtain ⟨L, cnt, K, H', hR, hM', hK, hH', hKe⟩ := hrel
     obtain ⟨wi, rfl⟩ : ∃ x, x = wr := ⟨_, rfl⟩
     have hR_h := lH hR; have hM'_h := lH hM'; have hK_h := lH hK; have hH'_h := lH hH'; have hKe_h := lH hKe; clear hR hM' hK hH' hKe
     go_wp2_with (at_next; refine wp_mr_next rfl _ rfl rfl hR_h.out hnd_h.out ?_ ?_)
     · intro _ hL0
       have hKall : ∀ q, q ∈ K ↔ ∃ j : Nat, j < g.2.1.length ∧ numE g (j : Int) = q ∧ ¬ openC g (compE g (j : Int)) := fun q => by
        rw [← keep_iff hMo_h.out, hm_h.out, hK_h.out]
        exact ⟨fun ⟨a, b⟩ => ⟨a, fun y hy => b y hy (hL0 y)⟩, fun ⟨a, b⟩ => ⟨a, fun y hy _ => b y hy⟩⟩
       have hmlt := hG_h.out.map.lt
       have hB5 := below_trans hBo_h.out hb5_h.out hBo_h.out.size
       have hBi := below_keeps hB5 hKe_h.out hB5.size (fun b e => by have := hB1_h.out.size; have := hBo_h.out.size; omega)
       have kbi := (t_box_keeps (t_box_below (t_box_below k1_h.out hG_h.out.bel) hb5_h.out) hKe_h.out (by have := t_box_lt k1_h.out; omega))
       have hISi : ∀ q, q ∈ K → IS wi (H' q).1 (H' q).2.1 (H' q).2.2 ∧ (H' q).2.2 = grpN g q m := fun q hq => by
        rw [hH'_h.out q hq]
        refine ⟨((hG_h.out.is q).below hb5_h.out).keeps hKe_h.out fun b hb e => ?_, hG_h.out.lst q⟩
        have h1 := hG_h.out.map.ne_sl (hG_h.out.is q) hb
        have h2 := (hG_h.out.is q).lt b hb
        omega
       have hgp : ∀ q, q ∈ K → 0 < (grpN g q m).length := fun q hq => by
        have h1 := grpN_pos.1 ((hK_h.out q).1 hq).1
        cases h : grpN g q m with
        | nil => exact absurd h h1
        | cons a r => simp
       have hKr : ∀ q, q ∈ K → 0 ≤ q ∧ q < ((n + 1 : Nat) : Int) := fun q hq => by
        obtain ⟨j, hj, e, _⟩ := (hKall q).1 hq
        have h1 := first_rng hMo_h.out (e := (j : Int)) (by omega) (by omega)
        obtain ⟨f, hf⟩ : ∃ f : Nat, (wiresE (edgeAt g (j : Int))).getD 0 0 = (f : Int) := ⟨((wiresE (edgeAt g (j : Int))).getD 0 0).toNat, by omega⟩
        rw [hf] at h1
        obtain ⟨_, h2, h3⟩ := numW_rng hMo_h.out (w := f) (by omega)
        have h4 : numW g (f : Int) = q := by rw [← hf]; exact e
        omega
       have b8 := t_below_alloc wi (.cells #[] tCp)
       obtain ⟨w8, hw8⟩ : ∃ w8, w8 = wi.alloc (.cells #[] tCp) := ⟨_, rfl⟩
       have hz8 : w8.heap.size = wi.heap.size + 1 := by rw [hw8]; simp
       have hsl8 : Sl w8 tCp 4 (some ⟨wi.heap.size, 0, none⟩) 0 0 (([] : List Cp).flatMap Cp.cells) := by rw [hw8]; exact Sl.laid wi tCp 4 0 #[] (Nat.zero_le _) rfl
       rw [← hw8] at b8
       have hM8 := hM'_h.out.below b8
       clear hR_h hL0; clear hz8; have hKall_h := lH hKall; have hB5_h := lH hB5; have hBi_h := lH hBi; have kbi_h := lH kbi; have hISi_h := lH hISi; have hgp_h := lH hgp; have hKr_h := lH hKr; have b8_h := lH b8; have hsl8_h := lH hsl8; have hM8_h := lH hM8; clear hKall hB5 hBi kbi hISi hgp hKr b8 hsl8 hM8
       go_upto_region 14 with (fail)
       rw [← hw8]
       clear hw8
       go_wp2_with (at_range; refine wp_mg_range rfl _ rfl rfl hM8_h.out ?_; intro w9 cnt9 hR9 hb9 hz9)
       have hsl9 := hsl8_h.out.below hb9
       have hbi9 := below_trans b8_h.out hb9 b8_h.out.size
       have hR9_h := lH hR9; have hb9_h := lH hb9; have hsl9_h := lH hsl9; have hbi9_h := lH hbi9; clear hR9 hb9 hsl9 hbi9
       go_frame
       go_loopw [12] (fun o wr => ∃ (L : Int → Bool) (cnt : Nat) (Kd : List Int) (blk off cap xl : Nat) (xs : List Cp), o = .slice (some ⟨blk, off, none⟩) xl cap ∧ xs.length = xl ∧ GR wr w1.heap.size w8.heap.size m K H' L cnt ∧ Kd.Nodup ∧ (∀ q, q ∈ Kd ↔ q ∈ K ∧ L q = false) ∧ xs.map (·.P) = Kd.map (fun q => bestP g (grpN g q m)) ∧ Sl wr tCp 4 (some ⟨blk, off, none⟩) xl cap (xs.flatMap Cp.cells) ∧ (∀ x, x ∈ xs → CpOk wr x) ∧ wi.heap.size ≤ blk ∧ Below wi.heap.size wi wr) (fun _ wr => wr.rangeLeft w1.heap.size w8.heap.size)
       case atStart => exact ⟨_, _, [], wi.heap.size, 0, 0, 0, [], rfl, rfl, hR9_h.out, List.nodup_nil, (fun q => ⟨fun h => (by cases h), fun ⟨h1, h2⟩ => (by rw [decide_eq_true h1] at h2; cases h2)⟩), rfl, hsl9_h.out, (fun x hx => by cases hx), Nat.le_refl _, hbi9_h.out⟩
       case round =>
        clear hR9_h hsl9_h hbi9_h
        obtain ⟨L2, cnt2, Kd, blk, off, cap, xl, xs, rfl, hxl, hR2, hKd, hKdm, hmp, hsl, hok, hblk, hbw⟩ := hrel
        obtain ⟨wj, rfl⟩ : ∃ x, x = wr := ⟨_, rfl⟩
        have hxl_h := lH hxl; have hR2_h := lH hR2; have hKd_h := lH hKd; have hKdm_h := lH hKdm; have hmp_h := lH hmp; have hsl_h := lH hsl; have hok_h := lH hok; have hbw_h := lH hbw; clear hxl hR2 hKd hKdm hmp hsl hok hbw
        go_wp2_with (at_next; refine wp_gr_next rfl _ rfl rfl hR2_h.out ?_ ?_)
        · intro _ hL1
          have hkm : ∀ q, q ∈ Kd ↔ q ∈ K := fun q => by
           rw [hKdm_h.out]
           exact ⟨fun h => h.1, fun h => ⟨h, hL1 q⟩⟩
          have hgd : ∀ x, x ∈ xs → CpGood wj x := fun x hx => by
           have h1 : x.P ∈ xs.map (fun x => x.P) := List.mem_map.2 ⟨x, hx, rfl⟩
           rw [hmp_h.out] at h1
           obtain ⟨q, hq, e⟩ := List.mem_map.1 h1
           obtain ⟨f1, f2, f3⟩ := best_facts hMo_h.out hm_h.out (hgp_h.out q ((hkm q).1 hq))
           have hx1 := hok_h.out x hx
           have h2 := hx1.len
           rw [← e] at h2
           refine ⟨hx1.cod, hx1.len, by omega, ?_⟩
           rw [← e]
           exact ⟨f2, f3⟩
          have hlenK : xs.length = Kd.length := by have h1 := congrArg List.length hmp_h.out; rw [List.length_map, List.length_map] at h1; exact h1
          have hxs1 : xl ≤ 1048576 := by
           have h1 := nodup_le hKd_h.out fun q hq => hKr_h.out q ((hkm q).1 hq)
           have h2 := hxl_h.out
           omega
          have hso := sortParts_any wj blk off cap xs (by rw [hxl_h.out]; exact hsl_h.out) hgd (by rw [hxl_h.out]; exact hxs1)
          rw [hxl_h.out] at hso
          clear hR2_h; have hso_h := lH hso; have hkm_h := lH hkm; clear hso hkm
          go_wp2_with (fail)
          refine (hso_h.out).mono ?_
          rintro e w12 ⟨rfl, ys, hys, hpw, hsl2, hk2⟩
          have hys_h := lH hys; have hpw_h := lH hpw; have hsl2_h := lH hsl2; have hk2_h := lH hk2; clear hys hpw hsl2 hk2
          go_wp2_with (fail)
          go_ret
          have hyl : ys.length = xl := hys_h.out.length_eq.trans hxl_h.out
          refine ⟨some ⟨blk, off, none⟩, cap, ys, by rw [hyl]; exact congrArg Ending.returned (by go_num), hsl2_h.out, fun x hx => (hok_h.out x (hys_h.out.mem_iff.1 hx)).keeps hsl_h.out hk2_h.out (fun b e => by rw [e]; exact List.mem_cons_self ..), ?_, ?_⟩
          · refine parts_of_keys hMo_h.out hKd_h.out (fun q => (hkm_h.out q).trans (hKall_h.out q)) ?_ ?_
            · rw [hm_h.out, ← hmp_h.out]
              exact hys_h.out.map _
            · rw [List.pairwise_map]
              exact hpw_h.out
          · exact below_keeps (below_trans hBi_h.out hbw_h.out hBi_h.out.size) hk2_h.out (by have := hBi_h.out.size; have := hbw_h.out.size; omega) (fun b e => by rw [e]; have := hBi_h.out.size; omega)
        · intro q w11 cnt' hqK hLq hwf hR11 hlt11 hk11 hz11 hen
          have h11 := below_keeps hbw_h.out hk11 hbw_h.out.size (fun b e => by have := b8_h.out.size; omega)
          obtain ⟨hI0, hl0⟩ := hISi_h.out q hqK
          have hg0 := hgp_h.out q hqK
          rw [← hl0] at hg0
          have hbf := best_facts hMo_h.out hm_h.out (hgp_h.out q hqK)
          obtain ⟨P, hP⟩ : ∃ P, bestP g (grpN g q m) = P := ⟨_, rfl⟩
          have hn60 : (grpN g q m).length ≤ m := grpN_len g q m
          have hlr : ∀ e, e ∈ grpN g q m → 0 ≤ e ∧ e < (m : Int) := fun e he => (mem_grpN.1 he).1
          rw [← hl0] at hn60 hlr
          have hP' := hP
          rw [← hl0] at hP'
          obtain ⟨⟨HA, hc, l0⟩, hHq⟩ : ∃ h, H' q = h := ⟨_, rfl⟩
          rw [hHq] at hI0 hl0 hg0 hn60 hlr hP'
          simp only at hI0 hl0 hg0 hn60 hlr hP'
          obtain ⟨n0, hn0⟩ : ∃ n0, l0.length = n0 := ⟨_, rfl⟩
          have hval : (H' q).val = .slice HA n0 hc := by rw [hHq, ← hn0]; rfl
          rw [hval] at hen
          rw [hn0] at hg0 hn60
          have k11 := t_box_below kbi_h.out h11
          have hcp := closedPart_any w11 n m HA hc n0 l0 (hW0_h.out.below (below_trans hBi_h.out h11 hBi_h.out.size)) hMo_h.out hm_h.out (hI0.below h11).rd hn0 (by omega) hg0 hlr
          rw [hP'] at hcp
          rw [hP] at hbf
          obtain ⟨⟨x0, x1, x2, x3⟩, x4, x5, x6, x7⟩ := t_box4 k11
          have hRz := hR2_h.out
          have hslw := hsl_h.out.keeps hk11 (sl_rng hRz.rng.1 hsl_h.out)
          have hokw : ∀ x, x ∈ xs → CpOk w11 x := fun x hx => (hok_h.out x hx).rng hRz hk11
          clear hRz hok_h hsl_h; have hcp_h := lH hcp; have hR11_h := lH hR11; have hbf_h := lH hbf; have h11_h := lH h11; have k11_h := lH k11; have hP_h := lH hP; have hslw_h := lH hslw; have hokw_h := lH hokw; clear hcp hR11 hbf h11 k11 hP hslw hokw
          go_wp2_with (fail)
          refine (hcp_h.out).mono ?_
          rintro e w13 ⟨b3, mw3, me3, D3, dl3, dc3, rfl, hwk3, hI3, hln3, hnw3, hb3⟩
          have hxs1 : xl ≤ 1048576 := by
           have h1 := nodup_le hKd_h.out fun q hq => hKr_h.out q ((hKdm_h.out q).1 hq).1
           have hlenK : xs.length = Kd.length := by have h1 := congrArg List.length hmp_h.out; rw [List.length_map, List.length_map] at h1; exact h1
           have h2 := hxl_h.out
           omega
          obtain ⟨u, hu⟩ : ∃ u, leastW P.2.1.1 = u := ⟨_, rfl⟩
          obtain ⟨wy, hwy⟩ : ∃ u, P.2.2 = u := ⟨_, rfl⟩
          rw [hu, hwy]
          have hok13 : CpOk w13 ⟨b3, mw3, me3, D3, dl3, dc3, P⟩ := ⟨hwk3, hI3, hln3⟩
          have hcells : Cp.cells ⟨b3, mw3, me3, D3, dl3, dc3, P⟩ = [.pointer (some ⟨b3, 0, none⟩), .slice D3 dl3 dc3, .int .i64 u, .int .i64 wy] := by unfold Cp.cells; rw [hu, hwy]
          obtain ⟨w14, hw14, b14⟩ : ∃ W, W = w13.alloc (.cells #[.pointer (some ⟨b3, 0, none⟩), .slice D3 dl3 dc3, .int .i64 u, .int .i64 wy] tCp) ∧ Below w13.heap.size w13 W := ⟨_, rfl, t_below_alloc _ _⟩
          have hrdc : RdC w14 (some ⟨w13.heap.size, 0, none⟩) [.pointer (some ⟨b3, 0, none⟩), .slice D3 dl3 dc3, .int .i64 u, .int .i64 wy] := by rw [hw14]; exact Sl.rdc (Sl.laid w13 tCp 4 1 #[.pointer (some ⟨b3, 0, none⟩), .slice D3 dl3 dc3, .int .i64 u, .int .i64 wy] (by unfold maxLen; omega) rfl)
          have b34 := below_trans hb3 b14 hb3.size
          have hsl14 := hslw_h.out.below b34
          have hR14 := hR11_h.out.below b34
          have hok14 : ∀ x, x ∈ xs ++ [⟨b3, mw3, me3, D3, dl3, dc3, P⟩] → CpOk w14 x := fun x hx => by
           rcases List.mem_append.1 hx with h | h
           · exact (hokw_h.out x h).below b34
           · obtain rfl := List.mem_singleton.1 h
             exact hok13.below b14
          have hb114 := below_trans h11_h.out b34 h11_h.out.size
          clear hok13 hwk3 hI3 hb3 b14 b34 hslw_h hokw_h hcp_h hR11_h hnw3 x0 x1 x2 x3 x4 x5 x6 x7; have hsl14_h := lH hsl14; have hR14_h := lH hR14; have hok14_h := lH hok14; have hcells_h := lH hcells; have hrdc_h := lH hrdc; have hb114_h := lH hb114; have hln3_h := lH hln3; have hu_h := lH hu; have hwy_h := lH hwy; clear hsl14 hR14 hok14 hcells hrdc hb114 hln3 hu hwy
          go_wp2_with (at_builtin; rw [← hw14]; refine wpList_append_Sl _ rfl _ _ _ rfl tCp Tryz.underlying93 info_cp rfl (by omega) rfl hsl14_h.out rfl (news := [.pointer (some ⟨b3, 0, none⟩), .slice D3 dl3 dc3, .int .i64 u, .int .i64 wy]) rfl hrdc_h.out (by intro u hu; simp at hu; rcases hu with rfl | rfl | rfl | rfl <;> rfl) (by unfold maxLen; omega) (by omega) ?_; intro A6 c6 w6 hsA6 hA6 hkA6)
          rw [← hcells_h.out, ← flat4] at hsA6
          obtain ⟨blk6, off6, rfl⟩ := sl_addr hsA6 (by omega)
          have hR14' := hR14_h.out
          have hmbk : ∀ b, b ∈ fpA (some (⟨blk, off, none⟩ : Addr)) → b ≠ w1.heap.size := fun b hb e => hR14'.owns.ne_sl hsl14_h.out hb e.symm
          have hR6 := hR14'.keeps hkA6 (fun hb => hmbk _ hb rfl) (fun hb => sl_rng hR14'.rng.1 hsl14_h.out _ hb rfl)
          have hok6 : ∀ x, x ∈ xs ++ [⟨b3, mw3, me3, D3, dl3, dc3, P⟩] → CpOk w6 x := fun x hx => (hok14_h.out x hx).keeps hsl14_h.out hkA6 fun _ h => h
          have hbl6 : wi.heap.size ≤ blk6 := by
           rcases hA6 blk6 (List.mem_cons_self ..) with h | h
           · have : blk6 = blk := by simpa using h
             omega
           · have := hb114_h.out.size; omega
          have hb6 := below_keeps hb114_h.out hkA6 hb114_h.out.size fun b hb => by
           have : b = blk := by simpa using hb
           omega
          clear hR14' hmbk hkA6 hA6 hR14_h hok14_h hsl14_h hb114_h hrdc_h; have hsA6_h := lH hsA6; have hR6_h := lH hR6; have hok6_h := lH hok6; have hb6_h := lH hb6; clear hsA6 hR6 hok6 hb6
          go_roundw
          case rel =>
           refine ⟨_, cnt', Kd ++ [q], blk6, off6, c6, xl + 1, xs ++ [⟨b3, mw3, me3, D3, dl3, dc3, P⟩], rfl, by rw [List.length_append, hxl_h.out]; rfl, hR6_h.out, ?_, fun z => ?_, ?_, hsA6_h.out, hok6_h.out, hbl6, hb6_h.out⟩
           · rw [List.nodup_append]
             refine ⟨hKd_h.out, by simp, fun a ha b hb e => ?_⟩
             obtain rfl := List.mem_singleton.1 hb
             have := ((hKdm_h.out a).1 ha).2
             rw [e, hLq] at this
             cases this
           · rw [List.mem_append, hKdm_h.out, List.mem_singleton]
             constructor
             · rintro (⟨h1, h2⟩ | rfl)
               · exact ⟨h1, by rw [h2]; rfl⟩
               · exact ⟨hqK, by simp⟩
             · rintro ⟨h1, h2⟩
               by_cases e : z = q
               · exact .inr e
               · refine .inl ⟨h1, ?_⟩
                 cases hz : L2 z
                 · rfl
                 · rw [hz] at h2
                   simp [e] at h2
           · rw [List.map_append, hmp_h.out, List.map_append, List.map_singleton, List.map_singleton, hP_h.out]
          case measure => rw [hR6_h.out.left_eq, hR2_h.out.left_eq]; exact hlt11
     · intro x w8 cnt' hxm hLx hwf hR8 hlt8 hk8 hz8 hen
       have hxr := hrg_h.out x hxm
       obtain ⟨xx, rfl⟩ : ∃ xx : Nat, x = (xx : Int) := ⟨x.toNat, by omega⟩
       obtain ⟨hnx, hnr1, hnr2⟩ := numW_rng hMo_h.out (w := xx) (by omega)
       obtain ⟨qv, hqv⟩ : ∃ q, numW g (xx : Int) = q := ⟨_, rfl⟩
       rw [hqv] at hnx hnr1 hnr2
       have hI8 := ((((hI1_h.out.below hG_h.out.bel).below hb5_h.out).keeps hKe_h.out (fun b hb e => by have := hI1_h.out.lt b hb; have := hG_h.out.bel.size; omega)).keeps hk8 (fun b hb e => by have := hI1_h.out.lt b hb; have := hG_h.out.bel.size; omega))
       obtain ⟨ga, hga, pg⟩ := hI8.rd xx _ hnx
       subst hga
       have hM8 := hM'_h.out.keeps hk8 (by have := hM'_h.out.lt; have := hG_h.out.map.lt; omega)
       have hwq : (Lit.int .i64 qv).wf = true := WalkArith.wf_i64 (by omega)
       have hxn : (xx : Int) < (n : Int) := hxr.2
       have hKe8 := hKe_h.out.trans (hk8.mono (T := fun x => x = w1.heap.size ∨ x = wo.heap.size) fun _ _ e => .inr e)
       have hmo : w1.heap.size ≠ ow := by have := hw_h.out.lt.2.1; have := hB1_h.out.size; omega
       clear hI8 hnx; have hR8_h := lH hR8; have hM8_h := lH hM8; have hKe8_h := lH hKe8; have hqv_h := lH hqv; clear hR8 hM8 hKe8 hqv
       go_wp2_with (at_delete; refine wp_mg_del rfl _ _ rfl rfl hM8_h.out qv rfl hwq ?_; intro w9 hM9 hk9; go_frame)
       have hR9 := hR8_h.out.keeps hk9 (fun e => hmo e.symm) (by have := hG_h.out.map.lt; omega)
       have hKe9 := hKe8_h.out.trans (hk9.mono (T := fun x => x = w1.heap.size ∨ x = wo.heap.size) fun _ _ e => .inl e)
       clear hk9; have hR9_h := lH hR9; have hM9_h := lH hM9; have hKe9_h := lH hKe9; clear hR9 hM9 hKe9
       go_roundw
       case rel =>
        refine ⟨_, cnt', _, _, hR9_h.out, hM9_h.out, fun q => ?_, fun q hq => ?_, hKe9_h.out⟩
        · rw [mem_delK, hK_h.out]
          constructor
          · rintro ⟨⟨h1, h2⟩, h3⟩
            refine ⟨h1, fun y hy hL => ?_⟩
            cases hLy : L y
            · exact h2 y hy hLy
            · rw [hLy] at hL
              have : y = (xx : Int) := by simpa using hL
              rw [this, hqv_h.out]
              exact fun e => h3 e.symm
          · rintro ⟨h1, h2⟩
            exact ⟨⟨h1, fun y hy hL => h2 y hy (by rw [hL]; rfl)⟩, fun e => h2 (xx : Int) hxm (by simp) (by rw [hqv_h.out, e])⟩
        · obtain ⟨h1, h2⟩ := mem_delK.1 hq
          unfold setH
          rw [if_neg h2]
          exact hH'_h.out q h1
       case measure => rw [hR9_h.out.left_eq, hR_h.out.left_eq]; exact hlt8
abbrev tIS : TypeId := 23
structure NumS (W : World) (c1 c2 c3 c4 : Nat) (Wa Ea : Addr) (n m : Nat) (t : Nums) (w : World) : Prop where
 b1 : w.heap[c1]? = some (.cells #[.int .i64 t.2.2.1] tInt)
 b2 : w.heap[c2]? = some (.cells #[.slice (some Wa) n n] tIS)
 b3 : w.heap[c3]? = some (.cells #[.int .i64 t.2.2.2] tInt)
 b4 : w.heap[c4]? = some (.cells #[.slice (some Ea) m m] tIS)
 i1 : IS w (some Wa) n t.1
 i2 : IS w (some Ea) m t.2.1
 l1 : t.1.length = n
 l2 : t.2.1.length = m
 ap : c1 ≠ c3 ∧ Wa.block ≠ Ea.block ∧ (c1 ≠ Wa.block ∧ c1 ≠ Ea.block) ∧ c3 ≠ Wa.block ∧ c3 ≠ Ea.block
 new : W.heap.size ≤ c1 ∧ W.heap.size ≤ c3 ∧ W.heap.size ≤ Wa.block ∧ W.heap.size ≤ Ea.block
 bel : Below W.heap.size W w
def OwnN (c1 c3 : Nat) (Wa Ea : Addr) (b : Nat) : Prop := b = c1 ∨ b = c3 ∨ b = Wa.block ∨ b = Ea.block
theorem ne_of_type {w : World} {b c : Nat} {cs ds : Array Value} {t u : TypeId} {fr : Nat × Nat} (h : w.heap[b]? = some (.cells cs t fr)) (k : w.heap[c]? = some (.cells ds u)) (ht : t ≠ u) : b ≠ c := fun e => by
 subst e
 rw [h] at k
 injection k with k
 injection k with _ h1
 exact ht h1
theorem cellT {w : World} {B : Nat} {x : Value} {t : TypeId} (h : w.heap[B]? = some (.cells #[x] t)) : w.cell? ⟨B, 0, none⟩ = some x ∧ w.frozen? ⟨B, 0, none⟩ = false := by simp [World.cell?, World.frozen?, h]
theorem is_box {w : World} {A : Addr} {c : Nat} {l : List Int} (h : IS w (some A) c l) : ∃ cs, w.heap[A.block]? = some (.cells cs tInt) := by
 rcases h.2.2.2 with ⟨h0, _⟩ | ⟨g, off, cur, hA, hg, _⟩
 · cases h0
 · obtain rfl := Option.some.inj hA
   exact ⟨cur, hg⟩
section
variable {W w w' : World} {c1 c2 c3 c4 n m : Nat} {Wa Ea : Addr} {t : Nums}
theorem NumS.below (h : NumS W c1 c2 c3 c4 Wa Ea n m t w) (hb : Below w.heap.size w w') : NumS W c1 c2 c3 c4 Wa Ea n m t w' :=
 ⟨t_box_below h.b1 hb, t_box_below h.b2 hb, t_box_below h.b3 hb, t_box_below h.b4 hb, h.i1.below hb, h.i2.below hb, h.l1, h.l2, h.ap, h.new, below_trans h.bel hb h.bel.size⟩
theorem NumS.off (h : NumS W c1 c2 c3 c4 Wa Ea n m t w) {b : Nat} (hb : OwnN c1 c3 Wa Ea b) : (∃ cs, w.heap[b]? = some (.cells cs tInt)) ∧ W.heap.size ≤ b ∧ b < w.heap.size := by
 obtain ⟨_, q1⟩ := is_box h.i1
 obtain ⟨_, q2⟩ := is_box h.i2
 rcases hb with rfl | rfl | rfl | rfl
 · exact ⟨⟨_, h.b1⟩, h.new.1, t_box_lt h.b1⟩
 · exact ⟨⟨_, h.b3⟩, h.new.2.1, t_box_lt h.b3⟩
 · exact ⟨⟨_, q1⟩, h.new.2.2.1, t_box_lt q1⟩
 · exact ⟨⟨_, q2⟩, h.new.2.2.2, t_box_lt q2⟩
theorem NumS.setW (h : NumS W c1 c2 c3 c4 Wa Ea n m t w) {j : Nat} (x : Int) (hj : j < n) : NumS W c1 c2 c3 c4 Wa Ea n m (t.1.set j x, t.2) (w.setCell (Wa.add j) (.int .i64 x)) ∧ Keeps (fun b => b = Wa.block) w (w.setCell (Wa.add j) (.int .i64 x)) := by
 have hk : Keeps (fun b => b = Wa.block) w (w.setCell (Wa.add j) (.int .i64 x)) := Keeps.setCell (S := fun b => b = Wa.block) (Keeps.refl _ w) (p := Wa.add j) (by rw [block_of_add]) _
 obtain ⟨a1, a2, ⟨a3, a4⟩, a5, a6⟩ := h.ap
 obtain ⟨_, q1⟩ := is_box h.i1
 refine ⟨⟨t_box_keeps h.b1 hk a3, t_box_keeps h.b2 hk (fun e => ne_of_type q1 h.b2 (by decide) e.symm), t_box_keeps h.b3 hk a5, t_box_keeps h.b4 hk (fun e => ne_of_type q1 h.b4 (by decide) e.symm), h.i1.set rfl x (by rw [h.l1]; exact hj), h.i2.keeps hk fun b hb e => ?_, by simpa using h.l1, h.l2, h.ap, h.new, below_keeps h.bel hk h.bel.size fun b e => by rw [e]; exact h.new.2.2.1⟩, hk⟩
 have hb' : b = Ea.block := by simpa using hb
 exact a2 (e.symm.trans hb')
theorem NumS.setE (h : NumS W c1 c2 c3 c4 Wa Ea n m t w) {j : Nat} (x : Int) (hj : j < m) : NumS W c1 c2 c3 c4 Wa Ea n m (t.1, t.2.1.set j x, t.2.2) (w.setCell (Ea.add j) (.int .i64 x)) ∧ Keeps (fun b => b = Ea.block) w (w.setCell (Ea.add j) (.int .i64 x)) := by
 have hk : Keeps (fun b => b = Ea.block) w (w.setCell (Ea.add j) (.int .i64 x)) := Keeps.setCell (S := fun b => b = Ea.block) (Keeps.refl _ w) (p := Ea.add j) (by rw [block_of_add]) _
 obtain ⟨a1, a2, ⟨a3, a4⟩, a5, a6⟩ := h.ap
 obtain ⟨_, q1⟩ := is_box h.i2
 refine ⟨⟨t_box_keeps h.b1 hk a4, t_box_keeps h.b2 hk (fun e => ne_of_type q1 h.b2 (by decide) e.symm), t_box_keeps h.b3 hk a6, t_box_keeps h.b4 hk (fun e => ne_of_type q1 h.b4 (by decide) e.symm), h.i1.keeps hk (fun b hb e => ?_), h.i2.set rfl x (by rw [h.l2]; exact hj), h.l1, by simpa using h.l2, h.ap, h.new, below_keeps h.bel hk h.bel.size fun b e => by rw [e]; exact h.new.2.2.2⟩, hk⟩
 have hb' : b = Wa.block := by simpa using hb
 exact a2 (hb'.symm.trans e)
theorem set1c {w : World} {B : Nat} {ty : TypeId} {x y : Value} (hb : w.heap[B]? = some (.cells #[x] ty)) : (w.setCell ⟨B, 0, none⟩ y).heap[B]? = some (.cells #[y] ty) ∧ Keeps (· = B) w (w.setCell ⟨B, 0, none⟩ y) :=
 ⟨by simp [World.setCell, Array.getElem?_modify, hb], (Keeps.refl (fun x => x = B) w).setCell (p := ⟨B, 0, none⟩) rfl _⟩
theorem NumS.set1 (h : NumS W c1 c2 c3 c4 Wa Ea n m t w) (x : Int) : NumS W c1 c2 c3 c4 Wa Ea n m (t.1, t.2.1, x, t.2.2.2) (w.setCell ⟨c1, 0, none⟩ (.int .i64 x)) ∧ Keeps (fun b => b = c1) w (w.setCell ⟨c1, 0, none⟩ (.int .i64 x)) := by
 obtain ⟨s1, hk⟩ := set1c (y := .int .i64 x) h.b1
 obtain ⟨a1, a2, ⟨a3, a4⟩, a5, a6⟩ := h.ap
 refine ⟨⟨s1, t_box_keeps h.b2 hk (fun e => ne_of_type h.b1 h.b2 (by decide) e.symm), t_box_keeps h.b3 hk (fun e => a1 e.symm), t_box_keeps h.b4 hk (fun e => ne_of_type h.b1 h.b4 (by decide) e.symm), h.i1.keeps hk (fun b hb e => ?_), h.i2.keeps hk (fun b hb e => ?_), h.l1, h.l2, h.ap, h.new, below_keeps h.bel hk h.bel.size fun b e => by rw [e]; exact h.new.1⟩, hk⟩
 · have hb' : b = Wa.block := by simpa using hb
   exact a3 (e.symm.trans hb')
 · have hb' : b = Ea.block := by simpa using hb
   exact a4 (e.symm.trans hb')
theorem NumS.set3 (h : NumS W c1 c2 c3 c4 Wa Ea n m t w) (x : Int) : NumS W c1 c2 c3 c4 Wa Ea n m (t.1, t.2.1, t.2.2.1, x) (w.setCell ⟨c3, 0, none⟩ (.int .i64 x)) ∧ Keeps (fun b => b = c3) w (w.setCell ⟨c3, 0, none⟩ (.int .i64 x)) := by
 obtain ⟨s1, hk⟩ := set1c (y := .int .i64 x) h.b3
 obtain ⟨a1, a2, ⟨a3, a4⟩, a5, a6⟩ := h.ap
 refine ⟨⟨t_box_keeps h.b1 hk a1, t_box_keeps h.b2 hk (fun e => ne_of_type h.b3 h.b2 (by decide) e.symm), s1, t_box_keeps h.b4 hk (fun e => ne_of_type h.b3 h.b4 (by decide) e.symm), h.i1.keeps hk (fun b hb e => ?_), h.i2.keeps hk (fun b hb e => ?_), h.l1, h.l2, h.ap, h.new, below_keeps h.bel hk h.bel.size fun b e => by rw [e]; exact h.new.2.1⟩, hk⟩
 · have hb' : b = Wa.block := by simpa using hb
   exact a5 (e.symm.trans hb')
 · have hb' : b = Ea.block := by simpa using hb
   exact a6 (e.symm.trans hb')
theorem NumS.bx (h : NumS W c1 c2 c3 c4 Wa Ea n m t w) : (w.cell? ⟨c1, 0, none⟩ = some (.int .i64 t.2.2.1) ∧ w.frozen? ⟨c1, 0, none⟩ = false) ∧ (w.cell? ⟨c2, 0, none⟩ = some (.slice (some Wa) n n) ∧ w.frozen? ⟨c2, 0, none⟩ = false) ∧ (w.cell? ⟨c3, 0, none⟩ = some (.int .i64 t.2.2.2) ∧ w.frozen? ⟨c3, 0, none⟩ = false) ∧ w.cell? ⟨c4, 0, none⟩ = some (.slice (some Ea) m m) ∧ w.frozen? ⟨c4, 0, none⟩ = false := by
 refine ⟨?_, ?_, ?_, ?_⟩ <;> simp [World.cell?, World.frozen?, h.b1, h.b2, h.b3, h.b4]
theorem NumS.far (h : NumS W c1 c2 c3 c4 Wa Ea n m t w) {w0 : World} {t0 : Nums} (h0 : NumS W c1 c2 c3 c4 Wa Ea n m t0 w0) {r : Nat} (hr : w0.heap.size ≤ r) (hk : Keeps (fun b => b = r) w w') : NumS W c1 c2 c3 c4 Wa Ea n m t w' :=
 ⟨t_box_keeps h.b1 hk (fun e => by have := t_box_lt h0.b1; omega), t_box_keeps h.b2 hk (fun e => by have := t_box_lt h0.b2; omega), t_box_keeps h.b3 hk (fun e => by have := t_box_lt h0.b3; omega), t_box_keeps h.b4 hk (fun e => by have := t_box_lt h0.b4; omega),
  h.i1.keeps hk (fun b hb e => by have := h0.i1.lt b hb; omega), h.i2.keeps hk (fun b hb e => by have := h0.i2.lt b hb; omega), h.l1, h.l2, h.ap, h.new, below_keeps h.bel hk h.bel.size fun b e => by have := h0.bel.size; omega⟩
theorem WkR.nums {b mw me : Nat} {s : WE} (h : WkR w b mw me s) (hN : NumS W c1 c2 c3 c4 Wa Ea n m t w) (hk : Keeps (OwnN c1 c3 Wa Ea) w w') : WkR w' b mw me s := by
 have hh := h
 obtain ⟨d0, d1, d2, d3, d4, d5, d8, d9, e1, e2, e3⟩ := hh
 refine h.keeps hk (fun hx => ?_) (fun hx => ?_) (fun hx => ?_)
 · obtain ⟨⟨_, q⟩, _⟩ := hN.off hx
   exact ne_of_type q e1 (by decide) rfl
 · obtain ⟨⟨_, q⟩, _⟩ := hN.off hx
   exact e2.ne_cells q rfl
 · obtain ⟨⟨_, q⟩, _⟩ := hN.off hx
   exact e3.ne_cells q rfl
end
set_option maxRecDepth 100000 in
set_option maxHeartbeats 8000000 in
theorem addNums_any (W w : World) (c1 c2 c3 c4 n m ob ow oe : Nat) (Wa Ea : Addr) (t : Nums) (s : WE) (h : NumS W c1 c2 c3 c4 Wa Ea n m t w) (hw : WkR w ob ow oe s) (hs : s.1.Nodup ∧ s.2.Nodup) (hr1 : ∀ x, x ∈ s.1 → 0 ≤ x ∧ x < (n : Int)) (hr2 : ∀ x, x ∈ s.2 → 0 ≤ x ∧ x < (m : Int)) (hn : n ≤ 100) (hm : m ≤ 60)
  (ht : (0 ≤ t.2.2.1 ∧ t.2.2.1 ≤ 1048576) ∧ 0 ≤ t.2.2.2 ∧ t.2.2.2 ≤ 1048576) :
  Calls Tryz.prog 56 #[.pointer (some ⟨ob, 0, none⟩), .pointer (some ⟨c1, 0, none⟩), .pointer (some ⟨c2, 0, none⟩), .pointer (some ⟨c3, 0, none⟩), .pointer (some ⟨c4, 0, none⟩)] w fun e w' =>
   e = .returned (.tuple #[]) ∧ NumS W c1 c2 c3 c4 Wa Ea n m (addN t s) w' ∧ Keeps (OwnN c1 c3 Wa Ea) w w' := by
 obtain ⟨t1, t2, u1, u2⟩ := t
 simp only at ht
 obtain ⟨⟨hu1, hu1'⟩, hu2, hu2'⟩ := ht
 have hls1 := nodup_le hs.1 hr1
 have hls2 := nodup_le hs.2 hr2
 have hw0 := hw
 obtain ⟨d0, d1, d2, d3, d4, d5, d8, d9, ko, hM1, hM2⟩ := hw
 obtain ⟨⟨x0, x1, x2, x3, x4, x5, x6, x7, x8, x9⟩, _, _⟩ := box10 ko
 have hlw := hw0.lt
 have h_h := lH h; have hs_h := lH hs; have hr1_h := lH hr1; have hr2_h := lH hr2; have hM1_h := lH hM1; have hM2_h := lH hM2; have ko_h := lH ko; have hls1_h := lH hls1; have hls2_h := lH hls2; have hw0_h := lH hw0; have hlw_h := lH hlw; clear h hs hr1 hr2 hM1 hM2 ko hls1 hls2 hw0 hlw
 go_enter Tryz.func56, Tryz.ntmps56
 go_wp2_with (at_range; refine wp_mi_range rfl _ rfl rfl hM1_h.out hs_h.out.1 ?_; intro w5 hR5 hb5 hz5)
 have h5 := h_h.out.below hb5
 have hk5 : Keeps (fun b => OwnN c1 c3 Wa Ea b) w w5 := Keeps.of_below hb5 _
 clear x0 x1 x2 x3 x4 x5 x6 x7 x8 x9; have hR5_h := lH hR5; have h5_h := lH h5; have hk5_h := lH hk5; clear hR5 h5 hk5
 go_frame
 go_loopw [6] (fun (_ : Value) wr => ∃ (L : Int → Bool) (cnt : Nat), MR wr ow w.heap.size s.1 L cnt ∧ NumS W c1 c2 c3 c4 Wa Ea n m (putF t1 u1 s.1 L, t2, u1, u2) wr ∧ Keeps (OwnN c1 c3 Wa Ea) w wr) (fun _ wr => wr.rangeLeft ow w.heap.size)
 case atStart => exact ⟨_, _, hR5_h.out, by rw [putF_start (fun x hx => decide_eq_true hx)]; exact h5_h.out, hk5_h.out⟩
 case round =>
  clear hR5_h h5_h hk5_h
  obtain ⟨L, cnt, hR, hN, hK⟩ := hrel
  obtain ⟨wi, rfl⟩ : ∃ x, x = wr := ⟨_, rfl⟩
  have hR_h := lH hR; have hN_h := lH hN; have hK_h := lH hK; clear hR hN hK
  go_wp2_with (at_next; refine wp_mr_next rfl _ rfl rfl hR_h.out hs_h.out.1 ?_ ?_)
  · intro _ hL0
    rw [putF_end hL0] at hN_h
    have hwi := hw0_h.out.nums h_h.out hK_h.out
    obtain ⟨d0', d1', d2', d3', d4', d5', d8', d9', ko', hM1', hM2'⟩ := hwi
    obtain ⟨⟨x0, x1, x2, x3, x4, x5, x6, x7, x8, x9⟩, _, _⟩ := box10 ko'
    clear hR_h hL0 ko'; have hM1'_h := lH hM1'; have hM2'_h := lH hM2'; clear hM1' hM2'
    go_wp2_with (at_range; refine wp_mi_range rfl _ rfl rfl hM2'_h.out hs_h.out.2 ?_; intro w6 hR6 hb6 hz6)
    have h6 := hN_h.out.below hb6
    have hk6 := hK_h.out.trans (Keeps.of_below hb6 (OwnN c1 c3 Wa Ea))
    clear x0 x1 x2 x3 x4 x5 x6 x7 x8 x9 hM1'_h hM2'_h
    have hzi := hK_h.out.size
    have hR6_h := lH hR6; have h6_h := lH h6; have hk6_h := lH hk6; clear hR6 h6 hk6
    go_frame
    go_loopw [8] (fun (_ : Value) wr => ∃ (L : Int → Bool) (cnt : Nat), MR wr oe wi.heap.size s.2 L cnt ∧ NumS W c1 c2 c3 c4 Wa Ea n m (putN t1 u1 s.1, putF t2 u2 s.2 L, u1, u2) wr ∧ Keeps (OwnN c1 c3 Wa Ea) w wr) (fun _ wr => wr.rangeLeft oe wi.heap.size)
    case atStart => exact ⟨_, _, hR6_h.out, by rw [putF_start (fun x hx => decide_eq_true hx)]; exact h6_h.out, hk6_h.out⟩
    case round =>
     clear hR6_h h6_h hk6_h
     obtain ⟨L, cnt, hR, hN', hK'⟩ := hrel
     obtain ⟨wj, rfl⟩ : ∃ x, x = wr := ⟨_, rfl⟩
     have hR_h := lH hR; have hN'_h := lH hN'; have hK'_h := lH hK'; clear hR hN' hK'
     go_wp2_with (at_next; refine wp_mr_next rfl _ rfl rfl hR_h.out hs_h.out.2 ?_ ?_)
     · intro _ hL0
       rw [putF_end hL0] at hN'_h
       have hwj := hw0_h.out.nums h_h.out hK'_h.out
       have hwj' := hwj
       obtain ⟨d0'', d1'', d2'', d3'', d4'', d5'', d8'', d9'', ko', hM1', hM2'⟩ := hwj'
       obtain ⟨⟨x0, x1, x2, x3, x4, x5, x6, x7, x8, x9⟩, _, _⟩ := box10 ko'
       obtain ⟨q1, hq1⟩ : ∃ q, s.1.length = q := ⟨_, rfl⟩
       obtain ⟨q2, hq2⟩ : ∃ q, s.2.length = q := ⟨_, rfl⟩
       have hlq1 := hls1_h.out
       have hlq2 := hls2_h.out
       rw [hq1] at hlq1
       rw [hq2] at hlq2
       clear hR_h hL0 hM2'; have hwj_h := lH hwj; have ko'_h := lH ko'; have hq1_h := lH hq1; have hq2_h := lH hq2; have hM1'_h := lH hM1'; clear hwj ko' hq1 hq2 hM1'
       go_upto_region 8 with (fail)
       refine beginZw 7 (fun w' => w'.heap[c1]? = some (.cells #[.int .i64 u1] tInt) ∧ w'.heap[ob]? = some (.cells #[d0'', d1'', d2'', d3'', d4'', d5'', .map (some ow), .map (some oe), d8'', d9''] tWk) ∧ MI w' ow s.1) (by kernel_rfl) (fun W1 hW1 => ?_)
       have hbd : Below wj.heap.size wj W1 := by rw [hW1]; exact below_drewN (Below.refl _ _) 1
       have hN1 := hN'_h.out.below hbd
       have hwk1 := hwj_h.out.below hbd
       have hko1 := t_box_below ko'_h.out hbd
       have hMI1 := hM1'_h.out.below hbd
       have hK1 := hK'_h.out.trans (Keeps.of_below hbd _)
       clear hW1 x0 x1 x2 x3 x4 x5 x6 x7 x8 x9; have hN1_h := lH hN1; have hwk1_h := lH hwk1; have hko1_h := lH hko1; have hMI1_h := lH hMI1; have hK1_h := lH hK1; have hbd_h := lH hbd; clear hN1 hwk1 hko1 hMI1 hK1 hbd
       refine tkC 0 ?_ rfl (⟨hN1_h.out.b1, hko1_h.out, hMI1_h.out⟩ : _ ∧ _ ∧ _) (fun W' hW' => ?_) ?_; rotate_left; · (obtain ⟨⟨y1, z1⟩, ⟨⟨c0, c1', c2', c3', c4', c5, c6, c7, c8, c9⟩, f8, f9⟩⟩ := (⟨cellT hW'.1, box10 hW'.2.1⟩ : _ ∧ _); have hlen := fun ty => hW'.2.2.len hs_h.out.1 ty; rw [hq1_h.out] at hlen; clear hW'; go_simp; first | done | with_reducible rfl)
       simp only [Act.put, nS]
       refine tkC 1 ?_ rfl (⟨hN1_h.out.b1, hko1_h.out, hMI1_h.out⟩ : _ ∧ _ ∧ _) (fun W' hW' => ?_) ?_; rotate_left; · (obtain ⟨⟨y1, z1⟩, ⟨⟨c0, c1', c2', c3', c4', c5, c6, c7, c8, c9⟩, f8, f9⟩⟩ := (⟨cellT hW'.1, box10 hW'.2.1⟩ : _ ∧ _); have hlen := fun ty => hW'.2.2.len hs_h.out.1 ty; rw [hq1_h.out] at hlen; clear hW'; go_simp; first | done | with_reducible rfl)
       simp only [Act.put, nS]
       refine tkC 2 ?_ rfl (⟨hN1_h.out.b1, hko1_h.out, hMI1_h.out⟩ : _ ∧ _ ∧ _) (fun W' hW' => ?_) ?_; rotate_left; · (obtain ⟨⟨y1, z1⟩, ⟨⟨c0, c1', c2', c3', c4', c5, c6, c7, c8, c9⟩, f8, f9⟩⟩ := (⟨cellT hW'.1, box10 hW'.2.1⟩ : _ ∧ _); have hlen := fun ty => hW'.2.2.len hs_h.out.1 ty; rw [hq1_h.out] at hlen; clear hW'; go_simp; first | done | with_reducible rfl)
       simp only [Act.put, nS]
       refine tkC 3 ?_ rfl (⟨hN1_h.out.b1, hko1_h.out, hMI1_h.out⟩ : _ ∧ _ ∧ _) (fun W' hW' => ?_) ?_; rotate_left; · (obtain ⟨⟨y1, z1⟩, ⟨⟨c0, c1', c2', c3', c4', c5, c6, c7, c8, c9⟩, f8, f9⟩⟩ := (⟨cellT hW'.1, box10 hW'.2.1⟩ : _ ∧ _); have hlen := fun ty => hW'.2.2.len hs_h.out.1 ty; rw [hq1_h.out] at hlen; clear hW'; go_simp; first | done | with_reducible rfl)
       simp only [Act.put, nS]
       refine tkC 4 ?_ rfl (⟨hN1_h.out.b1, hko1_h.out, hMI1_h.out⟩ : _ ∧ _ ∧ _) (fun W' hW' => ?_) ?_; rotate_left; · (obtain ⟨⟨y1, z1⟩, ⟨⟨c0, c1', c2', c3', c4', c5, c6, c7, c8, c9⟩, f8, f9⟩⟩ := (⟨cellT hW'.1, box10 hW'.2.1⟩ : _ ∧ _); have hlen := fun ty => hW'.2.2.len hs_h.out.1 ty; rw [hq1_h.out] at hlen; clear hW'; go_simp; first | done | with_reducible rfl)
       simp only [Act.put, nS]
       refine tkC 5 ?_ rfl (⟨hN1_h.out.b1, hko1_h.out, hMI1_h.out⟩ : _ ∧ _ ∧ _) (fun W' hW' => ?_) ?_; rotate_left; · (obtain ⟨⟨y1, z1⟩, ⟨⟨c0, c1', c2', c3', c4', c5, c6, c7, c8, c9⟩, f8, f9⟩⟩ := (⟨cellT hW'.1, box10 hW'.2.1⟩ : _ ∧ _); have hlen := fun ty => hW'.2.2.len hs_h.out.1 ty; rw [hq1_h.out] at hlen; clear hW'; go_simp; first | done | with_reducible rfl)
       simp only [Act.put, nS]
       refine tkC 6 ?_ rfl (⟨hN1_h.out.b1, hko1_h.out, hMI1_h.out⟩ : _ ∧ _ ∧ _) (fun W' hW' => ?_) ?_; rotate_left; · (obtain ⟨⟨y1, z1⟩, ⟨⟨c0, c1', c2', c3', c4', c5, c6, c7, c8, c9⟩, f8, f9⟩⟩ := (⟨cellT hW'.1, box10 hW'.2.1⟩ : _ ∧ _); have hlen := fun ty => hW'.2.2.len hs_h.out.1 ty; rw [hq1_h.out] at hlen; clear hW'; go_simp; first | done | with_reducible rfl)
       simp only [Act.put, nS]
       obtain ⟨y1, z1⟩ := cellT hN1_h.out.b1
       obtain ⟨hN2, hk2⟩ := hN1_h.out.set1 (u1 + (q1 : Int))
       simp only at hN2
       have hk12 := hK1_h.out.trans (hk2.mono (T := OwnN c1 c3 Wa Ea) fun _ _ e => .inl e)
       have hwk2 := hwk1_h.out.nums hN1_h.out (hk2.mono (T := OwnN c1 c3 Wa Ea) fun _ _ e => .inl e)
       have hko2 := t_box_keeps hko1_h.out hk2 (ne_of_type hko1_h.out hN1_h.out.b1 (by decide))
       have hM2'' : MI (W1.setCell ⟨c1, 0, none⟩ (.int .i64 (u1 + (q1 : Int)))) oe s.2 := by
        obtain ⟨_, _, _, _, _, _, _, _, _, _, e2⟩ := hwk2
        exact e2
       clear hk2 hN1_h hwk1_h hko1_h hMI1_h hK1_h hwj_h ko'_h hM1'_h hwk2; have hN2_h := lH hN2; have hk12_h := lH hk12; have hko2_h := lH hko2; have hM2''_h := lH hM2''; clear hN2 hk12 hko2 hM2''
       have hwr : IntKind.i64.wrap (u1 + (q1 : Int)) = u1 + (q1 : Int) := by simp [IntKind.wrap, IntKind.bits, IntKind.signed]; omega
       rw [hwr]
       refine oneZ 7 rfl (by kernel_rfl) (by rfl) (fun K hK => ?_)
       go_simp
       refine hK _ _ (fun h => by cases h) ?_
       clear hK K
       refine doneZ (by kernel_rfl) ?_
       obtain ⟨W3, hW3⟩ : ∃ W, W = W1.setCell ⟨c1, 0, none⟩ (.int .i64 (u1 + (q1 : Int))) := ⟨_, rfl⟩
       rw [← hW3] at hN2_h hk12_h hko2_h hM2''_h ⊢
       clear hW3 y1 z1
       go_upto_region 9 with (fail)
       refine beginZw 7 (fun w' => w'.heap[c3]? = some (.cells #[.int .i64 u2] tInt) ∧ w'.heap[ob]? = some (.cells #[d0'', d1'', d2'', d3'', d4'', d5'', .map (some ow), .map (some oe), d8'', d9''] tWk) ∧ MI w' oe s.2) (by kernel_rfl) (fun W4 hW4 => ?_)
       have hbd4 : Below W3.heap.size W3 W4 := by rw [hW4]; exact below_drewN (Below.refl _ _) 1
       have hN4 := hN2_h.out.below hbd4
       have hko4 := t_box_below hko2_h.out hbd4
       have hM4 := hM2''_h.out.below hbd4
       have hK4 := hk12_h.out.trans (Keeps.of_below hbd4 _)
       clear hW4 hbd4; have hN4_h := lH hN4; have hko4_h := lH hko4; have hM4_h := lH hM4; have hK4_h := lH hK4; clear hN4 hko4 hM4 hK4
       refine tkC 0 ?_ rfl (⟨hN4_h.out.b3, hko4_h.out, hM4_h.out⟩ : _ ∧ _ ∧ _) (fun W' hW' => ?_) ?_; rotate_left; · (obtain ⟨⟨y1, z1⟩, ⟨⟨c0, c1', c2', c3', c4', c5, c6, c7, c8, c9⟩, f8, f9⟩⟩ := (⟨cellT hW'.1, box10 hW'.2.1⟩ : _ ∧ _); have hlen := fun ty => hW'.2.2.len hs_h.out.2 ty; rw [hq2_h.out] at hlen; clear hW'; go_simp; first | done | with_reducible rfl)
       simp only [Act.put, nS]
       refine tkC 1 ?_ rfl (⟨hN4_h.out.b3, hko4_h.out, hM4_h.out⟩ : _ ∧ _ ∧ _) (fun W' hW' => ?_) ?_; rotate_left; · (obtain ⟨⟨y1, z1⟩, ⟨⟨c0, c1', c2', c3', c4', c5, c6, c7, c8, c9⟩, f8, f9⟩⟩ := (⟨cellT hW'.1, box10 hW'.2.1⟩ : _ ∧ _); have hlen := fun ty => hW'.2.2.len hs_h.out.2 ty; rw [hq2_h.out] at hlen; clear hW'; go_simp; first | done | with_reducible rfl)
       simp only [Act.put, nS]
       refine tkC 2 ?_ rfl (⟨hN4_h.out.b3, hko4_h.out, hM4_h.out⟩ : _ ∧ _ ∧ _) (fun W' hW' => ?_) ?_; rotate_left; · (obtain ⟨⟨y1, z1⟩, ⟨⟨c0, c1', c2', c3', c4', c5, c6, c7, c8, c9⟩, f8, f9⟩⟩ := (⟨cellT hW'.1, box10 hW'.2.1⟩ : _ ∧ _); have hlen := fun ty => hW'.2.2.len hs_h.out.2 ty; rw [hq2_h.out] at hlen; clear hW'; go_simp; first | done | with_reducible rfl)
       simp only [Act.put, nS]
       refine tkC 3 ?_ rfl (⟨hN4_h.out.b3, hko4_h.out, hM4_h.out⟩ : _ ∧ _ ∧ _) (fun W' hW' => ?_) ?_; rotate_left; · (obtain ⟨⟨y1, z1⟩, ⟨⟨c0, c1', c2', c3', c4', c5, c6, c7, c8, c9⟩, f8, f9⟩⟩ := (⟨cellT hW'.1, box10 hW'.2.1⟩ : _ ∧ _); have hlen := fun ty => hW'.2.2.len hs_h.out.2 ty; rw [hq2_h.out] at hlen; clear hW'; go_simp; first | done | with_reducible rfl)
       simp only [Act.put, nS]
       refine tkC 4 ?_ rfl (⟨hN4_h.out.b3, hko4_h.out, hM4_h.out⟩ : _ ∧ _ ∧ _) (fun W' hW' => ?_) ?_; rotate_left; · (obtain ⟨⟨y1, z1⟩, ⟨⟨c0, c1', c2', c3', c4', c5, c6, c7, c8, c9⟩, f8, f9⟩⟩ := (⟨cellT hW'.1, box10 hW'.2.1⟩ : _ ∧ _); have hlen := fun ty => hW'.2.2.len hs_h.out.2 ty; rw [hq2_h.out] at hlen; clear hW'; go_simp; first | done | with_reducible rfl)
       simp only [Act.put, nS]
       refine tkC 5 ?_ rfl (⟨hN4_h.out.b3, hko4_h.out, hM4_h.out⟩ : _ ∧ _ ∧ _) (fun W' hW' => ?_) ?_; rotate_left; · (obtain ⟨⟨y1, z1⟩, ⟨⟨c0, c1', c2', c3', c4', c5, c6, c7, c8, c9⟩, f8, f9⟩⟩ := (⟨cellT hW'.1, box10 hW'.2.1⟩ : _ ∧ _); have hlen := fun ty => hW'.2.2.len hs_h.out.2 ty; rw [hq2_h.out] at hlen; clear hW'; go_simp; first | done | with_reducible rfl)
       simp only [Act.put, nS]
       refine tkC 6 ?_ rfl (⟨hN4_h.out.b3, hko4_h.out, hM4_h.out⟩ : _ ∧ _ ∧ _) (fun W' hW' => ?_) ?_; rotate_left; · (obtain ⟨⟨y1, z1⟩, ⟨⟨c0, c1', c2', c3', c4', c5, c6, c7, c8, c9⟩, f8, f9⟩⟩ := (⟨cellT hW'.1, box10 hW'.2.1⟩ : _ ∧ _); have hlen := fun ty => hW'.2.2.len hs_h.out.2 ty; rw [hq2_h.out] at hlen; clear hW'; go_simp; first | done | with_reducible rfl)
       simp only [Act.put, nS]
       obtain ⟨y1, z1⟩ := cellT hN4_h.out.b3
       obtain ⟨hN5, hk5⟩ := hN4_h.out.set3 (u2 + (q2 : Int))
       simp only at hN5
       have hk15 := hK4_h.out.trans (hk5.mono (T := OwnN c1 c3 Wa Ea) fun _ _ e => .inr (.inl e))
       clear hk5; have hN5_h := lH hN5; have hk15_h := lH hk15; clear hN5 hk15
       have hwr : IntKind.i64.wrap (u2 + (q2 : Int)) = u2 + (q2 : Int) := by simp [IntKind.wrap, IntKind.bits, IntKind.signed]; omega
       rw [hwr]
       refine oneZ 7 rfl (by kernel_rfl) (by rfl) (fun K hK => ?_)
       go_simp
       refine hK _ _ (fun h => by cases h) ?_
       clear hK K
       refine doneZ (by kernel_rfl) ?_
       go_wp2_with (fail)
       go_end0
       refine ⟨rfl, ?_, hk15_h.out⟩
       show NumS W c1 c2 c3 c4 Wa Ea n m (putN t1 u1 s.1, putN t2 u2 s.2, u1 + (s.1.length : Int), u2 + (s.2.length : Int)) _
       rw [hq1_h.out, hq2_h.out]
       exact hN5_h.out
     · intro x w8 cnt' hxs hLx hwf hR8 hlt8 hk8 hz8 hen
       have hxr := hr2_h.out x hxs
       obtain ⟨xx, rfl⟩ : ∃ xx : Nat, x = (xx : Int) := ⟨x.toNat, by omega⟩
       have hst : putF t2 u2 s.2 (fun z => L z && !decide (z = (xx : Int))) = (putF t2 u2 s.2 L).set xx (u2 + idx s.2 xx) := putF_step hxs (fun _ => rfl)
       obtain ⟨q, hq⟩ : ∃ q, idx s.2 (xx : Int) = q := ⟨_, rfl⟩
       have hqr := idx_lt hxs
       rw [hq] at hqr hen hst
       have hls := hls2_h.out
       have hq1 : 0 ≤ q ∧ q ≤ 60 := by omega
       have hN8 := hN'_h.out.far hN_h.out (Nat.le_refl _) hk8
       have hnb := hN8.bx
       simp only at hnb
       obtain ⟨⟨y1, z1⟩, ⟨y2, z2⟩, ⟨y3, z3⟩, y4, z4⟩ := hnb
       obtain ⟨zd, z0, ze, _, _, zc, zf⟩ := hN8.i2.at_ (j := xx) (by rw [hN8.l2]; omega)
       obtain rfl := Option.some.inj ze
       have zfk := zf xx
       obtain ⟨hN9, hk9⟩ := hN8.setE (j := xx) (u2 + q) (by omega)
       simp only at hN9
       rw [← hst] at hN9
       obtain ⟨_, qb⟩ := is_box hN8.i2
       have hmw := (hw0_h.out.nums h_h.out hK'_h.out)
       obtain ⟨_, _, _, _, _, _, _, _, _, _, hM2'⟩ := hmw
       obtain ⟨_, qb'⟩ := is_box hN'_h.out.i2
       have hR9 := hR8.keeps hk9 (hM2'.ne_cells qb') (by have := hN_h.out.i2.lt Ea.block (List.mem_cons_self ..); omega)
       have hk39 : Keeps (OwnN c1 c3 Wa Ea) w (w8.setCell (Ea.add xx) (.int .i64 (u2 + q))) := (hK'_h.out.free hk8 (fun b h1 h2 => by omega)).trans (hk9.mono (T := OwnN c1 c3 Wa Ea) fun _ _ e => .inr (.inr (.inr e)))
       have hxI : (xx : Int) < (m : Int) := by omega
       clear hk8 hN8 hk9 hst hM2' qb qb' zf ze hqr hq hxs; have hR9_h := lH hR9; have hN9_h := lH hN9; have hk39_h := lH hk39; clear hR9 hN9 hk39
       go_wp2_with (fail)
       go_roundw
       case rel => exact ⟨_, cnt', hR9_h.out, hN9_h.out, hk39_h.out⟩
       case measure => rw [hR9_h.out.left_eq, hR_h.out.left_eq]; exact hlt8
  · intro x w8 cnt' hxs hLx hwf hR8 hlt8 hk8 hz8 hen
    have hxr := hr1_h.out x hxs
    obtain ⟨xx, rfl⟩ : ∃ xx : Nat, x = (xx : Int) := ⟨x.toNat, by omega⟩
    have hst : putF t1 u1 s.1 (fun z => L z && !decide (z = (xx : Int))) = (putF t1 u1 s.1 L).set xx (u1 + idx s.1 xx) := putF_step hxs (fun _ => rfl)
    obtain ⟨q, hq⟩ : ∃ q, idx s.1 (xx : Int) = q := ⟨_, rfl⟩
    have hqr := idx_lt hxs
    rw [hq] at hqr hen hst
    have hls := hls1_h.out
    have hq1 : 0 ≤ q ∧ q ≤ 100 := by omega
    have hN8 := hN_h.out.far h_h.out (Nat.le_refl _) hk8
    have hnb := hN8.bx
    simp only at hnb
    obtain ⟨⟨y1, z1⟩, ⟨y2, z2⟩, ⟨y3, z3⟩, y4, z4⟩ := hnb
    obtain ⟨zd, z0, ze, _, _, zc, zf⟩ := hN8.i1.at_ (j := xx) (by rw [hN8.l1]; omega)
    obtain rfl := Option.some.inj ze
    have zfk := zf xx
    obtain ⟨hN9, hk9⟩ := hN8.setW (j := xx) (u1 + q) (by omega)
    simp only at hN9
    rw [← hst] at hN9
    have hmw := (hw0_h.out.nums h_h.out hK_h.out)
    obtain ⟨_, _, _, _, _, _, _, _, _, hM2', _⟩ := hmw
    obtain ⟨_, qb'⟩ := is_box hN_h.out.i1
    have hR9 := hR8.keeps hk9 (hM1_h.out.ne_cells (is_box h_h.out.i1).choose_spec) (by have := h_h.out.i1.lt Wa.block (List.mem_cons_self ..); omega)
    have hk39 : Keeps (OwnN c1 c3 Wa Ea) w (w8.setCell (Wa.add xx) (.int .i64 (u1 + q))) := (hK_h.out.free hk8 (fun b h1 h2 => by omega)).trans (hk9.mono (T := OwnN c1 c3 Wa Ea) fun _ _ e => .inr (.inr (.inl e)))
    have hxI : (xx : Int) < (n : Int) := by omega
    clear hk8 hN8 hk9 hst hM2' qb' zf ze hqr hq hxs; have hR9_h := lH hR9; have hN9_h := lH hN9; have hk39_h := lH hk39; clear hR9 hN9 hk39
    go_wp2_with (fail)
    go_roundw
    case rel => exact ⟨_, cnt', hR9_h.out, hN9_h.out, hk39_h.out⟩
    case measure => rw [hR9_h.out.left_eq, hR_h.out.left_eq]; exact hlt8
abbrev tLp : TypeId := 77
structure Lp where
 D : Option Addr
 dl : Nat
 dc : Nat
 A : Option Addr
 al : Nat
 ac : Nat
 G : Option Addr
 gl : Nat
 gc : Nat
 P : Prt
def Lp.cells (x : Lp) : List Value := [.slice x.D x.dl x.dc, .slice x.A x.al x.ac, .slice x.G x.gl x.gc, .int .i64 x.P.2.2]
structure LpOk (w : World) (x : Lp) : Prop where
 cod : IS w x.D x.dc x.P.1
 wir : IS w x.A x.ac x.P.2.1.1
 edg : IS w x.G x.gc x.P.2.1.2
 len : (x.P.1.length = x.dl ∧ x.dl ≤ 1048576) ∧ (x.P.2.1.1.length = x.al ∧ x.al ≤ 1048576) ∧ x.P.2.1.2.length = x.gl ∧ x.gl ≤ 1048576
theorem LpOk.below {w w' : World} {x : Lp} (h : LpOk w x) (hb : Below w.heap.size w w') : LpOk w' x := ⟨h.cod.below hb, h.wir.below hb, h.edg.below hb, h.len⟩
theorem LpOk.keeps {w w' : World} {x : Lp} (h : LpOk w x) {S : Nat → Prop} (hk : Keeps S w w') (hS : ∀ b, (b ∈ fpA x.D ∨ b ∈ fpA x.A ∨ b ∈ fpA x.G) → ¬ S b) : LpOk w' x :=
 ⟨h.cod.keeps hk fun b hb => hS b (.inl hb), h.wir.keeps hk fun b hb => hS b (.inr (.inl hb)), h.edg.keeps hk fun b hb => hS b (.inr (.inr hb)), h.len⟩
set_option maxRecDepth 100000 in
set_option maxHeartbeats 4000000 in
theorem cnLoopBefore_any (x y : Lp) (w : World) (hx : LpOk w x) (hy : LpOk w y) (hrx : ∀ v, v ∈ x.P.2.1.1 → 0 ≤ v) (hry : ∀ v, v ∈ y.P.2.1.1 → 0 ≤ v) :
  Calls Tryz.prog 65 #[.agg x.cells.toArray, .agg y.cells.toArray] w fun e w' => e = .returned (.bool (befP x.P y.P)) ∧ Below w.heap.size w w' := by
 obtain ⟨XD, xdl, xdc, XA, xal, xac, XG, xgl, xgc, P⟩ := x
 obtain ⟨YD, ydl, ydc, YA, yal, yac, YG, ygl, ygc, R⟩ := y
 obtain ⟨a1, a2, a3, ⟨a4, a5⟩, ⟨a6, a7⟩, a8, a9⟩ := hx
 obtain ⟨b1, b2, b3, ⟨b4, b5⟩, ⟨b6, b7⟩, b8, b9⟩ := hy
 simp only at a1 a2 a4 a5 a6 a7 b1 b2 b4 b5 b6 b7 hrx hry
 show Calls _ _ #[.agg #[.slice XD xdl xdc, .slice XA xal xac, .slice XG xgl xgc, .int .i64 P.2.2], .agg #[.slice YD ydl ydc, .slice YA yal yac, .slice YG ygl ygc, .int .i64 R.2.2]] w fun e w' => e = .returned (.bool (befP P R)) ∧ Below w.heap.size w w'
 obtain ⟨wy, hwy⟩ : ∃ u, P.2.2 = u := ⟨_, rfl⟩
 obtain ⟨wy', hwy'⟩ : ∃ u, R.2.2 = u := ⟨_, rfl⟩
 rw [hwy, hwy']
 obtain ⟨W, hW, bW, q0, q1⟩ := twoBoxesC w (.cells #[.slice XD xdl xdc, .slice XA xal xac, .slice XG xgl xgc, .int .i64 wy] tLp) (.cells #[.slice YD ydl ydc, .slice YA yal yac, .slice YG ygl ygc, .int .i64 wy'] tLp)
 have hr1 := leastW_rng P.2.1.1 100 (by decide) (by decide) hrx
 have hr2 := leastW_rng R.2.1.1 100 (by decide) (by decide) hry
 have hbf : befP P R = if P.1 = R.1 then decide (leastW P.2.1.1 < leastW R.2.1.1) else lexI P.1 R.1 := rfl
 have hS := l1Same_any XD YD xdc ydc xdl ydl P.1 R.1 W (a1.below bW).rd (b1.below bW).rd a4 b4 a5 b5
 have hBf := fun (W' : World) (hb : Below W.heap.size W W') => cnBefore_any XD YD xdc ydc xdl ydl P.1 R.1 W' ((a1.below bW).below hb).rd ((b1.below bW).below hb).rd a4 b4 a5
 have hL1 := fun (W' : World) (hb : Below W.heap.size W W') => cnLeast_any XA xac xal P.2.1.1 W' ((a2.below bW).below hb).rd a6 a7
 have hL2 := fun (W' : World) (hb : Below W.heap.size W W') => cnLeast_any YA yac yal R.2.1.1 W' ((b2.below bW).below hb).rd b6 b7
 change 0 ≤ leastW P.2.1.1 ∧ leastW P.2.1.1 ≤ 100 at hr1
 change 0 ≤ leastW R.2.1.1 ∧ leastW R.2.1.1 ≤ 100 at hr2
 obtain ⟨u, hu⟩ : ∃ u, leastW P.2.1.1 = u := ⟨_, rfl⟩
 obtain ⟨u', hu'⟩ : ∃ u, leastW R.2.1.1 = u := ⟨_, rfl⟩
 rw [hu] at hr1 hL1 hbf
 rw [hu'] at hr2 hL2 hbf
 clear a1 a2 a3 a4 a5 a6 a7 a8 a9 b1 b2 b3 b4 b5 b6 b7 b8 b9 hrx hry hu hu' hwy hwy'
 obtain ⟨⟨c0, c1, c2, c3⟩, f0, f1, f2, f3⟩ := t_box4 q0
 obtain ⟨⟨d0, d1, d2, d3⟩, g0, g1, g2, g3⟩ := t_box4 q1
 have bW_h := lH bW; have q0_h := lH q0; have q1_h := lH q1; have hS_h := lH hS; have hBf_h := lH hBf; have hL1_h := lH hL1; have hL2_h := lH hL2; clear bW q0 q1 hS hBf hL1 hL2
 go_enter Tryz.func65, Tryz.ntmps65
 go_upto_region 1 with (fail)
 rw [← hW]
 clear hW
 go_wp2_with (fail)
 refine (hS_h.out).mono ?_
 rintro e w2 ⟨rfl, hb2⟩
 clear c0 c1 c2 c3 f0 f1 f2 f3 d0 d1 d2 d3 g0 g1 g2 g3
 have q0' := t_box_below q0_h.out hb2
 have q1' := t_box_below q1_h.out hb2
 have hB2 := below_trans bW_h.out hb2 bW_h.out.size
 by_cases he : P.1 = R.1
 · rw [if_pos he] at hbf
   rw [decide_eq_true he]
   have q0'_h := lH q0'; have q1'_h := lH q1'; have hB2_h := lH hB2; have hb2_h := lH hb2; clear q0' q1' hB2 hb2
   go_upto_region 2 with (fail)
   refine beginH (fun w' => Below w2.heap.size w2 w') (by kernel_rfl) ?_
   have hbd : Below w2.heap.size w2 w2.drew := below_drewN (Below.refl _ _) 1
   generalize w2.drew = W1 at hbd ⊢
   refine tkH 0 ?_ rfl hbd (fun W' hW' => ?_) ?_; rotate_left; · (obtain ⟨⟨⟨c0, c1, c2, c3⟩, f0, f1, f2, f3⟩, ⟨d0, d1, d2, d3⟩, g0, g1, g2, g3⟩ := (⟨t_box4 (t_box_below q0'_h.out hW'), t_box4 (t_box_below q1'_h.out hW')⟩ : _ ∧ _); clear hW'; go_simp; first | done | with_reducible rfl)
   simp only [Act.put, nS]
   refine tkH 1 ?_ rfl hbd (fun W' hW' => ?_) ?_; rotate_left; · (obtain ⟨⟨⟨c0, c1, c2, c3⟩, f0, f1, f2, f3⟩, ⟨d0, d1, d2, d3⟩, g0, g1, g2, g3⟩ := (⟨t_box4 (t_box_below q0'_h.out hW'), t_box4 (t_box_below q1'_h.out hW')⟩ : _ ∧ _); clear hW'; go_simp; first | done | with_reducible rfl)
   simp only [Act.put, nS]
   refine tkH 3 ?_ rfl hbd (fun W' hW' => ?_) ?_; rotate_left; · (obtain ⟨⟨⟨c0, c1, c2, c3⟩, f0, f1, f2, f3⟩, ⟨d0, d1, d2, d3⟩, g0, g1, g2, g3⟩ := (⟨t_box4 (t_box_below q0'_h.out hW'), t_box4 (t_box_below q1'_h.out hW')⟩ : _ ∧ _); clear hW'; go_simp; first | done | with_reducible rfl)
   simp only [Act.put, nS]
   refine tkH 4 ?_ rfl hbd (fun W' hW' => ?_) ?_; rotate_left; · (obtain ⟨⟨⟨c0, c1, c2, c3⟩, f0, f1, f2, f3⟩, ⟨d0, d1, d2, d3⟩, g0, g1, g2, g3⟩ := (⟨t_box4 (t_box_below q0'_h.out hW'), t_box4 (t_box_below q1'_h.out hW')⟩ : _ ∧ _); clear hW'; go_simp; first | done | with_reducible rfl)
   simp only [Act.put, nS]
   refine relT [(2, 12), (5, 15)] (fun _ => []) (fun d _ v _ => if d = 12 then v = .int .i64 u else v = .int .i64 u') (fun _ _ => []) 2 rfl (by kernel_rfl) ?st1 ?co1 (fun w' hw' => below_trans hbd hw' hbd.size) ?sp1 ?fi1
   case st1 => exact fun d xs => Stb.ite (fun _ _ _ h _ => h) (fun _ _ _ h _ => h)
   case co1 => exact fun z hz xs ys v w hd h => h
   case sp1 =>
    refine ⟨⟨_, rfl, fun xs w5 hb5 hd K hK => ?_⟩, ⟨_, rfl, fun xs w5 hb5 hd K hK => ?_⟩, trivial⟩
    · simp only [putZ, List.foldl_cons, List.foldl_nil, Act.put, nS] at hK ⊢
      refine wp_callZ (f := ?f_1) (args := ?args_1) ?hr_1 ?hc_1
      case hr_1 => (go_simp; first | done | with_reducible rfl | (constructor <;> with_reducible rfl))
      case hc_1 =>
       refine (hL1_h.out w5 (below_trans (below_trans hb2_h.out hbd hb2_h.out.size) hb5 (Nat.le_trans hb2_h.out.size hbd.size))).mono ?_
       rintro e w6 ⟨rfl, rfl⟩
       exact ⟨_, rfl, hK _ _ (Below.refl _ _) rfl fun b hb => by cases hb⟩
    · simp only [putZ, List.foldl_cons, List.foldl_nil, Act.put, nS] at hK ⊢
      refine wp_callZ (f := ?f_2) (args := ?args_2) ?hr_2 ?hc_2
      case hr_2 => (go_simp; first | done | with_reducible rfl | (constructor <;> with_reducible rfl))
      case hc_2 =>
       refine (hL2_h.out w5 (below_trans (below_trans hb2_h.out hbd hb2_h.out.size) hb5 (Nat.le_trans hb2_h.out.size hbd.size))).mono ?_
       rintro e w6 ⟨rfl, rfl⟩
       exact ⟨_, rfl, hK _ _ (Below.refl _ _) rfl fun b hb => by cases hb⟩
   case fi1 =>
    intro xs w6 hb6 hR hO hD
    have h1 : xs 12 = .int .i64 u := hR (2, 12) (by simp)
    have h2 : xs 15 = .int .i64 u' := hR (5, 15) (by simp)
    have hb26 := below_trans hbd hb6 hbd.size
    clear hR hO hD
    simp only [putZ, List.foldl_cons, List.foldl_nil, Act.put, nS, h1, h2, mkZ]
    refine tkH 6 ?_ rfl hb26 (fun W' hW' => ?_) ?_; rotate_left; · (skip; clear hW'; go_simp; first | done | with_reducible rfl)
    simp only [Act.put, nS]
    refine tkH 7 ?_ rfl hb26 (fun W' hW' => ?_) ?_; rotate_left; · (skip; clear hW'; go_simp; first | done | with_reducible rfl)
    simp only [Act.put, nS]
    refine doneH (by kernel_rfl) ?_
    go_wp2_with (fail)
    go_ret
    rw [hbf]
    exact ⟨rfl, below_trans hB2_h.out hb26 hB2_h.out.size⟩
 · rw [if_neg he] at hbf
   rw [decide_eq_false he]
   obtain ⟨⟨c0, c1, c2, c3⟩, f0, f1, f2, f3⟩ := t_box4 q0'
   obtain ⟨⟨d0, d1, d2, d3⟩, g0, g1, g2, g3⟩ := t_box4 q1'
   clear q0' q1'; have hB2_h := lH hB2; have hb2_h := lH hb2; clear hB2 hb2
   go_wp2_with (fail)
   refine (hBf_h.out w2 hb2_h.out).mono ?_
   rintro e w3 ⟨rfl, hb3⟩
   go_wp2_with (fail)
   go_ret
   rw [hbf]
   exact ⟨rfl, below_trans hB2_h.out hb3 hB2_h.out.size⟩
end Go.Proofs.YtpkmjenoniedjaaGreat
