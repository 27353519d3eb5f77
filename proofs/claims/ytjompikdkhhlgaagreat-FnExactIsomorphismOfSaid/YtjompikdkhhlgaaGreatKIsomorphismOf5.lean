/-
  What the texts above it need, part 5.
-/
import Derived.Test.YtjompikdkhhlgaaGreatKIsomorphismOf4
import Derived.Shelf.SlSortCmp.WholeK
import Derived.Deep.LoopGhost
namespace Go.Proofs.YtjompikdkhhlgaaGreat
open Go.RowKit
abbrev tCp : TypeId := 115
structure PtS (w0 : World) (lb b mw me : Nat) (D : Option Addr) (dl dc : Nat) (least : Int) (P : Prt) (w : World) : Prop where
 box : w.heap[lb]? = some (.cells #[.pointer (some ⟨b, 0, none⟩), .slice D dl dc, .int .i64 least, .int .i64 P.2.2] tCp)
 wk : WkR w b mw me P.2.1
 cod : IS w D dc P.1
 len : P.1.length = dl
 new : w0.heap.size ≤ b ∧ w0.heap.size ≤ mw ∧ w0.heap.size ≤ me ∧ Fresh w0.heap.size D
 off : b ≠ lb
section
variable {w0 w w' : World} {lb b mw me : Nat} {D : Option Addr} {dl dc : Nat} {least : Int} {P : Prt}
theorem PtS.below (h : PtS w0 lb b mw me D dl dc least P w) (hb : Below w.heap.size w w') : PtS w0 lb b mw me D dl dc least P w' :=
 ⟨t_box_below h.box hb, h.wk.below hb, h.cod.below hb, h.len, h.new, h.off⟩
end
theorem PtS.store {w0 w : World} {lb : Nat} {x y z u : Value} (hbx : w.heap[lb]? = some (.cells #[x, y, z, u] tCp)) {b mw me : Nat} {D : Option Addr} {dl dc : Nat} {P : Prt} (hwk : WkR w b mw me P.2.1) (hcod : IS w D dc P.1) (hlen : P.1.length = dl) (hnew : w0.heap.size ≤ b ∧ w0.heap.size ≤ mw ∧ w0.heap.size ≤ me ∧ Fresh w0.heap.size D) (hlb : b ≠ lb) :
  PtS w0 lb b mw me D dl dc 0 P ((((w.setCell ⟨lb, 0, none⟩ (.pointer (some ⟨b, 0, none⟩))).setCell ⟨lb, 1, none⟩ (.slice D dl dc)).setCell ⟨lb, 2, none⟩ (.int .i64 0)).setCell ⟨lb, 3, none⟩ (.int .i64 P.2.2)) ∧
  Keeps (· = lb) w ((((w.setCell ⟨lb, 0, none⟩ (.pointer (some ⟨b, 0, none⟩))).setCell ⟨lb, 1, none⟩ (.slice D dl dc)).setCell ⟨lb, 2, none⟩ (.int .i64 0)).setCell ⟨lb, 3, none⟩ (.int .i64 P.2.2)) := by
 obtain ⟨s1, s2⟩ := set4 (a := .pointer (some ⟨b, 0, none⟩)) (b := .slice D dl dc) (c := .int .i64 0) (d := .int .i64 P.2.2) hbx
 have hwk' := hwk
 obtain ⟨c0, c1, c2, c3, c4, c5, c8, c9, e1, e2, e3⟩ := hwk
 refine ⟨⟨s1, hwk'.keeps s2 hlb (e2.ne_cells hbx) (e3.ne_cells hbx), hcod.keeps s2 fun x hx e => ?_, hlen, hnew, hlb⟩, s2⟩
 obtain ⟨a, rfl, rfl⟩ := mem_fpA.1 hx
 exact is_ne_box hcod hbx (by decide) e
theorem cmpL_neg {l m : List Int} : cmpL l m < 0 ↔ l ≠ m ∧ lexI l m = true := by
 unfold cmpL
 by_cases e : l = m
 · simp [e]
 · rw [if_neg e]
   cases lexI l m <;> simp [e]
theorem set4c {w : World} {B : Nat} {t : TypeId} {x y z u b : Value} (h : w.heap[B]? = some (.cells #[x, y, z, u] t)) :
  ((w.setCell ⟨B, 3, none⟩ b).heap[B]? = some (.cells #[x, y, z, b] t) ∧ Keeps (· = B) w (w.setCell ⟨B, 3, none⟩ b)) ∧ (w.setCell ⟨B, 2, none⟩ b).heap[B]? = some (.cells #[x, y, b, u] t) ∧ Keeps (· = B) w (w.setCell ⟨B, 2, none⟩ b) := by
 refine ⟨⟨by simp [World.setCell, Array.getElem?_modify, h], ?_⟩, by simp [World.setCell, Array.getElem?_modify, h], ?_⟩
 · exact (Keeps.refl (fun x => x = B) w).setCell (p := ⟨B, 3, none⟩) rfl _
 · exact (Keeps.refl (fun x => x = B) w).setCell (p := ⟨B, 2, none⟩) rfl _
theorem PtS.turn {w0 w w' : World} {lb b mw me : Nat} {D : Option Addr} {dl dc : Nat} {least : Int} {P : Prt} (h : PtS w0 lb b mw me D dl dc least P w) (hk : Keeps (· = lb) w w') : WkR w' b mw me P.2.1 ∧ IS w' D dc P.1 := by
 obtain ⟨c0, c1, c2, c3, c4, c5, c8, c9, e1, e2, e3⟩ := h.wk
 refine ⟨h.wk.keeps hk h.off (e2.ne_cells h.box) (e3.ne_cells h.box), h.cod.keeps hk fun x hx e => ?_⟩
 have hc := h.cod
 obtain ⟨a, rfl, rfl⟩ := mem_fpA.1 hx
 exact is_ne_box hc h.box (by decide) e
theorem codeM_len {g : Gr} {n : Nat} {s : WE} (hMo : Mono g n) (hs : WInv g n s) : (codeM g s).length ≤ 360 := by
 have h := codeTo_len (g := g) (s := s) (fun x hx => by
  have hr := hs.rg2 x hx
  have he := hMo.kind _ (edge_mem (g := g) (i := x.toNat) (by omega))
  obtain ⟨⟨l1, l2⟩, _⟩ := egB_len he
  unfold edgeAt wiresE
  rw [List.length_append]
  omega) s.2.length
 rw [codeTo_all g s (Nat.le_refl _)] at h
 have := hs.le.2
 have := hMo.m60
 omega
set_option maxRecDepth 100000 in
set_option maxHeartbeats 8000000 in
theorem closedPart_any {v : Value} {g : Gr} (w : World) (n m : Nat) (LA : Option Addr) (lc q : Nat) (l : List Int) (h : RdGr w v g) (hMo : Mono g n) (hm : g.2.1.length = m) (hl : RdI w LA l) (hq : l.length = q) (hq60 : q ≤ 60) (hl0 : 0 < q) (hlr : ∀ e, e ∈ l → 0 ≤ e ∧ e < (m : Int)) :
  Calls Tryz.prog 109 #[v, .slice LA q lc] w fun e w' => ∃ (b mw me : Nat) (D : Option Addr) (dl dc : Nat), e = .returned (.agg #[.pointer (some ⟨b, 0, none⟩), .slice D dl dc, .int .i64 (leastW (bestP g l).2.1.1), .int .i64 (bestP g l).2.2]) ∧ WkR w' b mw me (bestP g l).2.1 ∧ IS w' D dc (bestP g l).1 ∧ (bestP g l).1.length = dl ∧ (w.heap.size ≤ b ∧ w.heap.size ≤ mw ∧ w.heap.size ≤ me ∧ Fresh w.heap.size D) ∧ Below w.heap.size w w' := by
 have hn100 := hMo.n100
 have hm60 : m ≤ 60 := by rw [← hm]; exact hMo.m60
 have hgn := hMo.hn
 have hW0 := h
 obtain ⟨A, c, hs, ⟨B, bb, s⟩, ⟨C, d, t⟩, rfl, e1, e2, e3, hE, hRa, hRb⟩ := h
 have hml : hs.length = m := by rw [← hm, e1, List.length_map]
 simp only [hgn, hml] at hW0 ⊢
 obtain ⟨p, hp⟩ : ∃ p, s.length = p := ⟨_, rfl⟩
 obtain ⟨r, hr⟩ : ∃ r, t.length = r := ⟨_, rfl⟩
 rw [hp, hr] at hW0 ⊢
 -- three boxes
 obtain ⟨W, hWe, bW, k0, k1, k2⟩ : ∃ W, W = ((w.alloc (.cells #[.int .i64 (n : Int), .slice A m c, .slice B p bb, .slice C r d] tGr)).alloc (.cells #[.pointer none, .slice none 0 0, .int .i64 0, .int .i64 0] tCp)).alloc (.cells #[.pointer none, .slice none 0 0, .int .i64 0, .int .i64 0] tCp) ∧ Below w.heap.size w W ∧ W.heap[w.heap.size]? = some (.cells #[.int .i64 (n : Int), .slice A m c, .slice B p bb, .slice C r d] tGr) ∧ W.heap[w.heap.size + 1]? = some (.cells #[.pointer none, .slice none 0 0, .int .i64 0, .int .i64 0] tCp) ∧ W.heap[w.heap.size + 1 + 1]? = some (.cells #[.pointer none, .slice none 0 0, .int .i64 0, .int .i64 0] tCp) := by
  obtain ⟨W2, h2, b2, q0, q1⟩ := twoBoxesC w (.cells #[.int .i64 (n : Int), .slice A m c, .slice B p bb, .slice C r d] tGr) (.cells #[.pointer none, .slice none 0 0, .int .i64 0, .int .i64 0] tCp)
  refine ⟨_, rfl, ?_, ?_, ?_, ?_⟩
  · rw [← h2]; exact below_trans b2 (t_below_alloc _ _) b2.size
  · rw [← h2]; exact t_box_below q0 (t_below_alloc _ _)
  · rw [← h2]; exact t_box_below q1 (t_below_alloc _ _)
  · have := heap_alloc_new ((w.alloc (.cells #[.int .i64 (n : Int), .slice A m c, .slice B p bb, .slice C r d] tGr)).alloc (.cells #[.pointer none, .slice none 0 0, .int .i64 0, .int .i64 0] tCp)) (.cells #[.pointer none, .slice none 0 0, .int .i64 0, .int .i64 0] tCp)
    simpa using this
 have hWz : W.heap.size = w.heap.size + 1 + 1 + 1 := by rw [hWe]; simp
 clear hRa hRb e2 e3 hgn; have hMo_h := lH hMo; have hm_h := lH hm; have hW0_h := lH hW0; have e1_h := lH e1; have hml_h := lH hml; have hp_h := lH hp; have hr_h := lH hr; have bW_h := lH bW; have k0_h := lH k0; have k1_h := lH k1; have k2_h := lH k2; have hWz_h := lH hWz; have hq_h := lH hq; have hlr_h := lH hlr; have hE_h := lH hE; have hl_h := lH hl; clear hMo hm hW0 e1 hml hp hr bW k0 k1 k2 hWz hq hlr hE hl
 go_enter Tryz.func109, Tryz.ntmps109
 go_upto_region 2 with (fail)
 rw [← hWe]
 clear hWe
 go_wp2_with (fail)
 go_loopw [15] (fun i wr => ∃ k : Nat, k ≤ q ∧ i = .int .i64 k ∧ Keeps (· = w.heap.size + 1 + 1) W wr ∧ ((k = 0 ∧ wr.heap[w.heap.size + 1 + 1]? = some (.cells #[.pointer none, .slice none 0 0, .int .i64 0, .int .i64 0] tCp)) ∨ ∃ (b mw me : Nat) (D : Option Addr) (dl dc : Nat), 0 < k ∧ PtS W (w.heap.size + 1 + 1) b mw me D dl dc 0 (bestP g (l.take k)) wr)) (fun i _ => q - (intOf i).toNat)
 case atStart => exact ⟨0, Nat.zero_le _, rfl, Keeps.refl _ _, .inl ⟨rfl, k2_h.out⟩⟩
 case round =>
  obtain ⟨k, hk, rfl, hKe, hPt⟩ := hrel
  obtain ⟨wo, rfl⟩ : ∃ x, x = wr := ⟨_, rfl⟩
  have hwz := hWz_h.out
  have hBo := below_keeps bW_h.out hKe bW_h.out.size fun b hb => by omega
  have k0o := t_box_keeps k0_h.out hKe (by omega)
  obtain ⟨⟨c0, c1, c2, c3⟩, f0, f1, f2, f3⟩ := t_box4 k0o
  by_cases hlt : k < q
  · obtain ⟨e, he⟩ : ∃ e, l[k]? = some e := ⟨_, List.getElem?_eq_getElem (by rw [hq_h.out]; exact hlt)⟩
    have her := hlr_h.out e (List.mem_of_getElem? he)
    obtain ⟨la, hla, pl⟩ := (hl_h.out.below hBo) k _ he
    subst hla
    have hcw := walkerOf_any wo (hW0_h.out.below hBo) hMo_h.out
    have hEo := hE_h.out.below hBo
    have hkI : (k : Int) < (q : Int) := by omega
    have hst := startE_inv hMo_h.out (e := e) (by rw [hm_h.out]; exact her.2)
    have hfr := fromM_inv hMo_h.out (e := e) (by rw [hm_h.out]; exact her.2)
    have hKe_h := lH hKe; have hPt_h := lH hPt; have hBo_h := lH hBo; have k0o_h := lH k0o; have hcw_h := lH hcw; have hEo_h := lH hEo; have he_h := lH he; have hst_h := lH hst; have hfr_h := lH hfr; clear hKe hPt hBo k0o hcw hEo he hst hfr
    go_wp2_with (fail)
    refine (hcw_h.out).mono ?_
    rintro e w1 ⟨b, Bf, Bh, mw, me, rfl, hK1⟩
    have hce := edge_any e w1 hK1 hEo_h.out e1_h.out hml_h.out hMo_h.out (inv_nil g n) her.2
    rw [show stepE g ([], []) e = startE g e from rfl] at hce
    clear hK1 hcw_h pl c0 c1 c2 c3 f0 f1 f2 f3; have hce_h := lH hce; clear hce
    go_wp2_with (fail)
    refine (hce_h.out).mono ?_
    rintro e w2 ⟨rfl, Q2, qn2, qc2, O2, on2, oc2, hK2, hS2⟩
    have hcx := walk_any w2 hK2 hEo_h.out e1_h.out hml_h.out hMo_h.out hst_h.out
    rw [show finW g (startE g e) = fromM g e from rfl] at hcx
    clear hK2 hS2 hce_h; have hcx_h := lH hcx; clear hcx
    go_wp2_with (fail)
    refine (hcx_h.out).mono ?_
    rintro e w3 ⟨rfl, Q3, qn3, qc3, O3, on3, oc3, hK3, hS3⟩
    have hcc := code_any w3 hK3 hEo_h.out e1_h.out hml_h.out hMo_h.out hfr_h.out
    unfold RetI at hcc
    obtain ⟨cl, hcl⟩ : ∃ cl, (codeM g (fromM g e)).length = cl := ⟨_, rfl⟩
    rw [hcl] at hcc
    have hN3 := hK3.new
    clear hS3 hcx_h; have hcc_h := lH hcc; have hK3_h := lH hK3; have hcl_h := lH hcl; have hN3_h := lH hN3; clear hcc hK3 hcl hN3
    go_wp2_with (fail)
    refine (hcc_h.out).mono ?_
    rintro e w4 ⟨A4, cap4, rfl, hI4, hF4, hb4⟩
    have hwk4 := hK3_h.out.rd.below hb4
    have hb34 := below_trans hK3_h.out.bel hb4 hK3_h.out.bel.size
    have hKe4 := hKe_h.out.free (Keeps.of_below hb34 (fun _ => False)) (fun _ _ h => h.elim)
    have hsz3 := hK3_h.out.bel.size
    have hszo := hKe_h.out.size
    have hnew : W.heap.size ≤ b ∧ W.heap.size ≤ mw ∧ W.heap.size ≤ me ∧ Fresh W.heap.size A4 := ⟨by have := hN3_h.out b (.inl rfl); omega, by have := hN3_h.out mw (.inr (.inl rfl)); omega, by have := hN3_h.out me (.inr (.inr (.inl rfl))); omega, fun x hx => by have := hF4 x hx; omega⟩
    have hblb : b ≠ w.heap.size + 1 + 1 := by omega
    have hbs : bestP g (l.take (k + 1)) = if k = 0 then prtOf g e else prtNext g (bestP g (l.take k)) e := by
     rw [List.take_add_one, he_h.out]
     by_cases h0 : k = 0
     · subst h0
       rfl
     · rw [if_neg h0]
       exact bestP_snoc (by intro h; have := congrArg List.length h; rw [List.length_take, hq_h.out] at this; simp at this; omega) e
    clear hF4 hb4 hcc_h hK3_h hN3_h hKe_h
    rcases hPt_h.out with ⟨h0, hbx⟩ | ⟨b0, mw0, me0, D0, dl0, dc0, hpos, hP0⟩
    · subst h0
      have hbx4 := t_box_below hbx hb34
      obtain ⟨hP1, hk1⟩ := PtS.store (P := prtOf g e) hbx4 hwk4 hI4 hcl_h.out hnew hblb
      have hKe5 := hKe4.free hk1 fun _ _ e => e
      rw [if_pos rfl] at hbs
      have hP1' : PtS W (w.heap.size + 1 + 1) b mw me A4 cl cap4 0 (bestP g (l.take (0 + 1))) ((((w4.setCell ⟨w.heap.size + 1 + 1, 0, none⟩ (.pointer (some ⟨b, 0, none⟩))).setCell ⟨w.heap.size + 1 + 1, 1, none⟩ (.slice A4 cl cap4)).setCell ⟨w.heap.size + 1 + 1, 2, none⟩ (.int .i64 0)).setCell ⟨w.heap.size + 1 + 1, 3, none⟩ (.int .i64 1)) := by rw [hbs]; exact hP1
      obtain ⟨⟨c0, c1, c2, c3⟩, f0, f1, f2, f3⟩ := t_box4 hbx4
      clear hk1 hKe4 hbx4 hbx hPt_h hwk4 hI4 hb34 hbs hP1; have hP1'_h := lH hP1'; have hKe5_h := lH hKe5; have hnew_h := lH hnew; clear hP1' hKe5 hnew
      go_wp2_with (fail)
      go_roundw
      case rel => exact ⟨1, by omega, by go_num, hKe5_h.out, .inr ⟨b, mw, me, A4, cl, cap4, by omega, hP1'_h.out⟩⟩
      case measure => simp [intOf]; omega
    · have hP4 := hP0.below hb34
      have hneg : l.take k ≠ [] := by intro h; have := congrArg List.length h; rw [List.length_take, hq_h.out] at this; simp at this; omega
      obtain ⟨e', he', hb1, hb2⟩ := bestP_from (g := g) hneg
      have her' := hlr_h.out e' (List.mem_of_mem_take he')
      have hdl := codeM_len hMo_h.out (fromM_inv hMo_h.out (e := e') (by rw [hm_h.out]; exact her'.2))
      rw [← hb1, hP4.len] at hdl
      have hclb := codeM_len hMo_h.out hfr_h.out
      rw [hcl_h.out] at hclb
      have hcc := compare_any A4 D0 cap4 dc0 cl dl0 (codeM g (fromM g e)) (bestP g (l.take k)).1 w4 hI4.rd hP4.cod.rd hcl_h.out hP4.len (by omega) (by omega)
      have hways := bestP_ways (g := g) (l := l.take k)
      have hwl : (l.take k).length ≤ 60 := by rw [List.length_take]; omega
      rw [if_neg (by omega)] at hbs
      obtain ⟨P, hP⟩ : ∃ P, P = bestP g (l.take k) := ⟨_, rfl⟩
      rw [← hP] at hbs hcc hways hP4
      obtain ⟨ways, hwy⟩ : ∃ x, P.2.2 = x := ⟨_, rfl⟩
      have hbx4 := hP4.box
      rw [hwy] at hways hbx4
      obtain ⟨⟨c0, c1, c2, c3⟩, f0, f1, f2, f3⟩ := t_box4 hbx4
      obtain ⟨cc, hcv⟩ : ∃ cc, cmpL (codeM g (fromM g e)) P.1 = cc := ⟨_, rfl⟩
      rw [hcv] at hcc
      clear hP0 hneg he' hb1 hb2 her' hPt_h
      by_cases hc1 : cc < 0
      · have hnx : bestP g (l.take (k + 1)) = prtOf g e := by
         obtain ⟨n1, n2⟩ := cmpL_neg.1 (by rw [hcv]; exact hc1 : cmpL (codeM g (fromM g e)) P.1 < 0)
         rw [hbs]
         unfold prtNext
         rw [show (prtOf g e).1 = codeM g (fromM g e) from rfl, if_neg n1, if_pos n2]
        obtain ⟨hP1, hk1⟩ := PtS.store (P := prtOf g e) hbx4 hwk4 hI4 hcl_h.out hnew hblb
        have hKe5 := hKe4.free hk1 fun _ _ e => e
        have hP1' : PtS W (w.heap.size + 1 + 1) b mw me A4 cl cap4 0 (bestP g (l.take (k + 1))) ((((w4.setCell ⟨w.heap.size + 1 + 1, 0, none⟩ (.pointer (some ⟨b, 0, none⟩))).setCell ⟨w.heap.size + 1 + 1, 1, none⟩ (.slice A4 cl cap4)).setCell ⟨w.heap.size + 1 + 1, 2, none⟩ (.int .i64 0)).setCell ⟨w.heap.size + 1 + 1, 3, none⟩ (.int .i64 1)) := by rw [hnx]; exact hP1
        clear hk1 hKe4 hbx4 hwk4 hI4 hb34 hbs hP1 hP4 hnx hcv; have hP1'_h := lH hP1'; have hKe5_h := lH hKe5; have hnew_h := lH hnew; have hcc_h := lH hcc; have hP_h := lH hP; have hwy_h := lH hwy; clear hP1' hKe5 hnew hcc hP hwy
        go_wp2_with (fail)
        refine (hcc_h.out).mono ?_
        rintro e w5 ⟨rfl, rfl⟩
        go_wp2_with (fail)
        go_roundw
        case rel => exact ⟨k + 1, by omega, by go_num, hKe5_h.out, .inr ⟨b, mw, me, A4, cl, cap4, by omega, hP1'_h.out⟩⟩
        case measure => simp [intOf]; omega
      · by_cases hc0 : cc = 0
        · subst hc0
          have hec := cmpL_zero.1 hcv
          have hnx : bestP g (l.take (k + 1)) = (P.1, P.2.1, ways + 1) := by
           rw [hbs]
           unfold prtNext
           rw [show (prtOf g e).1 = codeM g (fromM g e) from rfl, if_pos hec, hwy]
          obtain ⟨⟨s1, s2⟩, _⟩ := set4c (b := .int .i64 (ways + 1)) hbx4
          obtain ⟨t1, t2⟩ := hP4.turn s2
          have hKe5 := hKe4.free s2 fun _ _ e => e
          have hP1' : PtS W (w.heap.size + 1 + 1) b0 mw0 me0 D0 dl0 dc0 0 (bestP g (l.take (k + 1))) (w4.setCell ⟨w.heap.size + 1 + 1, 3, none⟩ (.int .i64 (ways + 1))) := by
           rw [hnx]
           exact ⟨s1, t1, t2, hP4.len, hP4.new, hP4.off⟩
          have hwr : IntKind.i64.wrap (ways + 1) = ways + 1 := IntWalk.i64_in _ (by omega)
          clear s1 s2 t1 t2 hKe4 hbx4 hwk4 hI4 hb34 hbs hP4 hnx hcv hec; have hP1'_h := lH hP1'; have hKe5_h := lH hKe5; have hnew_h := lH hnew; have hcc_h := lH hcc; have hP_h := lH hP; have hwy_h := lH hwy; clear hP1' hKe5 hnew hcc hP hwy
          go_wp2_with (fail)
          refine (hcc_h.out).mono ?_
          rintro e w5 ⟨rfl, rfl⟩
          go_wp2_with (fail)
          go_roundw
          case rel => exact ⟨k + 1, by omega, by go_num, hKe5_h.out, .inr ⟨b0, mw0, me0, D0, dl0, dc0, by omega, hP1'_h.out⟩⟩
          case measure => simp [intOf]; omega
        · have hnx : bestP g (l.take (k + 1)) = P := by
           rw [hbs]
           unfold prtNext
           rw [if_neg (fun h => hc0 (by rw [← hcv]; exact cmpL_zero.2 h)), if_neg (fun h => hc1 (by rw [← hcv]; exact cmpL_neg.2 ⟨fun h2 => hc0 (by rw [← hcv]; exact cmpL_zero.2 h2), h⟩))]
          rw [← hnx] at hP4
          clear hbx4 hwk4 hI4 hb34 hbs hnx hcv; have hP4_h := lH hP4; have hKe4_h := lH hKe4; have hnew_h := lH hnew; have hcc_h := lH hcc; have hP_h := lH hP; have hwy_h := lH hwy; clear hP4 hKe4 hnew hcc hP hwy
          go_wp2_with (fail)
          refine (hcc_h.out).mono ?_
          rintro e w5 ⟨rfl, rfl⟩
          go_wp2_with (fail)
          go_roundw
          case rel => exact ⟨k + 1, by omega, by go_num, hKe4_h.out, .inr ⟨b0, mw0, me0, D0, dl0, dc0, by omega, hP4_h.out⟩⟩
          case measure => simp [intOf]; omega
  · obtain rfl : q = k := by omega
    rw [List.take_of_length_le (by rw [hq_h.out]; exact Nat.le_refl _)] at hPt
    rcases hPt with ⟨h0, _⟩ | ⟨b, mw, me, D, dl, dc, _, hP⟩
    · omega
    have hne : l ≠ [] := by intro h; have := hq_h.out; rw [h] at this; simp at this; omega
    obtain ⟨e', he', -, hb2⟩ := bestP_from (g := g) hne
    have her' := hlr_h.out e' he'
    have hinv := fromM_inv hMo_h.out (e := e') (by rw [hm_h.out]; exact her'.2)
    have hfirst := (from_wire hMo_h.out her'.1 (by rw [hm_h.out]; exact her'.2)).2 ⟨hMo_h.out.wires her'.1 (by rw [hm_h.out]; exact her'.2) _ (first_mem hMo_h.out her'.1 (by rw [hm_h.out]; exact her'.2)), rfl⟩
    rw [← hb2] at hinv hfirst
    obtain ⟨P, hPe⟩ : ∃ P, P = bestP g l := ⟨_, rfl⟩
    rw [← hPe] at hinv hfirst hP
    obtain ⟨ways, hwy⟩ : ∃ x, P.2.2 = x := ⟨_, rfl⟩
    have hnd := hinv.nd1
    have hrg := hinv.rg1
    have hne1 : P.2.1.1 ≠ [] := fun h => by rw [h] at hfirst; cases hfirst
    have hbx := hP.box
    rw [hwy] at hbx
    obtain ⟨_, s3, s4⟩ := set4c (b := .int .i64 (n : Int)) hbx
    obtain ⟨hwk, hcod⟩ := hP.turn s4
    have hlen := hP.len
    have hnew := hP.new
    have hoff := hP.off
    have hKe2 := hKe.free s4 fun _ _ e => e
    obtain ⟨⟨y0, y1, y2, y3⟩, y4, y5, y6, y7⟩ := t_box4 hbx
    obtain ⟨w5, hw5⟩ : ∃ w5, w5 = wo.setCell ⟨w.heap.size + 1 + 1, 2, none⟩ (.int .i64 (n : Int)) := ⟨_, rfl⟩
    rw [← hw5] at s3 hwk hcod hKe2
    have hwk' := hwk
    obtain ⟨d0, d1, d2, d3, d4, d5, d8, d9, k6, hM, hM2⟩ := hwk
    obtain ⟨⟨x0, x1, x2, x3, x4, x5, x6, x7, x8, x9⟩, _, _⟩ := box10 k6
    obtain ⟨⟨z0, z1, z2, z3⟩, z4, z5, z6, z7⟩ := t_box4 s3
    clear hP hne he' hb2 her' hinv hfirst hbx s4 hKe k0o; have hPe_h := lH hPe; have hwy_h := lH hwy; have hnd_h := lH hnd; have hrg_h := lH hrg; have hne1_h := lH hne1; have s3_h := lH s3; have hwk'_h := lH hwk'; have hcod_h := lH hcod; have hlen_h := lH hlen; have hnew_h := lH hnew; have hKe2_h := lH hKe2; have k6_h := lH k6; have hM_h := lH hM; have hM2_h := lH hM2; clear hPe hwy hnd hrg hne1 s3 hwk' hcod hlen hnew hKe2 k6 hM hM2
    go_upto_region 18 with (fail)
    rw [← hw5]
    clear hw5 y0 y1 y2 y3 y4 y5 y6 y7 c0 c1 c2 c3 f0 f1 f2 f3
    go_wp2_with (at_range; refine wp_mi_range rfl _ rfl rfl hM_h.out hnd_h.out ?_; intro w6 hR6 hb6 hz6)
    have hlw : (b ≠ w5.heap.size ∧ mw ≠ w5.heap.size ∧ me ≠ w5.heap.size) ∧ mw ≠ w.heap.size + 1 + 1 ∧ me ≠ w.heap.size + 1 + 1 ∧ w.heap.size + 1 + 1 < w5.heap.size := ⟨by have := t_box_lt k6_h.out; have := hM_h.out.lt; have := hM2_h.out.lt; omega, hM_h.out.ne_cells s3_h.out, hM2_h.out.ne_cells s3_h.out, t_box_lt s3_h.out⟩
    have hlD : ∀ x, x ∈ fpA D → x ≠ w.heap.size + 1 + 1 ∧ x ≠ w5.heap.size := fun x hx => by
     have h1 := hcod_h.out.lt x hx
     refine ⟨fun e => ?_, by omega⟩
     have hc := hcod_h.out
     obtain ⟨a, rfl, rfl⟩ := mem_fpA.1 hx
     exact is_ne_box hc s3_h.out (by decide) e
    have s6 := t_box_below s3_h.out hb6
    have hKe6 := hKe2_h.out.free (Keeps.of_below hb6 (fun _ => False)) (fun _ _ h => h.elim)
    clear x0 x1 x2 x3 x4 x5 x6 x7 x8 x9 z0 z1 z2 z3 z4 z5 z6 z7; have hR6_h := lH hR6; have hb6_h := lH hb6; have s6_h := lH s6; have hKe6_h := lH hKe6; have hlD_h := lH hlD; clear hR6 hb6 s6 hKe6 hlD
    go_frame
    go_loopw [11] (fun (_ : Value) wr => ∃ (L : Int → Bool) (cnt : Nat) (u : Int), MR wr mw w5.heap.size P.2.1.1 L cnt ∧ wr.heap[w.heap.size + 1 + 1]? = some (.cells #[.pointer (some ⟨b, 0, none⟩), .slice D dl dc, .int .i64 u, .int .i64 ways] tCp) ∧ (u = (n : Int) ∨ u ∈ P.2.1.1) ∧ (∀ x, x ∈ P.2.1.1 → L x = false → u ≤ x) ∧ (0 ≤ u ∧ u ≤ (n : Int)) ∧ Keeps (fun x => x = w.heap.size + 1 + 1 ∨ x = w5.heap.size) w6 wr) (fun _ wr => wr.rangeLeft mw w5.heap.size)
    case atStart => exact ⟨_, _, (n : Int), hR6_h.out, s6_h.out, .inl rfl, (fun x hx hL => by rw [decide_eq_true hx] at hL; cases hL), ⟨by omega, Int.le_refl _⟩, Keeps.refl _ _⟩
    case round =>
     clear hR6_h s6_h
     obtain ⟨L, cnt, u, hR, hbx, hu, hle, hur, hK⟩ := hrel
     obtain ⟨wi, rfl⟩ : ∃ x, x = wr := ⟨_, rfl⟩
     have hR_h := lH hR; have hbx_h := lH hbx; have hu_h := lH hu; have hle_h := lH hle; have hK_h := lH hK; clear hR hbx hu hle hK
     go_wp2_with (at_next; refine wp_mr_next rfl _ rfl rfl hR_h.out hnd_h.out ?_ ?_)
     · intro _ hL0
       have hul := least_end hne1_h.out (fun x hx => (hrg_h.out x hx).2) hn100 (fun x hx => hle_h.out x hx (hL0 x)) hu_h.out
       have hKi := hKe6_h.out.free hK_h.out (fun x h1 h2 => by have := hKe2_h.out.size; omega)
       have k1i := t_box_keeps k1_h.out hKi (by omega)
       obtain ⟨q1, q2⟩ := set4 (a := .pointer (some ⟨b, 0, none⟩)) (b := .slice D dl dc) (c := .int .i64 u) (d := .int .i64 ways) k1i
       have hWs := hWz_h.out
       have hnw := hnew_h.out
       have hwk9 := ((hwk'_h.out.below hb6_h.out).keeps hK_h.out (by omega) (by omega) (by omega)).keeps q2 (by omega) (by omega) (by omega)
       have hc9 := ((hcod_h.out.below hb6_h.out).keeps hK_h.out (fun x hx e => by have := hlD_h.out x hx; omega)).keeps q2 fun x hx e => by have := hnw.2.2.2 x hx; omega
       have hB9 := below_keeps (below_keeps bW_h.out hKi bW_h.out.size fun x e => by omega) q2 (by have := bW_h.out.size; have := hKi.size; omega) fun x e => by omega
       obtain ⟨⟨y0, y1, y2, y3⟩, y4, y5, y6, y7⟩ := t_box4 k1i
       obtain ⟨⟨z0, z1, z2, z3⟩, z4, z5, z6, z7⟩ := t_box4 hbx_h.out
       have hnw' : w.heap.size ≤ b ∧ w.heap.size ≤ mw ∧ w.heap.size ≤ me ∧ Fresh w.heap.size D := ⟨by omega, by omega, by omega, hnw.2.2.2.mono (by omega)⟩
       clear hKi k1i q2 hnw hL0; have q1_h := lH q1; have hwk9_h := lH hwk9; have hc9_h := lH hc9; have hB9_h := lH hB9; have hul_h := lH hul; have hnw'_h := lH hnw'; clear q1 hwk9 hc9 hB9 hul hnw'
       go_wp2_with (fail)
       refine bodyPost_ret (results_cell_row rfl _ _ (w.heap.size + 1) _ _ (0, 0) _ rfl q1_h.out Tryz.underlying115 rfl (by kernel_rfl)) rfl ?_
       refine ⟨b, mw, me, D, dl, dc, ?_, ?_⟩
       · rw [← hPe_h.out, hwy_h.out, ← hul_h.out]
       · rw [← hPe_h.out]
         exact ⟨hwk9_h.out, hc9_h.out, hlen_h.out, hnw'_h.out, hB9_h.out⟩
     · intro x w8 cnt' hxm hLx hwf hR8 hlt8 hk8 hz8 hen
       have hxr := hrg_h.out x hxm
       have hbx8 := t_box_keeps hbx_h.out hk8 (by omega)
       obtain ⟨⟨z0, z1, z2, z3⟩, z4, z5, z6, z7⟩ := t_box4 hbx8
       have hK8 := hK_h.out.trans (hk8.mono (T := fun x => x = w.heap.size + 1 + 1 ∨ x = w5.heap.size) fun _ _ e => .inr e)
       have key : ∀ u' : Int, (u' = u ∧ u ≤ x ∨ u' = x ∧ x < u) → MR (w8.setCell ⟨w.heap.size + 1 + 1, 2, none⟩ (.int .i64 u')) mw w5.heap.size P.2.1.1 (fun z => L z && !decide (z = x)) cnt' ∧ (w8.setCell ⟨w.heap.size + 1 + 1, 2, none⟩ (.int .i64 u')).heap[w.heap.size + 1 + 1]? = some (.cells #[.pointer (some ⟨b, 0, none⟩), .slice D dl dc, .int .i64 u', .int .i64 ways] tCp) ∧ (u' = (n : Int) ∨ u' ∈ P.2.1.1) ∧ (∀ y, y ∈ P.2.1.1 → (L y && !decide (y = x)) = false → u' ≤ y) ∧ (0 ≤ u' ∧ u' ≤ (n : Int)) ∧ Keeps (fun x => x = w.heap.size + 1 + 1 ∨ x = w5.heap.size) w6 (w8.setCell ⟨w.heap.size + 1 + 1, 2, none⟩ (.int .i64 u')) := fun u' hu' => by
        obtain ⟨_, s3, s4⟩ := set4c (b := .int .i64 u') hbx8
        refine ⟨hR8.keeps s4 hlw.2.1 (by omega), s3, ?_, fun y hy hL => ?_, ?_, hK8.trans (s4.mono fun _ _ e => .inl e)⟩
        · rcases hu' with ⟨rfl, _⟩ | ⟨rfl, _⟩
          · exact hu_h.out
          · exact .inr hxm
        · cases hLy : L y
          · have := hle_h.out y hy hLy
            omega
          · rw [hLy] at hL
            have : y = x := by simpa using hL
            omega
        · omega
       clear hk8 hbx8 hK8 hxm hLx; have hR8_h := lH hR8; have key_h := lH key; clear hR8 key
       by_cases hux : x < u
       · have hK9 := key_h.out x (.inr ⟨rfl, hux⟩)
         have hmn : min u x = x := by omega
         go_wp2_with (fail)
         go_roundw
         case rel => exact ⟨_, cnt', x, hK9⟩
         case measure => rw [hK9.1.left_eq, hR_h.out.left_eq]; exact hlt8
       · have hK9 := key_h.out u (.inl ⟨rfl, by omega⟩)
         have hmn : min u x = u := by omega
         go_wp2_with (fail)
         go_roundw
         case rel => exact ⟨_, cnt', u, hK9⟩
         case measure => rw [hK9.1.left_eq, hR_h.out.left_eq]; exact hlt8
structure Cp where
 b : Nat
 mw : Nat
 me : Nat
 D : Option Addr
 dl : Nat
 dc : Nat
 P : Prt
def Cp.cells (x : Cp) : List Value := [.pointer (some ⟨x.b, 0, none⟩), .slice x.D x.dl x.dc, .int .i64 (leastW x.P.2.1.1), .int .i64 x.P.2.2]
structure CpOk (w : World) (x : Cp) : Prop where
 wk : WkR w x.b x.mw x.me x.P.2.1
 cod : IS w x.D x.dc x.P.1
 len : x.P.1.length = x.dl
def CpGood (w : World) (x : Cp) : Prop := IS w x.D x.dc x.P.1 ∧ x.P.1.length = x.dl ∧ x.dl ≤ 1048576 ∧ 0 ≤ leastW x.P.2.1.1 ∧ leastW x.P.2.1.1 ≤ 100
theorem befP_ntrans {a b c : Prt} (h1 : befP a b = false) (h2 : befP b c = false) : befP a c = false := by
 cases h3 : befP a c
 · rfl
 · exfalso
   unfold befP at h1 h2 h3
   by_cases e1 : a.1 = b.1
   · rw [if_pos e1] at h1
     have h1' := of_decide_eq_false h1
     by_cases e2 : b.1 = c.1
     · rw [if_pos e2] at h2
       rw [if_pos (e1.trans e2)] at h3
       have h2' := of_decide_eq_false h2
       have h3' := of_decide_eq_true h3
       omega
     · rw [if_neg e2] at h2
       rw [if_neg (fun e => e2 (e1.symm.trans e)), e1, h2] at h3
       cases h3
   · rw [if_neg e1] at h1
     by_cases e2 : b.1 = c.1
     · rw [if_neg (fun e => e1 (e.trans e2.symm)), ← e2, h1] at h3
       cases h3
     · rw [if_neg e2] at h2
       have hba : lexI b.1 a.1 = true := (lexI_tri e1).resolve_left (by rw [h1]; simp)
       have hcb : lexI c.1 b.1 = true := (lexI_tri e2).resolve_left (by rw [h2]; simp)
       have hca := lexI_trans hcb hba
       by_cases e3 : a.1 = c.1
       · rw [e3, lexI_irr] at hca
         cases hca
       · rw [if_neg e3, lexI_asym hca] at h3
         cases h3
set_option maxHeartbeats 2000000 in
theorem cmpC_any (x y : Cp) (W : World) (hx : CpGood W x) (hy : CpGood W y) :
  Calls Tryz.prog 111 #[.agg x.cells.toArray, .agg y.cells.toArray] W fun e w' => e = .returned (.int .i64 (cmpP x.P y.P)) ∧ w' = (W.alloc (.cells x.cells.toArray tCp)).alloc (.cells y.cells.toArray tCp) := by
 obtain ⟨xb, xmw, xme, XD, xdl, xdc, P⟩ := x
 obtain ⟨yb, ymw, yme, YD, ydl, ydc, P'⟩ := y
 obtain ⟨h1, h2, h3, h4, h5⟩ := hx
 obtain ⟨k1, k2, k3, k4, k5⟩ := hy
 simp only at h1 h2 h3 h4 h5 k1 k2 k3 k4 k5
 show Calls _ _ #[.agg #[.pointer (some ⟨xb, 0, none⟩), .slice XD xdl xdc, .int .i64 (leastW P.2.1.1), .int .i64 P.2.2], .agg #[.pointer (some ⟨yb, 0, none⟩), .slice YD ydl ydc, .int .i64 (leastW P'.2.1.1), .int .i64 P'.2.2]] W fun e w' => e = .returned (.int .i64 (cmpP P P')) ∧ w' = (W.alloc (.cells #[.pointer (some ⟨xb, 0, none⟩), .slice XD xdl xdc, .int .i64 (leastW P.2.1.1), .int .i64 P.2.2] tCp)).alloc (.cells #[.pointer (some ⟨yb, 0, none⟩), .slice YD ydl ydc, .int .i64 (leastW P'.2.1.1), .int .i64 P'.2.2] tCp)
 obtain ⟨u, hu⟩ : ∃ u, leastW P.2.1.1 = u := ⟨_, rfl⟩
 obtain ⟨u', hu'⟩ : ∃ u, leastW P'.2.1.1 = u := ⟨_, rfl⟩
 rw [hu] at h4 h5 ⊢
 rw [hu'] at k4 k5 ⊢
 obtain ⟨wy, hwy⟩ : ∃ u, P.2.2 = u := ⟨_, rfl⟩
 obtain ⟨wy', hwy'⟩ : ∃ u, P'.2.2 = u := ⟨_, rfl⟩
 rw [hwy, hwy']
 obtain ⟨W2, hW2, b2, q0, q1⟩ := twoBoxesC W (.cells #[.pointer (some ⟨xb, 0, none⟩), .slice XD xdl xdc, .int .i64 u, .int .i64 wy] tCp) (.cells #[.pointer (some ⟨yb, 0, none⟩), .slice YD ydl ydc, .int .i64 u', .int .i64 wy'] tCp)
 rw [← hW2]
 have hcc := compare_any XD YD xdc ydc xdl ydl P.1 P'.1 W2 (h1.below b2).rd (k1.below b2).rd h2 k2 h3 k3
 obtain ⟨⟨c0, c1, c2, c3⟩, f0, f1, f2, f3⟩ := t_box4 q0
 obtain ⟨⟨d0, d1, d2, d3⟩, g0, g1, g2, g3⟩ := t_box4 q1
 have hcp : cmpP P P' = if cmpL P.1 P'.1 = 0 then u - u' else cmpL P.1 P'.1 := by unfold cmpP; rw [hu, hu']
 rw [hcp]
 obtain ⟨cc, hcv⟩ : ∃ cc, cmpL P.1 P'.1 = cc := ⟨_, rfl⟩
 rw [hcv] at hcc ⊢
 have hwr : IntKind.i64.wrap (u - u') = u - u' := IntWalk.i64_in _ (by omega)
 clear h1 h2 k1 k2 hu hu' hwy hwy' hcp hcv q0 q1; have hcc_h := lH hcc; have b2_h := lH b2; clear hcc b2
 by_cases h0 : cc = 0
 · subst h0
   rw [if_pos rfl]
   go_enter Tryz.func111, Tryz.ntmps111
   go_upto_region 1 with (fail)
   rw [← hW2]
   clear hW2
   go_wp2_with (fail)
   refine (hcc_h.out).mono ?_
   rintro e w3 ⟨rfl, rfl⟩
   go_wp2_with (fail)
   go_ret
   exact ⟨rfl, rfl⟩
 · rw [if_neg h0]
   go_enter Tryz.func111, Tryz.ntmps111
   go_upto_region 1 with (fail)
   rw [← hW2]
   clear hW2
   go_wp2_with (fail)
   refine (hcc_h.out).mono ?_
   rintro e w3 ⟨rfl, rfl⟩
   go_wp2_with (fail)
   go_ret
   exact ⟨rfl, rfl⟩
abbrev tMG : TypeId := 133
abbrev tIs : TypeId := 23
theorem zeroIs (w : World) : (zeroValue tIs).run Tryz.prog w = .ok (.slice none 0 0) w := by kernel_rfl
def headElem : Value → Option (DataW Value × List MemPlace)
 | .slice a n c => some (.held (.slice a n c), [])
 | _ => none
theorem headElem_inv {v : Value} {y : DataW Value × List MemPlace} (h : headElem v = some y) : (∃ a n c, v = .slice a n c) ∧ y = (.held v, []) := by
 unfold headElem at h
 split at h
 · exact ⟨⟨_, _, _, rfl⟩, (Option.some.inj h).symm⟩
 · cases h
theorem headElem_mk (h : Hd) : headElem h.val = some (.held h.val, []) := rfl
def noHd : Hd := (none, 0, [])
structure DK (D : DataW Value) (K : List Int) (H : Int → Hd) : Prop where
 has : ∀ q, Maps.has D (kI q) = decide (q ∈ K)
 at_ : ∀ q, D.atKey (kI q) (.held noHd.val) = .held (H q).val
 no : ∀ q, q ∉ K → H q = noHd
 map : Maps.IsMap D
def GM (w : World) (mb nb : Nat) (K : List Int) (H : Int → Hd) : Prop := ∃ D, w.ownsMap (H := Value) Tryz.prog tInt headElem mb nb D ∧ DK D K H
def GR (w : World) (mb r nb : Nat) (K : List Int) (H : Int → Hd) (L : Int → Bool) (cnt : Nat) : Prop := ∃ D left, w.ranges (H := Value) Tryz.prog tInt headElem mb r nb D left cnt ∧ DK D K H ∧ ∀ x, left (kI x) = L x
def setH (H : Int → Hd) (q : Int) (h : Hd) (x : Int) : Hd := if x = q then h else H x
def addK (K : List Int) (q : Int) : List Int := if q ∈ K then K else K ++ [q]
theorem mem_addK {K : List Int} {q x : Int} : x ∈ addK K q ↔ x ∈ K ∨ x = q := by
 unfold addK
 split
 · rename_i h
   exact ⟨.inl, fun e => e.elim id fun e => e ▸ h⟩
 · simp
def delK (K : List Int) (q : Int) : List Int := K.filter fun x => decide (x ≠ q)
theorem mem_delK {K : List Int} {q x : Int} : x ∈ delK K q ↔ x ∈ K ∧ x ≠ q := by unfold delK; rw [List.mem_filter, decide_eq_true_eq]
theorem DK.put {D : DataW Value} {K : List Int} {H : Int → Hd} (h : DK D K H) (q : Int) (hd : Hd) : DK (D.put (kI q) (.held hd.val)) (addK K q) (setH H q hd) := by
 refine ⟨fun x => ?_, fun x => ?_, fun x hx => ?_, h.map.put _ _⟩
 · by_cases e : x = q
   · subst e
     rw [Maps.has_put_same h.map (kI_key x), decide_eq_true (mem_addK.2 (.inr rfl))]
   · rw [Maps.has_put_other (fun h => e (kI_inj h)), h.has]
     congr 1
     exact propext ⟨fun hx => mem_addK.2 (.inl hx), fun hx => (mem_addK.1 hx).resolve_right e⟩
 · unfold setH
   by_cases e : x = q
   · subst e
     rw [Maps.atKey_put_same h.map (kI_key x), if_pos rfl]
   · rw [Maps.atKey_put_other (fun h => e (kI_inj h)), h.at_, if_neg e]
 · unfold setH
   rw [if_neg fun e => hx (mem_addK.2 (.inr e))]
   exact h.no x fun hk => hx (mem_addK.2 (.inl hk))
theorem DK.del {D : DataW Value} {K : List Int} {H : Int → Hd} (h : DK D K H) (q : Int) : DK (D.del (kI q)) (delK K q) (setH H q noHd) := by
 refine ⟨fun x => ?_, fun x => ?_, fun x hx => ?_, h.map.del _⟩
 · by_cases e : x = q
   · subst e
     rw [Maps.has_del_same, decide_eq_false fun hx => (mem_delK.1 hx).2 rfl]
   · rw [Maps.has_del_other (fun h => e (kI_inj h)), h.has]
     congr 1
     exact propext ⟨fun hx => mem_delK.2 ⟨hx, e⟩, fun hx => (mem_delK.1 hx).1⟩
 · unfold setH
   by_cases e : x = q
   · subst e
     rw [Maps.atKey_del_same, if_pos rfl]
   · rw [Maps.atKey_del_other (fun h => e (kI_inj h)), h.at_, if_neg e]
 · unfold setH
   split
   · rfl
   · rename_i e
     exact h.no x fun hk => hx (mem_delK.2 ⟨hk, e⟩)
section
variable {w w' : World} {mb r nb cnt : Nat} {K : List Int} {H : Int → Hd} {L : Int → Bool}
theorem GM.lt (h : GM w mb nb K H) : mb < w.heap.size := h.choose_spec.1.lt
theorem GM.frame (h : GM w mb nb K H) (hs : w'.heap[mb]? = w.heap[mb]?) : GM w' mb nb K H := by
 obtain ⟨D, ⟨es, clock, hb, q⟩, hD⟩ := h
 exact ⟨D, ⟨es, clock, hs.trans hb, q⟩, hD⟩
theorem GM.below (h : GM w mb nb K H) (hb : Below w.heap.size w w') : GM w' mb nb K H := h.frame (hb.block mb h.lt)
theorem GM.keeps (h : GM w mb nb K H) {S : Nat → Prop} (hk : Keeps S w w') (hS : ¬ S mb) : GM w' mb nb K H := h.frame (hk.block mb h.lt hS)
theorem GM.made (w : World) : GM (w.alloc (.map #[] 0)) w.heap.size 0 [] (fun _ => noHd) :=
 ⟨_, World.ownsMap_made w _ _ _, ⟨fun _ => rfl, fun _ => rfl, fun _ _ => rfl, Maps.isMap_empty⟩⟩
theorem GR.owns (h : GR w mb r nb K H L cnt) : GM w mb nb K H := by
 obtain ⟨D, left, h1, h2, _⟩ := h
 exact ⟨D, h1.owns, h2⟩
theorem GR.frame (h : GR w mb r nb K H L cnt) (hs : w'.heap[mb]? = w.heap[mb]?) (hr : w'.heap[r]? = w.heap[r]?) : GR w' mb r nb K H L cnt := by
 obtain ⟨D, left, ⟨es, clock, since, seen, c0, h1, h2, h3, h4, h5, q⟩, hD, hL⟩ := h
 exact ⟨D, left, ⟨es, clock, since, seen, c0, hs.trans h1, h2, h3, h4, hr.trans h5, q⟩, hD, hL⟩
theorem GR.lt (h : GR w mb r nb K H L cnt) : r < w.heap.size := by obtain ⟨D, left, h1, _⟩ := h; exact h1.lt
theorem GR.below (h : GR w mb r nb K H L cnt) (hb : Below w.heap.size w w') : GR w' mb r nb K H L cnt := h.frame (hb.block mb h.owns.lt) (hb.block r h.lt)
theorem GR.keeps (h : GR w mb r nb K H L cnt) {S : Nat → Prop} (hk : Keeps S w w') (hS : ¬ S mb) (hr : ¬ S r) : GR w' mb r nb K H L cnt := h.frame (hk.block mb h.owns.lt hS) (hk.block r h.lt hr)
theorem GR.left_eq (h : GR w mb r nb K H L cnt) : w.rangeLeft mb r = cnt := by obtain ⟨D, left, h1, _⟩ := h; exact h1.left_eq
theorem GM.ne_cells {g : Nat} {cs : Array Value} {t : TypeId} {fr : Nat × Nat} (h : GM w mb nb K H) (hg : w.heap[g]? = some (.cells cs t fr)) : mb ≠ g := fun e => by
 obtain ⟨D, ⟨es, clock, hb, _⟩, _⟩ := h
 rw [e, hg] at hb
 cases hb
theorem GM.ne_sl {x : Nat} {e : TypeId} {sz n cap : Nat} {A : Option Addr} {xs : List Value} (h : GM w mb nb K H) (hs : Sl w e sz A n cap xs) (hx : x ∈ fpA A) : mb ≠ x := by
 rcases hs.2.2.2 with ⟨rfl, _⟩ | ⟨g, off, cur, rfl, hg, _⟩
 · simp at hx
 · obtain rfl : x = g := by simpa using hx
   exact h.ne_cells hg
end
section
variable {w : World} {ops : Array Oper} {rest : List Oper} {o : Oper} {a : Act} {Q : Exit → Act → World → Prop} {mb nb : Nat} {K : List Int} {H : Int → Hd}
theorem wp_mg_get (hg : o.guard = none) (m x : Operand) (hop : o.op = Op.lookup tMG m x false) (hm : a.eval m = .map (some mb)) (h : GM w mb nb K H) (y : Int) (hx : a.eval x = .int .i64 y) (hw : (Lit.int .i64 y).wf = true)
  (u : Value) (hu : (H y).val = u) (hK : wpList Tryz.prog ops Q rest (a.put o.dst u) w) : wpList Tryz.prog ops Q (o :: rest) a w := by
 subst hu
 obtain ⟨D, h1, hD⟩ := h
 refine wpList_plain hg fun K' hK' => ?_
 obtain ⟨v, ps, hrun, hv⟩ := World.ownsMap.lookup h1 lawI Tryz.underlying133 (zeroIs w) (zd := .held noHd.val) (zp := []) rfl (Maps.keyOf_int_mk Tryz.underlying3 hw)
 obtain ⟨_, he⟩ := headElem_inv hv
 rw [show (Lit.int .i64 y : Lit) = kI y from rfl, hD.at_] at he
 injection he with he _
 injection he with he
 subst he
 unfold Oper.wp
 simp [execOp, hop, hm, hx, hrun, Result.andThen]
 exact hK' _ _ hK
theorem wp_mg_put (hg : o.guard = none) (m x v : Operand) (hop : o.op = Op.mapUpdate tMG m x v) (hm : a.eval m = .map (some mb)) (h : GM w mb nb K H) (hl : nb < maxLen) (y : Int) (hx : a.eval x = .int .i64 y) (hw : (Lit.int .i64 y).wf = true) (hd : Hd) (hv : a.eval v = hd.val)
  (hK : ∀ w', GM w' mb (nb + 1) (addK K y) (setH H y hd) → Keeps (fun k => k = mb) w w' → wpList Tryz.prog ops Q rest (a.put o.dst undef) w') : wpList Tryz.prog ops Q (o :: rest) a w := by
 obtain ⟨D, h1, hD⟩ := h
 refine wpList_mapUpdate_own w hg m x v tMG hop tInt tIs lawI Tryz.underlying133 headElem mb nb D hm h1 hl _ _ (kI y) hx hv (Maps.keyOf_int_mk Tryz.underlying3 hw) (.held hd.val) [] (headElem_mk hd) fun w' h2 h3 => ?_
 exact hK w' ⟨_, h2, hD.put y hd⟩ ((keeps_of_grown h3).mono fun k _ e => Option.some.inj e)
theorem wp_mg_del (hg : o.guard = none) (m x : Operand) (hop : o.op = Op.call { callee := Callee.builtin Builtin.delete, args := #[m, x], argTypes := #[tMG, tInt] }) (hm : a.eval m = .map (some mb)) (h : GM w mb nb K H) (y : Int) (hx : a.eval x = .int .i64 y) (hw : (Lit.int .i64 y).wf = true)
  (hK : ∀ w', GM w' mb nb (delK K y) (setH H y noHd) → Keeps (fun k => k = mb) w w' → wpList Tryz.prog ops Q rest (a.put o.dst (.tuple #[])) w') : wpList Tryz.prog ops Q (o :: rest) a w := by
 obtain ⟨D, h1, hD⟩ := h
 refine wpList_delete_own w hg m x tMG tInt hop tIs lawI Tryz.underlying133 headElem mb nb D hm h1 _ (kI y) hx (Maps.keyOf_int_mk Tryz.underlying3 hw) fun w' h2 h3 => ?_
 exact hK w' ⟨_, h2, hD.del y⟩ ((keeps_of_grown h3.grown).mono fun k _ e => Option.some.inj e)
theorem wp_mg_range (hg : o.guard = none) (m : Operand) (hop : o.op = Op.range tMG m) (hm : a.eval m = .map (some mb)) (h : GM w mb nb K H)
  (hK : ∀ w' cnt, GR w' mb w.heap.size nb K H (fun x => decide (x ∈ K)) cnt → Below w.heap.size w w' → w'.heap.size = w.heap.size + 1 → wpList Tryz.prog ops Q rest (a.put o.dst (.pointer (some ⟨w.heap.size, 0, none⟩))) w') : wpList Tryz.prog ops Q (o :: rest) a w := by
 obtain ⟨D, h1, hD⟩ := h
 refine wpList_range_own w hg m tMG hop tInt tIs lawI Tryz.underlying133 headElem mb nb D hm h1 fun w' h2 h3 h4 => ?_
 exact hK w' _ ⟨D, _, h2, hD, fun x => hD.has x⟩ ⟨h3.os, h3.tape, h3.output, h3.size, fun k hk => h3.block k hk (by simp)⟩ h4
set_option maxRecDepth 100000 in
theorem wp_gr_next (hg : o.guard = none) (it : Operand) (hop : o.op = Op.next it false) {r cnt : Nat} {L : Int → Bool} (hit : a.eval it = .pointer (some ⟨r, 0, none⟩)) (h : GR w mb r nb K H L cnt)
  (hDone : cnt = 0 → (∀ x, L x = false) → wpList Tryz.prog ops Q rest (a.put o.dst (.tuple #[.bool false])) w)
  (hMore : ∀ (x : Int) (w' : World) (cnt' : Nat), x ∈ K → L x = true → (Lit.int .i64 x).wf = true → GR w' mb r nb K H (fun z => L z && !decide (z = x)) cnt' → cnt' < cnt → Keeps (fun k => k = r) w w' → w'.heap.size = w.heap.size →
   (Instr.entry (.pointer (some ⟨r, 0, none⟩))).run Tryz.prog w' = .ok (.tuple #[.int .i64 x, (H x).val]) w' → wpList Tryz.prog ops Q rest (a.put o.dst (.tuple #[.bool true, .int .i64 x, (H x).val])) w') :
  wpList Tryz.prog ops Q (o :: rest) a w := by
 obtain ⟨D, left, hr, hD, hL⟩ := h
 refine wpList_next_ranges w hg it hop tInt lawI headElem (Value.int .i64) (fun t : Option Addr × Nat × Nat => Value.slice t.1 t.2.1 t.2.2) (fun key kl hkey => by obtain ⟨x, rfl, _⟩ := Maps.keyOf_int_inv Tryz.underlying3 hkey; exact ⟨x, rfl⟩) (fun v y hv => by obtain ⟨⟨a, n, c, rfl⟩, _⟩ := headElem_inv hv; exact ⟨(a, n, c), rfl⟩)
  mb r nb D left cnt hit hr (fun h0 h1 => hDone h0 fun x => by rw [← hL]; exact h1 _) fun x c kl y w' cnt' hkey hl hv hat h1 h2 h3 h4 h5 => ?_
 obtain ⟨x', ex, rfl, hwx⟩ := Maps.keyOf_int_inv Tryz.underlying3 hkey
 cases ex
 have hx : x ∈ K := by
  have := Maps.has_true_of_atKey (k := kI x) hat
  rw [hD.has] at this
  simpa using this
 obtain ⟨_, he⟩ := headElem_inv hv
 have h6 := hat (.held noHd.val)
 rw [show (Lit.int .i64 x : Lit) = kI x from rfl, hD.at_, he] at h6
 injection h6 with h6
 have h7 : (Hd.val (H x)) = Value.slice c.1 c.2.1 c.2.2 := h6
 rw [← h7] at h5 ⊢
 refine hMore x w' cnt' hx (by rw [← hL]; exact hl) hwx ⟨D, _, h1, hD, fun z => ?_⟩ h2 ((keeps_of_grown h3).mono fun k _ e => Option.some.inj e) h4 h5
 rw [hL]
 congr 2
 by_cases e : z = x
 · subst e
   rw [show (kI z).sameKey (.int .i64 z) = true from WideAt.sameKey_self (a := kI z) (kI_key z)]
   simp
 · rw [show (Lit.int .i64 x : Lit) = kI x from rfl, Maps.sameKey_ne (fun h => e (kI_inj h))]
   simp [e]
end
end Go.Proofs.YtjompikdkhhlgaaGreat
namespace Go.Proofs.YtjompikdkhhlgaaGreat
open Go.RowKit Go.Shelf
def rnS : Ren := ⟨fun | 6 => 110 | 14 => 123 | 15 => 124 | 20 => 127 | 21 => 128 | 22 => 129 | 23 => 130 | 24 => 131 | 25 => 132 | 26 => 133 | 27 => 134 | 28 => 135 | 29 => 136 | 46 => 138 | 47 => 139 | 48 => 140 | 49 => 141 | 50 => 142 | 57 => 143 | n => n,
 fun | 0 => 0 | 3 => 3 | 4 => 4 | 5 => 5 | 9 => 9 | 22 => 112 | 24 => 115 | 25 => 137 | 39 => 148 | 45 => 151 | 46 => 152 | 50 => 141 | 53 => 158 | 55 => 160 | 66 => 161 | 70 => 165 | 76 => 167 | 77 => 125 | n => n, fun n => n⟩
theorem layS : SlLaysF0.n6 Tryz.prog rnS where
 mixed := by kernel_rfl
 f6 := ⟨Tryz.f110.name, by decide, Tryz.func110.trans (congrArg some (by kernel_rfl))⟩
 f14 := ⟨Tryz.f123.name, by decide, Tryz.func123.trans (congrArg some (by kernel_rfl))⟩
 f15 := Tryz.func124.trans (congrArg some (by kernel_rfl))
 f20 := ⟨Tryz.f127.name, by decide, Tryz.func127.trans (congrArg some (by kernel_rfl))⟩
 f21 := ⟨Tryz.f128.name, by decide, Tryz.func128.trans (congrArg some (by kernel_rfl))⟩
 f22 := ⟨Tryz.f129.name, by decide, Tryz.func129.trans (congrArg some (by kernel_rfl))⟩
 f23 := ⟨Tryz.f130.name, by decide, Tryz.func130.trans (congrArg some (by kernel_rfl))⟩
 f24 := ⟨Tryz.f131.name, by decide, Tryz.func131.trans (congrArg some (by kernel_rfl))⟩
 f25 := ⟨Tryz.f132.name, by decide, Tryz.func132.trans (congrArg some (by kernel_rfl))⟩
 f26 := ⟨Tryz.f133.name, by decide, Tryz.func133.trans (congrArg some (by kernel_rfl))⟩
 f27 := ⟨Tryz.f134.name, by decide, Tryz.func134.trans (congrArg some (by kernel_rfl))⟩
 f28 := Tryz.func135.trans (congrArg some (by kernel_rfl))
 f29 := Tryz.func136.trans (congrArg some (by kernel_rfl))
 f46 := ⟨Tryz.f138.name, by decide, Tryz.func138.trans (congrArg some (by kernel_rfl))⟩
 f47 := Tryz.func139.trans (congrArg some (by kernel_rfl))
 f48 := Tryz.func140.trans (congrArg some (by kernel_rfl))
 f49 := ⟨Tryz.f141.name, by decide, Tryz.func141.trans (congrArg some (by kernel_rfl))⟩
 f50 := ⟨Tryz.f142.name, by decide, Tryz.func142.trans (congrArg some (by kernel_rfl))⟩
 f57 := ⟨Tryz.f143.name, by decide, Tryz.func143.trans (congrArg some (by kernel_rfl))⟩
 t0 := by kernel_rfl
 a0 := fun _ => by kernel_rfl
 z0 := fun _ => by kernel_rfl
 v0 := fun _ => by kernel_rfl
 t3 := by kernel_rfl
 a3 := fun _ => by kernel_rfl
 z3 := fun _ => by kernel_rfl
 v3 := fun _ => by kernel_rfl
 t4 := by kernel_rfl
 a4 := fun _ => by kernel_rfl
 z4 := fun _ => by kernel_rfl
 v4 := fun _ => by kernel_rfl
 t5 := by kernel_rfl
 a5 := fun _ => by kernel_rfl
 z5 := fun _ => by kernel_rfl
 v5 := fun _ => by kernel_rfl
 t9 := by kernel_rfl
 a9 := fun _ => by kernel_rfl
 z9 := fun _ => by kernel_rfl
 v9 := fun _ => by kernel_rfl
 t22 := by kernel_rfl
 a22 := fun _ => by kernel_rfl
 z22 := fun _ => by kernel_rfl
 v22 := fun _ => by kernel_rfl
 t25 := by kernel_rfl
 a25 := fun _ => by kernel_rfl
 z25 := fun _ => by kernel_rfl
 v25 := fun _ => by kernel_rfl
 t39 := by kernel_rfl
 a39 := fun _ => by kernel_rfl
 z39 := fun _ => by kernel_rfl
 v39 := fun _ => by kernel_rfl
 t45 := by kernel_rfl
 a45 := fun _ => by kernel_rfl
 z45 := fun _ => by kernel_rfl
 v45 := fun _ => by kernel_rfl
 t46 := by kernel_rfl
 a46 := fun _ => by kernel_rfl
 z46 := fun _ => by kernel_rfl
 v46 := fun _ => by kernel_rfl
 t50 := by kernel_rfl
 a50 := fun _ => by kernel_rfl
 z50 := fun _ => by kernel_rfl
 v50 := fun _ => by kernel_rfl
 t53 := by kernel_rfl
 a53 := fun _ => by kernel_rfl
 z53 := fun _ => by kernel_rfl
 v53 := fun _ => by kernel_rfl
 t55 := by kernel_rfl
 a55 := fun _ => by kernel_rfl
 z55 := fun _ => by kernel_rfl
 v55 := fun _ => by kernel_rfl
 t66 := by kernel_rfl
 a66 := fun _ => by kernel_rfl
 z66 := fun _ => by kernel_rfl
 v66 := fun _ => by kernel_rfl
 t70 := by kernel_rfl
 a70 := fun _ => by kernel_rfl
 z70 := fun _ => by kernel_rfl
 v70 := fun _ => by kernel_rfl
 t76 := by kernel_rfl
 a76 := fun _ => by kernel_rfl
 z76 := fun _ => by kernel_rfl
 v76 := fun _ => by kernel_rfl
 t77 := by kernel_rfl
 a77 := fun _ => by kernel_rfl
 z77 := fun _ => by kernel_rfl
 v77 := fun _ => by kernel_rfl
theorem flat_get {α : Type} {f : α → List Value} {k : Nat} (hk : ∀ x, (f x).length = k) : ∀ (l : List α) (i r : Nat) (x : α), l[i]? = some x → r < k → (l.flatMap f)[i * k + r]? = (f x)[r]?
 | [], i, _, _, h, _ => by simp at h
 | a :: l, 0, r, x, h, hr => by
   obtain rfl : a = x := by simpa using h
   rw [List.flatMap_cons, Nat.zero_mul, Nat.zero_add, List.getElem?_append_left (by rw [hk]; exact hr)]
 | a :: l, i + 1, r, x, h, hr => by
   rw [List.flatMap_cons, List.getElem?_append_right (by rw [hk, Nat.add_mul]; omega), hk, show (i + 1) * k + r - k = i * k + r by rw [Nat.add_mul]; omega]
   exact flat_get hk l i r x (by simpa using h) hr
theorem flat_len {α : Type} {f : α → List Value} {k : Nat} (hk : ∀ x, (f x).length = k) : ∀ l : List α, (l.flatMap f).length = l.length * k
 | [] => by simp
 | a :: l => by rw [List.flatMap_cons, List.length_append, hk, flat_len hk l, List.length_cons, Nat.add_mul]; omega
theorem flatK_list {α : Type} [Inhabited α] {f : α → List Value} {k : Nat} (hk : ∀ x, (f x).length = k) (h0 : 0 < k) (d : Array α) : (Sort.flatK f k d).toList = d.toList.flatMap f := by
 apply List.ext_getElem?
 intro j
 by_cases hj : j < d.size * k
 · have hi : j / k < d.size := by rw [Nat.div_lt_iff_lt_mul h0]; exact hj
   have hr : j % k < k := Nat.mod_lt _ h0
   have h1 := flat_get hk d.toList (j / k) (j % k) d[j / k]! (by rw [Array.getElem?_toList, Array.getElem?_eq_getElem hi, getElem!_pos d _ hi]) hr
   rw [show j / k * k + j % k = j by rw [Nat.mul_comm]; exact Nat.div_add_mod j k] at h1
   rw [h1]
   have h2 := Sort.get_flatK f k d j hj
   rw [Array.getElem?_toList, Array.getElem?_eq_getElem (by rw [Sort.size_flatK]; exact hj), ← getElem!_pos (Sort.flatK f k d) j (by rw [Sort.size_flatK]; exact hj), h2, List.getElem?_eq_getElem (by rw [hk]; exact hr), getElem!_pos (f d[j / k]!) _ (by rw [hk]; exact hr)]
 · rw [List.getElem?_eq_none (by simp [Sort.size_flatK]; omega), List.getElem?_eq_none (by rw [flat_len hk]; simp; omega)]
theorem sort_keeps {α : Type} [Inhabited α] (enc : α → List Value) (k : Nat) (w : World) (blk off n : Nat) (d : Array α) (os : Array Obj) : Keeps (fun b => b = blk) w (sortWorldK enc k w blk off n d os) := by
 refine ⟨rfl, rfl, rfl, ?_, fun i hi hne => ?_⟩
 · show w.heap.size ≤ ((w.heap.modify blk _) ++ os).size
   simp
 · show ((w.heap.modify blk (Sort.onCells (Sort.putCells id off (Sort.flatK enc k d)))) ++ os)[i]? = _
   rw [Array.getElem?_append_left (by simpa using hi), Array.getElem?_modify, if_neg (fun e => hne e.symm)]
theorem sort_sl {α : Type} [Inhabited α] {enc : α → List Value} {k : Nat} (hk : ∀ x, (enc x).length = k) (h0 : 0 < k) {w : World} {blk off n cap : Nat} {e : TypeId} {xs : List Value} (hs : Sl w e k (some ⟨blk, off, none⟩) n cap xs) (m : Nat) (d : Array α) (hd : d.size = n) (os : Array Obj) :
  Sl (sortWorldK enc k w blk off m d os) e k (some ⟨blk, off, none⟩) n cap (d.toList.flatMap enc) := by
 obtain ⟨hl, hn, hm, hh⟩ := hs
 refine ⟨by rw [flat_len hk]; simp [hd], hn, hm, .inr ?_⟩
 rcases hh with ⟨h, _⟩ | ⟨g, off', cur, hA, hg, hc, ht⟩
 · cases h
 · obtain ⟨rfl, rfl⟩ : blk = g ∧ off = off' := by simpa using hA
   have hlt : blk < w.heap.size := (Array.getElem?_eq_some_iff.1 hg).1
   refine ⟨blk, off, Sort.putCells id off (Sort.flatK enc k d) cur, rfl, ?_, ?_, ?_⟩
   · show ((w.heap.modify blk (Sort.onCells (Sort.putCells id off (Sort.flatK enc k d)))) ++ os)[blk]? = _
     rw [Array.getElem?_append_left (by simpa using hlt), Array.getElem?_modify, if_pos rfl, hg]
     rfl
   · unfold Sort.putCells
     rw [Array.size_mapIdx]
     exact hc
   · rw [← flatK_list hk h0]
     have hcap := Nat.mul_le_mul_right k hn
     apply List.ext_getElem?
     intro j
     unfold Sort.putCells
     rw [List.getElem?_take]
     by_cases hj : j < n * k
     · rw [if_pos hj, List.getElem?_drop, Array.getElem?_toList, Array.getElem?_mapIdx, Array.getElem?_eq_getElem (by omega), Option.map_some, if_pos (by rw [Sort.size_flatK, hd]; omega), Array.getElem?_toList, Array.getElem?_eq_getElem (by rw [Sort.size_flatK, hd]; exact hj), show off + j - off = j by omega, getElem!_pos _ _ (by rw [Sort.size_flatK, hd]; exact hj)]
       rfl
     · rw [if_neg hj, List.getElem?_eq_none (by simp [Sort.size_flatK, hd]; omega)]
theorem holds_of_sl {α : Type} [Inhabited α] {enc : α → List Value} {k : Nat} (hk : ∀ x, (enc x).length = k) (h0 : 0 < k) {w : World} {blk off n cap : Nat} {e : TypeId} {d : Array α} (hd : d.size = n) (hs : Sl w e k (some ⟨blk, off, none⟩) n cap (d.toList.flatMap enc)) : Sort.HoldsK enc k w blk off d := by
 intro j hj
 have hj' : j < n * k := by rw [Sort.size_flatK, hd] at hj; exact hj
 have h1 : (d.toList.flatMap enc)[j]? = some ((Sort.flatK enc k d)[j]!) := by
  rw [← flatK_list hk h0, Array.getElem?_toList, Array.getElem?_eq_getElem hj, getElem!_pos (Sort.flatK enc k d) j hj]
 obtain ⟨ad, hA, _, hc, hf⟩ := hs.cell h1
 obtain rfl := Option.some.inj hA
 rw [addr_lit] at hc
 have := hf j
 rw [addr_lit] at this
 exact ⟨hc, this⟩
abbrev Sp (w : World) : Type := { x : Cp // CpGood w x }
instance spInh (w : World) : Inhabited (Sp w) := ⟨⟨⟨0, 0, 0, none, 0, 0, ([], ([], []), 0)⟩, Sl.nil _ _ _, rfl, Nat.zero_le _, (by decide), (by decide)⟩⟩
def spEnc (w : World) (x : Sp w) : List Value := x.1.cells
def spCmp (w : World) (x y : Sp w) : Int := cmpP x.1.P y.1.P
theorem sp_lt (w : World) (x y : Sp w) : ltOf (spCmp w) x y = befP x.1.P y.1.P := cmpP_lt _ _
theorem sp_swo (w : World) : Sort.SWO (ltOf (spCmp w)) :=
 ⟨fun x => by rw [sp_lt]; exact befP_irr _, fun x y z h1 h2 => by rw [sp_lt] at h1 h2 ⊢; exact befP_trans h1 h2, fun x y z h1 h2 => by rw [sp_lt] at h1 h2 ⊢; exact befP_ntrans h1 h2⟩
theorem good_keeps {w w' : World} {blk : Nat} {cs : Array Value} {x : Cp} (h : CpGood w x) (hb : w.heap[blk]? = some (.cells cs tCp)) (hk : Keeps (fun b => b = blk) w w') : CpGood w' x := by
 obtain ⟨h1, h2⟩ := h
 refine ⟨h1.keeps hk fun b hb' e => ?_, h2⟩
 have h1' := h1
 obtain ⟨a, hA, rfl⟩ := mem_fpA.1 hb'
 rw [hA] at h1'
 exact is_ne_box h1' hb (by decide) e
theorem sl_box {w : World} {e : TypeId} {sz n cap blk off : Nat} {xs : List Value} (hs : Sl w e sz (some ⟨blk, off, none⟩) n cap xs) : ∃ cur, w.heap[blk]? = some (.cells cur e (0, 0)) := by
 rcases hs.2.2.2 with ⟨h, _⟩ | ⟨g, off', cur, hA, hg, _⟩
 · cases h
 · obtain ⟨rfl, rfl⟩ : blk = g ∧ off = off' := by simpa using hA
   exact ⟨cur, hg⟩
theorem sp_cmp (w : World) (blk off size : Nat) {cs : Array Value} (hb : w.heap[blk]? = some (.cells cs tCp)) : CmpLays Tryz.prog 111 #[] (spEnc w) 4 (spCmp w) blk off size w := by
 intro m os dk _ x y
 have hk := sort_keeps (spEnc w) 4 w blk off m dk os
 refine (cmpC_any x.1 y.1 _ (good_keeps x.2 hb hk) (good_keeps y.2 hb hk)).mono ?_
 rintro e w' ⟨rfl, rfl⟩
 refine ⟨rfl, 0, #[.cells x.1.cells.toArray tCp, .cells y.1.cells.toArray tCp], ?_⟩
 rw [Sort.alloc_eq_grow, Sort.alloc_eq_grow, Sort.grow_grow]
 rfl
theorem lift_sp (w : World) : ∀ xs : List Cp, (∀ x, x ∈ xs → CpGood w x) → ∃ dl : List (Sp w), dl.map (fun x => x.1) = xs
 | [], _ => ⟨[], rfl⟩
 | x :: r, h => by
   obtain ⟨dl, hd⟩ := lift_sp w r fun y hy => h y (List.mem_cons_of_mem _ hy)
   exact ⟨⟨x, h x (List.mem_cons_self ..)⟩ :: dl, by rw [List.map_cons, hd]⟩
theorem sortParts_any (w : World) (blk off cap : Nat) (xs : List Cp) (hs : Sl w tCp 4 (some ⟨blk, off, none⟩) xs.length cap (xs.flatMap Cp.cells)) (hg : ∀ x, x ∈ xs → CpGood w x) (hl : xs.length ≤ 1048576) :
  Calls Tryz.prog 110 #[.slice (some ⟨blk, off, none⟩) xs.length cap, .func (.func 111) #[] #[]] w fun e w' =>
   e = .returned (.tuple #[]) ∧ ∃ ys : List Cp, ys.Perm xs ∧ ys.Pairwise (fun x y => befP y.P x.P = false) ∧ Sl w' tCp 4 (some ⟨blk, off, none⟩) ys.length cap (ys.flatMap Cp.cells) ∧ Keeps (fun b => b = blk) w w' := by
 obtain ⟨cur, hb⟩ := sl_box hs
 obtain ⟨dl, hdl⟩ : ∃ dl : List (Sp w), dl.map (·.1) = xs := lift_sp w xs hg
 have hlen : dl.length = xs.length := by rw [← hdl, List.length_map]
 have hfl : ∀ l : List (Sp w), l.flatMap (spEnc w) = (l.map (·.1)).flatMap Cp.cells := fun l => by rw [List.flatMap_map]; rfl
 have hk : ∀ x : Sp w, (spEnc w x).length = 4 := fun _ => rfl
 have hsz : dl.toArray.size = xs.length := by simpa using hlen
 have hs' : Sl w tCp 4 (some ⟨blk, off, none⟩) xs.length cap (dl.toArray.toList.flatMap (spEnc w)) := by rw [hfl, hdl]; exact hs
 have hH := holds_of_sl hk (by decide) hsz hs'
 have hc := AnyQ.slices_SortFunc layS 4 (fun _ => by kernel_rfl) (fun _ => by kernel_rfl) (spEnc w) hk (fun x v hv => by
  simp only [spEnc, Cp.cells, List.mem_cons, List.not_mem_nil, or_false] at hv
  rcases hv with rfl | rfl | rfl | rfl <;> rfl) (spCmp w) (sp_swo w) 111 #[] blk off cap dl.toArray w (enters_of Tryz.func111 (by kernel_rfl) rfl) (sp_cmp w blk off _ hb) hH (Array.getElem?_eq_some_iff.1 hb).1 (by rw [hsz]; omega)
 rw [hsz] at hc
 refine hc.mono ?_
 rintro e w' ⟨rfl, d', n, os, hp, hso, rfl⟩
 obtain ⟨hp1, _, hp2⟩ := hp
 rw [hsz] at hp1
 have hp3 : d'.toList.Perm dl := by
  have e1 : (d'.extract 0 xs.length).toList = d'.toList := by rw [← hp1]; simp
  have e2 : (dl.toArray.extract 0 xs.length).toList = dl := by rw [← hsz]; simp
  rw [e1, e2] at hp2
  exact hp2
 refine ⟨rfl, d'.toList.map (·.1), ?_, ?_, ?_, sort_keeps _ _ _ _ _ _ _ _⟩
 · rw [← hdl]
   exact hp3.map _
 · rw [List.pairwise_map, List.pairwise_iff_getElem]
   intro i j hi hj hij
   have hi' : i < d'.size := by simpa using hi
   have hj' : j < d'.size := by simpa using hj
   have := hso i j (Nat.zero_le _) hij (by omega)
   rw [sp_lt, getElem!_pos d' i hi', getElem!_pos d' j hj'] at this
   simpa using this
 · have h3 := sort_sl hk (by decide) hs n d' hp1 os
   rw [List.length_map, Array.length_toList, hp1, ← hfl]
   exact h3
end Go.Proofs.YtjompikdkhhlgaaGreat
namespace Go.Proofs.YtjompikdkhhlgaaGreat
open Go.RowKit
structure GrS (g : Gr) (W : World) (mb k : Nat) (H : Int → Hd) (w : World) : Prop where
 map : GM w mb k (keysTo g k) H
 lst : ∀ q, (H q).2.2 = grpN g q k
 is : ∀ q, IS w (H q).1 (H q).2.1 (H q).2.2
 ap : ∀ q q', q ≠ q' → ∀ b, b ∈ fpA (H q).1 → ¬ b ∈ fpA (H q').1
 new : W.heap.size ≤ mb ∧ ∀ q, Fresh W.heap.size (H q).1
 bel : Below W.heap.size W w
section
variable {g : Gr} {W w w' : World} {mb k : Nat} {H : Int → Hd}
theorem GrS.below (h : GrS g W mb k H w) (hb : Below w.heap.size w w') : GrS g W mb k H w' :=
 ⟨h.map.below hb, h.lst, fun q => (h.is q).below hb, h.ap, h.new, below_trans h.bel hb h.bel.size⟩
theorem GrS.made (g : Gr) (W : World) : GrS g W W.heap.size 0 (fun _ => noHd) (W.alloc (.map #[] 0)) :=
 ⟨GM.made W, fun _ => rfl, fun _ => Sl.nil _ _ _, fun _ _ _ b hb => (by cases hb), ⟨Nat.le_refl _, fun _ => Fresh.none_ _⟩, t_below_alloc _ _⟩
theorem GrS.step (h : GrS g W mb k H w) {q : Int} (hq : numE g (k : Int) = q) {A5 : Option Addr} {cap5 : Nat} {w5 w6 : World} (hI : IS w5 A5 cap5 ((H q).2.2 ++ [(k : Int)])) (hA : ∀ b, b ∈ fpA A5 → b ∈ fpA (H q).1 ∨ w.heap.size ≤ b) (hk : Keeps (· ∈ fpA (H q).1) w w5)
  (hM : GM w6 mb (k + 1) (addK (keysTo g k) q) (setH H q (A5, cap5, (H q).2.2 ++ [(k : Int)]))) (hk6 : Keeps (fun x => x = mb) w5 w6) : GrS g W mb (k + 1) (setH H q (A5, cap5, (H q).2.2 ++ [(k : Int)])) w6 := by
 have hlt : ∀ q b, b ∈ fpA (H q).1 → b < w.heap.size := fun q b hb => (h.is q).lt b hb
 have hmb : ∀ q b, b ∈ fpA (H q).1 → b ≠ mb := fun q b hb e => h.map.ne_sl (h.is q) hb e.symm
 have hml := h.map.lt
 have hA5 : ∀ b, b ∈ fpA A5 → b ≠ mb := fun b hb e => by
  rcases hA b hb with h1 | h1
  · exact hmb q b h1 e
  · omega
 refine ⟨?_, fun x => ?_, fun x => ?_, fun x y hne b hb hb' => ?_, ⟨h.new.1, fun x => ?_⟩, below_keeps (below_keeps h.bel hk h.bel.size fun b hb => h.new.2 q b hb) hk6 (Nat.le_trans h.bel.size hk.size) fun b e => by rw [e]; exact h.new.1⟩
 · have : keysTo g (k + 1) = addK (keysTo g k) q := by
    rw [keysTo, hq]
    rfl
   rw [this]
   exact hM
 · unfold setH
   rw [grpN_succ, hq]
   split
   · rename_i e
     subst e
     rw [if_pos rfl, ← h.lst]
   · rename_i e
     rw [if_neg (fun h => e h.symm), List.append_nil]
     exact h.lst x
 · unfold setH
   split
   · exact hI.keeps hk6 hA5
   · rename_i e
     exact ((h.is x).keeps hk fun b hb hb' => h.ap x q e b hb hb').keeps hk6 (hmb x)
 · unfold setH at hb hb'
   by_cases e1 : x = q
   · have e2 : ¬ y = q := fun e2 => hne (e1.trans e2.symm)
     rw [if_pos e1] at hb
     rw [if_neg e2] at hb'
     rcases hA b hb with h1 | h1
     · exact h.ap q y (fun e => e2 e.symm) b h1 hb'
     · have := hlt y b hb'; omega
   · rw [if_neg e1] at hb
     by_cases e2 : y = q
     · rw [if_pos e2] at hb'
       rcases hA b hb' with h1 | h1
       · exact h.ap x q e1 b hb h1
       · have := hlt x b hb; omega
     · rw [if_neg e2] at hb'
       exact h.ap x y hne b hb hb'
 · unfold setH
   split
   · intro b hb
     rcases hA b hb with h1 | h1
     · exact h.new.2 q b h1
     · have := h.bel.size; omega
   · exact h.new.2 x
end
theorem numW_rng {g : Gr} {n : Nat} (h : Mono g n) {w : Nat} (hw : w < n) : (numM (clsG g))[w]? = some (numW g (w : Int)) ∧ 0 ≤ numW g (w : Int) ∧ numW g (w : Int) ≤ (n : Int) := by
 have h1 := numM_get (cls_of h) hw
 have h2 : numW g (w : Int) = (nrM (clsG g) ((clsG g).getD w 0).toNat : Int) := by
  rw [numW_eq h (by omega)]
  rfl
 rw [h2]
 have h3 := nrM_le (clsG g) ((clsG g).getD w 0).toNat
 have h4 := (cls_of h).le w hw
 exact ⟨h1, by omega, by omega⟩
def RetCps (w : World) (ps : List Prt) (e : Ending) (w' : World) : Prop :=
 ∃ (A : Option Addr) (cap : Nat) (xs : List Cp), e = .returned (.slice A xs.length cap) ∧ Sl w' tCp 4 A xs.length cap (xs.flatMap Cp.cells) ∧ (∀ x, x ∈ xs → CpOk w' x) ∧ xs.map (·.P) = ps ∧ Below w.heap.size w w'
theorem info_cp : (Tryz.prog.info? tCp).map (fun i => (i.zero, i.size, i.bytes)) = some (some (.agg #[.pointer none, .slice none 0 0, .int .i64 0, .int .i64 0]), 4, 48) := by kernel_rfl
theorem flat4 (xs : List Cp) (x : Cp) : (xs ++ [x]).flatMap Cp.cells = xs.flatMap Cp.cells ++ x.cells := by simp
theorem CpOk.below {w w' : World} {x : Cp} (h : CpOk w x) (hb : Below w.heap.size w w') : CpOk w' x := ⟨h.wk.below hb, h.cod.below hb, h.len⟩
theorem CpOk.keeps {w w' : World} {x : Cp} (h : CpOk w x) {A : Option Addr} {n cap : Nat} {xs : List Value} (hs : Sl w tCp 4 A n cap xs) {S : Nat → Prop} (hk : Keeps S w w') (hS : ∀ b, S b → b ∈ fpA A) : CpOk w' x := by
 obtain ⟨c0, c1, c2, c3, c4, c5, c8, c9, e1, e2, e3⟩ := h.wk
 have hc := h.cod
 have key : ∀ {g : Nat} {cs : Array Value} {t : TypeId}, w.heap[g]? = some (.cells cs t) → tCp ≠ t → ¬ S g := fun hg ht hs' => by
  obtain ⟨a, rfl, rfl⟩ := mem_fpA.1 (hS _ hs')
  rcases hs.2.2.2 with ⟨h0, _⟩ | ⟨g, off, cur, hA, hg', _⟩
  · cases h0
  · obtain rfl := Option.some.inj hA
    rw [hg'] at hg
    injection hg with hg
    injection hg with _ h1
    exact ht h1
 refine ⟨h.wk.keeps hk (key e1 (by decide)) (fun hs' => e2.ne_sl hs (hS _ hs') rfl) (fun hs' => e3.ne_sl hs (hS _ hs') rfl), hc.keeps hk fun b hb => ?_, h.len⟩
 obtain ⟨a, hA, rfl⟩ := mem_fpA.1 hb
 rcases hc.2.2.2 with ⟨h0, _⟩ | ⟨g, off, cur, hA', hg, _⟩
 · rw [hA] at h0; cases h0
 · rw [hA'] at hA
   obtain rfl := Option.some.inj hA
   exact key hg (by decide)
theorem sl_addr {w : World} {e : TypeId} {sz n cap : Nat} {A : Option Addr} {xs : List Value} (hs : Sl w e sz A n cap xs) (h0 : 0 < n) : ∃ blk off, A = some ⟨blk, off, none⟩ := by
 rcases hs.2.2.2 with ⟨_, h⟩ | ⟨g, off, cur, hA, _⟩
 · have := hs.2.1; omega
 · exact ⟨g, off, hA⟩
theorem GR.rng {w : World} {mb r nb cnt : Nat} {K : List Int} {H : Int → Hd} {L : Int → Bool} (h : GR w mb r nb K H L cnt) : (∀ cs t fr, w.heap[r]? ≠ some (.cells cs t fr)) ∧ ∀ es c, w.heap[r]? ≠ some (.map es c) := by
 obtain ⟨D, left, ⟨es, clock, since, seen, c0, h1, h2, h3, h4, h5, q⟩, hD, hL⟩ := h
 exact ⟨fun _ _ _ h => (by rw [h5] at h; cases h), fun _ _ h => (by rw [h5] at h; cases h)⟩
theorem sl_rng {w : World} {r : Nat} (hr : ∀ cs t fr, w.heap[r]? ≠ some (.cells cs t fr)) {e : TypeId} {sz n cap : Nat} {A : Option Addr} {xs : List Value} (hs : Sl w e sz A n cap xs) : ∀ b, b ∈ fpA A → b ≠ r := fun b hb e => by
 rcases hs.2.2.2 with ⟨rfl, _⟩ | ⟨g, off, cur, rfl, hg, _⟩
 · cases hb
 · obtain rfl : b = g := by simpa using hb
   rw [e] at hg
   exact hr _ _ _ hg
theorem mi_rng {w : World} {r b : Nat} {l : List Int} (hr : ∀ es c, w.heap[r]? ≠ some (.map es c)) (h : MI w b l) : b ≠ r := fun e => by
 obtain ⟨es, clock, hb, _⟩ := h
 rw [e] at hb
 exact hr _ _ hb
theorem CpOk.rng {w w' : World} {x : Cp} (h : CpOk w x) {mb r nb cnt : Nat} {K : List Int} {H : Int → Hd} {L : Int → Bool} (hR : GR w mb r nb K H L cnt) (hk : Keeps (· = r) w w') : CpOk w' x := by
 obtain ⟨h1, h2⟩ := hR.rng
 have hwk := h.wk
 obtain ⟨c0, c1, c2, c3, c4, c5, c8, c9, e1, e2, e3⟩ := hwk
 exact ⟨h.wk.keeps hk (fun e => h1 _ _ _ (e ▸ e1)) (mi_rng h2 e2) (mi_rng h2 e3), h.cod.keeps hk (sl_rng h1 h.cod), h.len⟩
theorem leastW_rng : ∀ (l : List Int) (a : Int), 0 ≤ a → a ≤ 100 → (∀ x, x ∈ l → 0 ≤ x) → 0 ≤ l.foldl min a ∧ l.foldl min a ≤ 100
 | [], a, h, h', _ => ⟨h, h'⟩
 | x :: l, a, h, h', hx => by
   rw [List.foldl_cons]
   have h0 := hx x (List.mem_cons_self ..)
   by_cases e : a ≤ x
   · rw [show min a x = a by omega]
     exact leastW_rng l a h h' fun y hy => hx y (List.mem_cons_of_mem _ hy)
   · rw [show min a x = x by omega]
     exact leastW_rng l x h0 (by omega) fun y hy => hx y (List.mem_cons_of_mem _ hy)
theorem best_facts {g : Gr} {n m : Nat} (hMo : Mono g n) (hm : g.2.1.length = m) {q : Int} (h : 0 < (grpN g q m).length) : (bestP g (grpN g q m)).1.length ≤ 360 ∧ 0 ≤ leastW (bestP g (grpN g q m)).2.1.1 ∧ leastW (bestP g (grpN g q m)).2.1.1 ≤ 100 := by
 obtain ⟨e, he, h1, h2⟩ := bestP_from (g := g) (l := grpN g q m) (by intro e; rw [e] at h; exact absurd h (by decide))
 have hr := (mem_grpN.1 he).1
 have hI := fromM_inv hMo (e := e) (by rw [hm]; exact hr.2)
 refine ⟨by rw [h1]; exact codeM_len hMo hI, ?_⟩
 rw [h2]
 exact leastW_rng _ 100 (by decide) (by decide) fun x hx => (hI.rg1 x hx).1
set_option maxRecDepth 100000 in
set_option maxHeartbeats 8000000 in
theorem closedParts_any {v : Value} {g : Gr} (w : World) (n m ob ow oe : Nat) (h : RdGr w v g) (hMo : Mono g n) (hv : grB g = true) (hm : g.2.1.length = m) (hw : WkR w ob ow oe (openM g)) :
  Calls Tryz.prog 85 #[v, .pointer (some ⟨ob, 0, none⟩)] w (RetCps w (partsM g)) := by
 have hn100 := hMo.n100
 have hm60 : m ≤ 60 := by rw [← hm]; exact hMo.m60
 have hgn := hMo.hn
 have hW0 := h
 obtain ⟨A, c, hs, ⟨B, bb, s⟩, ⟨C, d, t⟩, rfl, e1, e2, e3, hE, hRa, hRb⟩ := h
 have hml : hs.length = m := by rw [← hm, e1, List.length_map]
 simp only [hgn, hml] at hW0 ⊢
 obtain ⟨p, hp⟩ : ∃ p, s.length = p := ⟨_, rfl⟩
 obtain ⟨r, hr⟩ : ∃ r, t.length = r := ⟨_, rfl⟩
 rw [hp, hr] at hW0 ⊢
 obtain ⟨W, hWe, bW, k0⟩ := (⟨_, rfl, t_below_alloc _ _, heap_alloc_new _ _⟩ : ∃ W, W = w.alloc (.cells #[.int .i64 (n : Int), .slice A m c, .slice B p bb, .slice C r d] tGr) ∧ Below w.heap.size w W ∧ W.heap[w.heap.size]? = some (.cells #[.int .i64 (n : Int), .slice A m c, .slice B p bb, .slice C r d] tGr))
 obtain ⟨⟨c0, c1, c2, c3⟩, f0, f1, f2, f3⟩ := t_box4 k0
 have hmm := @run_makeMap Tryz.prog
 have hcc := components_any W n (hW0.below bW) hgn hv
 clear hRa hRb e2 e3 hgn; have hMo_h := lH hMo; have hm_h := lH hm; have hW0_h := lH hW0; have e1_h := lH e1; have hml_h := lH hml; have hp_h := lH hp; have hr_h := lH hr; have bW_h := lH bW; have k0_h := lH k0; have hE_h := lH hE; have hw_h := lH hw; have hv_h := lH hv; have hcc_h := lH hcc; clear hMo hm hW0 e1 hml hp hr bW k0 hE hw hv hcc
 go_enter Tryz.func85, Tryz.ntmps85
 go_upto_region 1 with (fail)
 rw [← hWe]
 clear hWe
 go_wp2_with (fail)
 refine (hcc_h.out).mono ?_
 rintro e w1 ⟨G1, cg, rfl, hI1, hF1, hb1⟩
 have k1 := t_box_below k0_h.out hb1
 have hB1 := below_trans bW_h.out hb1 bW_h.out.size
 obtain ⟨w2, hw2⟩ : ∃ w2, w2 = w1.alloc (.map #[] 0) := ⟨_, rfl⟩
 have hG2 := GrS.made g w1
 rw [← hw2] at hG2
 have k2 := t_box_below k1 hG2.bel
 clear hcc_h hb1 hF1 k0_h; clear c0 c1 c2 c3 f0 f1 f2 f3
 obtain ⟨⟨c0, c1, c2, c3⟩, f0, f1, f2, f3⟩ := t_box4 k2
 have hI1_h := lH hI1; have k1_h := lH k1; have hB1_h := lH hB1; have hG2_h := lH hG2; have k2_h := lH k2; clear hI1 k1 hB1 hG2 k2
 go_upto_region 3 with (fail)
 rw [← hw2]
 clear hw2
 go_wp2_with (fail)
 clear c0 c1 c2 c3 f0 f1 f2 f3
 go_loopw [24] (fun i wr => ∃ (k : Nat) (H : Int → Hd), k ≤ m ∧ i = .int .i64 k ∧ GrS g w1 w1.heap.size k H wr) (fun i _ => m - (intOf i).toNat)
 case atStart => exact ⟨0, _, Nat.zero_le _, rfl, hG2_h.out⟩
 case round =>
  clear hG2_h k2_h
  obtain ⟨k, H, hk, rfl, hG⟩ := hrel
  obtain ⟨wo, rfl⟩ : ∃ x, x = wr := ⟨_, rfl⟩
  have hBo := below_trans hB1_h.out hG.bel hB1_h.out.size
  by_cases hlt : k < m
  · obtain ⟨ad, κ, vl, B1, b1, l1, C1, b2, l2, hae, hn1, ⟨d0, d1, d2, d3⟩, hr1, hr2⟩ := (hE_h.out.below hBo).at_ (j := k) (by rw [hml_h.out]; exact hlt)
    subst hae
    have hed : edgeAt g (k : Int) = (κ, vl, l1, l2) := by
     unfold edgeAt
     rw [Int.toNat_natCast, List.getD_eq_getElem?_getD, e1_h.out, List.getElem?_map, hn1]
     rfl
    obtain ⟨⟨g1, g2⟩, g3⟩ := egB_len (hMo_h.out.kind (κ, vl, l1, l2) (by rw [e1_h.out]; exact List.mem_map.2 ⟨_, List.mem_of_getElem? hn1, rfl⟩))
    simp only at g1 g2 g3
    have hwl := hMo_h.out.wires (e := (k : Int)) (by omega) (by rw [hm_h.out]; omega)
    rw [hed] at hwl
    obtain ⟨l, hl⟩ : ∃ l, l = l1 ++ l2 := ⟨_, rfl⟩
    obtain ⟨q, hq⟩ : ∃ q, l.length = q := ⟨_, rfl⟩
    have hq1 : 1 ≤ q ∧ q ≤ 4 := by rw [← hq, hl, List.length_append]; omega
    obtain ⟨x0, hx0⟩ : ∃ x, l[0]? = some x := ⟨_, List.getElem?_eq_getElem (by omega)⟩
    have hxr := hwl x0 (by rw [show wiresE (κ, vl, l1, l2) = l from hl.symm]; exact List.mem_of_getElem? hx0)
    obtain ⟨xx, rfl⟩ : ∃ xx : Nat, x0 = (xx : Int) := ⟨x0.toNat, by omega⟩
    obtain ⟨hnx, hnr1, hnr2⟩ := numW_rng hMo_h.out (w := xx) (by omega)
    have hnE : numE g (k : Int) = numW g (xx : Int) := by
     unfold numE
     rw [hed, show wiresE (κ, vl, l1, l2) = l from hl.symm, List.getD_eq_getElem?_getD, hx0]
     rfl
    obtain ⟨qv, hqv⟩ : ∃ q, numW g (xx : Int) = q := ⟨_, rfl⟩
    rw [hqv] at hnx hnr1 hnr2 hnE
    obtain ⟨p1, hp1⟩ : ∃ p1, l1.length = p1 := ⟨_, rfl⟩
    obtain ⟨p2, hp2⟩ : ∃ p2, l2.length = p2 := ⟨_, rfl⟩
    rw [hp1] at d2
    rw [hp2] at d3
    obtain ⟨W6, hW6, bW6, k6⟩ := (⟨_, rfl, t_below_alloc _ _, heap_alloc_new _ _⟩ : ∃ W, W = wo.alloc (.cells #[.int .i64 κ, .int .i64 vl, .slice B1 p1 b1, .slice C1 p2 b2] tEd) ∧ Below wo.heap.size wo W ∧ W.heap[wo.heap.size]? = some (.cells #[.int .i64 κ, .int .i64 vl, .slice B1 p1 b1, .slice C1 p2 b2] tEd))
    have hJ0 := joined_any (some ⟨W6.heap.size, 0, none⟩) 2 [(B1, b1, l1), (C1, b2, l2)] (W6.alloc (.cells #[.slice B1 l1.length b1, .slice C1 l2.length b2] 23)) (rd2 (hr1.below bW6) (hr2.below bW6)) (by simp) (by simp; omega)
    rw [show (([(B1, b1, l1), (C1, b2, l2)] : List Hd).map fun h : Hd => h.2.2).flatten = l by rw [hl]; simp, hp1, hp2] at hJ0
    have hJ : Calls Tryz.prog 80 #[.slice (some ⟨W6.heap.size, 0, none⟩) 2 2] (W6.alloc (.cells #[.slice B1 p1 b1, .slice C1 p2 b2] 23)) (RetI (W6.alloc (.cells #[.slice B1 p1 b1, .slice C1 p2 b2] 23)) l) := hJ0
    unfold RetI at hJ
    rw [hq] at hJ
    obtain ⟨⟨u0, u1, u2, u3⟩, v0, v1, v2, v3⟩ := t_box4 k6
    have kb := t_box_below k1_h.out hG.bel
    obtain ⟨⟨y0, y1, y2, y3⟩, y4, y5, y6, y7⟩ := t_box4 kb
    have hkI : (k : Int) < (m : Int) := by omega
    clear hJ0 hr1 hr2 hwl hed hn1 kb; have hG_h := lH hG; have hBo_h := lH hBo; have hl_h := lH hl; have hq_h := lH hq; have hx0_h := lH hx0; have hnx_h := lH hnx; have hnE_h := lH hnE; have hqv_h := lH hqv; have hp1_h := lH hp1; have hp2_h := lH hp2; have bW6_h := lH bW6; have k6_h := lH k6; have hJ_h := lH hJ; clear hG hBo hl hq hx0 hnx hnE hqv hp1 hp2 bW6 k6 hJ
    go_upto_region 6 with (fail)
    rw [← hW6]
    clear hW6 d0 d1 d2 d3 y0 y1 y2 y3 y4 y5 y6 y7
    go_wp2_with (fail)
    refine (hJ_h.out).mono ?_
    rintro e w8 ⟨A8, cap8, rfl, hI8, hF8, hb8⟩
    have hb68 := below_trans (t_below_alloc W6 (.cells #[.slice B1 p1 b1, .slice C1 p2 b2] 23)) hb8 (t_below_alloc W6 _).size
    have hbo8 := below_trans bW6_h.out hb68 bW6_h.out.size
    have hG8 := hG_h.out.below hbo8
    obtain ⟨ja, hja, p0'⟩ := hI8.rd 0 _ hx0_h.out
    subst hja
    have p0 : w8.cell? ja = some (.int .i64 (xx : Int)) := p0'
    obtain ⟨ga, hga, pg⟩ := (hI1_h.out.below hG8.bel).rd xx _ hnx_h.out
    subst hga
    have hxn : (xx : Int) < (n : Int) := hxr.2
    obtain ⟨⟨HA, hc, l0⟩, hHq⟩ : ∃ h, H qv = h := ⟨_, rfl⟩
    obtain ⟨n0, hn0⟩ : ∃ n0, l0.length = n0 := ⟨_, rfl⟩
    have hval : (H qv).val = .slice HA n0 hc := by rw [hHq, ← hn0]; rfl
    have hn60 : n0 ≤ 60 := by
     have h1 := hG8.lst qv
     rw [hHq] at h1
     have h2 := grpN_len g qv k
     rw [← h1] at h2
     simp only at h2
     omega
    have hwf : (Lit.int .i64 qv).wf = true := WalkArith.wf_i64 (by omega)
    have hGM := hG8.map
    have his := hG8.is qv
    rw [hHq] at his
    have hb9 := t_below_alloc w8 (.cells #[.int .i64 (k : Int)] tInt)
    have hsl9 : Sl (w8.alloc (.cells #[.int .i64 (k : Int)] tInt)) tInt 1 HA n0 hc (ints l0) := by
     have := his.below hb9
     unfold IS at this
     rw [hn0] at this
     exact this
    have hG9 := hG8.below hb9
    clear hI8 hF8 hb8 hb68 hJ_h p0' his hbo8 hG8 u0 u1 u2 u3 v0 v1 v2 v3; have hGM_h := lH hGM; have hval_h := lH hval; have hHq_h := lH hHq; have hn0_h := lH hn0; have hsl9_h := lH hsl9; have hG9_h := lH hG9; clear hGM hval hHq hn0 hsl9 hG9
    go_wp2_with (first
     | (at_lookup; refine wp_mg_get rfl _ _ rfl rfl hGM_h.out qv rfl hwf (.slice HA n0 hc) hval_h.out ?_)
     | (at_builtin; refine wpList_append_Sl _ rfl _ _ _ rfl 3 Tryz.underlying23 info_int rfl (by omega) rfl hsl9_h.out rfl (news := [.int .i64 (k : Int)]) rfl (Sl.rdc (Sl.laid w8 3 1 1 #[.int .i64 (k : Int)] (by unfold maxLen; omega) rfl)) (by intro u hu; simp at hu; subst hu; rfl) (by unfold maxLen; omega) (by omega) ?_; intro A9 cap9 w9 hs9 hA9 hk9)
     | (at_mapUpdate; refine wp_mg_put rfl _ _ _ rfl rfl (hG9_h.out.map.keeps hk9 (fun hx => hG9_h.out.map.ne_sl (hG9_h.out.is qv) (by rw [hHq_h.out]; exact hx) rfl)) (by unfold maxLen; omega) qv rfl hwf (A9, cap9, l0 ++ [(k : Int)]) (by show Value.slice A9 (n0 + 1) cap9 = Value.slice A9 (l0 ++ [(k : Int)]).length cap9; rw [List.length_append, hn0_h.out]; rfl) ?_; intro w10 hM10 hk10))
    have hI9 : IS w9 A9 cap9 ((H qv).2.2 ++ [(k : Int)]) := by
     rw [hHq_h.out]
     unfold IS
     rw [List.length_append, show l0.length = n0 from hn0_h.out, show ints (l0 ++ [(k : Int)]) = ints l0 ++ [.int .i64 (k : Int)] by simp [ints]]
     exact hs9
    have hG10 := hG9_h.out.step hnE_h.out (A5 := A9) (cap5 := cap9) (w5 := w9) (w6 := w10) hI9 (by rw [hHq_h.out]; exact hA9) (by rw [hHq_h.out]; exact hk9) (by rw [hHq_h.out]; exact hM10) hk10
    clear hs9 hA9 hk9 hM10 hk10 hI9 p0 pg; have hG10_h := lH hG10; clear hG10
    go_roundw
    case rel => exact ⟨k + 1, _, by omega, by go_num, hG10_h.out⟩
    case measure => simp [intOf]; omega
  · obtain rfl : m = k := by omega
    have hwk := hw_h.out.below hBo
    obtain ⟨d0, d1, d2, d3, d4, d5, d8, d9, ko, hM, _⟩ := hwk
    obtain ⟨⟨x0, x1, x2, x3, x4, x5, x6, x7, x8, x9⟩, _, _⟩ := box10 ko
    have hop := openM_inv hMo_h.out
    have hnd := hop.nd1
    have hrg := hop.rg1
    have hmb := hG.map.lt
    clear hop ko; have hG_h := lH hG; have hBo_h := lH hBo; have hM_h := lH hM; have hnd_h := lH hnd; have hrg_h := lH hrg; clear hG hBo hM hnd hrg
    go_wp2_with (at_range; refine wp_mi_range rfl _ rfl rfl hM_h.out hnd_h.out ?_; intro w5 hR5 hb5 hz5)
    clear x0 x1 x2 x3 x4 x5 x6 x7 x8 x9
    have hG5 := hG_h.out.below hb5
    have hM5 := hG5.map
    have hR5_h := lH hR5; have hb5_h := lH hb5; have hG5_h := lH hG5; have hM5_h := lH hM5; clear hR5 hb5 hG5 hM5
    go_frame
    go_loopw [11] (fun (_ : Value) wr => ∃ (L : Int → Bool) (cnt : Nat) (K : List Int) (H' : Int → Hd), MR wr ow wo.heap.size (openM g).1 L cnt ∧ GM wr w1.heap.size m K H' ∧ (∀ q, q ∈ K ↔ q ∈ keysTo g m ∧ ∀ x, x ∈ (openM g).1 → L x = false → numW g x ≠ q) ∧ (∀ q, q ∈ K → H' q = H q) ∧ Keeps (fun x => x = w1.heap.size ∨ x = wo.heap.size) w5 wr) (fun _ wr => wr.rangeLeft ow wo.heap.size)
    case atStart => exact ⟨_, _, _, _, hR5_h.out, hM5_h.out, fun q => ⟨fun h => ⟨h, fun x hx hL => by rw [decide_eq_true hx] at hL; cases hL⟩, fun h => h.1⟩, fun _ _ => rfl, Keeps.refl _ _⟩
    case round =>
     clear hR5_h hM5_h
     obtain ⟨L, cnt, K, H', hR, hM', hK, hH', hKe⟩ := hrel
     obtain ⟨wi, rfl⟩ : ∃ x, x = wr := ⟨_, rfl⟩
     have hR_h := lH hR; have hM'_h := lH hM'; have hK_h := lH hK; have hH'_h := lH hH'; have hKe_h := lH hKe; clear hR hM' hK hH' hKe
     go_wp2_with (at_next; refine wp_mr_next rfl _ rfl rfl hR_h.out hnd_h.out ?_ ?_)
     · intro _ hL0
       have hKall : ∀ q, q ∈ K ↔ ∃ j : Nat, j < g.2.1.length ∧ numE g (j : Int) = q ∧ ¬ openC g (compE g (j : Int)) := fun q => by
        rw [← keep_iff hMo_h.out, hm_h.out, hK_h.out]
        exact ⟨fun ⟨a, b⟩ => ⟨a, fun y hy => b y hy (hL0 y)⟩, fun ⟨a, b⟩ => ⟨a, fun y hy _ => b y hy⟩⟩
       have hmlt := hG_h.out.map.lt
       have hB5 := below_trans hBo_h.out hb5_h.out hBo_h.out.size
       have hBi := below_keeps hB5 hKe_h.out hB5.size (fun b e => by have := hB1_h.out.size; have := hBo_h.out.size; omega)
       have kbi := (t_box_keeps (t_box_below (t_box_below k1_h.out hG_h.out.bel) hb5_h.out) hKe_h.out (by have := t_box_lt k1_h.out; omega))
       have hISi : ∀ q, q ∈ K → IS wi (H' q).1 (H' q).2.1 (H' q).2.2 ∧ (H' q).2.2 = grpN g q m := fun q hq => by
        rw [hH'_h.out q hq]
        refine ⟨((hG_h.out.is q).below hb5_h.out).keeps hKe_h.out fun b hb e => ?_, hG_h.out.lst q⟩
        have h1 := hG_h.out.map.ne_sl (hG_h.out.is q) hb
        have h2 := (hG_h.out.is q).lt b hb
        omega
       have hgp : ∀ q, q ∈ K → 0 < (grpN g q m).length := fun q hq => by
        have h1 := grpN_pos.1 ((hK_h.out q).1 hq).1
        cases h : grpN g q m with
        | nil => exact absurd h h1
        | cons a r => simp
       have hKr : ∀ q, q ∈ K → 0 ≤ q ∧ q < ((n + 1 : Nat) : Int) := fun q hq => by
        obtain ⟨j, hj, e, _⟩ := (hKall q).1 hq
        have h1 := first_rng hMo_h.out (e := (j : Int)) (by omega) (by omega)
        obtain ⟨f, hf⟩ : ∃ f : Nat, (wiresE (edgeAt g (j : Int))).getD 0 0 = (f : Int) := ⟨((wiresE (edgeAt g (j : Int))).getD 0 0).toNat, by omega⟩
        rw [hf] at h1
        obtain ⟨_, h2, h3⟩ := numW_rng hMo_h.out (w := f) (by omega)
        have h4 : numW g (f : Int) = q := by rw [← hf]; exact e
        omega
       have b8 := t_below_alloc wi (.cells #[] tCp)
       obtain ⟨w8, hw8⟩ : ∃ w8, w8 = wi.alloc (.cells #[] tCp) := ⟨_, rfl⟩
       have hz8 : w8.heap.size = wi.heap.size + 1 := by rw [hw8]; simp
       have hsl8 : Sl w8 tCp 4 (some ⟨wi.heap.size, 0, none⟩) 0 0 (([] : List Cp).flatMap Cp.cells) := by rw [hw8]; exact Sl.laid wi tCp 4 0 #[] (Nat.zero_le _) rfl
       rw [← hw8] at b8
       have hM8 := hM'_h.out.below b8
       clear hR_h hL0; clear hz8; have hKall_h := lH hKall; have hB5_h := lH hB5; have hBi_h := lH hBi; have kbi_h := lH kbi; have hISi_h := lH hISi; have hgp_h := lH hgp; have hKr_h := lH hKr; have b8_h := lH b8; have hsl8_h := lH hsl8; have hM8_h := lH hM8; clear hKall hB5 hBi kbi hISi hgp hKr b8 hsl8 hM8
       go_upto_region 14 with (fail)
       rw [← hw8]
       clear hw8
       go_wp2_with (at_range; refine wp_mg_range rfl _ rfl rfl hM8_h.out ?_; intro w9 cnt9 hR9 hb9 hz9)
       have hsl9 := hsl8_h.out.below hb9
       have hbi9 := below_trans b8_h.out hb9 b8_h.out.size
       have hR9_h := lH hR9; have hb9_h := lH hb9; have hsl9_h := lH hsl9; have hbi9_h := lH hbi9; clear hR9 hb9 hsl9 hbi9
       go_frame
       go_loopw [12] (fun o wr => ∃ (L : Int → Bool) (cnt : Nat) (Kd : List Int) (blk off cap xl : Nat) (xs : List Cp), o = .slice (some ⟨blk, off, none⟩) xl cap ∧ xs.length = xl ∧ GR wr w1.heap.size w8.heap.size m K H' L cnt ∧ Kd.Nodup ∧ (∀ q, q ∈ Kd ↔ q ∈ K ∧ L q = false) ∧ xs.map (·.P) = Kd.map (fun q => bestP g (grpN g q m)) ∧ Sl wr tCp 4 (some ⟨blk, off, none⟩) xl cap (xs.flatMap Cp.cells) ∧ (∀ x, x ∈ xs → CpOk wr x) ∧ wi.heap.size ≤ blk ∧ Below wi.heap.size wi wr) (fun _ wr => wr.rangeLeft w1.heap.size w8.heap.size)
       case atStart => exact ⟨_, _, [], wi.heap.size, 0, 0, 0, [], rfl, rfl, hR9_h.out, List.nodup_nil, (fun q => ⟨fun h => (by cases h), fun ⟨h1, h2⟩ => (by rw [decide_eq_true h1] at h2; cases h2)⟩), rfl, hsl9_h.out, (fun x hx => by cases hx), Nat.le_refl _, hbi9_h.out⟩
       case round =>
        clear hR9_h hsl9_h hbi9_h
        obtain ⟨L2, cnt2, Kd, blk, off, cap, xl, xs, rfl, hxl, hR2, hKd, hKdm, hmp, hsl, hok, hblk, hbw⟩ := hrel
        obtain ⟨wj, rfl⟩ : ∃ x, x = wr := ⟨_, rfl⟩
        have hxl_h := lH hxl; have hR2_h := lH hR2; have hKd_h := lH hKd; have hKdm_h := lH hKdm; have hmp_h := lH hmp; have hsl_h := lH hsl; have hok_h := lH hok; have hbw_h := lH hbw; clear hxl hR2 hKd hKdm hmp hsl hok hbw
        go_wp2_with (at_next; refine wp_gr_next rfl _ rfl rfl hR2_h.out ?_ ?_)
        · intro _ hL1
          have hkm : ∀ q, q ∈ Kd ↔ q ∈ K := fun q => by
           rw [hKdm_h.out]
           exact ⟨fun h => h.1, fun h => ⟨h, hL1 q⟩⟩
          have hgd : ∀ x, x ∈ xs → CpGood wj x := fun x hx => by
           have h1 : x.P ∈ xs.map (fun x => x.P) := List.mem_map.2 ⟨x, hx, rfl⟩
           rw [hmp_h.out] at h1
           obtain ⟨q, hq, e⟩ := List.mem_map.1 h1
           obtain ⟨f1, f2, f3⟩ := best_facts hMo_h.out hm_h.out (hgp_h.out q ((hkm q).1 hq))
           have hx1 := hok_h.out x hx
           have h2 := hx1.len
           rw [← e] at h2
           refine ⟨hx1.cod, hx1.len, by omega, ?_⟩
           rw [← e]
           exact ⟨f2, f3⟩
          have hlenK : xs.length = Kd.length := by have h1 := congrArg List.length hmp_h.out; rw [List.length_map, List.length_map] at h1; exact h1
          have hxs1 : xl ≤ 1048576 := by
           have h1 := nodup_le hKd_h.out fun q hq => hKr_h.out q ((hkm q).1 hq)
           have h2 := hxl_h.out
           omega
          have hso := sortParts_any wj blk off cap xs (by rw [hxl_h.out]; exact hsl_h.out) hgd (by rw [hxl_h.out]; exact hxs1)
          rw [hxl_h.out] at hso
          clear hR2_h; have hso_h := lH hso; have hkm_h := lH hkm; clear hso hkm
          go_wp2_with (fail)
          refine (hso_h.out).mono ?_
          rintro e w12 ⟨rfl, ys, hys, hpw, hsl2, hk2⟩
          have hys_h := lH hys; have hpw_h := lH hpw; have hsl2_h := lH hsl2; have hk2_h := lH hk2; clear hys hpw hsl2 hk2
          go_wp2_with (fail)
          go_ret
          have hyl : ys.length = xl := hys_h.out.length_eq.trans hxl_h.out
          refine ⟨some ⟨blk, off, none⟩, cap, ys, by rw [hyl]; exact congrArg Ending.returned (by go_num), hsl2_h.out, fun x hx => (hok_h.out x (hys_h.out.mem_iff.1 hx)).keeps hsl_h.out hk2_h.out (fun b e => by rw [e]; exact List.mem_cons_self ..), ?_, ?_⟩
          · refine parts_of_keys hMo_h.out hKd_h.out (fun q => (hkm_h.out q).trans (hKall_h.out q)) ?_ ?_
            · rw [hm_h.out, ← hmp_h.out]
              exact hys_h.out.map _
            · rw [List.pairwise_map]
              exact hpw_h.out
          · exact below_keeps (below_trans hBi_h.out hbw_h.out hBi_h.out.size) hk2_h.out (by have := hBi_h.out.size; have := hbw_h.out.size; omega) (fun b e => by rw [e]; have := hBi_h.out.size; omega)
        · intro q w11 cnt' hqK hLq hwf hR11 hlt11 hk11 hz11 hen
          have h11 := below_keeps hbw_h.out hk11 hbw_h.out.size (fun b e => by have := b8_h.out.size; omega)
          obtain ⟨hI0, hl0⟩ := hISi_h.out q hqK
          have hg0 := hgp_h.out q hqK
          rw [← hl0] at hg0
          have hbf := best_facts hMo_h.out hm_h.out (hgp_h.out q hqK)
          obtain ⟨P, hP⟩ : ∃ P, bestP g (grpN g q m) = P := ⟨_, rfl⟩
          have hn60 : (grpN g q m).length ≤ m := grpN_len g q m
          have hlr : ∀ e, e ∈ grpN g q m → 0 ≤ e ∧ e < (m : Int) := fun e he => (mem_grpN.1 he).1
          rw [← hl0] at hn60 hlr
          have hP' := hP
          rw [← hl0] at hP'
          obtain ⟨⟨HA, hc, l0⟩, hHq⟩ : ∃ h, H' q = h := ⟨_, rfl⟩
          rw [hHq] at hI0 hl0 hg0 hn60 hlr hP'
          simp only at hI0 hl0 hg0 hn60 hlr hP'
          obtain ⟨n0, hn0⟩ : ∃ n0, l0.length = n0 := ⟨_, rfl⟩
          have hval : (H' q).val = .slice HA n0 hc := by rw [hHq, ← hn0]; rfl
          rw [hval] at hen
          rw [hn0] at hg0 hn60
          have k11 := t_box_below kbi_h.out h11
          have hcp := closedPart_any w11 n m HA hc n0 l0 (hW0_h.out.below (below_trans hBi_h.out h11 hBi_h.out.size)) hMo_h.out hm_h.out (hI0.below h11).rd hn0 (by omega) hg0 hlr
          rw [hP'] at hcp
          rw [hP] at hbf
          obtain ⟨⟨x0, x1, x2, x3⟩, x4, x5, x6, x7⟩ := t_box4 k11
          have hRz := hR2_h.out
          have hslw := hsl_h.out.keeps hk11 (sl_rng hRz.rng.1 hsl_h.out)
          have hokw : ∀ x, x ∈ xs → CpOk w11 x := fun x hx => (hok_h.out x hx).rng hRz hk11
          clear hRz hok_h hsl_h; have hcp_h := lH hcp; have hR11_h := lH hR11; have hbf_h := lH hbf; have h11_h := lH h11; have k11_h := lH k11; have hP_h := lH hP; have hslw_h := lH hslw; have hokw_h := lH hokw; clear hcp hR11 hbf h11 k11 hP hslw hokw
          go_wp2_with (fail)
          refine (hcp_h.out).mono ?_
          rintro e w13 ⟨b3, mw3, me3, D3, dl3, dc3, rfl, hwk3, hI3, hln3, hnw3, hb3⟩
          have hxs1 : xl ≤ 1048576 := by
           have h1 := nodup_le hKd_h.out fun q hq => hKr_h.out q ((hKdm_h.out q).1 hq).1
           have hlenK : xs.length = Kd.length := by have h1 := congrArg List.length hmp_h.out; rw [List.length_map, List.length_map] at h1; exact h1
           have h2 := hxl_h.out
           omega
          obtain ⟨u, hu⟩ : ∃ u, leastW P.2.1.1 = u := ⟨_, rfl⟩
          obtain ⟨wy, hwy⟩ : ∃ u, P.2.2 = u := ⟨_, rfl⟩
          rw [hu, hwy]
          have hok13 : CpOk w13 ⟨b3, mw3, me3, D3, dl3, dc3, P⟩ := ⟨hwk3, hI3, hln3⟩
          have hcells : Cp.cells ⟨b3, mw3, me3, D3, dl3, dc3, P⟩ = [.pointer (some ⟨b3, 0, none⟩), .slice D3 dl3 dc3, .int .i64 u, .int .i64 wy] := by unfold Cp.cells; rw [hu, hwy]
          obtain ⟨w14, hw14, b14⟩ : ∃ W, W = w13.alloc (.cells #[.pointer (some ⟨b3, 0, none⟩), .slice D3 dl3 dc3, .int .i64 u, .int .i64 wy] tCp) ∧ Below w13.heap.size w13 W := ⟨_, rfl, t_below_alloc _ _⟩
          have hrdc : RdC w14 (some ⟨w13.heap.size, 0, none⟩) [.pointer (some ⟨b3, 0, none⟩), .slice D3 dl3 dc3, .int .i64 u, .int .i64 wy] := by rw [hw14]; exact Sl.rdc (Sl.laid w13 tCp 4 1 #[.pointer (some ⟨b3, 0, none⟩), .slice D3 dl3 dc3, .int .i64 u, .int .i64 wy] (by unfold maxLen; omega) rfl)
          have b34 := below_trans hb3 b14 hb3.size
          have hsl14 := hslw_h.out.below b34
          have hR14 := hR11_h.out.below b34
          have hok14 : ∀ x, x ∈ xs ++ [⟨b3, mw3, me3, D3, dl3, dc3, P⟩] → CpOk w14 x := fun x hx => by
           rcases List.mem_append.1 hx with h | h
           · exact (hokw_h.out x h).below b34
           · obtain rfl := List.mem_singleton.1 h
             exact hok13.below b14
          have hb114 := below_trans h11_h.out b34 h11_h.out.size
          clear hok13 hwk3 hI3 hb3 b14 b34 hslw_h hokw_h hcp_h hR11_h hnw3 x0 x1 x2 x3 x4 x5 x6 x7; have hsl14_h := lH hsl14; have hR14_h := lH hR14; have hok14_h := lH hok14; have hcells_h := lH hcells; have hrdc_h := lH hrdc; have hb114_h := lH hb114; have hln3_h := lH hln3; have hu_h := lH hu; have hwy_h := lH hwy; clear hsl14 hR14 hok14 hcells hrdc hb114 hln3 hu hwy
          go_wp2_with (at_builtin; rw [← hw14]; refine wpList_append_Sl _ rfl _ _ _ rfl tCp Tryz.underlying112 info_cp rfl (by omega) rfl hsl14_h.out rfl (news := [.pointer (some ⟨b3, 0, none⟩), .slice D3 dl3 dc3, .int .i64 u, .int .i64 wy]) rfl hrdc_h.out (by intro u hu; simp at hu; rcases hu with rfl | rfl | rfl | rfl <;> rfl) (by unfold maxLen; omega) (by omega) ?_; intro A6 c6 w6 hsA6 hA6 hkA6)
          rw [← hcells_h.out, ← flat4] at hsA6
          obtain ⟨blk6, off6, rfl⟩ := sl_addr hsA6 (by omega)
          have hR14' := hR14_h.out
          have hmbk : ∀ b, b ∈ fpA (some (⟨blk, off, none⟩ : Addr)) → b ≠ w1.heap.size := fun b hb e => hR14'.owns.ne_sl hsl14_h.out hb e.symm
          have hR6 := hR14'.keeps hkA6 (fun hb => hmbk _ hb rfl) (fun hb => sl_rng hR14'.rng.1 hsl14_h.out _ hb rfl)
          have hok6 : ∀ x, x ∈ xs ++ [⟨b3, mw3, me3, D3, dl3, dc3, P⟩] → CpOk w6 x := fun x hx => (hok14_h.out x hx).keeps hsl14_h.out hkA6 fun _ h => h
          have hbl6 : wi.heap.size ≤ blk6 := by
           rcases hA6 blk6 (List.mem_cons_self ..) with h | h
           · have : blk6 = blk := by simpa using h
             omega
           · have := hb114_h.out.size; omega
          have hb6 := below_keeps hb114_h.out hkA6 hb114_h.out.size fun b hb => by
           have : b = blk := by simpa using hb
           omega
          clear hR14' hmbk hkA6 hA6 hR14_h hok14_h hsl14_h hb114_h hrdc_h; have hsA6_h := lH hsA6; have hR6_h := lH hR6; have hok6_h := lH hok6; have hb6_h := lH hb6; clear hsA6 hR6 hok6 hb6
          go_roundw
          case rel =>
           refine ⟨_, cnt', Kd ++ [q], blk6, off6, c6, xl + 1, xs ++ [⟨b3, mw3, me3, D3, dl3, dc3, P⟩], rfl, by rw [List.length_append, hxl_h.out]; rfl, hR6_h.out, ?_, fun z => ?_, ?_, hsA6_h.out, hok6_h.out, hbl6, hb6_h.out⟩
           · rw [List.nodup_append]
             refine ⟨hKd_h.out, by simp, fun a ha b hb e => ?_⟩
             obtain rfl := List.mem_singleton.1 hb
             have := ((hKdm_h.out a).1 ha).2
             rw [e, hLq] at this
             cases this
           · rw [List.mem_append, hKdm_h.out, List.mem_singleton]
             constructor
             · rintro (⟨h1, h2⟩ | rfl)
               · exact ⟨h1, by rw [h2]; rfl⟩
               · exact ⟨hqK, by simp⟩
             · rintro ⟨h1, h2⟩
               by_cases e : z = q
               · exact .inr e
               · refine .inl ⟨h1, ?_⟩
                 cases hz : L2 z
                 · rfl
                 · rw [hz] at h2
                   simp [e] at h2
           · rw [List.map_append, hmp_h.out, List.map_append, List.map_singleton, List.map_singleton, hP_h.out]
          case measure => rw [hR6_h.out.left_eq, hR2_h.out.left_eq]; exact hlt11
     · intro x w8 cnt' hxm hLx hwf hR8 hlt8 hk8 hz8 hen
       have hxr := hrg_h.out x hxm
       obtain ⟨xx, rfl⟩ : ∃ xx : Nat, x = (xx : Int) := ⟨x.toNat, by omega⟩
       obtain ⟨hnx, hnr1, hnr2⟩ := numW_rng hMo_h.out (w := xx) (by omega)
       obtain ⟨qv, hqv⟩ : ∃ q, numW g (xx : Int) = q := ⟨_, rfl⟩
       rw [hqv] at hnx hnr1 hnr2
       have hI8 := ((((hI1_h.out.below hG_h.out.bel).below hb5_h.out).keeps hKe_h.out (fun b hb e => by have := hI1_h.out.lt b hb; have := hG_h.out.bel.size; omega)).keeps hk8 (fun b hb e => by have := hI1_h.out.lt b hb; have := hG_h.out.bel.size; omega))
       obtain ⟨ga, hga, pg⟩ := hI8.rd xx _ hnx
       subst hga
       have hM8 := hM'_h.out.keeps hk8 (by have := hM'_h.out.lt; have := hG_h.out.map.lt; omega)
       have hwq : (Lit.int .i64 qv).wf = true := WalkArith.wf_i64 (by omega)
       have hxn : (xx : Int) < (n : Int) := hxr.2
       have hKe8 := hKe_h.out.trans (hk8.mono (T := fun x => x = w1.heap.size ∨ x = wo.heap.size) fun _ _ e => .inr e)
       have hmo : w1.heap.size ≠ ow := by have := hw_h.out.lt.2.1; have := hB1_h.out.size; omega
       clear hI8 hnx; have hR8_h := lH hR8; have hM8_h := lH hM8; have hKe8_h := lH hKe8; have hqv_h := lH hqv; clear hR8 hM8 hKe8 hqv
       go_wp2_with (at_delete; refine wp_mg_del rfl _ _ rfl rfl hM8_h.out qv rfl hwq ?_; intro w9 hM9 hk9; go_frame)
       have hR9 := hR8_h.out.keeps hk9 (fun e => hmo e.symm) (by have := hG_h.out.map.lt; omega)
       have hKe9 := hKe8_h.out.trans (hk9.mono (T := fun x => x = w1.heap.size ∨ x = wo.heap.size) fun _ _ e => .inl e)
       clear hk9; have hR9_h := lH hR9; have hM9_h := lH hM9; have hKe9_h := lH hKe9; clear hR9 hM9 hKe9
       go_roundw
       case rel =>
        refine ⟨_, cnt', _, _, hR9_h.out, hM9_h.out, fun q => ?_, fun q hq => ?_, hKe9_h.out⟩
        · rw [mem_delK, hK_h.out]
          constructor
          · rintro ⟨⟨h1, h2⟩, h3⟩
            refine ⟨h1, fun y hy hL => ?_⟩
            cases hLy : L y
            · exact h2 y hy hLy
            · rw [hLy] at hL
              have : y = (xx : Int) := by simpa using hL
              rw [this, hqv_h.out]
              exact fun e => h3 e.symm
          · rintro ⟨h1, h2⟩
            exact ⟨⟨h1, fun y hy hL => h2 y hy (by rw [hL]; rfl)⟩, fun e => h2 (xx : Int) hxm (by simp) (by rw [hqv_h.out, e])⟩
        · obtain ⟨h1, h2⟩ := mem_delK.1 hq
          unfold setH
          rw [if_neg h2]
          exact hH'_h.out q h1
       case measure => rw [hR9_h.out.left_eq, hR_h.out.left_eq]; exact hlt8
abbrev tIS : TypeId := 23
structure NumS (W : World) (c1 c2 c3 c4 : Nat) (Wa Ea : Addr) (n m : Nat) (t : Nums) (w : World) : Prop where
 b1 : w.heap[c1]? = some (.cells #[.int .i64 t.2.2.1] tInt)
 b2 : w.heap[c2]? = some (.cells #[.slice (some Wa) n n] tIS)
 b3 : w.heap[c3]? = some (.cells #[.int .i64 t.2.2.2] tInt)
 b4 : w.heap[c4]? = some (.cells #[.slice (some Ea) m m] tIS)
 i1 : IS w (some Wa) n t.1
 i2 : IS w (some Ea) m t.2.1
 l1 : t.1.length = n
 l2 : t.2.1.length = m
 ap : c1 ≠ c3 ∧ Wa.block ≠ Ea.block ∧ (c1 ≠ Wa.block ∧ c1 ≠ Ea.block) ∧ c3 ≠ Wa.block ∧ c3 ≠ Ea.block
 new : W.heap.size ≤ c1 ∧ W.heap.size ≤ c3 ∧ W.heap.size ≤ Wa.block ∧ W.heap.size ≤ Ea.block
 bel : Below W.heap.size W w
def OwnN (c1 c3 : Nat) (Wa Ea : Addr) (b : Nat) : Prop := b = c1 ∨ b = c3 ∨ b = Wa.block ∨ b = Ea.block
theorem ne_of_type {w : World} {b c : Nat} {cs ds : Array Value} {t u : TypeId} {fr : Nat × Nat} (h : w.heap[b]? = some (.cells cs t fr)) (k : w.heap[c]? = some (.cells ds u)) (ht : t ≠ u) : b ≠ c := fun e => by
 subst e
 rw [h] at k
 injection k with k
 injection k with _ h1
 exact ht h1
theorem cellT {w : World} {B : Nat} {x : Value} {t : TypeId} (h : w.heap[B]? = some (.cells #[x] t)) : w.cell? ⟨B, 0, none⟩ = some x ∧ w.frozen? ⟨B, 0, none⟩ = false := by simp [World.cell?, World.frozen?, h]
theorem is_box {w : World} {A : Addr} {c : Nat} {l : List Int} (h : IS w (some A) c l) : ∃ cs, w.heap[A.block]? = some (.cells cs tInt) := by
 rcases h.2.2.2 with ⟨h0, _⟩ | ⟨g, off, cur, hA, hg, _⟩
 · cases h0
 · obtain rfl := Option.some.inj hA
   exact ⟨cur, hg⟩
section
variable {W w w' : World} {c1 c2 c3 c4 n m : Nat} {Wa Ea : Addr} {t : Nums}
theorem NumS.below (h : NumS W c1 c2 c3 c4 Wa Ea n m t w) (hb : Below w.heap.size w w') : NumS W c1 c2 c3 c4 Wa Ea n m t w' :=
 ⟨t_box_below h.b1 hb, t_box_below h.b2 hb, t_box_below h.b3 hb, t_box_below h.b4 hb, h.i1.below hb, h.i2.below hb, h.l1, h.l2, h.ap, h.new, below_trans h.bel hb h.bel.size⟩
theorem NumS.off (h : NumS W c1 c2 c3 c4 Wa Ea n m t w) {b : Nat} (hb : OwnN c1 c3 Wa Ea b) : (∃ cs, w.heap[b]? = some (.cells cs tInt)) ∧ W.heap.size ≤ b ∧ b < w.heap.size := by
 obtain ⟨_, q1⟩ := is_box h.i1
 obtain ⟨_, q2⟩ := is_box h.i2
 rcases hb with rfl | rfl | rfl | rfl
 · exact ⟨⟨_, h.b1⟩, h.new.1, t_box_lt h.b1⟩
 · exact ⟨⟨_, h.b3⟩, h.new.2.1, t_box_lt h.b3⟩
 · exact ⟨⟨_, q1⟩, h.new.2.2.1, t_box_lt q1⟩
 · exact ⟨⟨_, q2⟩, h.new.2.2.2, t_box_lt q2⟩
theorem NumS.setW (h : NumS W c1 c2 c3 c4 Wa Ea n m t w) {j : Nat} (x : Int) (hj : j < n) : NumS W c1 c2 c3 c4 Wa Ea n m (t.1.set j x, t.2) (w.setCell (Wa.add j) (.int .i64 x)) ∧ Keeps (fun b => b = Wa.block) w (w.setCell (Wa.add j) (.int .i64 x)) := by
 have hk : Keeps (fun b => b = Wa.block) w (w.setCell (Wa.add j) (.int .i64 x)) := Keeps.setCell (S := fun b => b = Wa.block) (Keeps.refl _ w) (p := Wa.add j) (by rw [block_of_add]) _
 obtain ⟨a1, a2, ⟨a3, a4⟩, a5, a6⟩ := h.ap
 obtain ⟨_, q1⟩ := is_box h.i1
 refine ⟨⟨t_box_keeps h.b1 hk a3, t_box_keeps h.b2 hk (fun e => ne_of_type q1 h.b2 (by decide) e.symm), t_box_keeps h.b3 hk a5, t_box_keeps h.b4 hk (fun e => ne_of_type q1 h.b4 (by decide) e.symm), h.i1.set rfl x (by rw [h.l1]; exact hj), h.i2.keeps hk fun b hb e => ?_, by simpa using h.l1, h.l2, h.ap, h.new, below_keeps h.bel hk h.bel.size fun b e => by rw [e]; exact h.new.2.2.1⟩, hk⟩
 have hb' : b = Ea.block := by simpa using hb
 exact a2 (e.symm.trans hb')
theorem NumS.setE (h : NumS W c1 c2 c3 c4 Wa Ea n m t w) {j : Nat} (x : Int) (hj : j < m) : NumS W c1 c2 c3 c4 Wa Ea n m (t.1, t.2.1.set j x, t.2.2) (w.setCell (Ea.add j) (.int .i64 x)) ∧ Keeps (fun b => b = Ea.block) w (w.setCell (Ea.add j) (.int .i64 x)) := by
 have hk : Keeps (fun b => b = Ea.block) w (w.setCell (Ea.add j) (.int .i64 x)) := Keeps.setCell (S := fun b => b = Ea.block) (Keeps.refl _ w) (p := Ea.add j) (by rw [block_of_add]) _
 obtain ⟨a1, a2, ⟨a3, a4⟩, a5, a6⟩ := h.ap
 obtain ⟨_, q1⟩ := is_box h.i2
 refine ⟨⟨t_box_keeps h.b1 hk a4, t_box_keeps h.b2 hk (fun e => ne_of_type q1 h.b2 (by decide) e.symm), t_box_keeps h.b3 hk a6, t_box_keeps h.b4 hk (fun e => ne_of_type q1 h.b4 (by decide) e.symm), h.i1.keeps hk (fun b hb e => ?_), h.i2.set rfl x (by rw [h.l2]; exact hj), h.l1, by simpa using h.l2, h.ap, h.new, below_keeps h.bel hk h.bel.size fun b e => by rw [e]; exact h.new.2.2.2⟩, hk⟩
 have hb' : b = Wa.block := by simpa using hb
 exact a2 (hb'.symm.trans e)
theorem set1c {w : World} {B : Nat} {ty : TypeId} {x y : Value} (hb : w.heap[B]? = some (.cells #[x] ty)) : (w.setCell ⟨B, 0, none⟩ y).heap[B]? = some (.cells #[y] ty) ∧ Keeps (· = B) w (w.setCell ⟨B, 0, none⟩ y) :=
 ⟨by simp [World.setCell, Array.getElem?_modify, hb], (Keeps.refl (fun x => x = B) w).setCell (p := ⟨B, 0, none⟩) rfl _⟩
theorem NumS.set1 (h : NumS W c1 c2 c3 c4 Wa Ea n m t w) (x : Int) : NumS W c1 c2 c3 c4 Wa Ea n m (t.1, t.2.1, x, t.2.2.2) (w.setCell ⟨c1, 0, none⟩ (.int .i64 x)) ∧ Keeps (fun b => b = c1) w (w.setCell ⟨c1, 0, none⟩ (.int .i64 x)) := by
 obtain ⟨s1, hk⟩ := set1c (y := .int .i64 x) h.b1
 obtain ⟨a1, a2, ⟨a3, a4⟩, a5, a6⟩ := h.ap
 refine ⟨⟨s1, t_box_keeps h.b2 hk (fun e => ne_of_type h.b1 h.b2 (by decide) e.symm), t_box_keeps h.b3 hk (fun e => a1 e.symm), t_box_keeps h.b4 hk (fun e => ne_of_type h.b1 h.b4 (by decide) e.symm), h.i1.keeps hk (fun b hb e => ?_), h.i2.keeps hk (fun b hb e => ?_), h.l1, h.l2, h.ap, h.new, below_keeps h.bel hk h.bel.size fun b e => by rw [e]; exact h.new.1⟩, hk⟩
 · have hb' : b = Wa.block := by simpa using hb
   exact a3 (e.symm.trans hb')
 · have hb' : b = Ea.block := by simpa using hb
   exact a4 (e.symm.trans hb')
theorem NumS.set3 (h : NumS W c1 c2 c3 c4 Wa Ea n m t w) (x : Int) : NumS W c1 c2 c3 c4 Wa Ea n m (t.1, t.2.1, t.2.2.1, x) (w.setCell ⟨c3, 0, none⟩ (.int .i64 x)) ∧ Keeps (fun b => b = c3) w (w.setCell ⟨c3, 0, none⟩ (.int .i64 x)) := by
 obtain ⟨s1, hk⟩ := set1c (y := .int .i64 x) h.b3
 obtain ⟨a1, a2, ⟨a3, a4⟩, a5, a6⟩ := h.ap
 refine ⟨⟨t_box_keeps h.b1 hk a1, t_box_keeps h.b2 hk (fun e => ne_of_type h.b3 h.b2 (by decide) e.symm), s1, t_box_keeps h.b4 hk (fun e => ne_of_type h.b3 h.b4 (by decide) e.symm), h.i1.keeps hk (fun b hb e => ?_), h.i2.keeps hk (fun b hb e => ?_), h.l1, h.l2, h.ap, h.new, below_keeps h.bel hk h.bel.size fun b e => by rw [e]; exact h.new.2.1⟩, hk⟩
 · have hb' : b = Wa.block := by simpa using hb
   exact a5 (e.symm.trans hb')
 · have hb' : b = Ea.block := by simpa using hb
   exact a6 (e.symm.trans hb')
theorem NumS.bx (h : NumS W c1 c2 c3 c4 Wa Ea n m t w) : (w.cell? ⟨c1, 0, none⟩ = some (.int .i64 t.2.2.1) ∧ w.frozen? ⟨c1, 0, none⟩ = false) ∧ (w.cell? ⟨c2, 0, none⟩ = some (.slice (some Wa) n n) ∧ w.frozen? ⟨c2, 0, none⟩ = false) ∧ (w.cell? ⟨c3, 0, none⟩ = some (.int .i64 t.2.2.2) ∧ w.frozen? ⟨c3, 0, none⟩ = false) ∧ w.cell? ⟨c4, 0, none⟩ = some (.slice (some Ea) m m) ∧ w.frozen? ⟨c4, 0, none⟩ = false := by
 refine ⟨?_, ?_, ?_, ?_⟩ <;> simp [World.cell?, World.frozen?, h.b1, h.b2, h.b3, h.b4]
theorem NumS.far (h : NumS W c1 c2 c3 c4 Wa Ea n m t w) {w0 : World} {t0 : Nums} (h0 : NumS W c1 c2 c3 c4 Wa Ea n m t0 w0) {r : Nat} (hr : w0.heap.size ≤ r) (hk : Keeps (fun b => b = r) w w') : NumS W c1 c2 c3 c4 Wa Ea n m t w' :=
 ⟨t_box_keeps h.b1 hk (fun e => by have := t_box_lt h0.b1; omega), t_box_keeps h.b2 hk (fun e => by have := t_box_lt h0.b2; omega), t_box_keeps h.b3 hk (fun e => by have := t_box_lt h0.b3; omega), t_box_keeps h.b4 hk (fun e => by have := t_box_lt h0.b4; omega),
  h.i1.keeps hk (fun b hb e => by have := h0.i1.lt b hb; omega), h.i2.keeps hk (fun b hb e => by have := h0.i2.lt b hb; omega), h.l1, h.l2, h.ap, h.new, below_keeps h.bel hk h.bel.size fun b e => by have := h0.bel.size; omega⟩
theorem WkR.nums {b mw me : Nat} {s : WE} (h : WkR w b mw me s) (hN : NumS W c1 c2 c3 c4 Wa Ea n m t w) (hk : Keeps (OwnN c1 c3 Wa Ea) w w') : WkR w' b mw me s := by
 have hh := h
 obtain ⟨d0, d1, d2, d3, d4, d5, d8, d9, e1, e2, e3⟩ := hh
 refine h.keeps hk (fun hx => ?_) (fun hx => ?_) (fun hx => ?_)
 · obtain ⟨⟨_, q⟩, _⟩ := hN.off hx
   exact ne_of_type q e1 (by decide) rfl
 · obtain ⟨⟨_, q⟩, _⟩ := hN.off hx
   exact e2.ne_cells q rfl
 · obtain ⟨⟨_, q⟩, _⟩ := hN.off hx
   exact e3.ne_cells q rfl
end
set_option maxRecDepth 100000 in
set_option maxHeartbeats 8000000 in
theorem addNums_any (W w : World) (c1 c2 c3 c4 n m ob ow oe : Nat) (Wa Ea : Addr) (t : Nums) (s : WE) (h : NumS W c1 c2 c3 c4 Wa Ea n m t w) (hw : WkR w ob ow oe s) (hs : s.1.Nodup ∧ s.2.Nodup) (hr1 : ∀ x, x ∈ s.1 → 0 ≤ x ∧ x < (n : Int)) (hr2 : ∀ x, x ∈ s.2 → 0 ≤ x ∧ x < (m : Int)) (hn : n ≤ 100) (hm : m ≤ 60)
  (ht : (0 ≤ t.2.2.1 ∧ t.2.2.1 ≤ 1048576) ∧ 0 ≤ t.2.2.2 ∧ t.2.2.2 ≤ 1048576) :
  Calls Tryz.prog 84 #[.pointer (some ⟨ob, 0, none⟩), .pointer (some ⟨c1, 0, none⟩), .pointer (some ⟨c2, 0, none⟩), .pointer (some ⟨c3, 0, none⟩), .pointer (some ⟨c4, 0, none⟩)] w fun e w' =>
   e = .returned (.tuple #[]) ∧ NumS W c1 c2 c3 c4 Wa Ea n m (addN t s) w' ∧ Keeps (OwnN c1 c3 Wa Ea) w w' := by
 obtain ⟨t1, t2, u1, u2⟩ := t
 simp only at ht
 obtain ⟨⟨hu1, hu1'⟩, hu2, hu2'⟩ := ht
 have hls1 := nodup_le hs.1 hr1
 have hls2 := nodup_le hs.2 hr2
 have hw0 := hw
 obtain ⟨d0, d1, d2, d3, d4, d5, d8, d9, ko, hM1, hM2⟩ := hw
 obtain ⟨⟨x0, x1, x2, x3, x4, x5, x6, x7, x8, x9⟩, _, _⟩ := box10 ko
 have hlw := hw0.lt
 have h_h := lH h; have hs_h := lH hs; have hr1_h := lH hr1; have hr2_h := lH hr2; have hM1_h := lH hM1; have hM2_h := lH hM2; have ko_h := lH ko; have hls1_h := lH hls1; have hls2_h := lH hls2; have hw0_h := lH hw0; have hlw_h := lH hlw; clear h hs hr1 hr2 hM1 hM2 ko hls1 hls2 hw0 hlw
 go_enter Tryz.func84, Tryz.ntmps84
 go_wp2_with (at_range; refine wp_mi_range rfl _ rfl rfl hM1_h.out hs_h.out.1 ?_; intro w5 hR5 hb5 hz5)
 have h5 := h_h.out.below hb5
 have hk5 : Keeps (fun b => OwnN c1 c3 Wa Ea b) w w5 := Keeps.of_below hb5 _
 clear x0 x1 x2 x3 x4 x5 x6 x7 x8 x9; have hR5_h := lH hR5; have h5_h := lH h5; have hk5_h := lH hk5; clear hR5 h5 hk5
 go_frame
 go_loopw [6] (fun (_ : Value) wr => ∃ (L : Int → Bool) (cnt : Nat), MR wr ow w.heap.size s.1 L cnt ∧ NumS W c1 c2 c3 c4 Wa Ea n m (putF t1 u1 s.1 L, t2, u1, u2) wr ∧ Keeps (OwnN c1 c3 Wa Ea) w wr) (fun _ wr => wr.rangeLeft ow w.heap.size)
 case atStart => exact ⟨_, _, hR5_h.out, by rw [putF_start (fun x hx => decide_eq_true hx)]; exact h5_h.out, hk5_h.out⟩
 case round =>
  clear hR5_h h5_h hk5_h
  obtain ⟨L, cnt, hR, hN, hK⟩ := hrel
  obtain ⟨wi, rfl⟩ : ∃ x, x = wr := ⟨_, rfl⟩
  have hR_h := lH hR; have hN_h := lH hN; have hK_h := lH hK; clear hR hN hK
  go_wp2_with (at_next; refine wp_mr_next rfl _ rfl rfl hR_h.out hs_h.out.1 ?_ ?_)
  · intro _ hL0
    rw [putF_end hL0] at hN_h
    have hwi := hw0_h.out.nums h_h.out hK_h.out
    obtain ⟨d0', d1', d2', d3', d4', d5', d8', d9', ko', hM1', hM2'⟩ := hwi
    obtain ⟨⟨x0, x1, x2, x3, x4, x5, x6, x7, x8, x9⟩, _, _⟩ := box10 ko'
    clear hR_h hL0 ko'; have hM1'_h := lH hM1'; have hM2'_h := lH hM2'; clear hM1' hM2'
    go_wp2_with (at_range; refine wp_mi_range rfl _ rfl rfl hM2'_h.out hs_h.out.2 ?_; intro w6 hR6 hb6 hz6)
    have h6 := hN_h.out.below hb6
    have hk6 := hK_h.out.trans (Keeps.of_below hb6 (OwnN c1 c3 Wa Ea))
    clear x0 x1 x2 x3 x4 x5 x6 x7 x8 x9 hM1'_h hM2'_h
    have hzi := hK_h.out.size
    have hR6_h := lH hR6; have h6_h := lH h6; have hk6_h := lH hk6; clear hR6 h6 hk6
    go_frame
    go_loopw [8] (fun (_ : Value) wr => ∃ (L : Int → Bool) (cnt : Nat), MR wr oe wi.heap.size s.2 L cnt ∧ NumS W c1 c2 c3 c4 Wa Ea n m (putN t1 u1 s.1, putF t2 u2 s.2 L, u1, u2) wr ∧ Keeps (OwnN c1 c3 Wa Ea) w wr) (fun _ wr => wr.rangeLeft oe wi.heap.size)
    case atStart => exact ⟨_, _, hR6_h.out, by rw [putF_start (fun x hx => decide_eq_true hx)]; exact h6_h.out, hk6_h.out⟩
    case round =>
     clear hR6_h h6_h hk6_h
     obtain ⟨L, cnt, hR, hN', hK'⟩ := hrel
     obtain ⟨wj, rfl⟩ : ∃ x, x = wr := ⟨_, rfl⟩
     have hR_h := lH hR; have hN'_h := lH hN'; have hK'_h := lH hK'; clear hR hN' hK'
     go_wp2_with (at_next; refine wp_mr_next rfl _ rfl rfl hR_h.out hs_h.out.2 ?_ ?_)
     · intro _ hL0
       rw [putF_end hL0] at hN'_h
       have hwj := hw0_h.out.nums h_h.out hK'_h.out
       have hwj' := hwj
       obtain ⟨d0'', d1'', d2'', d3'', d4'', d5'', d8'', d9'', ko', hM1', hM2'⟩ := hwj'
       obtain ⟨⟨x0, x1, x2, x3, x4, x5, x6, x7, x8, x9⟩, _, _⟩ := box10 ko'
       obtain ⟨q1, hq1⟩ : ∃ q, s.1.length = q := ⟨_, rfl⟩
       obtain ⟨q2, hq2⟩ : ∃ q, s.2.length = q := ⟨_, rfl⟩
       have hlq1 := hls1_h.out
       have hlq2 := hls2_h.out
       rw [hq1] at hlq1
       rw [hq2] at hlq2
       clear hR_h hL0 hM2'; have hwj_h := lH hwj; have ko'_h := lH ko'; have hq1_h := lH hq1; have hq2_h := lH hq2; have hM1'_h := lH hM1'; clear hwj ko' hq1 hq2 hM1'
       go_upto_region 8 with (fail)
       refine beginZw 7 (fun w' => w'.heap[c1]? = some (.cells #[.int .i64 u1] tInt) ∧ w'.heap[ob]? = some (.cells #[d0'', d1'', d2'', d3'', d4'', d5'', .map (some ow), .map (some oe), d8'', d9''] tWk) ∧ MI w' ow s.1) (by kernel_rfl) (fun W1 hW1 => ?_)
       have hbd : Below wj.heap.size wj W1 := by rw [hW1]; exact below_drewN (Below.refl _ _) 1
       have hN1 := hN'_h.out.below hbd
       have hwk1 := hwj_h.out.below hbd
       have hko1 := t_box_below ko'_h.out hbd
       have hMI1 := hM1'_h.out.below hbd
       have hK1 := hK'_h.out.trans (Keeps.of_below hbd _)
       clear hW1 x0 x1 x2 x3 x4 x5 x6 x7 x8 x9; have hN1_h := lH hN1; have hwk1_h := lH hwk1; have hko1_h := lH hko1; have hMI1_h := lH hMI1; have hK1_h := lH hK1; have hbd_h := lH hbd; clear hN1 hwk1 hko1 hMI1 hK1 hbd
       refine tkC 0 ?_ rfl (⟨hN1_h.out.b1, hko1_h.out, hMI1_h.out⟩ : _ ∧ _ ∧ _) (fun W' hW' => ?_) ?_; rotate_left; · (obtain ⟨⟨y1, z1⟩, ⟨⟨c0, c1', c2', c3', c4', c5, c6, c7, c8, c9⟩, f8, f9⟩⟩ := (⟨cellT hW'.1, box10 hW'.2.1⟩ : _ ∧ _); have hlen := fun ty => hW'.2.2.len hs_h.out.1 ty; rw [hq1_h.out] at hlen; clear hW'; go_simp; first | done | with_reducible rfl)
       simp only [Act.put, nS]
       refine tkC 1 ?_ rfl (⟨hN1_h.out.b1, hko1_h.out, hMI1_h.out⟩ : _ ∧ _ ∧ _) (fun W' hW' => ?_) ?_; rotate_left; · (obtain ⟨⟨y1, z1⟩, ⟨⟨c0, c1', c2', c3', c4', c5, c6, c7, c8, c9⟩, f8, f9⟩⟩ := (⟨cellT hW'.1, box10 hW'.2.1⟩ : _ ∧ _); have hlen := fun ty => hW'.2.2.len hs_h.out.1 ty; rw [hq1_h.out] at hlen; clear hW'; go_simp; first | done | with_reducible rfl)
       simp only [Act.put, nS]
       refine tkC 2 ?_ rfl (⟨hN1_h.out.b1, hko1_h.out, hMI1_h.out⟩ : _ ∧ _ ∧ _) (fun W' hW' => ?_) ?_; rotate_left; · (obtain ⟨⟨y1, z1⟩, ⟨⟨c0, c1', c2', c3', c4', c5, c6, c7, c8, c9⟩, f8, f9⟩⟩ := (⟨cellT hW'.1, box10 hW'.2.1⟩ : _ ∧ _); have hlen := fun ty => hW'.2.2.len hs_h.out.1 ty; rw [hq1_h.out] at hlen; clear hW'; go_simp; first | done | with_reducible rfl)
       simp only [Act.put, nS]
       refine tkC 3 ?_ rfl (⟨hN1_h.out.b1, hko1_h.out, hMI1_h.out⟩ : _ ∧ _ ∧ _) (fun W' hW' => ?_) ?_; rotate_left; · (obtain ⟨⟨y1, z1⟩, ⟨⟨c0, c1', c2', c3', c4', c5, c6, c7, c8, c9⟩, f8, f9⟩⟩ := (⟨cellT hW'.1, box10 hW'.2.1⟩ : _ ∧ _); have hlen := fun ty => hW'.2.2.len hs_h.out.1 ty; rw [hq1_h.out] at hlen; clear hW'; go_simp; first | done | with_reducible rfl)
       simp only [Act.put, nS]
       refine tkC 4 ?_ rfl (⟨hN1_h.out.b1, hko1_h.out, hMI1_h.out⟩ : _ ∧ _ ∧ _) (fun W' hW' => ?_) ?_; rotate_left; · (obtain ⟨⟨y1, z1⟩, ⟨⟨c0, c1', c2', c3', c4', c5, c6, c7, c8, c9⟩, f8, f9⟩⟩ := (⟨cellT hW'.1, box10 hW'.2.1⟩ : _ ∧ _); have hlen := fun ty => hW'.2.2.len hs_h.out.1 ty; rw [hq1_h.out] at hlen; clear hW'; go_simp; first | done | with_reducible rfl)
       simp only [Act.put, nS]
       refine tkC 5 ?_ rfl (⟨hN1_h.out.b1, hko1_h.out, hMI1_h.out⟩ : _ ∧ _ ∧ _) (fun W' hW' => ?_) ?_; rotate_left; · (obtain ⟨⟨y1, z1⟩, ⟨⟨c0, c1', c2', c3', c4', c5, c6, c7, c8, c9⟩, f8, f9⟩⟩ := (⟨cellT hW'.1, box10 hW'.2.1⟩ : _ ∧ _); have hlen := fun ty => hW'.2.2.len hs_h.out.1 ty; rw [hq1_h.out] at hlen; clear hW'; go_simp; first | done | with_reducible rfl)
       simp only [Act.put, nS]
       refine tkC 6 ?_ rfl (⟨hN1_h.out.b1, hko1_h.out, hMI1_h.out⟩ : _ ∧ _ ∧ _) (fun W' hW' => ?_) ?_; rotate_left; · (obtain ⟨⟨y1, z1⟩, ⟨⟨c0, c1', c2', c3', c4', c5, c6, c7, c8, c9⟩, f8, f9⟩⟩ := (⟨cellT hW'.1, box10 hW'.2.1⟩ : _ ∧ _); have hlen := fun ty => hW'.2.2.len hs_h.out.1 ty; rw [hq1_h.out] at hlen; clear hW'; go_simp; first | done | with_reducible rfl)
       simp only [Act.put, nS]
       obtain ⟨y1, z1⟩ := cellT hN1_h.out.b1
       obtain ⟨hN2, hk2⟩ := hN1_h.out.set1 (u1 + (q1 : Int))
       simp only at hN2
       have hk12 := hK1_h.out.trans (hk2.mono (T := OwnN c1 c3 Wa Ea) fun _ _ e => .inl e)
       have hwk2 := hwk1_h.out.nums hN1_h.out (hk2.mono (T := OwnN c1 c3 Wa Ea) fun _ _ e => .inl e)
       have hko2 := t_box_keeps hko1_h.out hk2 (ne_of_type hko1_h.out hN1_h.out.b1 (by decide))
       have hM2'' : MI (W1.setCell ⟨c1, 0, none⟩ (.int .i64 (u1 + (q1 : Int)))) oe s.2 := by
        obtain ⟨_, _, _, _, _, _, _, _, _, _, e2⟩ := hwk2
        exact e2
       clear hk2 hN1_h hwk1_h hko1_h hMI1_h hK1_h hwj_h ko'_h hM1'_h hwk2; have hN2_h := lH hN2; have hk12_h := lH hk12; have hko2_h := lH hko2; have hM2''_h := lH hM2''; clear hN2 hk12 hko2 hM2''
       have hwr : IntKind.i64.wrap (u1 + (q1 : Int)) = u1 + (q1 : Int) := by simp [IntKind.wrap, IntKind.bits, IntKind.signed]; omega
       rw [hwr]
       refine oneZ 7 rfl (by kernel_rfl) (by rfl) (fun K hK => ?_)
       go_simp
       refine hK _ _ (fun h => by cases h) ?_
       clear hK K
       refine doneZ (by kernel_rfl) ?_
       obtain ⟨W3, hW3⟩ : ∃ W, W = W1.setCell ⟨c1, 0, none⟩ (.int .i64 (u1 + (q1 : Int))) := ⟨_, rfl⟩
       rw [← hW3] at hN2_h hk12_h hko2_h hM2''_h ⊢
       clear hW3 y1 z1
       go_upto_region 9 with (fail)
       refine beginZw 7 (fun w' => w'.heap[c3]? = some (.cells #[.int .i64 u2] tInt) ∧ w'.heap[ob]? = some (.cells #[d0'', d1'', d2'', d3'', d4'', d5'', .map (some ow), .map (some oe), d8'', d9''] tWk) ∧ MI w' oe s.2) (by kernel_rfl) (fun W4 hW4 => ?_)
       have hbd4 : Below W3.heap.size W3 W4 := by rw [hW4]; exact below_drewN (Below.refl _ _) 1
       have hN4 := hN2_h.out.below hbd4
       have hko4 := t_box_below hko2_h.out hbd4
       have hM4 := hM2''_h.out.below hbd4
       have hK4 := hk12_h.out.trans (Keeps.of_below hbd4 _)
       clear hW4 hbd4; have hN4_h := lH hN4; have hko4_h := lH hko4; have hM4_h := lH hM4; have hK4_h := lH hK4; clear hN4 hko4 hM4 hK4
       refine tkC 0 ?_ rfl (⟨hN4_h.out.b3, hko4_h.out, hM4_h.out⟩ : _ ∧ _ ∧ _) (fun W' hW' => ?_) ?_; rotate_left; · (obtain ⟨⟨y1, z1⟩, ⟨⟨c0, c1', c2', c3', c4', c5, c6, c7, c8, c9⟩, f8, f9⟩⟩ := (⟨cellT hW'.1, box10 hW'.2.1⟩ : _ ∧ _); have hlen := fun ty => hW'.2.2.len hs_h.out.2 ty; rw [hq2_h.out] at hlen; clear hW'; go_simp; first | done | with_reducible rfl)
       simp only [Act.put, nS]
       refine tkC 1 ?_ rfl (⟨hN4_h.out.b3, hko4_h.out, hM4_h.out⟩ : _ ∧ _ ∧ _) (fun W' hW' => ?_) ?_; rotate_left; · (obtain ⟨⟨y1, z1⟩, ⟨⟨c0, c1', c2', c3', c4', c5, c6, c7, c8, c9⟩, f8, f9⟩⟩ := (⟨cellT hW'.1, box10 hW'.2.1⟩ : _ ∧ _); have hlen := fun ty => hW'.2.2.len hs_h.out.2 ty; rw [hq2_h.out] at hlen; clear hW'; go_simp; first | done | with_reducible rfl)
       simp only [Act.put, nS]
       refine tkC 2 ?_ rfl (⟨hN4_h.out.b3, hko4_h.out, hM4_h.out⟩ : _ ∧ _ ∧ _) (fun W' hW' => ?_) ?_; rotate_left; · (obtain ⟨⟨y1, z1⟩, ⟨⟨c0, c1', c2', c3', c4', c5, c6, c7, c8, c9⟩, f8, f9⟩⟩ := (⟨cellT hW'.1, box10 hW'.2.1⟩ : _ ∧ _); have hlen := fun ty => hW'.2.2.len hs_h.out.2 ty; rw [hq2_h.out] at hlen; clear hW'; go_simp; first | done | with_reducible rfl)
       simp only [Act.put, nS]
       refine tkC 3 ?_ rfl (⟨hN4_h.out.b3, hko4_h.out, hM4_h.out⟩ : _ ∧ _ ∧ _) (fun W' hW' => ?_) ?_; rotate_left; · (obtain ⟨⟨y1, z1⟩, ⟨⟨c0, c1', c2', c3', c4', c5, c6, c7, c8, c9⟩, f8, f9⟩⟩ := (⟨cellT hW'.1, box10 hW'.2.1⟩ : _ ∧ _); have hlen := fun ty => hW'.2.2.len hs_h.out.2 ty; rw [hq2_h.out] at hlen; clear hW'; go_simp; first | done | with_reducible rfl)
       simp only [Act.put, nS]
       refine tkC 4 ?_ rfl (⟨hN4_h.out.b3, hko4_h.out, hM4_h.out⟩ : _ ∧ _ ∧ _) (fun W' hW' => ?_) ?_; rotate_left; · (obtain ⟨⟨y1, z1⟩, ⟨⟨c0, c1', c2', c3', c4', c5, c6, c7, c8, c9⟩, f8, f9⟩⟩ := (⟨cellT hW'.1, box10 hW'.2.1⟩ : _ ∧ _); have hlen := fun ty => hW'.2.2.len hs_h.out.2 ty; rw [hq2_h.out] at hlen; clear hW'; go_simp; first | done | with_reducible rfl)
       simp only [Act.put, nS]
       refine tkC 5 ?_ rfl (⟨hN4_h.out.b3, hko4_h.out, hM4_h.out⟩ : _ ∧ _ ∧ _) (fun W' hW' => ?_) ?_; rotate_left; · (obtain ⟨⟨y1, z1⟩, ⟨⟨c0, c1', c2', c3', c4', c5, c6, c7, c8, c9⟩, f8, f9⟩⟩ := (⟨cellT hW'.1, box10 hW'.2.1⟩ : _ ∧ _); have hlen := fun ty => hW'.2.2.len hs_h.out.2 ty; rw [hq2_h.out] at hlen; clear hW'; go_simp; first | done | with_reducible rfl)
       simp only [Act.put, nS]
       refine tkC 6 ?_ rfl (⟨hN4_h.out.b3, hko4_h.out, hM4_h.out⟩ : _ ∧ _ ∧ _) (fun W' hW' => ?_) ?_; rotate_left; · (obtain ⟨⟨y1, z1⟩, ⟨⟨c0, c1', c2', c3', c4', c5, c6, c7, c8, c9⟩, f8, f9⟩⟩ := (⟨cellT hW'.1, box10 hW'.2.1⟩ : _ ∧ _); have hlen := fun ty => hW'.2.2.len hs_h.out.2 ty; rw [hq2_h.out] at hlen; clear hW'; go_simp; first | done | with_reducible rfl)
       simp only [Act.put, nS]
       obtain ⟨y1, z1⟩ := cellT hN4_h.out.b3
       obtain ⟨hN5, hk5⟩ := hN4_h.out.set3 (u2 + (q2 : Int))
       simp only at hN5
       have hk15 := hK4_h.out.trans (hk5.mono (T := OwnN c1 c3 Wa Ea) fun _ _ e => .inr (.inl e))
       clear hk5; have hN5_h := lH hN5; have hk15_h := lH hk15; clear hN5 hk15
       have hwr : IntKind.i64.wrap (u2 + (q2 : Int)) = u2 + (q2 : Int) := by simp [IntKind.wrap, IntKind.bits, IntKind.signed]; omega
       rw [hwr]
       refine oneZ 7 rfl (by kernel_rfl) (by rfl) (fun K hK => ?_)
       go_simp
       refine hK _ _ (fun h => by cases h) ?_
       clear hK K
       refine doneZ (by kernel_rfl) ?_
       go_wp2_with (fail)
       go_end0
       refine ⟨rfl, ?_, hk15_h.out⟩
       show NumS W c1 c2 c3 c4 Wa Ea n m (putN t1 u1 s.1, putN t2 u2 s.2, u1 + (s.1.length : Int), u2 + (s.2.length : Int)) _
       rw [hq1_h.out, hq2_h.out]
       exact hN5_h.out
     · intro x w8 cnt' hxs hLx hwf hR8 hlt8 hk8 hz8 hen
       have hxr := hr2_h.out x hxs
       obtain ⟨xx, rfl⟩ : ∃ xx : Nat, x = (xx : Int) := ⟨x.toNat, by omega⟩
       have hst : putF t2 u2 s.2 (fun z => L z && !decide (z = (xx : Int))) = (putF t2 u2 s.2 L).set xx (u2 + idx s.2 xx) := putF_step hxs (fun _ => rfl)
       obtain ⟨q, hq⟩ : ∃ q, idx s.2 (xx : Int) = q := ⟨_, rfl⟩
       have hqr := idx_lt hxs
       rw [hq] at hqr hen hst
       have hls := hls2_h.out
       have hq1 : 0 ≤ q ∧ q ≤ 60 := by omega
       have hN8 := hN'_h.out.far hN_h.out (Nat.le_refl _) hk8
       have hnb := hN8.bx
       simp only at hnb
       obtain ⟨⟨y1, z1⟩, ⟨y2, z2⟩, ⟨y3, z3⟩, y4, z4⟩ := hnb
       obtain ⟨zd, z0, ze, _, _, zc, zf⟩ := hN8.i2.at_ (j := xx) (by rw [hN8.l2]; omega)
       obtain rfl := Option.some.inj ze
       have zfk := zf xx
       obtain ⟨hN9, hk9⟩ := hN8.setE (j := xx) (u2 + q) (by omega)
       simp only at hN9
       rw [← hst] at hN9
       obtain ⟨_, qb⟩ := is_box hN8.i2
       have hmw := (hw0_h.out.nums h_h.out hK'_h.out)
       obtain ⟨_, _, _, _, _, _, _, _, _, _, hM2'⟩ := hmw
       obtain ⟨_, qb'⟩ := is_box hN'_h.out.i2
       have hR9 := hR8.keeps hk9 (hM2'.ne_cells qb') (by have := hN_h.out.i2.lt Ea.block (List.mem_cons_self ..); omega)
       have hk39 : Keeps (OwnN c1 c3 Wa Ea) w (w8.setCell (Ea.add xx) (.int .i64 (u2 + q))) := (hK'_h.out.free hk8 (fun b h1 h2 => by omega)).trans (hk9.mono (T := OwnN c1 c3 Wa Ea) fun _ _ e => .inr (.inr (.inr e)))
       have hxI : (xx : Int) < (m : Int) := by omega
       clear hk8 hN8 hk9 hst hM2' qb qb' zf ze hqr hq hxs; have hR9_h := lH hR9; have hN9_h := lH hN9; have hk39_h := lH hk39; clear hR9 hN9 hk39
       go_wp2_with (fail)
       go_roundw
       case rel => exact ⟨_, cnt', hR9_h.out, hN9_h.out, hk39_h.out⟩
       case measure => rw [hR9_h.out.left_eq, hR_h.out.left_eq]; exact hlt8
  · intro x w8 cnt' hxs hLx hwf hR8 hlt8 hk8 hz8 hen
    have hxr := hr1_h.out x hxs
    obtain ⟨xx, rfl⟩ : ∃ xx : Nat, x = (xx : Int) := ⟨x.toNat, by omega⟩
    have hst : putF t1 u1 s.1 (fun z => L z && !decide (z = (xx : Int))) = (putF t1 u1 s.1 L).set xx (u1 + idx s.1 xx) := putF_step hxs (fun _ => rfl)
    obtain ⟨q, hq⟩ : ∃ q, idx s.1 (xx : Int) = q := ⟨_, rfl⟩
    have hqr := idx_lt hxs
    rw [hq] at hqr hen hst
    have hls := hls1_h.out
    have hq1 : 0 ≤ q ∧ q ≤ 100 := by omega
    have hN8 := hN_h.out.far h_h.out (Nat.le_refl _) hk8
    have hnb := hN8.bx
    simp only at hnb
    obtain ⟨⟨y1, z1⟩, ⟨y2, z2⟩, ⟨y3, z3⟩, y4, z4⟩ := hnb
    obtain ⟨zd, z0, ze, _, _, zc, zf⟩ := hN8.i1.at_ (j := xx) (by rw [hN8.l1]; omega)
    obtain rfl := Option.some.inj ze
    have zfk := zf xx
    obtain ⟨hN9, hk9⟩ := hN8.setW (j := xx) (u1 + q) (by omega)
    simp only at hN9
    rw [← hst] at hN9
    have hmw := (hw0_h.out.nums h_h.out hK_h.out)
    obtain ⟨_, _, _, _, _, _, _, _, _, hM2', _⟩ := hmw
    obtain ⟨_, qb'⟩ := is_box hN_h.out.i1
    have hR9 := hR8.keeps hk9 (hM1_h.out.ne_cells (is_box h_h.out.i1).choose_spec) (by have := h_h.out.i1.lt Wa.block (List.mem_cons_self ..); omega)
    have hk39 : Keeps (OwnN c1 c3 Wa Ea) w (w8.setCell (Wa.add xx) (.int .i64 (u1 + q))) := (hK_h.out.free hk8 (fun b h1 h2 => by omega)).trans (hk9.mono (T := OwnN c1 c3 Wa Ea) fun _ _ e => .inr (.inr (.inl e)))
    have hxI : (xx : Int) < (n : Int) := by omega
    clear hk8 hN8 hk9 hst hM2' qb' zf ze hqr hq hxs; have hR9_h := lH hR9; have hN9_h := lH hN9; have hk39_h := lH hk39; clear hR9 hN9 hk39
    go_wp2_with (fail)
    go_roundw
    case rel => exact ⟨_, cnt', hR9_h.out, hN9_h.out, hk39_h.out⟩
    case measure => rw [hR9_h.out.left_eq, hR_h.out.left_eq]; exact hlt8
abbrev tLp : TypeId := 90
structure Lp where
 D : Option Addr
 dl : Nat
 dc : Nat
 A : Option Addr
 al : Nat
 ac : Nat
 G : Option Addr
 gl : Nat
 gc : Nat
 P : Prt
def Lp.cells (x : Lp) : List Value := [.slice x.D x.dl x.dc, .slice x.A x.al x.ac, .slice x.G x.gl x.gc, .int .i64 x.P.2.2]
structure LpOk (w : World) (x : Lp) : Prop where
 cod : IS w x.D x.dc x.P.1
 wir : IS w x.A x.ac x.P.2.1.1
 edg : IS w x.G x.gc x.P.2.1.2
 len : (x.P.1.length = x.dl ∧ x.dl ≤ 1048576) ∧ (x.P.2.1.1.length = x.al ∧ x.al ≤ 1048576) ∧ x.P.2.1.2.length = x.gl ∧ x.gl ≤ 1048576
theorem LpOk.below {w w' : World} {x : Lp} (h : LpOk w x) (hb : Below w.heap.size w w') : LpOk w' x := ⟨h.cod.below hb, h.wir.below hb, h.edg.below hb, h.len⟩
theorem LpOk.keeps {w w' : World} {x : Lp} (h : LpOk w x) {S : Nat → Prop} (hk : Keeps S w w') (hS : ∀ b, (b ∈ fpA x.D ∨ b ∈ fpA x.A ∨ b ∈ fpA x.G) → ¬ S b) : LpOk w' x :=
 ⟨h.cod.keeps hk fun b hb => hS b (.inl hb), h.wir.keeps hk fun b hb => hS b (.inr (.inl hb)), h.edg.keeps hk fun b hb => hS b (.inr (.inr hb)), h.len⟩
set_option maxRecDepth 100000 in
set_option maxHeartbeats 4000000 in
theorem cnLoopBefore_any (x y : Lp) (w : World) (hx : LpOk w x) (hy : LpOk w y) (hrx : ∀ v, v ∈ x.P.2.1.1 → 0 ≤ v) (hry : ∀ v, v ∈ y.P.2.1.1 → 0 ≤ v) :
  Calls Tryz.prog 96 #[.agg x.cells.toArray, .agg y.cells.toArray] w fun e w' => e = .returned (.bool (befP x.P y.P)) ∧ Below w.heap.size w w' := by
 obtain ⟨XD, xdl, xdc, XA, xal, xac, XG, xgl, xgc, P⟩ := x
 obtain ⟨YD, ydl, ydc, YA, yal, yac, YG, ygl, ygc, R⟩ := y
 obtain ⟨a1, a2, a3, ⟨a4, a5⟩, ⟨a6, a7⟩, a8, a9⟩ := hx
 obtain ⟨b1, b2, b3, ⟨b4, b5⟩, ⟨b6, b7⟩, b8, b9⟩ := hy
 simp only at a1 a2 a4 a5 a6 a7 b1 b2 b4 b5 b6 b7 hrx hry
 show Calls _ _ #[.agg #[.slice XD xdl xdc, .slice XA xal xac, .slice XG xgl xgc, .int .i64 P.2.2], .agg #[.slice YD ydl ydc, .slice YA yal yac, .slice YG ygl ygc, .int .i64 R.2.2]] w fun e w' => e = .returned (.bool (befP P R)) ∧ Below w.heap.size w w'
 obtain ⟨wy, hwy⟩ : ∃ u, P.2.2 = u := ⟨_, rfl⟩
 obtain ⟨wy', hwy'⟩ : ∃ u, R.2.2 = u := ⟨_, rfl⟩
 rw [hwy, hwy']
 obtain ⟨W, hW, bW, q0, q1⟩ := twoBoxesC w (.cells #[.slice XD xdl xdc, .slice XA xal xac, .slice XG xgl xgc, .int .i64 wy] tLp) (.cells #[.slice YD ydl ydc, .slice YA yal yac, .slice YG ygl ygc, .int .i64 wy'] tLp)
 have hr1 := leastW_rng P.2.1.1 100 (by decide) (by decide) hrx
 have hr2 := leastW_rng R.2.1.1 100 (by decide) (by decide) hry
 have hbf : befP P R = if P.1 = R.1 then decide (leastW P.2.1.1 < leastW R.2.1.1) else lexI P.1 R.1 := rfl
 have hS := l1Same_any XD YD xdc ydc xdl ydl P.1 R.1 W (a1.below bW).rd (b1.below bW).rd a4 b4 a5 b5
 have hBf := fun (W' : World) (hb : Below W.heap.size W W') => cnBefore_any XD YD xdc ydc xdl ydl P.1 R.1 W' ((a1.below bW).below hb).rd ((b1.below bW).below hb).rd a4 b4 a5
 have hL1 := fun (W' : World) (hb : Below W.heap.size W W') => cnLeast_any XA xac xal P.2.1.1 W' ((a2.below bW).below hb).rd a6 a7
 have hL2 := fun (W' : World) (hb : Below W.heap.size W W') => cnLeast_any YA yac yal R.2.1.1 W' ((b2.below bW).below hb).rd b6 b7
 change 0 ≤ leastW P.2.1.1 ∧ leastW P.2.1.1 ≤ 100 at hr1
 change 0 ≤ leastW R.2.1.1 ∧ leastW R.2.1.1 ≤ 100 at hr2
 obtain ⟨u, hu⟩ : ∃ u, leastW P.2.1.1 = u := ⟨_, rfl⟩
 obtain ⟨u', hu'⟩ : ∃ u, leastW R.2.1.1 = u := ⟨_, rfl⟩
 rw [hu] at hr1 hL1 hbf
 rw [hu'] at hr2 hL2 hbf
 clear a1 a2 a3 a4 a5 a6 a7 a8 a9 b1 b2 b3 b4 b5 b6 b7 b8 b9 hrx hry hu hu' hwy hwy'
 obtain ⟨⟨c0, c1, c2, c3⟩, f0, f1, f2, f3⟩ := t_box4 q0
 obtain ⟨⟨d0, d1, d2, d3⟩, g0, g1, g2, g3⟩ := t_box4 q1
 have bW_h := lH bW; have q0_h := lH q0; have q1_h := lH q1; have hS_h := lH hS; have hBf_h := lH hBf; have hL1_h := lH hL1; have hL2_h := lH hL2; clear bW q0 q1 hS hBf hL1 hL2
 go_enter Tryz.func96, Tryz.ntmps96
 go_upto_region 1 with (fail)
 rw [← hW]
 clear hW
 go_wp2_with (fail)
 refine (hS_h.out).mono ?_
 rintro e w2 ⟨rfl, hb2⟩
 clear c0 c1 c2 c3 f0 f1 f2 f3 d0 d1 d2 d3 g0 g1 g2 g3
 have q0' := t_box_below q0_h.out hb2
 have q1' := t_box_below q1_h.out hb2
 have hB2 := below_trans bW_h.out hb2 bW_h.out.size
 by_cases he : P.1 = R.1
 · rw [if_pos he] at hbf
   rw [decide_eq_true he]
   have q0'_h := lH q0'; have q1'_h := lH q1'; have hB2_h := lH hB2; have hb2_h := lH hb2; clear q0' q1' hB2 hb2
   go_upto_region 2 with (fail)
   refine beginH (fun w' => Below w2.heap.size w2 w') (by kernel_rfl) ?_
   have hbd : Below w2.heap.size w2 w2.drew := below_drewN (Below.refl _ _) 1
   generalize w2.drew = W1 at hbd ⊢
   refine tkH 0 ?_ rfl hbd (fun W' hW' => ?_) ?_; rotate_left; · (obtain ⟨⟨⟨c0, c1, c2, c3⟩, f0, f1, f2, f3⟩, ⟨d0, d1, d2, d3⟩, g0, g1, g2, g3⟩ := (⟨t_box4 (t_box_below q0'_h.out hW'), t_box4 (t_box_below q1'_h.out hW')⟩ : _ ∧ _); clear hW'; go_simp; first | done | with_reducible rfl)
   simp only [Act.put, nS]
   refine tkH 1 ?_ rfl hbd (fun W' hW' => ?_) ?_; rotate_left; · (obtain ⟨⟨⟨c0, c1, c2, c3⟩, f0, f1, f2, f3⟩, ⟨d0, d1, d2, d3⟩, g0, g1, g2, g3⟩ := (⟨t_box4 (t_box_below q0'_h.out hW'), t_box4 (t_box_below q1'_h.out hW')⟩ : _ ∧ _); clear hW'; go_simp; first | done | with_reducible rfl)
   simp only [Act.put, nS]
   refine tkH 3 ?_ rfl hbd (fun W' hW' => ?_) ?_; rotate_left; · (obtain ⟨⟨⟨c0, c1, c2, c3⟩, f0, f1, f2, f3⟩, ⟨d0, d1, d2, d3⟩, g0, g1, g2, g3⟩ := (⟨t_box4 (t_box_below q0'_h.out hW'), t_box4 (t_box_below q1'_h.out hW')⟩ : _ ∧ _); clear hW'; go_simp; first | done | with_reducible rfl)
   simp only [Act.put, nS]
   refine tkH 4 ?_ rfl hbd (fun W' hW' => ?_) ?_; rotate_left; · (obtain ⟨⟨⟨c0, c1, c2, c3⟩, f0, f1, f2, f3⟩, ⟨d0, d1, d2, d3⟩, g0, g1, g2, g3⟩ := (⟨t_box4 (t_box_below q0'_h.out hW'), t_box4 (t_box_below q1'_h.out hW')⟩ : _ ∧ _); clear hW'; go_simp; first | done | with_reducible rfl)
   simp only [Act.put, nS]
   refine relT [(2, 12), (5, 15)] (fun _ => []) (fun d _ v _ => if d = 12 then v = .int .i64 u else v = .int .i64 u') (fun _ _ => []) 2 rfl (by kernel_rfl) ?st1 ?co1 (fun w' hw' => below_trans hbd hw' hbd.size) ?sp1 ?fi1
   case st1 => exact fun d xs => Stb.ite (fun _ _ _ h _ => h) (fun _ _ _ h _ => h)
   case co1 => exact fun z hz xs ys v w hd h => h
   case sp1 =>
    refine ⟨⟨_, rfl, fun xs w5 hb5 hd K hK => ?_⟩, ⟨_, rfl, fun xs w5 hb5 hd K hK => ?_⟩, trivial⟩
    · simp only [putZ, List.foldl_cons, List.foldl_nil, Act.put, nS] at hK ⊢
      refine wp_callZ (f := ?f_1) (args := ?args_1) ?hr_1 ?hc_1
      case hr_1 => (go_simp; first | done | with_reducible rfl | (constructor <;> with_reducible rfl))
      case hc_1 =>
       refine (hL1_h.out w5 (below_trans (below_trans hb2_h.out hbd hb2_h.out.size) hb5 (Nat.le_trans hb2_h.out.size hbd.size))).mono ?_
       rintro e w6 ⟨rfl, rfl⟩
       exact ⟨_, rfl, hK _ _ (Below.refl _ _) rfl fun b hb => by cases hb⟩
    · simp only [putZ, List.foldl_cons, List.foldl_nil, Act.put, nS] at hK ⊢
      refine wp_callZ (f := ?f_2) (args := ?args_2) ?hr_2 ?hc_2
      case hr_2 => (go_simp; first | done | with_reducible rfl | (constructor <;> with_reducible rfl))
      case hc_2 =>
       refine (hL2_h.out w5 (below_trans (below_trans hb2_h.out hbd hb2_h.out.size) hb5 (Nat.le_trans hb2_h.out.size hbd.size))).mono ?_
       rintro e w6 ⟨rfl, rfl⟩
       exact ⟨_, rfl, hK _ _ (Below.refl _ _) rfl fun b hb => by cases hb⟩
   case fi1 =>
    intro xs w6 hb6 hR hO hD
    have h1 : xs 12 = .int .i64 u := hR (2, 12) (by simp)
    have h2 : xs 15 = .int .i64 u' := hR (5, 15) (by simp)
    have hb26 := below_trans hbd hb6 hbd.size
    clear hR hO hD
    simp only [putZ, List.foldl_cons, List.foldl_nil, Act.put, nS, h1, h2, mkZ]
    refine tkH 6 ?_ rfl hb26 (fun W' hW' => ?_) ?_; rotate_left; · (skip; clear hW'; go_simp; first | done | with_reducible rfl)
    simp only [Act.put, nS]
    refine tkH 7 ?_ rfl hb26 (fun W' hW' => ?_) ?_; rotate_left; · (skip; clear hW'; go_simp; first | done | with_reducible rfl)
    simp only [Act.put, nS]
    refine doneH (by kernel_rfl) ?_
    go_wp2_with (fail)
    go_ret
    rw [hbf]
    exact ⟨rfl, below_trans hB2_h.out hb26 hB2_h.out.size⟩
 · rw [if_neg he] at hbf
   rw [decide_eq_false he]
   obtain ⟨⟨c0, c1, c2, c3⟩, f0, f1, f2, f3⟩ := t_box4 q0'
   obtain ⟨⟨d0, d1, d2, d3⟩, g0, g1, g2, g3⟩ := t_box4 q1'
   clear q0' q1'; have hB2_h := lH hB2; have hb2_h := lH hb2; clear hB2 hb2
   go_wp2_with (fail)
   refine (hBf_h.out w2 hb2_h.out).mono ?_
   rintro e w3 ⟨rfl, hb3⟩
   go_wp2_with (fail)
   go_ret
   rw [hbf]
   exact ⟨rfl, below_trans hB2_h.out hb3 hB2_h.out.size⟩
theorem cp_at {w : World} {A : Option Addr} {n cap : Nat} {xs : List Cp} (hs : Sl w tCp 4 A n cap (xs.flatMap Cp.cells)) {j : Nat} {x : Cp} (hx : xs[j]? = some x) : ∃ ad, A = some ad ∧
  w.cell? (ad.add (j * 4)) = some (.pointer (some ⟨x.b, 0, none⟩)) ∧ w.cell? ⟨(ad.add (j * 4)).block, (ad.add (j * 4)).off + 1, none⟩ = some (.slice x.D x.dl x.dc) ∧ w.cell? ⟨(ad.add (j * 4)).block, (ad.add (j * 4)).off + 2, none⟩ = some (.int .i64 (leastW x.P.2.1.1)) ∧ w.cell? ⟨(ad.add (j * 4)).block, (ad.add (j * 4)).off + 3, none⟩ = some (.int .i64 x.P.2.2) := by
 have hk : ∀ x : Cp, x.cells.length = 4 := fun _ => rfl
 have h0 := flat_get hk xs j 0 x hx (by omega)
 have h1 := flat_get hk xs j 1 x hx (by omega)
 have h2 := flat_get hk xs j 2 x hx (by omega)
 have h3 := flat_get hk xs j 3 x hx (by omega)
 obtain ⟨ad, hA, _, c0, _⟩ := hs.cell h0
 obtain ⟨ad1, hA1, _, c1, _⟩ := hs.cell h1
 obtain ⟨ad2, hA2, _, c2, _⟩ := hs.cell h2
 obtain ⟨ad3, hA3, _, c3, _⟩ := hs.cell h3
 rw [hA] at hA1 hA2 hA3
 obtain rfl := Option.some.inj hA1
 obtain rfl := Option.some.inj hA2
 obtain rfl := Option.some.inj hA3
 rw [add_next _ _ 1 (by omega)] at c1
 rw [add_next _ _ 2 (by omega)] at c2
 rw [add_next _ _ 3 (by omega)] at c3
 exact ⟨ad, hA, c0, c1, c2, c3⟩
structure Num2 (W : World) (c2 c4 : Nat) (Wa Ea : Addr) (n m : Nat) (w : World) : Prop where
 b2 : w.heap[c2]? = some (.cells #[.slice (some Wa) n n] tIS)
 b4 : w.heap[c4]? = some (.cells #[.slice (some Ea) m m] tIS)
 i1 : IS w (some Wa) n (List.replicate n (-1))
 i2 : IS w (some Ea) m (List.replicate m (-1))
 ne : Wa.block ≠ Ea.block
 new : W.heap.size ≤ Wa.block ∧ W.heap.size ≤ Ea.block
 bel : Below W.heap.size W w
theorem NumS.sl {W w w' : World} {c1 c2 c3 c4 n m : Nat} {Wa Ea : Addr} {t : Nums} (hN : NumS W c1 c2 c3 c4 Wa Ea n m t w) {e : TypeId} (he : e ≠ tInt) {sz k cap : Nat} {A : Option Addr} {xs : List Value} (hs : Sl w e sz A k cap xs) (hk : Keeps (OwnN c1 c3 Wa Ea) w w') : Sl w' e sz A k cap xs :=
 hs.keeps hk fun b hb hS => by
  obtain ⟨⟨cs, q⟩, _⟩ := hN.off hS
  rcases hs.2.2.2 with ⟨rfl, _⟩ | ⟨g, off', cur, rfl, hg, _⟩
  · cases hb
  · obtain rfl : b = g := by simpa using hb
    rw [hg] at q
    injection q with q
    injection q with _ h1
    exact he h1
theorem ord_le {g : Gr} {n : Nat} (h : Mono g n) (k : Nat) : (ordW g k).length ≤ n ∧ (ordE g k).length ≤ g.2.1.length := by
 have e1 : ordW g (partsM g).length = ordW g k ++ ((partsM g).drop k).flatMap fun b => b.2.1.1 := by
  unfold ordW
  rw [List.take_length, List.append_assoc, ← List.flatMap_append, List.take_append_drop]
 have e2 : ordE g (partsM g).length = ordE g k ++ ((partsM g).drop k).flatMap fun b => b.2.1.2 := by
  unfold ordE
  rw [List.take_length, List.append_assoc, ← List.flatMap_append, List.take_append_drop]
 have h1 := nodup_le (ordW_all h).1 fun x hx => ((ordW_all h).2 x).1 hx
 have h2 := nodup_le (ordE_all h).1 fun x hx => ((ordE_all h).2 x).1 hx
 rw [e1, List.length_append] at h1
 rw [e2, List.length_append] at h2
 omega
theorem part_facts {g : Gr} {n : Nat} (h : Mono g n) {b : Prt} (hb : b ∈ partsM g) : (b.2.1.1.Nodup ∧ b.2.1.2.Nodup) ∧ (∀ x, x ∈ b.2.1.1 → 0 ≤ x ∧ x < (n : Int)) ∧ ∀ x, x ∈ b.2.1.2 → 0 ≤ x ∧ x < (g.2.1.length : Int) := by
 obtain ⟨c, _, hc, rfl⟩ := parts_of h hb
 obtain ⟨h1, h2, h3, h4⟩ := part_has h hc
 exact ⟨⟨h1, h2⟩, fun x hx => ((h3 x).1 hx).1, fun x hx => ((h4 x).1 hx).1⟩
def BoxV (v : Value) (w : World) : Prop := ∃ lb, v = .pointer (some ⟨lb, 0, none⟩) ∧ w.heap[lb]? = some (.cells #[.slice none 0 0] tIS)
set_option maxRecDepth 100000 in
set_option maxHeartbeats 8000000 in
theorem canonicalNumbers_any {v : Value} {g : Gr} (w : World) (n m : Nat) (h : RdGr w v g) (hMo : Mono g n) (hv : grB g = true) (hm : g.2.1.length = m) :
  Calls Tryz.prog 59 #[v] w fun e w' => ∃ Wa Ea : Addr, e = .returned (.tuple #[.slice (some Wa) n n, .slice (some Ea) m m]) ∧ IS w' (some Wa) n (cnM g).1 ∧ IS w' (some Ea) m (cnM g).2 ∧ Wa.block ≠ Ea.block ∧ w.heap.size ≤ Wa.block ∧ w.heap.size ≤ Ea.block ∧ Below w.heap.size w w' := by
 have hn100 := hMo.n100
 have hm60 : m ≤ 60 := by rw [← hm]; exact hMo.m60
 have hgn := hMo.hn
 have hW0 := h
 obtain ⟨A, c, hs, ⟨B, bb, s⟩, ⟨C, d, t⟩, rfl, e1, e2, e3, hE, hRa, hRb⟩ := h
 have hml : hs.length = m := by rw [← hm, e1, List.length_map]
 simp only [hgn, hml] at hW0 ⊢
 obtain ⟨p, hp⟩ : ∃ p, s.length = p := ⟨_, rfl⟩
 obtain ⟨r, hr⟩ : ∃ r, t.length = r := ⟨_, rfl⟩
 rw [hp, hr] at hW0 ⊢
 obtain ⟨W, hWe, bW, k0⟩ := (⟨_, rfl, t_below_alloc _ _, heap_alloc_new _ _⟩ : ∃ W, W = w.alloc (.cells #[.int .i64 (n : Int), .slice A m c, .slice B p bb, .slice C r d] tGr) ∧ Below w.heap.size w W ∧ W.heap[w.heap.size]? = some (.cells #[.int .i64 (n : Int), .slice A m c, .slice B p bb, .slice C r d] tGr))
 obtain ⟨⟨c0, c1, c2, c3⟩, f0, f1, f2, f3⟩ := t_box4 k0
 have how := openWalk_any W n (hW0.below bW) hMo
 have hC1 := fun W => repeated_any (-1) n W (by omega)
 have hC2 := fun W => repeated_any (-1) m W (by omega)
 clear hRa hRb e1 e2 e3 hE; have hMo_h := lH hMo; have hm_h := lH hm; have hW0_h := lH hW0; have hgn_h := lH hgn; have hml_h := lH hml; have hp_h := lH hp; have hr_h := lH hr; have bW_h := lH bW; have k0_h := lH k0; have hv_h := lH hv; have how_h := lH how; have hC1_h := lH hC1; have hC2_h := lH hC2; clear hMo hm hW0 hgn hml hp hr bW k0 hv how hC1 hC2
 go_enter Tryz.func59, Tryz.ntmps59
 go_upto_region 1 with (fail)
 rw [← hWe]
 clear hWe
 go_wp2_with (fail)
 refine (how_h.out).mono ?_
 rintro e w1 ⟨ob, ow, oe, rfl, hw1, hnew1, hb1⟩
 have k1 := t_box_below k0_h.out hb1
 have hB1 := below_trans bW_h.out hb1 bW_h.out.size
 clear how_h hb1 k0_h; clear c0 c1 c2 c3 f0 f1 f2 f3; have k1_h := lH k1; have hB1_h := lH hB1; have hw1_h := lH hw1; have hnew1_h := lH hnew1; clear k1 hB1 hw1 hnew1
 go_upto_region 2 with (fail)
 go_cut [5, 6] (fun s5 s6 wx => ∃ (c2 c4 : Nat) (Wa Ea : Addr), s5 = .pointer (some ⟨c2, 0, none⟩) ∧ s6 = .pointer (some ⟨c4, 0, none⟩) ∧ Num2 w1 c2 c4 Wa Ea n m wx)
 case first =>
  refine beginH (fun w' => Below w1.heap.size w1 w' ) (by kernel_rfl) ?_
  have hbd : Below w1.heap.size w1 w1.drew := below_drewN (Below.refl _ _) 1
  generalize w1.drew = W1 at hbd ⊢
  refine tkH 0 ?_ rfl hbd (fun W' hW' => ?_) ?_; rotate_left; · (obtain ⟨⟨y0, y1, y2, y3⟩, y4, y5, y6, y7⟩ := t_box4 (t_box_below k1_h.out hW'); clear hW'; go_simp; first | done | with_reducible rfl)
  simp only [Act.put, nS]
  refine tkH 1 ?_ rfl hbd (fun W' hW' => ?_) ?_; rotate_left; · (obtain ⟨⟨y0, y1, y2, y3⟩, y4, y5, y6, y7⟩ := t_box4 (t_box_below k1_h.out hW'); clear hW'; go_simp; first | done | with_reducible rfl)
  simp only [Act.put, nS]
  refine tkH 3 ?_ rfl hbd (fun W' hW' => ?_) ?_; rotate_left; · (obtain ⟨⟨y0, y1, y2, y3⟩, y4, y5, y6, y7⟩ := t_box4 (t_box_below k1_h.out hW'); clear hW'; go_simp; first | done | with_reducible rfl)
  simp only [Act.put, nS]
  refine tkH 4 ?_ rfl hbd (fun W' hW' => ?_) ?_; rotate_left; · (obtain ⟨⟨y0, y1, y2, y3⟩, y4, y5, y6, y7⟩ := t_box4 (t_box_below k1_h.out hW'); clear hW'; go_simp; first | done | with_reducible rfl)
  simp only [Act.put, nS]
  refine tkH 5 ?_ rfl hbd (fun W' hW' => ?_) ?_; rotate_left; · (obtain ⟨⟨y0, y1, y2, y3⟩, y4, y5, y6, y7⟩ := t_box4 (t_box_below k1_h.out hW'); clear hW'; go_simp; first | done | with_reducible rfl)
  simp only [Act.put, nS]
  refine relT [(2, 16), (6, 20), (7, 5), (8, 6)] (fun _ => []) (fun d _ v w => if d = 16 then RepV n (-1) v w else if d = 20 then RepV m (-1) v w else BoxV v w) (fun _ => blkV) 2 rfl (by kernel_rfl) ?st1 ?co1 (fun w' hw' => below_trans hbd hw' hbd.size) ?sp1 ?fi1
  case st1 => exact fun d xs => (RepV.stb n (-1)).ite ((RepV.stb m (-1)).ite fun v w w' ⟨lb, e, h⟩ hb => ⟨lb, e, t_box_below h hb⟩)
  case co1 => exact fun z hz xs ys v w hd h => h
  case sp1 =>
   refine ⟨⟨_, rfl, fun xs w5 hb5 hd K hK => ?_⟩, ⟨_, rfl, fun xs w5 hb5 hd K hK => ?_⟩, ⟨_, rfl, fun xs w5 hb5 hd K hK => ?_⟩, ⟨_, rfl, fun xs w5 hb5 hd K hK => ?_⟩, trivial⟩
   · simp only [putZ, List.foldl_cons, List.foldl_nil, Act.put, nS] at hK ⊢
     refine wp_callZ (f := ?f_1) (args := ?args_1) ?hr_1 ?hc_1
     case hr_1 => (go_simp; first | done | with_reducible rfl | (constructor <;> with_reducible rfl))
     case hc_1 =>
      refine (hC1_h.out w5).mono ?_
      rintro e w6 ⟨G, rfl, hI, hG, hb6⟩
      exact ⟨_, rfl, hK _ _ hb6 ⟨G, rfl, hI⟩ fun b hb => by
       obtain rfl : b = G.block := by simpa [blkV] using hb
       exact ⟨hG, hI.lt G.block (by simp)⟩⟩
   · simp only [putZ, List.foldl_cons, List.foldl_nil, Act.put, nS] at hK ⊢
     refine wp_callZ (f := ?f_2) (args := ?args_2) ?hr_2 ?hc_2
     case hr_2 => (go_simp; first | done | with_reducible rfl | (constructor <;> with_reducible rfl))
     case hc_2 =>
      refine (hC2_h.out w5).mono ?_
      rintro e w6 ⟨G, rfl, hI, hG, hb6⟩
      exact ⟨_, rfl, hK _ _ hb6 ⟨G, rfl, hI⟩ fun b hb => by
       obtain rfl : b = G.block := by simpa [blkV] using hb
       exact ⟨hG, hI.lt G.block (by simp)⟩⟩
   · simp only [putZ, List.foldl_cons, List.foldl_nil, Act.put, nS] at hK ⊢
     go_simp
     exact hK _ _ (t_below_alloc _ _) ⟨_, rfl, heap_alloc_new _ _⟩ fun b hb => by
      obtain rfl : b = w5.heap.size := by simpa [blkV] using hb
      simp
   · simp only [putZ, List.foldl_cons, List.foldl_nil, Act.put, nS] at hK ⊢
     go_simp
     exact hK _ _ (t_below_alloc _ _) ⟨_, rfl, heap_alloc_new _ _⟩ fun b hb => by
      obtain rfl : b = w5.heap.size := by simpa [blkV] using hb
      simp
  case fi1 =>
   intro xs w6 hb6 hR hO hD
   obtain ⟨G1, h1, hI1⟩ := (hR (2, 16) (by simp) : RepV n (-1) (xs 16) w6)
   obtain ⟨G2, h2, hI2⟩ := (hR (6, 20) (by simp) : RepV m (-1) (xs 20) w6)
   obtain ⟨l1, h3, hx1⟩ := (hR (7, 5) (by simp) : BoxV (xs 5) w6)
   obtain ⟨l2, h4, hx2⟩ := (hR (8, 6) (by simp) : BoxV (xs 6) w6)
   have o1 := hO (2, 16) (by simp) G1.block (by show _ ∈ blkV (xs 16); rw [h1]; simp [blkV])
   have o2 := hO (6, 20) (by simp) G2.block (by show _ ∈ blkV (xs 20); rw [h2]; simp [blkV])
   have o3 := hO (7, 5) (by simp) l1 (by show _ ∈ blkV (xs 5); rw [h3]; simp [blkV])
   have o4 := hO (8, 6) (by simp) l2 (by show _ ∈ blkV (xs 6); rw [h4]; simp [blkV])
   have d12 : G1.block ≠ G2.block := fun e => hD (2, 16) (by simp) (6, 20) (by simp) (by decide) G1.block (by show _ ∈ blkV (xs 16); rw [h1]; simp [blkV]) (by show _ ∈ blkV (xs 20); rw [h2, e]; simp [blkV])
   have d34 : l1 ≠ l2 := fun e => hD (7, 5) (by simp) (8, 6) (by simp) (by decide) l1 (by show _ ∈ blkV (xs 5); rw [h3]; simp [blkV]) (by show _ ∈ blkV (xs 6); rw [h4, e]; simp [blkV])
   have hbW := below_trans hbd hb6 hbd.size
   have hz1 := hbd.size
   obtain ⟨x1, y1⟩ := cellT hx1
   obtain ⟨x2, y2⟩ := cellT hx2
   obtain ⟨s1, k1'⟩ := set1c (y := .slice (some G1) n n) hx1
   have hx2' := t_box_keeps hx2 k1' (fun e => d34 e.symm)
   obtain ⟨s12, k12'⟩ := set1c (y := .slice (some G2) m m) hx2'
   obtain ⟨x4, y4⟩ := cellT hx2'
   have key : ∀ W', W'.heap[l1]? = some (.cells #[.slice (some G1) n n] tIS) → W'.heap[l2]? = some (.cells #[.slice (some G2) m m] tIS) → Keeps (fun b => b = l1 ∨ b = l2) w6 W' → Num2 w1 l1 l2 G1 G2 n m W' := fun W' q1 q2 hk => by
    have off : ∀ G : Addr, ∀ c l, IS w6 (some G) c l → ¬ (G.block = l1 ∨ G.block = l2) := fun G c l hI h => by
     rcases h with h | h
     · exact is_ne_box hI hx1 (by decide) h
     · exact is_ne_box hI hx2 (by decide) h
    exact ⟨q1, q2, hI1.keeps hk (fun b hb hs' => off _ _ _ hI1 (by rw [show b = G1.block by simpa using hb] at hs'; exact hs')), hI2.keeps hk (fun b hb hs' => off _ _ _ hI2 (by rw [show b = G2.block by simpa using hb] at hs'; exact hs')), d12, ⟨by omega, by omega⟩, below_keeps hbW hk hbW.size fun b hb => by omega⟩
   have kA := key _ (t_box_keeps s1 k12' d34) s12 ((k1'.mono (T := fun b => b = l1 ∨ b = l2) fun _ _ e => .inl e).trans (k12'.mono (T := fun b => b = l1 ∨ b = l2) fun _ _ e => .inr e))
   have hS1 := below_keeps hbW k1' hbW.size fun b hb => by omega
   clear hR hO hD hI1 hI2 hx1 hx2 hx2' s1 s12 k1' k12' key d12 o1 o2 o3 o4; have kA_h := lH kA; have hS1_h := lH hS1; clear kA hS1
   simp only [putZ, List.foldl_cons, List.foldl_nil, Act.put, nS, h1, h2, h3, h4, mkZ]
   refine oneH 9 rfl (by kernel_rfl) (by rfl) (fun K hK => ?_)
   go_simp
   refine hK _ _ (hS1_h.out) ?_
   clear hK K
   refine oneH 10 rfl (by kernel_rfl) (by rfl) (fun K hK => ?_)
   go_simp
   refine hK _ _ (kA_h.out.bel) ?_
   clear hK K
   refine doneH (by kernel_rfl) ?_
   go_wp2_with (fail)
   go_meet
   exact ⟨l1, l2, G1, G2, rfl, rfl, kA_h.out⟩
 case rest =>
  obtain ⟨c2, c4, Wa, Ea, rfl, rfl, hN⟩ := hcut
  have k2 := t_box_below k1_h.out hN.bel
  obtain ⟨⟨c0, c1, c2', c3⟩, f0, f1, f2, f3⟩ := t_box4 k2
  have hw2 := hw1_h.out.below hN.bel
  have hB2 := below_trans hB1_h.out hN.bel hB1_h.out.size
  have hlt1 := t_box_lt k1_h.out
  clear hw1_h k1_h hC1_h hC2_h
  obtain ⟨W3, hW3, b3, q0, q1⟩ := twoBoxesC wc (.cells #[.int .i64 0] tInt) (.cells #[.int .i64 0] tInt)
  have hN3 : NumS w1 wc.heap.size c2 (wc.heap.size + 1) c4 Wa Ea n m (List.replicate n (-1), List.replicate m (-1), 0, 0) W3 :=
   ⟨q0, t_box_below hN.b2 b3, q1, t_box_below hN.b4 b3, hN.i1.below b3, hN.i2.below b3, by simp, by simp, ⟨by omega, hN.ne, ⟨by have := hN.i1.lt Wa.block (by simp); omega, by have := hN.i2.lt Ea.block (by simp); omega⟩, by have := hN.i1.lt Wa.block (by simp); omega, by have := hN.i2.lt Ea.block (by simp); omega⟩, ⟨hN.bel.size, by have := hN.bel.size; omega, hN.new.1, hN.new.2⟩, below_trans hN.bel b3 hN.bel.size⟩
  have hw3 := hw2.below b3
  have hop := openM_inv hMo_h.out
  have hadd := addNums_any w1 W3 wc.heap.size c2 (wc.heap.size + 1) c4 n m ob ow oe Wa Ea _ (openM g) hN3 hw3 ⟨hop.nd1, hop.nd2⟩ hop.rg1 (by rw [← hm_h.out]; exact hop.rg2) hn100 hm60 ⟨⟨Int.le_refl 0, (by decide : (0 : Int) ≤ 1048576)⟩, Int.le_refl 0, (by decide : (0 : Int) ≤ 1048576)⟩
  have hB3 := below_trans hB2 b3 hB2.size
  have k3 := t_box_below k2 b3
  clear hN hw2 hB2 k2 q0 q1 b3 hop; have hN3_h := lH hN3; have hw3_h := lH hw3; have hB3_h := lH hB3; have k3_h := lH k3; have hadd_h := lH hadd; have hlt1_h := lH hlt1; clear hN3 hw3 hB3 k3 hadd hlt1
  go_upto_region 5 with (fail)
  rw [← hW3]
  clear hW3 c0 c1 c2' c3 f0 f1 f2 f3
  go_wp2_with (fail)
  refine (hadd_h.out).mono ?_
  rintro e w4 ⟨rfl, hN4, hk4⟩
  have e0 : addN (List.replicate n (-1), List.replicate m (-1), 0, 0) (openM g) = cnTo g 0 := by
   show _ = cn0 g
   unfold cn0
   rw [hgn_h.out, hm_h.out, Int.toNat_natCast]
  rw [e0] at hN4
  have hw4 := hw3_h.out.nums hN3_h.out hk4
  have hB4 := below_keeps hB3_h.out hk4 hB3_h.out.size (fun b hb => by have := (hN3_h.out.off hb).2.1; have := hlt1_h.out; omega)
  have k4 := t_box_keeps k3_h.out hk4 (fun hb => by have := (hN3_h.out.off hb).2.1; have := hlt1_h.out; omega)
  have hcp := closedParts_any w4 n m ob ow oe (hW0_h.out.below hB4) hMo_h.out hv_h.out hm_h.out hw4
  obtain ⟨⟨c0, c1, c2', c3⟩, f0, f1, f2, f3⟩ := t_box4 k4
  clear hk4 hadd_h hw4 hw3_h hN3_h k3_h hB3_h k4 e0; have hcp_h := lH hcp; have hN4_h := lH hN4; have hB4_h := lH hB4; clear hcp hN4 hB4
  go_wp2_with (fail)
  refine (hcp_h.out).mono ?_
  rintro e w5 ⟨Ax, cx, xs, rfl, hsl5, hok5, hPx, hb5⟩
  obtain ⟨xl, hxl⟩ : ∃ q, xs.length = q := ⟨_, rfl⟩
  have hxp : (partsM g).length = xl := by rw [← hPx, List.length_map, hxl]
  rw [hxl] at hsl5 ⊢
  have hN5 := hN4_h.out.below hb5
  have hB5 := below_trans hB4_h.out hb5 hB4_h.out.size
  have hxm : xl ≤ 9223372036854775807 := by
   have h1 := Nat.le_trans hsl5.2.1 hsl5.2.2.1
   unfold maxLen at h1
   exact h1
  clear hcp_h hN4_h hB4_h hb5 c0 c1 c2' c3 f0 f1 f2 f3; have hsl5_h := lH hsl5; have hok5_h := lH hok5; have hPx_h := lH hPx; have hN5_h := lH hN5; have hB5_h := lH hB5; have hxl_h := lH hxl; have hxp_h := lH hxp; clear hsl5 hok5 hPx hN5 hB5 hxl hxp
  go_wp2_with (fail)
  go_loopw [29] (fun i wr => ∃ k : Nat, k ≤ xl ∧ i = .int .i64 k ∧ NumS w1 wc.heap.size c2 (wc.heap.size + 1) c4 Wa Ea n m (cnTo g k) wr ∧ Keeps (OwnN wc.heap.size (wc.heap.size + 1) Wa Ea) w5 wr) (fun i _ => xl - (intOf i).toNat)
  case atStart => exact ⟨0, Nat.zero_le _, rfl, hN5_h.out, Keeps.refl _ _⟩
  case round =>
   obtain ⟨k, hk, rfl, hN, hK⟩ := hrel
   obtain ⟨wo, rfl⟩ : ∃ x, x = wr := ⟨_, rfl⟩
   have hBo := below_keeps hB5_h.out hK hB5_h.out.size (fun b hb => by have := (hN5_h.out.off hb).2.1; have := hlt1_h.out; omega)
   by_cases hlt : k < xl
   · obtain ⟨x, hx⟩ : ∃ x, xs[k]? = some x := ⟨_, List.getElem?_eq_getElem (by rw [hxl_h.out]; exact hlt)⟩
     have hslo := hN5_h.out.sl (by decide) hsl5_h.out hK
     obtain ⟨ad, rfl, d0, d1, d2, d3⟩ := cp_at hslo hx
     have hwx := ((hok5_h.out x (List.mem_of_getElem? hx)).wk).nums hN5_h.out hK
     have hpx : (partsM g)[k]? = some x.P := by rw [← hPx_h.out, List.getElem?_map, hx]; rfl
     have hpf := part_facts hMo_h.out (List.mem_of_getElem? hpx)
     have hgd : (partsM g).getD k ([], ([], []), 0) = x.P := by rw [List.getD_eq_getElem?_getD, hpx]; rfl
     obtain ⟨xb, xmw, xme, XD, xdl, xdc, P⟩ := x
     simp only at d0 d1 d2 d3 hwx hpf hgd
     obtain ⟨u, hu⟩ : ∃ u, leastW P.2.1.1 = u := ⟨_, rfl⟩
     obtain ⟨wy, hwy⟩ : ∃ u, P.2.2 = u := ⟨_, rfl⟩
     rw [hu] at d2
     rw [hwy] at d3
     have hor := ord_le hMo_h.out k
     rw [hm_h.out] at hor
     have hct := cnTo_eq hMo_h.out k (by rw [hxp_h.out]; exact hk)
     obtain ⟨W6, hW6, bW6, k6⟩ := (⟨_, rfl, t_below_alloc _ _, heap_alloc_new _ _⟩ : ∃ W, W = wo.alloc (.cells #[.pointer (some ⟨xb, 0, none⟩), .slice XD xdl xdc, .int .i64 u, .int .i64 wy] tCp) ∧ Below wo.heap.size wo W ∧ W.heap[wo.heap.size]? = some (.cells #[.pointer (some ⟨xb, 0, none⟩), .slice XD xdl xdc, .int .i64 u, .int .i64 wy] tCp))
     have hadd := addNums_any w1 W6 wc.heap.size c2 (wc.heap.size + 1) c4 n m xb xmw xme Wa Ea (cnTo g k) P.2.1 (hN.below bW6) (hwx.below bW6) hpf.1 hpf.2.1 (by rw [← hm_h.out]; exact hpf.2.2) hn100 hm60 (by rw [hct]; simp only; omega)
     have e1 : addN (cnTo g k) P.2.1 = cnTo g (k + 1) := by rw [cnTo, hgd]
     rw [e1] at hadd
     have hK6 := hK.trans (Keeps.of_below bW6 _)
     obtain ⟨⟨c0, c1, c2', c3⟩, f0, f1, f2, f3⟩ := t_box4 k6
     have hkI : (k : Int) < (xl : Int) := by omega
     clear hN hK hBo hslo hwx hpx hpf hgd hor hct e1 bW6 k6 hx hu hwy; have hadd_h := lH hadd; have hK6_h := lH hK6; clear hadd hK6
     go_upto_region 9 with (fail)
     rw [← hW6]
     clear hW6 d0 d1 d2 d3
     go_wp2_with (fail)
     refine (hadd_h.out).mono ?_
     rintro e w7 ⟨rfl, hN7, hk7⟩
     have hK7 := hK6_h.out.trans hk7
     clear hk7 hadd_h hK6_h c0 c1 c2' c3 f0 f1 f2 f3; have hN7_h := lH hN7; have hK7_h := lH hK7; clear hN7 hK7
     go_wp2_with (fail)
     go_roundw
     case rel => exact ⟨k + 1, by omega, by go_num, hN7_h.out, hK7_h.out⟩
     case measure => simp [intOf]; omega
   · obtain rfl : xl = k := by omega
     have hN_h := lH hN; have hBo_h := lH hBo; clear hN hBo
     go_upto_region 11 with (fail)
     refine beginH (fun w' => Below wo.heap.size wo w') (by kernel_rfl) ?_
     have hbd : Below wo.heap.size wo wo.drew := below_drewN (Below.refl _ _) 1
     generalize wo.drew = W1 at hbd ⊢
     refine tkH 0 ?_ rfl hbd (fun W' hW' => ?_) ?_; rotate_left; · (obtain ⟨_, ⟨y2, z2⟩, _, y4, z4⟩ := (hN_h.out.below hW').bx; clear hW'; go_simp; first | done | with_reducible rfl)
     simp only [Act.put, nS]
     refine tkH 1 ?_ rfl hbd (fun W' hW' => ?_) ?_; rotate_left; · (obtain ⟨_, ⟨y2, z2⟩, _, y4, z4⟩ := (hN_h.out.below hW').bx; clear hW'; go_simp; first | done | with_reducible rfl)
     simp only [Act.put, nS]
     refine tkH 2 ?_ rfl hbd (fun W' hW' => ?_) ?_; rotate_left; · (obtain ⟨_, ⟨y2, z2⟩, _, y4, z4⟩ := (hN_h.out.below hW').bx; clear hW'; go_simp; first | done | with_reducible rfl)
     simp only [Act.put, nS]
     refine tkH 3 ?_ rfl hbd (fun W' hW' => ?_) ?_; rotate_left; · (obtain ⟨_, ⟨y2, z2⟩, _, y4, z4⟩ := (hN_h.out.below hW').bx; clear hW'; go_simp; first | done | with_reducible rfl)
     simp only [Act.put, nS]
     refine doneH (by kernel_rfl) ?_
     have hNe := hN_h.out.below hbd
     have hBe := below_trans hBo_h.out hbd hBo_h.out.size
     have hB1s := hB1_h.out.size
     have hnw := hNe.new
     have hc1 : (cnM g).1 = (cnTo g xl).1 := by unfold cnM; rw [hxp_h.out]
     have hc2 : (cnM g).2 = (cnTo g xl).2.1 := by unfold cnM; rw [hxp_h.out]
     go_wp2_with (fail)
     go_ret2
     exact ⟨Wa, Ea, rfl, by rw [hc1]; exact hNe.i1, by rw [hc2]; exact hNe.i2, hNe.ap.2.1, by omega, by omega, hBe⟩
def PrtOk (g : Gr) (P : Prt) : Prop := ∃ f : Int, (0 ≤ f ∧ f < (g.2.1.length : Int)) ∧ P.1 = codeM g (fromM g f) ∧ P.2.1 = fromM g f
theorem prt_ok {g : Gr} {n : Nat} (h : Mono g n) {P : Prt} (hP : PrtOk g P) : P.1.length ≤ 360 ∧ ((∀ x, x ∈ P.2.1.1 → 0 ≤ x ∧ x < (n : Int)) ∧ P.2.1.1.length ≤ n) ∧ (∀ x, x ∈ P.2.1.2 → 0 ≤ x ∧ x < (g.2.1.length : Int)) ∧ P.2.1.2.length ≤ g.2.1.length := by
 obtain ⟨f, hf, h1, h2⟩ := hP
 have hI := fromM_inv h hf.2
 rw [h1, h2]
 exact ⟨codeM_len h hI, ⟨hI.rg1, hI.le.1⟩, hI.rg2, hI.le.2⟩
theorem prtOf_ok {g : Gr} {e : Nat} (he : e < g.2.1.length) : PrtOk g (prtOf g (e : Int)) := ⟨(e : Int), by omega, rfl, rfl⟩
theorem ref_ok {g : Gr} {e : Nat} (he : e < g.2.1.length) : ∀ k, k ≤ g.2.1.length → PrtOk g (refB g e k) ∧ 1 ≤ (refB g e k).2.2 ∧ (refB g e k).2.2 ≤ (k : Int) + 1
 | 0, _ => ⟨prtOf_ok he, by show (1 : Int) ≤ 1; decide, by show (1 : Int) ≤ _; decide⟩
 | k + 1, hk => by
   obtain ⟨h1, h2, h3⟩ := ref_ok he k (by omega)
   rw [refB]
   split
   · unfold prtNext
     split
     · obtain ⟨f, hf, a, b⟩ := h1
       exact ⟨⟨f, hf, a, b⟩, by show (1 : Int) ≤ (refB g e k).2.2 + 1; omega, by show (refB g e k).2.2 + 1 ≤ _; omega⟩
     · split
       · exact ⟨prtOf_ok (by omega), by show (1 : Int) ≤ 1; decide, by show (1 : Int) ≤ _; omega⟩
       · exact ⟨h1, h2, by omega⟩
   · exact ⟨h1, h2, by omega⟩
theorem scan_ok (g : Gr) : ∀ k, k ≤ g.2.1.length → (scanTo g k).2.length ≤ k ∧ ∀ P, P ∈ (scanTo g k).2 → PrtOk g P ∧ 1 ≤ P.2.2 ∧ P.2.2 ≤ (g.2.1.length : Int) + 1
 | 0, _ => ⟨Nat.le_refl _, fun P hP => by cases hP⟩
 | k + 1, hk => by
   obtain ⟨h1, h2⟩ := scan_ok g k (by omega)
   rw [scanTo]
   split
   · exact ⟨by omega, h2⟩
   · have hp := insP_perm (refB g k g.2.1.length) (scanTo g k).2
     refine ⟨by show (insP _ _).length ≤ _; rw [hp.length_eq, List.length_cons]; omega, fun P hP => ?_⟩
     have hP' : P ∈ insP (refB g k g.2.1.length) (scanTo g k).2 := hP
     rcases List.mem_cons.1 (hp.mem_iff.1 hP') with rfl | h
     · exact ref_ok (by omega) _ (Nat.le_refl _)
     · exact h2 P h
theorem refB_start (g : Gr) (e : Nat) : ∀ k, k ≤ e + 1 → refB g e k = prtOf g (e : Int)
 | 0, _ => rfl
 | k + 1, h => by rw [refB, if_neg (fun x => by have := x.1; omega), refB_start g e k (by omega)]
theorem insK_drop (b : Prt) : ∀ (l : List Prt) (i : Nat) (x : Prt), l[i]? = some x → insK b (l.drop i) = if befP b x then 0 else insK b (l.drop (i + 1)) + 1
 | [], i, _, h => by simp at h
 | a :: r, 0, x, h => by
   obtain rfl : a = x := by simpa using h
   rfl
 | a :: r, i + 1, x, h => insK_drop b r i x (by simpa using h)
theorem lp_at {w : World} {A : Option Addr} {n cap : Nat} {xs : List Lp} (hs : Sl w tLp 4 A n cap (xs.flatMap Lp.cells)) {j : Nat} {x : Lp} (hx : xs[j]? = some x) : ∃ ad, A = some ad ∧
  w.cell? (ad.add (j * 4)) = some (.slice x.D x.dl x.dc) ∧ w.cell? ⟨(ad.add (j * 4)).block, (ad.add (j * 4)).off + 1, none⟩ = some (.slice x.A x.al x.ac) ∧ w.cell? ⟨(ad.add (j * 4)).block, (ad.add (j * 4)).off + 2, none⟩ = some (.slice x.G x.gl x.gc) ∧ w.cell? ⟨(ad.add (j * 4)).block, (ad.add (j * 4)).off + 3, none⟩ = some (.int .i64 x.P.2.2) := by
 have hk : ∀ x : Lp, x.cells.length = 4 := fun _ => rfl
 have h0 := flat_get hk xs j 0 x hx (by omega)
 have h1 := flat_get hk xs j 1 x hx (by omega)
 have h2 := flat_get hk xs j 2 x hx (by omega)
 have h3 := flat_get hk xs j 3 x hx (by omega)
 obtain ⟨ad, hA, _, c0, _⟩ := hs.cell h0
 obtain ⟨ad1, hA1, _, c1, _⟩ := hs.cell h1
 obtain ⟨ad2, hA2, _, c2, _⟩ := hs.cell h2
 obtain ⟨ad3, hA3, _, c3, _⟩ := hs.cell h3
 rw [hA] at hA1 hA2 hA3
 obtain rfl := Option.some.inj hA1
 obtain rfl := Option.some.inj hA2
 obtain rfl := Option.some.inj hA3
 rw [add_next _ _ 1 (by omega)] at c1
 rw [add_next _ _ 2 (by omega)] at c2
 rw [add_next _ _ 3 (by omega)] at c3
 exact ⟨ad, hA, c0, c1, c2, c3⟩
def LpF (B : Nat) (w : World) (x : Lp) : Prop := LpOk w x ∧ Fresh B x.D ∧ Fresh B x.A ∧ Fresh B x.G
theorem LpF.below {B : Nat} {w w' : World} {x : Lp} (h : LpF B w x) (hb : Below w.heap.size w w') : LpF B w' x := ⟨h.1.below hb, h.2⟩
theorem LpF.keeps {B : Nat} {w w' : World} {x : Lp} (h : LpF B w x) {S : Nat → Prop} (hk : Keeps S w w') (hS : ∀ b, S b → b < B) : LpF B w' x :=
 ⟨h.1.keeps hk fun b hb hs => by
  have := hS b hs
  rcases hb with hb | hb | hb
  · have := h.2.1 b hb; omega
  · have := h.2.2.1 b hb; omega
  · have := h.2.2.2 b hb; omega, h.2⟩
theorem LpOk.typ {w w' : World} {x : Lp} (h : LpOk w x) {S : Nat → Prop} (hk : Keeps S w w') (hS : ∀ b, S b → ∃ cs t fr, w.heap[b]? = some (.cells cs t fr) ∧ t ≠ tInt) : LpOk w' x :=
 h.keeps hk fun b hb hs => by
  obtain ⟨cs, t, fr, hg, ht⟩ := hS b hs
  have key : ∀ (A : Option Addr) (c : Nat) (l : List Int), IS w A c l → b ∈ fpA A → False := fun A c l hI hb => by
   rcases hI.2.2.2 with ⟨rfl, _⟩ | ⟨g, off, cur, rfl, hg', _⟩
   · cases hb
   · obtain rfl : b = g := by simpa using hb
     rw [hg] at hg'
     injection hg' with hg'
     injection hg' with _ h1
     exact ht h1
  rcases hb with hb | hb | hb
  · exact key _ _ _ h.cod hb
  · exact key _ _ _ h.wir hb
  · exact key _ _ _ h.edg hb
theorem sl_typ {w : World} {e : TypeId} {sz n cap : Nat} {A : Option Addr} {xs : List Value} (hs : Sl w e sz A n cap xs) (he : e ≠ tInt) : ∀ b, b ∈ fpA A → ∃ cs t fr, w.heap[b]? = some (.cells cs t fr) ∧ t ≠ tInt := fun b hb => by
 rcases hs.2.2.2 with ⟨rfl, _⟩ | ⟨g, off, cur, rfl, hg, _⟩
 · cases hb
 · obtain rfl : b = g := by simpa using hb
   exact ⟨_, _, _, hg, he⟩
structure Sc (W : World) (E : Addr) (m : Nat) (seen : List Int) (ps : List Prt) (B : Option Addr) (ln cap : Nat) (xs : List Lp) (El : List Int) (w : World) : Prop where
 edg : IS w (some E) m El
 ell : El.length = m
 elv : ∀ f : Nat, f < m → (0 ≤ El.getD f 0 ↔ (f : Int) ∈ seen)
 sl : Sl w tLp 4 B ln cap (xs.flatMap Lp.cells)
 xln : xs.length = ln
 ok : ∀ x, x ∈ xs → LpF W.heap.size w x
 pps : xs.map (fun x => x.P) = ps
 bf : Fresh W.heap.size B
 en : E.block < W.heap.size
 kp : Keeps (fun b => b = E.block) W w
section
variable {W w w' : World} {E : Addr} {m ln cap : Nat} {seen : List Int} {ps : List Prt} {B : Option Addr} {xs : List Lp} {El : List Int}
theorem Sc.below (h : Sc W E m seen ps B ln cap xs El w) (hb : Below w.heap.size w w') : Sc W E m seen ps B ln cap xs El w' :=
 ⟨h.edg.below hb, h.ell, h.elv, h.sl.below hb, h.xln, fun x hx => (h.ok x hx).below hb, h.pps, h.bf, h.en, h.kp.free (Keeps.of_below hb (fun _ => False)) fun _ _ h => h.elim⟩
theorem Sc.setE (h : Sc W E m seen ps B ln cap xs El w) {f : Nat} (hf : f < m) : Sc W E m (seen ++ [(f : Int)]) ps B ln cap xs (El.set f 0) (w.setCell (E.add f) (.int .i64 0)) ∧ Keeps (fun b => b = E.block) w (w.setCell (E.add f) (.int .i64 0)) := by
 have hk : Keeps (fun b => b = E.block) w (w.setCell (E.add f) (.int .i64 0)) := Keeps.setCell (S := fun b => b = E.block) (Keeps.refl _ w) (p := E.add f) (by rw [block_of_add]) _
 refine ⟨⟨h.edg.set rfl 0 (by rw [h.ell]; exact hf), by simpa using h.ell, fun j hj => ?_, h.sl.keeps hk fun b hb e => ?_, h.xln, fun x hx => (h.ok x hx).keeps hk fun b e => by rw [e]; exact h.en, h.pps, h.bf, h.en, h.kp.trans hk⟩, hk⟩
 · rw [List.mem_append, List.mem_singleton]
   by_cases e : f = j
   · subst e
     rw [List.getD_eq_getElem?_getD, List.getElem?_set, if_pos rfl, if_pos (by rw [h.ell]; exact hf)]
     exact ⟨fun _ => .inr rfl, fun _ => Int.le_refl 0⟩
   · rw [List.getD_eq_getElem?_getD, List.getElem?_set, if_neg e, ← List.getD_eq_getElem?_getD, h.elv j hj]
     exact ⟨.inl, fun h => h.resolve_right (fun x => e (by omega))⟩
 · have := h.bf b hb
   have := h.en
   omega
theorem Sc.box (h : Sc W E m seen ps B ln cap xs El w) {lb : Nat} (hk : Keeps (fun b => b = lb) w w') (hW : W.heap.size ≤ lb) (hB : ∀ b, b ∈ fpA B → b ≠ lb) {cs : Array Value} (hlb : w.heap[lb]? = some (.cells cs tLp)) : Sc W E m seen ps B ln cap xs El w' :=
 ⟨h.edg.keeps hk (fun b hb e => by have : b = E.block := (by simpa using hb); have := h.en; omega), h.ell, h.elv, h.sl.keeps hk hB, h.xln, fun x hx => ⟨(h.ok x hx).1.typ hk (fun b e => by subst e; exact ⟨cs, tLp, (0, 0), hlb, by decide⟩), (h.ok x hx).2⟩, h.pps, h.bf, h.en, h.kp.free hk fun b h1 e => by omega⟩
theorem Sc.ins (h : Sc W E m seen ps B ln cap xs El w) {b : Lp} {i : Nat} (hi : i = insK b.P ps) (hb : LpF W.heap.size w' b) {B' : Option Addr} {ln' cap' : Nat} (hln : ln' = ln + 1) (hs : Sl w' tLp 4 B' ln' cap' ((xs.take i ++ b :: xs.drop i).flatMap Lp.cells)) (hf : Fresh W.heap.size B') (hk : Keeps (fun x => x ∈ fpA B) w w') :
  Sc W E m seen (insP b.P ps) B' ln' cap' (xs.take i ++ b :: xs.drop i) El w' := by
 refine ⟨h.edg.keeps hk (fun x hx hm => ?_), h.ell, h.elv, hs, ?_, fun x hx => ?_, ?_, hf, h.en, h.kp.free hk fun x h1 h2 => ?_⟩
 · have : x = E.block := (by simpa using hx)
   have := h.bf x hm
   have := h.en
   omega
 · have := h.xln
   have := congrArg List.length (List.take_append_drop i xs)
   rw [List.length_append] at this ⊢
   rw [List.length_cons]
   omega
 · have key : ∀ y, y ∈ xs → LpF W.heap.size w' y := fun y hy => ⟨(h.ok y hy).1.typ hk (sl_typ h.sl (by decide)), (h.ok y hy).2⟩
   rcases List.mem_append.1 hx with hx | hx
   · exact key x (List.mem_of_mem_take hx)
   · rcases List.mem_cons.1 hx with rfl | hx
     · exact hb
     · exact key x (List.mem_of_mem_drop hx)
 · rw [insP_eq, ← hi, ← h.pps]
   simp
 · have := h.bf x h2
   omega
end
def RetLps (w : World) (ps : List Prt) (e : Ending) (w' : World) : Prop :=
 ∃ (A : Option Addr) (cap : Nat) (xs : List Lp), e = .returned (.slice A xs.length cap) ∧ Sl w' tLp 4 A xs.length cap (xs.flatMap Lp.cells) ∧ (∀ x, x ∈ xs → LpF w.heap.size w' x) ∧ xs.map (fun x => x.P) = ps ∧ Below w.heap.size w w'
theorem info_lp : (Tryz.prog.info? tLp).map (fun i => (i.zero, i.size, i.bytes)) = some (some (.agg #[.slice none 0 0, .slice none 0 0, .slice none 0 0, .int .i64 0]), 4, 80) := by kernel_rfl
structure LbS (W : World) (lb : Nat) (D : Option Addr) (dl dc : Nat) (A : Option Addr) (al ac : Nat) (G : Option Addr) (gl gc : Nat) (u : Int) (P : Prt) (w : World) : Prop where
 box : w.heap[lb]? = some (.cells #[.slice D dl dc, .slice A al ac, .slice G gl gc, .int .i64 u] tLp)
 ok : LpF W.heap.size w ⟨D, dl, dc, A, al, ac, G, gl, gc, P⟩
 uw : P.2.2 = u
section
variable {W w w' : World} {lb : Nat} {D : Option Addr} {dl dc : Nat} {A : Option Addr} {al ac : Nat} {G : Option Addr} {gl gc : Nat} {u : Int} {P : Prt}
theorem LbS.below (h : LbS W lb D dl dc A al ac G gl gc u P w) (hb : Below w.heap.size w w') : LbS W lb D dl dc A al ac G gl gc u P w' := ⟨t_box_below h.box hb, h.ok.below hb, h.uw⟩
end
theorem flat_split {α : Type} {f : α → List Value} {k : Nat} (hk : ∀ x, (f x).length = k) (l : List α) {i : Nat} (hi : i ≤ l.length) : (l.flatMap f).take (i * k) = (l.take i).flatMap f ∧ (l.flatMap f).drop (i * k) = (l.drop i).flatMap f := by
 have e : l.flatMap f = (l.take i).flatMap f ++ (l.drop i).flatMap f := by rw [← List.flatMap_append, List.take_append_drop]
 have hl : ((l.take i).flatMap f).length = i * k := by rw [flat_len hk, List.length_take, Nat.min_eq_left hi]
 rw [e]
 exact ⟨List.take_left' hl, List.drop_left' hl⟩
theorem lp_len (x : Lp) : x.cells.length = 4 := rfl
theorem Sc.parts {W w : World} {E : Addr} {m ln cap : Nat} {seen : List Int} {ps : List Prt} {B : Option Addr} {xs : List Lp} {El : List Int} (h : Sc W E m seen ps B ln cap xs El w) {i : Nat} (hi : i ≤ ln) :
  ∃ A1 A2, (∀ w', (Instr.sliceAt 87 (.slice B ln cap) (some (.int .i64 (i : Int))) none none).run Tryz.prog w' = .ok (.slice A1 (ln - i) (cap - i)) w') ∧ (∀ w', (Instr.sliceAt 87 (.slice B ln cap) none (some (.int .i64 (i : Int))) none).run Tryz.prog w' = .ok (.slice A2 i cap) w') ∧
    Sl w tLp 4 A1 (ln - i) (cap - i) ((xs.drop i).flatMap Lp.cells) ∧ Sl w tLp 4 A2 i cap ((xs.take i).flatMap Lp.cells) ∧ ∀ b, b ∈ fpA A2 → b ∈ fpA B := by
 have hc := h.sl.2.1
 obtain ⟨A1, r1, l1, _⟩ := Sl.slicedG h.sl 87 (P := Tryz.prog) Tryz.underlying87 info_lp (some (.int .i64 (i : Int))) none none i ln cap (optSome rfl) (optNone ⟨rfl, rfl⟩) (optNone rfl) hi (Nat.le_refl _) hc (Nat.le_refl _)
 obtain ⟨A2, r2, l2, f2⟩ := Sl.slicedG h.sl 87 (P := Tryz.prog) Tryz.underlying87 info_lp none (some (.int .i64 (i : Int))) none 0 i cap (optNone rfl) (optSome rfl) (optNone rfl) (Nat.zero_le _) hi (by omega) (Nat.le_refl _)
 have hsp := flat_split lp_len xs (i := i) (by rw [h.xln]; exact hi)
 refine ⟨A1, A2, r1, r2, ?_, ?_, f2⟩
 · rw [hsp.2, List.take_of_length_le (by rw [flat_len lp_len, List.length_drop, h.xln]; exact Nat.le_refl _)] at l1
   exact l1
 · simp only [Nat.zero_mul, List.drop_zero, Nat.sub_zero] at l2
   rw [hsp.1] at l2
   exact l2
theorem lps_one (xs : List Lp) : ∀ u, u ∈ xs.flatMap Lp.cells → u.oneCell' = true := fun u hu => by
 obtain ⟨x, _, hx⟩ := List.mem_flatMap.1 hu
 simp only [Lp.cells, List.mem_cons, List.not_mem_nil, or_false] at hx
 rcases hx with rfl | rfl | rfl | rfl <;> rfl
theorem set4d {w : World} {B : Nat} {t : TypeId} {x y z u b : Value} (h : w.heap[B]? = some (.cells #[x, y, z, u] t)) : (w.setCell ⟨B, 3, none⟩ b).heap[B]? = some (.cells #[x, y, z, b] t) ∧ Keeps (· = B) w (w.setCell ⟨B, 3, none⟩ b) := by
 refine ⟨?_, Keeps.setCell (S := (· = B)) (Keeps.refl _ w) (p := ⟨B, 3, none⟩) rfl b⟩
 simp [World.setCell, Array.getElem?_modify, h]
theorem prtNext_same {g : Gr} {b : Prt} {e : Int} (h : (prtOf g e).1 = b.1) : prtNext g b e = (b.1, b.2.1, b.2.2 + 1) := by unfold prtNext; rw [if_pos h]
theorem prtNext_less {g : Gr} {b : Prt} {e : Int} (h : (prtOf g e).1 ≠ b.1) (hl : lexI (prtOf g e).1 b.1 = true) : prtNext g b e = prtOf g e := by unfold prtNext; rw [if_neg h, if_pos hl]
theorem prtNext_not {g : Gr} {b : Prt} {e : Int} (h : (prtOf g e).1 ≠ b.1) (hl : lexI (prtOf g e).1 b.1 = false) : prtNext g b e = b := by unfold prtNext; rw [if_neg h, if_neg (by rw [hl]; simp)]
theorem lp_of_ret {g : Gr} {n : Nat} (hMo : Mono g n) {w w' : World} {P : Prt} (hP : PrtOk g P) {D : Option Addr} {dc : Nat} {A : Option Addr} {ac : Nat} {G : Option Addr} {gc : Nat} (h1 : IS w' D dc P.1) (h2 : IS w' A ac P.2.1.1) (h3 : IS w' G gc P.2.1.2) (f1 : Fresh w.heap.size D) (f2 : Fresh w.heap.size A) (f3 : Fresh w.heap.size G) {W : World} (hW : W.heap.size ≤ w.heap.size) :
  LpF W.heap.size w' ⟨D, P.1.length, dc, A, P.2.1.1.length, ac, G, P.2.1.2.length, gc, P⟩ := by
 obtain ⟨a1, ⟨a2, a3⟩, a4, a5⟩ := prt_ok hMo hP
 have := hMo.n100
 have := hMo.m60
 exact ⟨⟨h1, h2, h3, ⟨rfl, by show P.1.length ≤ _; omega⟩, ⟨rfl, by show P.2.1.1.length ≤ _; omega⟩, rfl, by show P.2.1.2.length ≤ _; omega⟩, fun b hb => Nat.le_trans hW (f1 b hb), fun b hb => Nat.le_trans hW (f2 b hb), fun b hb => Nat.le_trans hW (f3 b hb)⟩
set_option maxRecDepth 100000 in
set_option maxHeartbeats 16000000 in
theorem cnLoops_any {v : Value} {g : Gr} (w : World) (n m : Nat) (h : RdGr w v g) (hMo : Mono g n) (hm : g.2.1.length = m) :
  Calls Tryz.prog 64 #[v] w (RetLps w (partsM g)) := by
 have hn100 := hMo.n100
 have hm60 : m ≤ 60 := by rw [← hm]; exact hMo.m60
 have hgn := hMo.hn
 have hW0 := h
 obtain ⟨A, c, hs, ⟨B, bb, s⟩, ⟨C, d, t⟩, rfl, e1, e2, e3, hE, hRa, hRb⟩ := h
 have hml : hs.length = m := by rw [← hm, e1, List.length_map]
 simp only [hgn, hml] at hW0 ⊢
 obtain ⟨p, hp⟩ : ∃ p, s.length = p := ⟨_, rfl⟩
 obtain ⟨r, hr⟩ : ∃ r, t.length = r := ⟨_, rfl⟩
 rw [hp, hr] at hW0 ⊢
 obtain ⟨W, hWe, bW, k0⟩ := (⟨_, rfl, t_below_alloc _ _, heap_alloc_new _ _⟩ : ∃ W, W = w.alloc (.cells #[.int .i64 (n : Int), .slice A m c, .slice B p bb, .slice C r d] tGr) ∧ Below w.heap.size w W ∧ W.heap[w.heap.size]? = some (.cells #[.int .i64 (n : Int), .slice A m c, .slice B p bb, .slice C r d] tGr))
 obtain ⟨⟨c0, c1, c2, c3⟩, f0, f1, f2, f3⟩ := t_box4 k0
 have hop := cnOpen_any W n m (hW0.below bW) hMo hm
 obtain ⟨ol, hol⟩ : ∃ q, (openM g).1.length = q := ⟨_, rfl⟩
 obtain ⟨oc, hoc⟩ : ∃ q : Int, ((openM g).2.length : Int) = q := ⟨_, rfl⟩
 rw [hol, hoc] at hop
 clear hRa hRb e1 e2 e3 hE; have hMo_h := lH hMo; have hm_h := lH hm; have hW0_h := lH hW0; have hgn_h := lH hgn; have hml_h := lH hml; have hp_h := lH hp; have hr_h := lH hr; have bW_h := lH bW; have k0_h := lH k0; have hop_h := lH hop; have hol_h := lH hol; have hoc_h := lH hoc; clear hMo hm hW0 hgn hml hp hr bW k0 hop hol hoc
 go_enter Tryz.func64, Tryz.ntmps64
 go_upto_region 1 with (fail)
 rw [← hWe]
 clear hWe
 go_wp2_with (fail)
 refine (hop_h.out).mono ?_
 rintro e w1 ⟨N, E, A1, c1', rfl, hC1⟩
 have k1 := t_box_below k0_h.out hC1.bel
 have hB1 := below_trans bW_h.out hC1.bel bW_h.out.size
 have hlt1 := t_box_lt k1
 have hEl := hC1.edg.lt E.block (by simp)
 have hEn := hC1.ef
 have hwW : w.heap.size < W.heap.size := t_box_lt k0_h.out
 have hS1 : Sc w1 E m (scanTo g 0).1 (scanTo g 0).2 none 0 0 [] (numsL m (openM g).2) w1 :=
  ⟨hC1.edg, by simp [numsL], fun f hf => by
   rw [show (numsL m (openM g).2).getD f 0 = if (f : Int) ∈ (openM g).2 then idx (openM g).2 (f : Int) else -1 by simp [numsL, List.getD, hf]]
   show _ ↔ (f : Int) ∈ (openM g).2
   split
   · rename_i hh
     exact ⟨fun _ => hh, fun _ => (idx_lt hh).1⟩
   · rename_i hh
     exact ⟨fun h => absurd h (by decide), fun h => absurd h hh⟩, Sl.nil _ _ _, rfl, (fun x hx => by cases hx), rfl, Fresh.none_ _, hEl, Keeps.refl _ _⟩
 clear hop_h k0_h bW_h hC1; clear c0 c1 c2 c3 f0 f1 f2 f3
 obtain ⟨⟨c0, c1, c2, c3⟩, f0, f1, f2, f3⟩ := t_box4 k1
 have k1_h := lH k1; have hB1_h := lH hB1; have hS1_h := lH hS1; have hlt1_h := lH hlt1; have hEl_h := lH hEl; have hEn_h := lH hEn; have hwW_h := lH hwW; clear k1 hB1 hS1 hlt1 hEl hEn hwW
 go_wp2_with (fail)
 clear c0 c1 c2 c3 f0 f1 f2 f3
 go_loopw [26, 7] (fun i o wr => ∃ (k : Nat) (Bx : Option Addr) (ln cap : Nat) (xs : List Lp) (El : List Int), k ≤ m ∧ i = .int .i64 k ∧ o = .slice Bx ln cap ∧ Sc w1 E m (scanTo g k).1 (scanTo g k).2 Bx ln cap xs El wr) (fun i _ _ => m - (intOf i).toNat)
 case atStart => exact ⟨0, none, 0, 0, [], _, Nat.zero_le _, rfl, rfl, hS1_h.out⟩
 case round =>
  clear hS1_h
  obtain ⟨k, Bx, ln, cap, xs, El, hk, rfl, rfl, hS⟩ := hrel
  obtain ⟨wo, rfl⟩ : ∃ x, x = wr := ⟨_, rfl⟩
  have hBo := below_keeps hB1_h.out hS.kp hB1_h.out.size (fun b e => by rw [e]; have := hEn_h.out; have := hwW_h.out; omega)
  have ko := t_box_keeps k1_h.out hS.kp (fun e => by have := hEn_h.out; have := hwW_h.out; omega)
  by_cases hlt : k < m
  · obtain ⟨ad, ev, hA, hev, _, hcl, hfz⟩ := hS.edg.at_ (j := k) (by rw [hS.ell]; exact hlt)
    obtain rfl := Option.some.inj hA
    have hsn := hS.elv k hlt
    rw [List.getD_eq_getElem?_getD, hev, Option.getD_some] at hsn
    have hkI : (k : Int) < (m : Int) := by omega
    clear hfz hev
    by_cases hseen : (k : Int) ∈ (scanTo g k).1
    · have hst : scanTo g (k + 1) = scanTo g k := by rw [scanTo, if_pos hseen]
      have hge := hsn.2 hseen
      clear hsn hseen; have hS_h := lH hS; have hBo_h := lH hBo; have ko_h := lH ko; have hst_h := lH hst; clear hS hBo ko hst
      go_wp2_with (fail)
      go_roundw
      case rel => exact ⟨k + 1, Bx, ln, cap, xs, El, by omega, by go_num, rfl, by rw [hst_h.out]; exact hS_h.out⟩
      case measure => simp [intOf]; omega
    · have hlt0 : ev < 0 := by
       have : ¬ 0 ≤ ev := fun h => hseen (hsn.1 h)
       omega
      have hst : scanTo g (k + 1) = ((scanTo g k).1 ++ (fromM g (k : Int)).2, insP (refB g k m) (scanTo g k).2) := by rw [scanTo, if_neg hseen, hm_h.out]
      have hcf := cnFrom_any wo n m k (hW0_h.out.below hBo) hMo_h.out hm_h.out hlt
      have hPok := prtOf_ok (g := g) (e := k) (by rw [hm_h.out]; exact hlt)
      obtain ⟨⟨c0, c1, c2, c3⟩, f0, f1, f2, f3⟩ := t_box4 ko
      clear hsn hseen; have hS_h := lH hS; have hBo_h := lH hBo; have ko_h := lH ko; have hst_h := lH hst; have hcf_h := lH hcf; have hPok_h := lH hPok; clear hS hBo ko hst hcf hPok
      go_wp2_with (fail)
      refine (hcf_h.out).mono ?_
      rintro e w4 ⟨D0, dc0, A0, ac0, G0, gc0, rfl, i1, i2, i3, n1, n2, n3, hb4⟩
      have hLp := lp_of_ret hMo_h.out hPok_h.out i1 i2 i3 n1 n2 n3 (W := w1) hS_h.out.kp.size
      have hgl : (prtOf g (k : Int)).2.1 = fromM g (k : Int) := rfl
      have hPk : refB g k (k + 1) = prtOf g (k : Int) := refB_start g k (k + 1) (Nat.le_refl _)
      have hways : (prtOf g (k : Int)).2.2 = 1 := rfl
      obtain ⟨P0, hP0⟩ : ∃ P, prtOf g (k : Int) = P := ⟨_, rfl⟩
      rw [hP0] at hLp hgl hPk hways hPok_h ⊢
      obtain ⟨dl0, hdl0⟩ : ∃ q, P0.1.length = q := ⟨_, rfl⟩
      obtain ⟨al0, hal0⟩ : ∃ q, P0.2.1.1.length = q := ⟨_, rfl⟩
      obtain ⟨gl0, hgl0⟩ : ∃ q, P0.2.1.2.length = q := ⟨_, rfl⟩
      obtain ⟨u0, hu0⟩ : ∃ q, P0.2.2 = q := ⟨_, rfl⟩
      rw [hdl0, hal0, hgl0] at hLp
      rw [hdl0, hal0, hgl0, hu0]
      have hge : ∀ x, x ∈ P0.2.1.2 → 0 ≤ x ∧ x < (m : Int) := by rw [← hm_h.out]; exact (prt_ok hMo_h.out hPok_h.out).2.2.1
      have hgl60 : gl0 ≤ 60 := by have := (prt_ok hMo_h.out hPok_h.out).2.2.2; have := hm_h.out; omega
      obtain ⟨w5, hw5, b5, k5⟩ := (⟨_, rfl, t_below_alloc _ _, heap_alloc_new _ _⟩ : ∃ W, W = w4.alloc (.cells #[.slice D0 dl0 dc0, .slice A0 al0 ac0, .slice G0 gl0 gc0, .int .i64 u0] tLp) ∧ Below w4.heap.size w4 W ∧ W.heap[w4.heap.size]? = some (.cells #[.slice D0 dl0 dc0, .slice A0 al0 ac0, .slice G0 gl0 gc0, .int .i64 u0] tLp))
      have hb45 := below_trans hb4 b5 hb4.size
      have hS5 := hS_h.out.below hb45
      have hL5 : LbS w1 w4.heap.size D0 dl0 dc0 A0 al0 ac0 G0 gl0 gc0 u0 P0 w5 := ⟨k5, hLp.below b5, hu0⟩
      have hBlb : ∀ b, b ∈ fpA Bx → b ≠ w4.heap.size := fun b hb e => by have := hS_h.out.sl.lt b hb; have := hb4.size; omega
      have hlbW : w1.heap.size ≤ w4.heap.size := Nat.le_trans hS_h.out.kp.size hb4.size
      clear c0 c1 c2 c3 f0 f1 f2 f3
      obtain ⟨⟨c0, c1, c2, c3⟩, f0, f1, f2, f3⟩ := t_box4 k5
      clear i1 i2 i3 n1 n2 n3 hb4 hLp hcf_h hS_h b5 k5; have hgl_h := lH hgl; have hPk_h := lH hPk; have hways_h := lH hways; have hP0_h := lH hP0; have hdl0_h := lH hdl0; have hal0_h := lH hal0; have hgl0_h := lH hgl0; have hu0_h := lH hu0; have hge_h := lH hge; have hb45_h := lH hb45; have hS5_h := lH hS5; have hL5_h := lH hL5; have hBlb_h := lH hBlb; have hlbW_h := lH hlbW; clear hgl hPk hways hP0 hdl0 hal0 hgl0 hu0 hge hb45 hS5 hL5 hBlb hlbW
      go_upto_region 8 with (fail)
      rw [← hw5]
      clear hw5
      go_wp2_with (fail)
      clear c0 c1 c2 c3 f0 f1 f2 f3
      go_loopw [40] (fun i wr => ∃ (j : Nat) (El' : List Int), j ≤ gl0 ∧ i = .int .i64 j ∧ Sc w1 E m ((scanTo g k).1 ++ P0.2.1.2.take j) (scanTo g k).2 Bx ln cap xs El' wr ∧ LbS w1 w4.heap.size D0 dl0 dc0 A0 al0 ac0 G0 gl0 gc0 u0 P0 wr) (fun i _ => gl0 - (intOf i).toNat)
      case atStart => exact ⟨0, _, Nat.zero_le _, rfl, by rw [List.take_zero, List.append_nil]; exact hS5_h.out, hL5_h.out⟩
      case round =>
       clear hS5_h hL5_h
       obtain ⟨j, El', hj, rfl, hSj, hLj⟩ := hrel
       obtain ⟨wi, rfl⟩ : ∃ x, x = wr := ⟨_, rfl⟩
       by_cases hltj : j < gl0
       · obtain ⟨x, hx⟩ : ∃ x, P0.2.1.2[j]? = some x := ⟨_, List.getElem?_eq_getElem (by rw [hgl0_h.out]; exact hltj)⟩
         have hxr := hge_h.out x (List.mem_of_getElem? hx)
         obtain ⟨xx, rfl⟩ : ∃ xx : Nat, x = (xx : Int) := ⟨x.toNat, by omega⟩
         obtain ⟨gd, rfl, pg⟩ := hLj.ok.1.edg.rd j _ hx
         obtain ⟨ed, ev2, hA2, _, _, hcl2, hfz2⟩ := hSj.edg.at_ (j := xx) (by rw [hSj.ell]; omega)
         obtain rfl := Option.some.inj hA2
         have hfk := hfz2 xx
         obtain ⟨hSn, hkn⟩ := hSj.setE (f := xx) (by omega)
         rw [List.append_assoc, show P0.2.1.2.take j ++ [(xx : Int)] = P0.2.1.2.take (j + 1) by rw [List.take_add_one, hx]; rfl] at hSn
         have hLn : LbS w1 w4.heap.size D0 dl0 dc0 A0 al0 ac0 (some gd) gl0 gc0 u0 P0 (wi.setCell (E.add xx) (.int .i64 0)) := ⟨t_box_keeps hLj.box hkn (fun e => by have := hEl_h.out; have := hlbW_h.out; omega), hLj.ok.keeps hkn (fun b e => by rw [e]; exact hEl_h.out), hLj.uw⟩
         have hjI : (j : Int) < (gl0 : Int) := by omega
         have hxI : (xx : Int) < (m : Int) := by omega
         clear hfz2 hx hkn hSj hLj; have hSn_h := lH hSn; have hLn_h := lH hLn; clear hSn hLn
         go_wp2_with (fail)
         go_roundw
         case rel => exact ⟨j + 1, _, by omega, by go_num, hSn_h.out, hLn_h.out⟩
         case measure => simp [intOf]; omega
       · obtain rfl : gl0 = j := by omega
         rw [List.take_of_length_le (by rw [hgl0_h.out]; exact Nat.le_refl _)] at hSj
         have hseen : (scanTo g (k + 1)).1 = (scanTo g k).1 ++ P0.2.1.2 := by rw [hst_h.out, hgl_h.out]
         rw [← hseen] at hSj
         have hps : (scanTo g (k + 1)).2 = insP (refB g k m) (scanTo g k).2 := by rw [hst_h.out]
         have hbi : Below w1.heap.size w1 w1 := Below.refl _ _
         clear hseen hbi; have hSj_h := lH hSj; have hLj_h := lH hLj; have hps_h := lH hps; clear hSj hLj hps
         go_wp2_with (fail)
         go_loopw [12] (fun i wr => ∃ (f : Nat) (D : Option Addr) (dl dc : Nat) (A' : Option Addr) (al ac : Nat) (G : Option Addr) (gl gc : Nat) (u : Int), (k < f ∧ f ≤ m) ∧ i = .int .i64 f ∧ Sc w1 E m (scanTo g (k + 1)).1 (scanTo g k).2 Bx ln cap xs El' wr ∧ LbS w1 w4.heap.size D dl dc A' al ac G gl gc u (refB g k f) wr) (fun i _ => m - (intOf i).toNat)
         case atStart => exact ⟨k + 1, _, _, _, _, _, _, _, _, _, _, ⟨by omega, by omega⟩, by go_num, hSj_h.out, by rw [hPk_h.out]; exact hLj_h.out⟩
         case round =>
          clear hSj_h hLj_h
          obtain ⟨f, D, dl, dc, A', al, ac, G, gl, gc, u, ⟨hkf, hfm⟩, rfl, hSf, hLf⟩ := hrel
          obtain ⟨wf, rfl⟩ : ∃ x, x = wr := ⟨_, rfl⟩
          have kf := t_box_keeps k1_h.out hSf.kp (fun e => by have := hEn_h.out; have := hwW_h.out; omega)
          have hBf := below_keeps hB1_h.out hSf.kp hB1_h.out.size (fun b e => by rw [e]; have := hEn_h.out; have := hwW_h.out; omega)
          obtain ⟨⟨c0, c1, c2, c3⟩, f0, f1, f2, f3⟩ := t_box4 kf
          obtain ⟨⟨y0, y1, y2, y3⟩, z0, z1, z2, z3⟩ := t_box4 hLf.box
          obtain ⟨hRok, hR1, hR2⟩ := ref_ok (g := g) (e := k) (by rw [hm_h.out]; exact hlt) f (by rw [hm_h.out]; exact hfm)
          have huw := hLf.uw
          by_cases hff : f < m
          · have hfI : (f : Int) < (m : Int) := by omega
            have hstep : refB g k (f + 1) = if k < f ∧ (f : Int) ∈ (refB g k f).2.1.2 then prtNext g (refB g k f) (f : Int) else refB g k f := rfl
            obtain ⟨P, hP⟩ : ∃ P, refB g k f = P := ⟨_, rfl⟩
            rw [hP] at hLf hRok hR1 hR2 huw hstep
            have hhas := l1Has_any G gc gl P.2.1.2 (f : Int) wf hLf.ok.1.edg.rd hLf.ok.1.len.2.2.1 hLf.ok.1.len.2.2.2
            by_cases hin : (f : Int) ∈ P.2.1.2
            · rw [if_pos ⟨hkf, hin⟩] at hstep
              rw [show P.2.1.2.contains (f : Int) = true by simpa using hin] at hhas
              have hcf := cnFrom_any wf n m f (hW0_h.out.below hBf) hMo_h.out hm_h.out hff
              have hPok2 := prtOf_ok (g := g) (e := f) (by rw [hm_h.out]; exact hff)
              clear hin hP kf; have hSf_h := lH hSf; have hLf_h := lH hLf; have hBf_h := lH hBf; have hstep_h := lH hstep; have hhas_h := lH hhas; have hcf_h := lH hcf; have hPok2_h := lH hPok2; have hRok_h := lH hRok; have hR1_h := lH hR1; have hR2_h := lH hR2; have huw_h := lH huw; clear hSf hLf hBf hstep hhas hcf hPok2 hRok hR1 hR2 huw
              go_wp2_with (fail)
              refine (hhas_h.out).mono ?_
              rintro e w6 ⟨rfl, rfl⟩
              go_wp2_with (fail)
              refine (hcf_h.out).mono ?_
              rintro e w6 ⟨D2, dc2, A2, ac2, G2, gc2, rfl, i1, i2, i3, n1, n2, n3, hb6⟩
              have hLp2 := lp_of_ret hMo_h.out hPok2_h.out i1 i2 i3 n1 n2 n3 (W := w1) hSf_h.out.kp.size
              obtain ⟨P2, hP2⟩ : ∃ P, prtOf g (f : Int) = P := ⟨_, rfl⟩
              rw [hP2] at hLp2 hPok2_h ⊢
              have hcases : (P2.1 = P.1 → refB g k (f + 1) = (P.1, P.2.1, P.2.2 + 1)) ∧ (P2.1 ≠ P.1 → lexI P2.1 P.1 = true → refB g k (f + 1) = P2) ∧ (P2.1 ≠ P.1 → lexI P2.1 P.1 = false → refB g k (f + 1) = P) := by
               rw [hstep_h.out, ← hP2]
               exact ⟨prtNext_same, prtNext_less, prtNext_not⟩
              obtain ⟨dl2, hdl2⟩ : ∃ q, P2.1.length = q := ⟨_, rfl⟩
              obtain ⟨al2, hal2⟩ : ∃ q, P2.2.1.1.length = q := ⟨_, rfl⟩
              obtain ⟨gl2, hgl2⟩ : ∃ q, P2.2.1.2.length = q := ⟨_, rfl⟩
              obtain ⟨u2, hu2⟩ : ∃ q, P2.2.2 = q := ⟨_, rfl⟩
              rw [hdl2, hal2, hgl2] at hLp2
              rw [hdl2, hal2, hgl2, hu2]
              obtain ⟨w7, hw7, b7, k7⟩ := (⟨_, rfl, t_below_alloc _ _, heap_alloc_new _ _⟩ : ∃ W, W = w6.alloc (.cells #[.slice D2 dl2 dc2, .slice A2 al2 ac2, .slice G2 gl2 gc2, .int .i64 u2] tLp) ∧ Below w6.heap.size w6 W ∧ W.heap[w6.heap.size]? = some (.cells #[.slice D2 dl2 dc2, .slice A2 al2 ac2, .slice G2 gl2 gc2, .int .i64 u2] tLp))
              have hb67 := below_trans hb6 b7 hb6.size
              have hS7 := hSf_h.out.below hb67
              have hL7 := hLf_h.out.below hb67
              have hLp7 := hLp2.below b7
              have hsm := l1Same_any D2 D dc2 dc dl2 dl P2.1 P.1 w7 hLp7.1.cod.rd hL7.ok.1.cod.rd hLp7.1.len.1.1 hL7.ok.1.len.1.1 hLp7.1.len.1.2 hL7.ok.1.len.1.2
              have hne7 : w4.heap.size ≠ w6.heap.size := by have := t_box_lt hLf_h.out.box; have := hb6.size; omega
              have hBf7 := below_trans hBf_h.out hb67 hBf_h.out.size
              clear c0 c1 c2 c3 f0 f1 f2 f3 y0 y1 y2 y3 z0 z1 z2 z3
              obtain ⟨⟨c0, c1, c2, c3⟩, f0, f1, f2, f3⟩ := t_box4 k7
              obtain ⟨⟨y0, y1, y2, y3⟩, z0, z1, z2, z3⟩ := t_box4 hL7.box
              clear i1 i2 i3 n1 n2 n3 hb6 hLp2 hb67 b7 hSf_h hLf_h hBf_h hhas_h hcf_h hstep_h; have hS7_h := lH hS7; have hL7_h := lH hL7; have hLp7_h := lH hLp7; have hsm_h := lH hsm; have hcases_h := lH hcases; have hdl2_h := lH hdl2; have hal2_h := lH hal2; have hgl2_h := lH hgl2; have hu2_h := lH hu2; have hP2_h := lH hP2; have k7_h := lH k7; have hBf7_h := lH hBf7; clear hS7 hL7 hLp7 hsm hcases hdl2 hal2 hgl2 hu2 hP2 k7 hBf7
              go_upto_region 18 with (fail)
              rw [← hw7]
              clear hw7
              go_wp2_with (fail)
              refine (hsm_h.out).mono ?_
              rintro e w8 ⟨rfl, hb8⟩
              have hS8 := hS7_h.out.below hb8
              have hL8 := hL7_h.out.below hb8
              have hLp8 := hLp7_h.out.below hb8
              have k8 := t_box_below k7_h.out hb8
              clear c0 c1 c2 c3 f0 f1 f2 f3 y0 y1 y2 y3 z0 z1 z2 z3
              obtain ⟨⟨c0, c1, c2, c3⟩, f0, f1, f2, f3⟩ := t_box4 k8
              obtain ⟨⟨y0, y1, y2, y3⟩, z0, z1, z2, z3⟩ := t_box4 hL8.box
              clear hS7_h hL7_h hLp7_h k7_h hsm_h hb8
              by_cases hsame : P2.1 = P.1
              · rw [decide_eq_true hsame]
                obtain ⟨s1, s2⟩ := set4d (b := .int .i64 (u + 1)) hL8.box
                have hS9 := hS8.box s2 hlbW_h.out hBlb_h.out hL8.box
                have hL9 : LbS w1 w4.heap.size D dl dc A' al ac G gl gc (u + 1) (refB g k (f + 1)) (w8.setCell ⟨w4.heap.size, 3, none⟩ (.int .i64 (u + 1))) := by
                 rw [hcases_h.out.1 hsame]
                 obtain ⟨⟨o1, o2, o3, o4⟩, o5⟩ := hL8.ok
                 have o := (LpOk.typ ⟨o1, o2, o3, o4⟩ s2 (fun b e => by subst e; exact ⟨_, tLp, (0, 0), hL8.box, by decide⟩) : LpOk _ ⟨D, dl, dc, A', al, ac, G, gl, gc, P⟩)
                 exact ⟨s1, ⟨⟨o.cod, o.wir, o.edg, o.len⟩, o5⟩, by show P.2.2 + 1 = u + 1; rw [huw_h.out]⟩
                have hr1 := hR1_h.out
                have hr2 := hR2_h.out
                rw [huw_h.out] at hr1 hr2
                clear s1 s2 hS8 hL8 hLp8 k8; have hS9_h := lH hS9; have hL9_h := lH hL9; clear hS9 hL9
                go_wp2_with (fail)
                go_roundw
                case rel => exact ⟨f + 1, _, _, _, _, _, _, _, _, _, _, ⟨by omega, by omega⟩, by go_num, hS9_h.out, hL9_h.out⟩
                case measure => simp [intOf]; omega
              · rw [decide_eq_false hsame]
                have hbf := cnBefore_any D2 D dc2 dc dl2 dl P2.1 P.1 w8 hLp8.1.cod.rd hL8.ok.1.cod.rd hLp8.1.len.1.1 hL8.ok.1.len.1.1 hLp8.1.len.1.2
                obtain ⟨T, hT⟩ : ∃ T, lexI P2.1 P.1 = T := ⟨_, rfl⟩
                rw [hT] at hbf
                have hS8_h := lH hS8; have hL8_h := lH hL8; have hLp8_h := lH hLp8; have k8_h := lH k8; have hbf_h := lH hbf; clear hS8 hL8 hLp8 k8 hbf
                go_wp2_with (fail)
                refine (hbf_h.out).mono ?_
                rintro e w9 ⟨rfl, hb9⟩
                have hS9 := hS8_h.out.below hb9
                have hL9 := hL8_h.out.below hb9
                have hLp9 := hLp8_h.out.below hb9
                have k9 := t_box_below k8_h.out hb9
                clear c0 c1 c2 c3 f0 f1 f2 f3 y0 y1 y2 y3 z0 z1 z2 z3
                obtain ⟨⟨c0, c1, c2, c3⟩, f0, f1, f2, f3⟩ := t_box4 k9
                obtain ⟨⟨y0, y1, y2, y3⟩, z0, z1, z2, z3⟩ := t_box4 hL9.box
                clear hS8_h hL8_h hLp8_h k8_h hbf_h hb9
                cases T
                · rw [← hcases_h.out.2.2 hsame hT] at hL9
                  clear hLp9 k9; have hS9_h := lH hS9; have hL9_h := lH hL9; clear hS9 hL9
                  go_wp2_with (fail)
                  go_roundw
                  case rel => exact ⟨f + 1, _, _, _, _, _, _, _, _, _, _, ⟨by omega, by omega⟩, by go_num, hS9_h.out, hL9_h.out⟩
                  case measure => simp [intOf]; omega
                · obtain ⟨s1, s2⟩ := set4 (a := .slice D2 dl2 dc2) (b := .slice A2 al2 ac2) (c := .slice G2 gl2 gc2) (d := .int .i64 u2) hL9.box
                  have hS10 := hS9.box s2 hlbW_h.out hBlb_h.out hL9.box
                  have hL10 : LbS w1 w4.heap.size D2 dl2 dc2 A2 al2 ac2 G2 gl2 gc2 u2 (refB g k (f + 1)) ((((w9.setCell ⟨w4.heap.size, 0, none⟩ (.slice D2 dl2 dc2)).setCell ⟨w4.heap.size, 1, none⟩ (.slice A2 al2 ac2)).setCell ⟨w4.heap.size, 2, none⟩ (.slice G2 gl2 gc2)).setCell ⟨w4.heap.size, 3, none⟩ (.int .i64 u2)) := by
                   rw [hcases_h.out.2.1 hsame hT]
                   exact ⟨s1, ⟨hLp9.1.typ s2 (fun b e => by subst e; exact ⟨_, tLp, (0, 0), hL9.box, by decide⟩), hLp9.2⟩, hu2_h.out⟩
                  clear s1 s2 hS9 hL9 hLp9 k9; have hS10_h := lH hS10; have hL10_h := lH hL10; clear hS10 hL10
                  go_wp2_with (fail)
                  go_roundw
                  case rel => exact ⟨f + 1, _, _, _, _, _, _, _, _, _, _, ⟨by omega, by omega⟩, by go_num, hS10_h.out, hL10_h.out⟩
                  case measure => simp [intOf]; omega
            · rw [if_neg (fun h => hin h.2)] at hstep
              rw [show P.2.1.2.contains (f : Int) = false by simpa using hin] at hhas
              clear hin hP kf; have hSf_h := lH hSf; have hLf_h := lH hLf; have hBf_h := lH hBf; have hstep_h := lH hstep; have hhas_h := lH hhas; clear hSf hLf hBf hstep hhas
              go_wp2_with (fail)
              refine (hhas_h.out).mono ?_
              rintro e w6 ⟨rfl, rfl⟩
              go_wp2_with (fail)
              go_roundw
              case rel => exact ⟨f + 1, _, _, _, _, _, _, _, _, _, _, ⟨by omega, by omega⟩, by go_num, hSf_h.out, by rw [hstep_h.out]; exact hLf_h.out⟩
              case measure => simp [intOf]; omega
          · obtain rfl : m = f := by omega
            obtain ⟨P, hP⟩ : ∃ P, refB g k m = P := ⟨_, rfl⟩
            rw [hP] at hLf hRok hR1 hR2 huw hps_h
            clear hP kf y0 y1 y2 y3 z0 z1 z2 z3; have hSf_h := lH hSf; have hLf_h := lH hLf; have hBf_h := lH hBf; have hRok_h := lH hRok; have hR1_h := lH hR1; have hR2_h := lH hR2; have huw_h := lH huw; clear hSf hLf hBf hRok hR1 hR2 huw
            go_wp2_with (fail)
            have hln60 : ln ≤ 60 := by
             have h1 := (scan_ok g k (by rw [hm_h.out]; exact hk)).1
             have h2 := congrArg List.length hSf_h.out.pps
             rw [List.length_map, hSf_h.out.xln] at h2
             omega
            have hbest := prt_ok hMo_h.out hRok_h.out
            clear c0 c1 c2 c3 f0 f1 f2 f3; have hbest_h := lH hbest; clear hbest
            go_loopw [14] (fun i wr => ∃ (i' : Nat), i' ≤ ln ∧ i = .int .i64 i' ∧ insK P (scanTo g k).2 = i' + insK P ((scanTo g k).2.drop i') ∧ Below wf.heap.size wf wr) (fun i _ => ln - (intOf i).toNat)
            case atStart => exact ⟨0, Nat.zero_le _, rfl, by rw [List.drop_zero, Nat.zero_add], Below.refl _ _⟩
            case round =>
             obtain ⟨i, hil, rfl, hins, hbi⟩ := hrel
             obtain ⟨wi, rfl⟩ : ∃ x, x = wr := ⟨_, rfl⟩
             rcases Nat.lt_or_ge i ln with hi | hi
             case' inl =>
              obtain ⟨x, hx⟩ : ∃ x, xs[i]? = some x := ⟨_, List.getElem?_eq_getElem (by rw [hSf_h.out.xln]; exact hi)⟩
              have hxp : (scanTo g k).2[i]? = some x.P := by rw [← hSf_h.out.pps, List.getElem?_map, hx]; rfl
              have hid := insK_drop P _ i x.P hxp
              have hxok := prt_ok hMo_h.out ((scan_ok g k (by rw [hm_h.out]; exact hk)).2 x.P (List.mem_of_getElem? hxp)).1
              have hxf := hSf_h.out.ok x (List.mem_of_getElem? hx)
              obtain ⟨ad, hBx, d0, d1, d2, d3⟩ := lp_at hSf_h.out.sl hx
              obtain ⟨XD, xdl, xdc, XA, xal, xac, XG, xgl, xgc, XP⟩ := x
              simp only at d0 d1 d2 d3 hid hxok hxf
              obtain ⟨xu, hxu⟩ : ∃ q, XP.2.2 = q := ⟨_, rfl⟩
              rw [hxu] at d3
              have hcb : ∀ W', Below wf.heap.size wf W' → Calls Tryz.prog 96 #[.agg #[.slice D dl dc, .slice A' al ac, .slice G gl gc, .int .i64 u], .agg #[.slice XD xdl xdc, .slice XA xal xac, .slice XG xgl xgc, .int .i64 xu]] W' fun e w' => e = .returned (.bool (befP P XP)) ∧ Below W'.heap.size W' w' := fun W' hb => by
               have h1 := cnLoopBefore_any ⟨D, dl, dc, A', al, ac, G, gl, gc, P⟩ ⟨XD, xdl, xdc, XA, xal, xac, XG, xgl, xgc, XP⟩ W' (hLf_h.out.ok.1.below hb) (hxf.1.below hb) (fun v hv => (hbest_h.out.2.1.1 v hv).1) (fun v hv => (hxok.2.1.1 v hv).1)
               have e1 : Lp.cells ⟨D, dl, dc, A', al, ac, G, gl, gc, P⟩ = [.slice D dl dc, .slice A' al ac, .slice G gl gc, .int .i64 u] := by unfold Lp.cells; rw [huw_h.out]
               have e2 : Lp.cells ⟨XD, xdl, xdc, XA, xal, xac, XG, xgl, xgc, XP⟩ = [.slice XD xdl xdc, .slice XA xal xac, .slice XG xgl xgc, .int .i64 xu] := by unfold Lp.cells; rw [hxu]
               rw [e1, e2] at h1
               exact h1
              subst hBx
              obtain ⟨T, hT⟩ : ∃ T, befP P XP = T := ⟨_, rfl⟩
              rw [hT] at hcb hid
              have hiI : (i : Int) < (ln : Int) := by omega
              clear hx hxp hxok hxf hxu hT; have hins_h := lH hins; have hbi_h := lH hbi; have hid_h := lH hid; have hcb_h := lH hcb; clear hins hbi hid hcb
              go_upto_region 23 with (fail)
              refine beginH (fun w' => Below wi.heap.size wi w') (by kernel_rfl) ?_
              have hbd : Below wi.heap.size wi wi.drew := below_drewN (Below.refl _ _) 1
              generalize wi.drew = W1 at hbd ⊢
              refine tkH 0 ?_ rfl hbd (fun W' hW' => ?_) ?_; rotate_left; · (have hq := below_trans hbi_h.out hW' hbi_h.out.size; obtain ⟨⟨y0, y1, y2, y3⟩, z0, z1, z2, z3⟩ := t_box4 (t_box_below hLf_h.out.box hq); have v0 := (hq.cell (World.block_lt_of_cell? _ _ d0)).trans d0; have v1 := (hq.cell (World.block_lt_of_cell? _ _ d1)).trans d1; have v2 := (hq.cell (World.block_lt_of_cell? _ _ d2)).trans d2; have v3 := (hq.cell (World.block_lt_of_cell? _ _ d3)).trans d3; clear hq; clear hW'; go_simp; first | done | with_reducible rfl)
              simp only [Act.put, nS]
              refine tkH 1 ?_ rfl hbd (fun W' hW' => ?_) ?_; rotate_left; · (have hq := below_trans hbi_h.out hW' hbi_h.out.size; obtain ⟨⟨y0, y1, y2, y3⟩, z0, z1, z2, z3⟩ := t_box4 (t_box_below hLf_h.out.box hq); have v0 := (hq.cell (World.block_lt_of_cell? _ _ d0)).trans d0; have v1 := (hq.cell (World.block_lt_of_cell? _ _ d1)).trans d1; have v2 := (hq.cell (World.block_lt_of_cell? _ _ d2)).trans d2; have v3 := (hq.cell (World.block_lt_of_cell? _ _ d3)).trans d3; clear hq; clear hW'; go_simp; first | done | with_reducible rfl)
              simp only [Act.put, nS]
              refine tkH 2 ?_ rfl hbd (fun W' hW' => ?_) ?_; rotate_left; · (have hq := below_trans hbi_h.out hW' hbi_h.out.size; obtain ⟨⟨y0, y1, y2, y3⟩, z0, z1, z2, z3⟩ := t_box4 (t_box_below hLf_h.out.box hq); have v0 := (hq.cell (World.block_lt_of_cell? _ _ d0)).trans d0; have v1 := (hq.cell (World.block_lt_of_cell? _ _ d1)).trans d1; have v2 := (hq.cell (World.block_lt_of_cell? _ _ d2)).trans d2; have v3 := (hq.cell (World.block_lt_of_cell? _ _ d3)).trans d3; clear hq; clear hW'; go_simp; first | done | with_reducible rfl)
              simp only [Act.put, nS]
              refine tkH 3 ?_ rfl hbd (fun W' hW' => ?_) ?_; rotate_left; · (have hq := below_trans hbi_h.out hW' hbi_h.out.size; obtain ⟨⟨y0, y1, y2, y3⟩, z0, z1, z2, z3⟩ := t_box4 (t_box_below hLf_h.out.box hq); have v0 := (hq.cell (World.block_lt_of_cell? _ _ d0)).trans d0; have v1 := (hq.cell (World.block_lt_of_cell? _ _ d1)).trans d1; have v2 := (hq.cell (World.block_lt_of_cell? _ _ d2)).trans d2; have v3 := (hq.cell (World.block_lt_of_cell? _ _ d3)).trans d3; clear hq; clear hW'; go_simp; first | done | with_reducible rfl)
              simp only [Act.put, nS]
              refine tkH 4 ?_ rfl hbd (fun W' hW' => ?_) ?_; rotate_left; · (have hq := below_trans hbi_h.out hW' hbi_h.out.size; obtain ⟨⟨y0, y1, y2, y3⟩, z0, z1, z2, z3⟩ := t_box4 (t_box_below hLf_h.out.box hq); have v0 := (hq.cell (World.block_lt_of_cell? _ _ d0)).trans d0; have v1 := (hq.cell (World.block_lt_of_cell? _ _ d1)).trans d1; have v2 := (hq.cell (World.block_lt_of_cell? _ _ d2)).trans d2; have v3 := (hq.cell (World.block_lt_of_cell? _ _ d3)).trans d3; clear hq; clear hW'; go_simp; first | done | with_reducible rfl)
              simp only [Act.put, nS]
              refine tkH 5 ?_ rfl hbd (fun W' hW' => ?_) ?_; rotate_left; · (have hq := below_trans hbi_h.out hW' hbi_h.out.size; obtain ⟨⟨y0, y1, y2, y3⟩, z0, z1, z2, z3⟩ := t_box4 (t_box_below hLf_h.out.box hq); have v0 := (hq.cell (World.block_lt_of_cell? _ _ d0)).trans d0; have v1 := (hq.cell (World.block_lt_of_cell? _ _ d1)).trans d1; have v2 := (hq.cell (World.block_lt_of_cell? _ _ d2)).trans d2; have v3 := (hq.cell (World.block_lt_of_cell? _ _ d3)).trans d3; clear hq; clear hW'; go_simp; first | done | with_reducible rfl)
              simp only [Act.put, nS]
              refine tkH 6 ?_ rfl hbd (fun W' hW' => ?_) ?_; rotate_left; · (have hq := below_trans hbi_h.out hW' hbi_h.out.size; obtain ⟨⟨y0, y1, y2, y3⟩, z0, z1, z2, z3⟩ := t_box4 (t_box_below hLf_h.out.box hq); have v0 := (hq.cell (World.block_lt_of_cell? _ _ d0)).trans d0; have v1 := (hq.cell (World.block_lt_of_cell? _ _ d1)).trans d1; have v2 := (hq.cell (World.block_lt_of_cell? _ _ d2)).trans d2; have v3 := (hq.cell (World.block_lt_of_cell? _ _ d3)).trans d3; clear hq; clear hW'; go_simp; first | done | with_reducible rfl)
              simp only [Act.put, nS]
              refine tkH 7 ?_ rfl hbd (fun W' hW' => ?_) ?_; rotate_left; · (have hq := below_trans hbi_h.out hW' hbi_h.out.size; obtain ⟨⟨y0, y1, y2, y3⟩, z0, z1, z2, z3⟩ := t_box4 (t_box_below hLf_h.out.box hq); have v0 := (hq.cell (World.block_lt_of_cell? _ _ d0)).trans d0; have v1 := (hq.cell (World.block_lt_of_cell? _ _ d1)).trans d1; have v2 := (hq.cell (World.block_lt_of_cell? _ _ d2)).trans d2; have v3 := (hq.cell (World.block_lt_of_cell? _ _ d3)).trans d3; clear hq; clear hW'; go_simp; first | done | with_reducible rfl)
              simp only [Act.put, nS]
              refine tkH 8 ?_ rfl hbd (fun W' hW' => ?_) ?_; rotate_left; · (have hq := below_trans hbi_h.out hW' hbi_h.out.size; obtain ⟨⟨y0, y1, y2, y3⟩, z0, z1, z2, z3⟩ := t_box4 (t_box_below hLf_h.out.box hq); have v0 := (hq.cell (World.block_lt_of_cell? _ _ d0)).trans d0; have v1 := (hq.cell (World.block_lt_of_cell? _ _ d1)).trans d1; have v2 := (hq.cell (World.block_lt_of_cell? _ _ d2)).trans d2; have v3 := (hq.cell (World.block_lt_of_cell? _ _ d3)).trans d3; clear hq; clear hW'; go_simp; first | done | with_reducible rfl)
              simp only [Act.put, nS]
              refine tkH 9 ?_ rfl hbd (fun W' hW' => ?_) ?_; rotate_left; · (have hq := below_trans hbi_h.out hW' hbi_h.out.size; obtain ⟨⟨y0, y1, y2, y3⟩, z0, z1, z2, z3⟩ := t_box4 (t_box_below hLf_h.out.box hq); have v0 := (hq.cell (World.block_lt_of_cell? _ _ d0)).trans d0; have v1 := (hq.cell (World.block_lt_of_cell? _ _ d1)).trans d1; have v2 := (hq.cell (World.block_lt_of_cell? _ _ d2)).trans d2; have v3 := (hq.cell (World.block_lt_of_cell? _ _ d3)).trans d3; clear hq; clear hW'; go_simp; first | done | with_reducible rfl)
              simp only [Act.put, nS]
              refine' callH 10 (f := _) (args := _) rfl (by kernel_rfl) (by rfl) ?_ ?_; rotate_left 2; · (go_simp; first | done | with_reducible rfl | (constructor <;> with_reducible rfl))
              refine (hcb_h.out W1 (below_trans hbi_h.out hbd hbi_h.out.size)).mono ?_
              rintro e w6 ⟨rfl, hb6⟩
              have hb16 := below_trans hbd hb6 hbd.size
              have hbf6 := below_trans hbi_h.out hb16 hbi_h.out.size
              refine ⟨_, rfl, hb16, ?_⟩
              simp only [Act.put, nS]
              refine tkH 11 ?_ rfl hb16 (fun W' hW' => ?_) ?_; rotate_left; · (skip; clear hW'; go_simp; first | done | with_reducible rfl)
              simp only [Act.put, nS]
              refine tkH 12 ?_ rfl hb16 (fun W' hW' => ?_) ?_; rotate_left; · (skip; clear hW'; go_simp; first | done | with_reducible rfl)
              simp only [Act.put, nS]
              refine doneH (by kernel_rfl) ?_
              clear hcb_h hb6 hbd; have hbf6_h := lH hbf6; clear hbf6
              cases T
              · have hins' : insK P (scanTo g k).2 = i + 1 + insK P ((scanTo g k).2.drop (i + 1)) := by
                 have h1 := hid_h.out
                 rw [if_neg (by simp)] at h1
                 rw [hins_h.out, h1]
                 omega
                clear hins_h hbi_h; have hins'_h := lH hins'; clear hins'
                go_wp2_with (fail)
                go_roundw
                case rel => exact ⟨i + 1, by omega, by go_num, hins'_h.out, hbf6_h.out⟩
                case measure => simp [intOf]; omega
              have hie : i = insK P (scanTo g k).2 := by
               have h1 := hid_h.out
               rw [if_pos rfl] at h1
               rw [hins_h.out, h1]
               rfl
              clear d0 d1 d2 d3 hid_h hins_h hbi_h hb16; have hie_h := lH hie; clear hie
             case' inr =>
              have hiI : ¬ (i : Int) < (ln : Int) := by omega
              have hpl : (scanTo g k).2.length = ln := by
               have h2 := congrArg List.length hSf_h.out.pps
               rw [List.length_map, hSf_h.out.xln] at h2
               exact h2.symm
              have hie : i = insK P (scanTo g k).2 := by
               rw [hins, List.drop_of_length_le (by omega)]
               rfl
              clear hpl hins; have hbi_h := lH hbi; have hie_h := lH hie; clear hbi hie
              go_upto_region 23 with (fail)
              refine beginH (fun w' => Below wi.heap.size wi w') (by kernel_rfl) ?_
              have hbd : Below wi.heap.size wi wi.drew := below_drewN (Below.refl _ _) 1
              generalize wi.drew = w6 at hbd ⊢
              refine tkH 0 ?_ rfl hbd (fun W' hW' => ?_) ?_; rotate_left; · (skip; clear hW'; go_simp; first | done | with_reducible rfl)
              simp only [Act.put, nS]
              refine tkH 1 ?_ rfl hbd (fun W' hW' => ?_) ?_; rotate_left; · (skip; clear hW'; go_simp; first | done | with_reducible rfl)
              simp only [Act.put, nS]
              refine tkH 2 ?_ rfl hbd (fun W' hW' => ?_) ?_; rotate_left; · (skip; clear hW'; go_simp; first | done | with_reducible rfl)
              simp only [Act.put, nS]
              refine tkH 3 ?_ rfl hbd (fun W' hW' => ?_) ?_; rotate_left; · (skip; clear hW'; go_simp; first | done | with_reducible rfl)
              simp only [Act.put, nS]
              refine tkH 4 ?_ rfl hbd (fun W' hW' => ?_) ?_; rotate_left; · (skip; clear hW'; go_simp; first | done | with_reducible rfl)
              simp only [Act.put, nS]
              refine offH 5 rfl (by kernel_rfl) (by kernel_rfl) (by kernel_rfl) (fun _ _ _ h => h) hbd (by rfl) ?_
              simp only [Act.put, nS]
              refine offH 6 rfl (by kernel_rfl) (by kernel_rfl) (by kernel_rfl) (fun _ _ _ h => h) hbd (by rfl) ?_
              simp only [Act.put, nS]
              refine offH 7 rfl (by kernel_rfl) (by kernel_rfl) (by kernel_rfl) (fun _ _ _ h => h) hbd (by rfl) ?_
              simp only [Act.put, nS]
              refine offH 8 rfl (by kernel_rfl) (by kernel_rfl) (by kernel_rfl) (fun _ _ _ h => h) hbd (by rfl) ?_
              simp only [Act.put, nS]
              refine offH 9 rfl (by kernel_rfl) (by kernel_rfl) (by kernel_rfl) (fun _ _ _ h => h) hbd (by rfl) ?_
              simp only [Act.put, nS]
              refine offH 10 rfl (by kernel_rfl) (by kernel_rfl) (by kernel_rfl) (fun _ _ _ h => h) hbd (by rfl) ?_
              simp only [Act.put, nS]
              refine offH 11 rfl (by kernel_rfl) (by kernel_rfl) (by kernel_rfl) (fun _ _ _ h => h) hbd (by rfl) ?_
              simp only [Act.put, nS]
              refine tkH 12 ?_ rfl hbd (fun W' hW' => ?_) ?_; rotate_left; · (skip; clear hW'; go_simp; first | done | with_reducible rfl)
              simp only [Act.put, nS]
              refine doneH (by kernel_rfl) ?_
              have hbf6 := below_trans hbi_h.out hbd hbi_h.out.size
              clear hbd hbi_h; have hbf6_h := lH hbf6; clear hbf6
             all_goals
              have hSt := hSf_h.out.below hbf6_h.out
              have hLt := hLf_h.out.below hbf6_h.out
              obtain ⟨A1, A2, r1, r2, l1, l2, f2⟩ := hSt.parts hil
              obtain ⟨q, hq⟩ : ∃ q, ln - i = q := ⟨_, rfl⟩
              rw [hq] at l1 r1
              obtain ⟨W6, hW6, bW6, s6⟩ : ∃ W, W = w6.alloc (.cells #[] tLp) ∧ Below w6.heap.size w6 W ∧ Sl W tLp 4 (some ⟨w6.heap.size, 0, none⟩) 0 0 [] := ⟨_, rfl, t_below_alloc _ _, Sl.laid w6 tLp 4 0 #[] (Nat.zero_le _) rfl⟩
              have hl1 : ((xs.drop i).flatMap Lp.cells).length = q * 4 := by rw [flat_len lp_len, List.length_drop, hSt.xln, hq]
              have hrd1 := (l1.below bW6).rdc
              have hSt_h := lH hSt; have hLt_h := lH hLt; have l1_h := lH l1; have l2_h := lH l2; have f2_h := lH f2; have bW6_h := lH bW6; have s6_h := lH s6; have hl1_h := lH hl1; have hrd1_h := lH hrd1; clear hSt hLt l1 l2 f2 bW6 s6 hl1 hrd1
              go_wp2_with (at_builtin; rw [← hW6]; refine wpList_append_Sl _ rfl _ _ _ rfl tLp Tryz.underlying87 info_lp rfl (by omega) rfl s6_h.out rfl hl1_h.out hrd1_h.out (lps_one _) (by unfold maxLen; omega) (by omega) ?_; intro R rc w7 hsR hAR hkR)
              have hb67 := below_keeps bW6_h.out hkR bW6_h.out.size (fun b hb => by have : b = w6.heap.size := (by simpa using hb); omega)
              have hRf : ∀ b, b ∈ fpA R → w6.heap.size ≤ b := fun b hb => by
               rcases hAR b hb with h1 | h1
               · have : b = w6.heap.size := by simpa using h1
                 omega
               · have := bW6_h.out.size; omega
              have hA2f : ∀ b, b ∈ fpA A2 → b < w6.heap.size := fun b hb => l2_h.out.lt b hb
              simp only [List.nil_append] at hsR
              clear hAR hkR hrd1_h s6_h bW6_h l1_h hW6; have hb67_h := lH hb67; have hRf_h := lH hRf; have hA2f_h := lH hA2f; have hsR_h := lH hsR; clear hb67 hRf hA2f hsR
              refine beginH (fun w' => w'.heap[w4.heap.size]? = some (.cells #[.slice D dl dc, .slice A' al ac, .slice G gl gc, .int .i64 u] tLp)) (by kernel_rfl) ?_
              have hbd : Below w7.heap.size w7 w7.drew := below_drewN (Below.refl _ _) 1
              generalize w7.drew = w8 at hbd ⊢
              have hb68 := below_trans hb67_h.out hbd hb67_h.out.size
              obtain ⟨W9, hW9, b9, s9⟩ : ∃ W, W = w8.alloc (.cells #[.slice D dl dc, .slice A' al ac, .slice G gl gc, .int .i64 u] tLp) ∧ Below w8.heap.size w8 W ∧ Sl W tLp 4 (some ⟨w8.heap.size, 0, none⟩) 1 1 [.slice D dl dc, .slice A' al ac, .slice G gl gc, .int .i64 u] := ⟨_, rfl, t_below_alloc _ _, Sl.laid w8 tLp 4 1 #[.slice D dl dc, .slice A' al ac, .slice G gl gc, .int .i64 u] (by unfold maxLen; omega) rfl⟩
              have hb69 := below_trans hb68 b9 hb68.size
              have hL8 := hLt_h.out.below hb68
              have hL9 := hLt_h.out.below hb69
              have l29 := l2_h.out.below hb69
              have hR9 := hsR_h.out.below (below_trans hbd b9 hbd.size)
              have hrd9 := s9.rdc
              clear hbd hb68 b9 s9 hsR_h; have hb69_h := lH hb69; have hL8_h := lH hL8; have hL9_h := lH hL9; have l29_h := lH l29; have hR9_h := lH hR9; have hrd9_h := lH hrd9; clear hb69 hL8 hL9 l29 hR9 hrd9
              refine tkH 0 ?_ rfl hL8_h.out.box (fun W' hW' => ?_) ?_; rotate_left; · (obtain ⟨⟨y0, y1, y2, y3⟩, z0, z1, z2, z3⟩ := t_box4 hW'; clear hW'; go_simp; first | done | with_reducible rfl)
              simp only [Act.put, nS]
              refine tkH 1 ?_ rfl hL8_h.out.box (fun W' hW' => ?_) ?_; rotate_left; · (obtain ⟨⟨y0, y1, y2, y3⟩, z0, z1, z2, z3⟩ := t_box4 hW'; clear hW'; go_simp; first | done | with_reducible rfl)
              simp only [Act.put, nS]
              refine tkH 2 ?_ rfl hL8_h.out.box (fun W' hW' => ?_) ?_; rotate_left; · (obtain ⟨⟨y0, y1, y2, y3⟩, z0, z1, z2, z3⟩ := t_box4 hW'; clear hW'; go_simp; first | done | with_reducible rfl)
              simp only [Act.put, nS]
              refine tkH 3 ?_ rfl hL8_h.out.box (fun W' hW' => ?_) ?_; rotate_left; · (obtain ⟨⟨y0, y1, y2, y3⟩, z0, z1, z2, z3⟩ := t_box4 hW'; clear hW'; go_simp; first | done | with_reducible rfl)
              simp only [Act.put, nS]
              refine tkH 6 ?_ rfl hL8_h.out.box (fun W' hW' => ?_) ?_; rotate_left; · (obtain ⟨⟨y0, y1, y2, y3⟩, z0, z1, z2, z3⟩ := t_box4 hW'; clear hW'; go_simp; first | done | with_reducible rfl)
              simp only [Act.put, nS]
              refine oneH 4 rfl (by kernel_rfl) (by rfl) (fun K hK => ?_)
              go_simp
              refine hK _ _ (by rw [← hW9]; exact hL9_h.out.box) ?_
              clear hK K
              rw [← hW9]
              clear hW9
              refine appH 5 rfl (by kernel_rfl) (by rfl) _ _ _ rfl tLp Tryz.underlying87 info_lp rfl (by omega) rfl l29_h.out rfl (news := [.slice D dl dc, .slice A' al ac, .slice G gl gc, .int .i64 u]) rfl hrd9_h.out (by intro u hu; simp at hu; rcases hu with rfl | rfl | rfl | rfl <;> rfl) (by unfold maxLen; omega) (by omega) ?_
              intro A3 c3 w10 hs3 hA3 hk3
              have hlbA : ∀ b, b ∈ fpA A2 → b ≠ w4.heap.size := fun b hb => hBlb_h.out b (f2_h.out b hb)
              have hbx10 := t_box_keeps hL9_h.out.box hk3 (fun h => hlbA _ h rfl)
              have hR10 := hR9_h.out.keeps hk3 (fun b hb h => by have := hRf_h.out b hb; have := hA2f_h.out b h; omega)
              have hok10 := hL9_h.out.ok.1.typ hk3 (sl_typ l29_h.out (by decide))
              have hrd10 := hR10.rdc
              have hlb10 : w4.heap.size < W9.heap.size := t_box_lt hL9_h.out.box
              clear hL8_h hR9_h hrd9_h hR10; have hs3_h := lH hs3; have hA3_h := lH hA3; have hk3_h := lH hk3; have hbx10_h := lH hbx10; have hok10_h := lH hok10; have hrd10_h := lH hrd10; have hlbA_h := lH hlbA; have hlb10_h := lH hlb10; clear hs3 hA3 hk3 hbx10 hok10 hrd10 hlbA hlb10
              refine ⟨hbx10_h.out, ?_⟩
              simp only [Act.put, nS]
              refine appH 7 rfl (by kernel_rfl) (by rfl) _ _ _ rfl tLp Tryz.underlying87 info_lp rfl (by omega) rfl hs3_h.out rfl hl1_h.out hrd10_h.out (lps_one _) (by unfold maxLen; omega) (by omega) ?_
              intro A4 c4 w11 hs4 hA4 hk4
              have hA3c : ∀ b, b ∈ fpA A3 → b ∈ fpA A2 ∨ W9.heap.size ≤ b := hA3_h.out
              have hbx11 := t_box_keeps hbx10_h.out hk4 (fun h => by
               rcases hA3c _ h with h1 | h1
               · exact hlbA_h.out _ h1 rfl
               · have := hlb10_h.out; omega)
              have hok11 := hok10_h.out.typ hk4 (sl_typ hs3_h.out (by decide))
              have hk611 : Keeps (fun x => x ∈ fpA A2) w6 w11 := ((Keeps.of_below hb69_h.out _).trans hk3_h.out).free hk4 (fun b h1 h2 => by
               rcases hA3c _ h2 with h3 | h3
               · exact h3
               · have := hb69_h.out.size; omega)
              have ec : (xs.take i ++ (⟨D, dl, dc, A', al, ac, G, gl, gc, P⟩ : Lp) :: xs.drop i).flatMap Lp.cells = ((xs.take i).flatMap Lp.cells ++ [.slice D dl dc, .slice A' al ac, .slice G gl gc, .int .i64 u]) ++ (xs.drop i).flatMap Lp.cells := by
               have hcl : Lp.cells ⟨D, dl, dc, A', al, ac, G, gl, gc, P⟩ = [.slice D dl dc, .slice A' al ac, .slice G gl gc, .int .i64 u] := by unfold Lp.cells; rw [huw_h.out]
               rw [List.flatMap_append, List.flatMap_cons, hcl, ← List.append_assoc]
              rw [← ec] at hs4
              have hf4 : Fresh w1.heap.size A4 := fun b hb => by
               have hz := hb69_h.out.size
               have hz2 := hSt_h.out.kp.size
               have hz3 := hk3_h.out.size
               rcases hA4 b hb with h1 | h1
               · rcases hA3c b h1 with h2 | h2
                 · exact hSt_h.out.bf b (f2_h.out b h2)
                 · omega
               · omega
              have hS11 := hSt_h.out.ins (b := ⟨D, dl, dc, A', al, ac, G, gl, gc, P⟩) hie_h.out ⟨hok11, hL9_h.out.ok.2⟩ (by omega) hs4 hf4 (hk611.mono fun _ _ h => f2_h.out _ h)
              rw [← hps_h.out] at hS11
              clear hs4 hA4 hk4 hok11 hk611 ec hf4 hA3c hs3_h hA3_h hk3_h hbx10_h hok10_h hrd10_h; have hS11_h := lH hS11; have hbx11_h := lH hbx11; clear hS11 hbx11
              refine ⟨hbx11_h.out, ?_⟩
              simp only [Act.put, nS]
              refine tkH 8 ?_ rfl hbx11_h.out (fun W' hW' => ?_) ?_; rotate_left; · (skip; clear hW'; go_simp; first | done | with_reducible rfl)
              simp only [Act.put, nS]
              refine doneH (by kernel_rfl) ?_
              go_wp2_with (fail)
              go_roundw
              case rel => exact ⟨k + 1, _, _, _, _, _, by omega, by go_num, rfl, hS11_h.out⟩
              case measure => simp [intOf]; omega
  · obtain rfl : m = k := by omega
    have hpt : (scanTo g m).2 = partsM g := by unfold partsM; rw [hm_h.out]
    rw [hpt] at hS
    have hwWs := hB1_h.out.size
    have hxn := hS.xln
    have hS_h := lH hS; have hBo_h := lH hBo; have ko_h := lH ko; clear hS hBo ko
    obtain ⟨⟨c0, c1, c2, c3⟩, f0, f1, f2, f3⟩ := t_box4 ko_h.out
    go_wp2_with (fail)
    go_ret
    refine ⟨Bx, cap, xs, by rw [hxn]; exact congrArg Ending.returned (by go_num), by rw [hxn]; exact hS_h.out.sl, fun x hx => ?_, hS_h.out.pps, hBo_h.out⟩
    obtain ⟨o1, o2, o3, o4⟩ := hS_h.out.ok x hx
    exact ⟨o1, fun b hb => Nat.le_trans hwWs (o2 b hb), fun b hb => Nat.le_trans hwWs (o3 b hb), fun b hb => Nat.le_trans hwWs (o4 b hb)⟩
def RetCn (w : World) (n m : Nat) (p : List Int × List Int) (e : Ending) (w' : World) : Prop :=
 ∃ Wa Ea : Addr, e = .returned (.tuple #[.slice (some Wa) n n, .slice (some Ea) m m]) ∧ IS w' (some Wa) n p.1 ∧ IS w' (some Ea) m p.2 ∧ Wa.block ≠ Ea.block ∧ w.heap.size ≤ Wa.block ∧ w.heap.size ≤ Ea.block ∧ Below w.heap.size w w'
structure NuS (W : World) (N E : Addr) (n m : Nat) (t1 t2 : List Int) (w : World) : Prop where
 i1 : IS w (some N) n t1
 i2 : IS w (some E) m t2
 l1 : t1.length = n
 l2 : t2.length = m
 ne : N.block ≠ E.block
 lt : N.block < W.heap.size ∧ E.block < W.heap.size
 kp : Keeps (fun b => b = N.block ∨ b = E.block) W w
section
variable {W w w' : World} {N E : Addr} {n m : Nat} {t1 t2 : List Int}
theorem NuS.below (h : NuS W N E n m t1 t2 w) (hb : Below w.heap.size w w') : NuS W N E n m t1 t2 w' :=
 ⟨h.i1.below hb, h.i2.below hb, h.l1, h.l2, h.ne, h.lt, h.kp.free (Keeps.of_below hb (fun _ => False)) fun _ _ h => h.elim⟩
theorem NuS.set1 (h : NuS W N E n m t1 t2 w) {j : Nat} (x : Int) (hj : j < n) : NuS W N E n m (t1.set j x) t2 (w.setCell (N.add j) (.int .i64 x)) ∧ Keeps (fun b => b = N.block) w (w.setCell (N.add j) (.int .i64 x)) := by
 have hk : Keeps (fun b => b = N.block) w (w.setCell (N.add j) (.int .i64 x)) := Keeps.setCell (S := fun b => b = N.block) (Keeps.refl _ w) (p := N.add j) (by rw [block_of_add]) _
 exact ⟨⟨h.i1.set rfl x (by rw [h.l1]; exact hj), h.i2.keeps hk (fun b hb e => h.ne (e.symm.trans (by simpa using hb : b = E.block))), by simpa using h.l1, h.l2, h.ne, h.lt, h.kp.trans (hk.mono fun _ _ e => .inl e)⟩, hk⟩
theorem NuS.set2 (h : NuS W N E n m t1 t2 w) {j : Nat} (x : Int) (hj : j < m) : NuS W N E n m t1 (t2.set j x) (w.setCell (E.add j) (.int .i64 x)) ∧ Keeps (fun b => b = E.block) w (w.setCell (E.add j) (.int .i64 x)) := by
 have hk : Keeps (fun b => b = E.block) w (w.setCell (E.add j) (.int .i64 x)) := Keeps.setCell (S := fun b => b = E.block) (Keeps.refl _ w) (p := E.add j) (by rw [block_of_add]) _
 exact ⟨⟨h.i1.keeps hk (fun b hb e => h.ne ((by simpa using hb : b = N.block).symm.trans e)), h.i2.set rfl x (by rw [h.l2]; exact hj), h.l1, by simpa using h.l2, h.ne, h.lt, h.kp.trans (hk.mono fun _ _ e => .inr e)⟩, hk⟩
theorem NuS.sl (h : NuS W N E n m t1 t2 W) {e : TypeId} (he : e ≠ tInt) {sz k cap : Nat} {A : Option Addr} {xs : List Value} (hs : Sl W e sz A k cap xs) (hk : Keeps (fun b => b = N.block ∨ b = E.block) W w') : Sl w' e sz A k cap xs :=
 hs.keeps hk fun b hb hS => by
  obtain ⟨cs, t, fr, hg, ht⟩ := sl_typ hs he b hb
  obtain ⟨_, q1⟩ := is_box h.i1
  obtain ⟨_, q2⟩ := is_box h.i2
  rcases hS with rfl | rfl
  · rw [hg] at q1
    injection q1 with q1
    injection q1 with _ h1
    exact ht h1
  · rw [hg] at q2
    injection q2 with q2
    injection q2 with _ h1
    exact ht h1
end
set_option maxRecDepth 100000 in
set_option maxHeartbeats 16000000 in
theorem cnNumbers_any {v : Value} {g : Gr} (w : World) (n m : Nat) (h : RdGr w v g) (hMo : Mono g n) (hm : g.2.1.length = m) :
  Calls Tryz.prog 40 #[v] w (RetCn w n m (cnM g)) := by
 have hn100 := hMo.n100
 have hm60 : m ≤ 60 := by rw [← hm]; exact hMo.m60
 have hgn := hMo.hn
 have hW0 := h
 obtain ⟨A, c, hs, ⟨B, bb, s⟩, ⟨C, d, t⟩, rfl, e1, e2, e3, hE, hRa, hRb⟩ := h
 have hml : hs.length = m := by rw [← hm, e1, List.length_map]
 simp only [hgn, hml] at hW0 ⊢
 obtain ⟨p, hp⟩ : ∃ p, s.length = p := ⟨_, rfl⟩
 obtain ⟨r, hr⟩ : ∃ r, t.length = r := ⟨_, rfl⟩
 rw [hp, hr] at hW0 ⊢
 obtain ⟨W, hWe, bW, k0⟩ := (⟨_, rfl, t_below_alloc _ _, heap_alloc_new _ _⟩ : ∃ W, W = w.alloc (.cells #[.int .i64 (n : Int), .slice A m c, .slice B p bb, .slice C r d] tGr) ∧ Below w.heap.size w W ∧ W.heap[w.heap.size]? = some (.cells #[.int .i64 (n : Int), .slice A m c, .slice B p bb, .slice C r d] tGr))
 obtain ⟨⟨c0, c1, c2, c3⟩, f0, f1, f2, f3⟩ := t_box4 k0
 have hop := cnOpen_any W n m (hW0.below bW) hMo hm
 have hct0 := cnTo_eq hMo 0 (Nat.zero_le _)
 have hw0 : ordW g 0 = (openM g).1 := by unfold ordW; simp
 have he0 : ordE g 0 = (openM g).2 := by unfold ordE; simp
 rw [hw0, he0, hm] at hct0
 obtain ⟨ol, hol⟩ : ∃ q, (openM g).1.length = q := ⟨_, rfl⟩
 obtain ⟨oc, hoc⟩ : ∃ q : Int, ((openM g).2.length : Int) = q := ⟨_, rfl⟩
 rw [hol, hoc] at hop hct0
 clear hRa hRb e1 e2 e3 hE hw0 he0; have hMo_h := lH hMo; have hm_h := lH hm; have hW0_h := lH hW0; have hgn_h := lH hgn; have hml_h := lH hml; have hp_h := lH hp; have hr_h := lH hr; have bW_h := lH bW; have k0_h := lH k0; have hop_h := lH hop; have hol_h := lH hol; have hoc_h := lH hoc; have hct0_h := lH hct0; clear hMo hm hW0 hgn hml hp hr bW k0 hop hol hoc hct0
 go_enter Tryz.func40, Tryz.ntmps40
 go_upto_region 1 with (fail)
 rw [← hWe]
 clear hWe
 go_wp2_with (fail)
 refine (hop_h.out).mono ?_
 rintro e w1 ⟨N, E, A1, c1', rfl, hC1⟩
 have k1 := t_box_below k0_h.out hC1.bel
 have hB1 := below_trans bW_h.out hC1.bel bW_h.out.size
 have hwW : w.heap.size < W.heap.size := t_box_lt k0_h.out
 have hEn : w.heap.size < N.block ∧ w.heap.size < E.block := ⟨Nat.lt_of_lt_of_le hwW hC1.nf, Nat.lt_of_lt_of_le hwW hC1.ef⟩
 have hlp := cnLoops_any w1 n m (hW0_h.out.below hB1) hMo_h.out hm_h.out
 clear c0 c1 c2 c3 f0 f1 f2 f3
 obtain ⟨⟨c0, c1, c2, c3⟩, f0, f1, f2, f3⟩ := t_box4 k1
 clear hop_h k0_h bW_h; have k1_h := lH k1; have hB1_h := lH hB1; have hEn_h := lH hEn; have hlp_h := lH hlp; have hC1_h := lH hC1; clear k1 hB1 hEn hlp hC1
 go_wp2_with (fail)
 refine (hlp_h.out).mono ?_
 rintro e w3 ⟨Ax, cx, xs, rfl, hsl, hok, hpp, hb3⟩
 obtain ⟨xl, hxl⟩ : ∃ q, xs.length = q := ⟨_, rfl⟩
 have hxp : (partsM g).length = xl := by rw [← hpp, List.length_map, hxl]
 have hxm : xl ≤ 60 := by
  rw [← hxp]
  have := (scan_ok g g.2.1.length (Nat.le_refl _)).1
  have := hm_h.out
  unfold partsM
  omega
 rw [hxl] at hsl ⊢
 have hC3 := hC1_h.out
 have hB3 := below_trans hB1_h.out hb3 hB1_h.out.size
 have hlt3 : N.block < w1.heap.size ∧ E.block < w1.heap.size := ⟨hC3.num.lt N.block (by simp), hC3.edg.lt E.block (by simp)⟩
 have hN3 : NuS w3 N E n m (cnTo g 0).1 (cnTo g 0).2.1 w3 := by
  rw [hct0_h.out]
  exact ⟨hC3.num.below hb3, hC3.edg.below hb3, by simp [numsL], by simp [numsL], hC3.ne, ⟨by have := hb3.size; omega, by have := hb3.size; omega⟩, Keeps.refl _ _⟩
 have h01 : (cnTo g 0).2.2.1 = (ol : Int) := by rw [hct0_h.out]
 have h02 : (cnTo g 0).2.2.2 = oc := by rw [hct0_h.out]
 clear hlp_h hC1_h hC3 hb3 c0 c1 c2 c3 f0 f1 f2 f3 k1_h
 have hNz := hN3
 have hsl_h := lH hsl; have hok_h := lH hok; have hpp_h := lH hpp; have hB3_h := lH hB3; have hlt3_h := lH hlt3; have hN3_h := lH hN3; have h01_h := lH h01; have h02_h := lH h02; have hxl_h := lH hxl; have hxp_h := lH hxp; have hNz_h := lH hNz; clear hsl hok hpp hB3 hlt3 hN3 h01 h02 hxl hxp hNz
 go_wp2_with (fail)
 go_loopw [27, 8, 7] (fun i a b wr => ∃ (k : Nat), k ≤ xl ∧ i = .int .i64 k ∧ a = .int .i64 (cnTo g k).2.2.1 ∧ b = .int .i64 (cnTo g k).2.2.2 ∧ NuS w3 N E n m (cnTo g k).1 (cnTo g k).2.1 wr) (fun i _ _ _ => xl - (intOf i).toNat)
 case atStart => exact ⟨0, Nat.zero_le _, rfl, by rw [h01_h.out], by rw [h02_h.out], hN3_h.out⟩
 case round =>
  clear hN3_h h01_h h02_h
  obtain ⟨k, hk, rfl, rfl, rfl, hN⟩ := hrel
  obtain ⟨wo, rfl⟩ : ∃ x, x = wr := ⟨_, rfl⟩
  have hor := ord_le hMo_h.out k
  rw [hm_h.out] at hor
  have hct := cnTo_eq hMo_h.out k (by rw [hxp_h.out]; exact hk)
  obtain ⟨⟨t1, t2, n1, n2⟩, ht⟩ : ∃ t, cnTo g k = t := ⟨_, rfl⟩
  rw [ht] at hN hct ⊢
  simp only at hN ⊢
  have hn1 : 0 ≤ n1 ∧ n1 ≤ 100 := by
   have : n1 = ((ordW g k).length : Int) := by rw [Prod.mk.injEq, Prod.mk.injEq, Prod.mk.injEq] at hct; exact hct.2.2.1
   omega
  have hn2 : 0 ≤ n2 ∧ n2 ≤ 60 := by
   have : n2 = ((ordE g k).length : Int) := by rw [Prod.mk.injEq, Prod.mk.injEq, Prod.mk.injEq] at hct; exact hct.2.2.2
   omega
  by_cases hlt : k < xl
  · obtain ⟨x, hx⟩ : ∃ x, xs[k]? = some x := ⟨_, List.getElem?_eq_getElem (by rw [hxl_h.out]; exact hlt)⟩
    have hslo := hNz_h.out.sl (by decide) hsl_h.out hN.kp
    obtain ⟨ad, rfl, d0, d1, d2, d3⟩ := lp_at hslo hx
    have hxk : ∀ W' t1' t2', NuS w3 N E n m t1' t2' W' → LpF w1.heap.size W' x := fun W' t1' t2' hN' => (hok_h.out x (List.mem_of_getElem? hx)).keeps hN'.kp (fun b e => by have := hlt3_h.out; omega)
    have hpx : (partsM g)[k]? = some x.P := by rw [← hpp_h.out, List.getElem?_map, hx]; rfl
    have hpf := part_facts hMo_h.out (List.mem_of_getElem? hpx)
    have hgd : (partsM g).getD k ([], ([], []), 0) = x.P := by rw [List.getD_eq_getElem?_getD, hpx]; rfl
    have hlen := (hok_h.out x (List.mem_of_getElem? hx)).1.len
    obtain ⟨XD, xdl, xdc, XA, xal, xac, XG, xgl, xgc, P⟩ := x
    simp only at d0 d1 d2 d3 hpf hgd hlen
    obtain ⟨u, hu⟩ : ∃ q, P.2.2 = q := ⟨_, rfl⟩
    rw [hu] at d3
    have hadd : cnTo g (k + 1) = (putN t1 n1 P.2.1.1, putN t2 n2 P.2.1.2, n1 + (xal : Int), n2 + (xgl : Int)) := by
     rw [cnTo, hgd, ht]
     unfold addN
     rw [hlen.2.1.1, hlen.2.2.1]
    obtain ⟨⟨hnd1, hnd2⟩, hr1, hr2⟩ := hpf
    rw [hm_h.out] at hr2
    have hal : xal ≤ 100 := by have := nodup_le hnd1 hr1; have := hlen.2.1.1; omega
    have hgl : xgl ≤ 60 := by have := nodup_le hnd2 hr2; have := hlen.2.2.1; omega
    obtain ⟨o1, ho1⟩ : ∃ q, P.2.1.1 = q := ⟨_, rfl⟩
    obtain ⟨o2, ho2⟩ : ∃ q, P.2.1.2 = q := ⟨_, rfl⟩
    have hx1 : ∀ W' t1' t2', NuS w3 N E n m t1' t2' W' → RdI W' XA o1 := fun W' t1' t2' hN' => by rw [← ho1]; exact (hxk W' t1' t2' hN').1.wir.rd
    have hx2 : ∀ W' t1' t2', NuS w3 N E n m t1' t2' W' → RdI W' XG o2 := fun W' t1' t2' hN' => by rw [← ho2]; exact (hxk W' t1' t2' hN').1.edg.rd
    have hl1 : o1.length = xal := by rw [← ho1]; exact hlen.2.1.1
    have hl2 : o2.length = xgl := by rw [← ho2]; exact hlen.2.2.1
    rw [ho1] at hadd hnd1 hr1
    rw [ho2] at hadd hnd2 hr2
    obtain ⟨W6, hW6, bW6, k6⟩ := (⟨_, rfl, t_below_alloc _ _, heap_alloc_new _ _⟩ : ∃ W, W = wo.alloc (.cells #[.slice XD xdl xdc, .slice XA xal xac, .slice XG xgl xgc, .int .i64 u] tLp) ∧ Below wo.heap.size wo W ∧ W.heap[wo.heap.size]? = some (.cells #[.slice XD xdl xdc, .slice XA xal xac, .slice XG xgl xgc, .int .i64 u] tLp))
    have hN6 := hN.below bW6
    have hwo : w3.heap.size ≤ wo.heap.size := hN.kp.size
    have hkI : (k : Int) < (xl : Int) := by omega
    obtain ⟨⟨c0, c1, c2, c3⟩, f0, f1, f2, f3⟩ := t_box4 k6
    clear hN hslo hxk hpx hgd hlen hu ho1 ho2 hx hor hct ht bW6; have hN6_h := lH hN6; have hx1_h := lH hx1; have hx2_h := lH hx2; have hl1_h := lH hl1; have hl2_h := lH hl2; have hadd_h := lH hadd; have hnd1_h := lH hnd1; have hnd2_h := lH hnd2; have hr1_h := lH hr1; have hr2_h := lH hr2; have k6_h := lH k6; have hwo_h := lH hwo; clear hN6 hx1 hx2 hl1 hl2 hadd hnd1 hnd2 hr1 hr2 k6 hwo
    go_upto_region 6 with (fail)
    rw [← hW6]
    clear hW6 d0 d1 d2 d3
    go_wp2_with (fail)
    clear c0 c1 c2 c3 f0 f1 f2 f3
    go_loopw [34] (fun i wr => ∃ j : Nat, j ≤ xal ∧ i = .int .i64 j ∧ NuS w3 N E n m (putN t1 n1 (o1.take j)) t2 wr ∧ wr.heap[wo.heap.size]? = some (.cells #[.slice XD xdl xdc, .slice XA xal xac, .slice XG xgl xgc, .int .i64 u] tLp)) (fun i _ => xal - (intOf i).toNat)
    case atStart => exact ⟨0, Nat.zero_le _, rfl, by rw [List.take_zero, putN_nil]; exact hN6_h.out, k6_h.out⟩
    case round =>
     clear hN6_h k6_h
     obtain ⟨j, hj, rfl, hNj, kj⟩ := hrel
     obtain ⟨wi, rfl⟩ : ∃ x, x = wr := ⟨_, rfl⟩
     by_cases hltj : j < xal
     · obtain ⟨x, hx⟩ : ∃ x, o1[j]? = some x := ⟨_, List.getElem?_eq_getElem (by rw [hl1_h.out]; exact hltj)⟩
       have hxr := hr1_h.out x (List.mem_of_getElem? hx)
       obtain ⟨xx, rfl⟩ : ∃ xx : Nat, x = (xx : Int) := ⟨x.toNat, by omega⟩
       obtain ⟨gd, rfl, pg⟩ := hx1_h.out wi _ _ hNj j _ hx
       obtain ⟨zd, z0, ze, _, _, zc, zf⟩ := hNj.i1.at_ (j := xx) (by rw [hNj.l1]; omega)
       obtain rfl := Option.some.inj ze
       have zfk := zf xx
       obtain ⟨hNn, hkn⟩ := hNj.set1 (j := xx) (n1 + (j : Int)) (by omega)
       rw [← putN_step hnd1_h.out hx] at hNn
       have kn := t_box_keeps kj hkn (fun e => by have := hNj.lt.1; have := hwo_h.out; omega)
       have hjI : (j : Int) < (xal : Int) := by omega
       have hxI : (xx : Int) < (n : Int) := by omega
       clear zf ze hNj kj hkn hx; have hNn_h := lH hNn; have kn_h := lH kn; clear hNn kn
       go_wp2_with (fail)
       go_roundw
       case rel => exact ⟨j + 1, by omega, by go_num, hNn_h.out, kn_h.out⟩
       case measure => simp [intOf]; omega
     · obtain rfl : xal = j := by omega
       rw [List.take_of_length_le (by rw [hl1_h.out]; exact Nat.le_refl _)] at hNj
       obtain ⟨⟨c0, c1, c2, c3⟩, f0, f1, f2, f3⟩ := t_box4 kj
       have hNj_h := lH hNj; have kj_h := lH kj; clear hNj kj
       go_wp2_with (fail)
       clear c0 c1 c2 c3 f0 f1 f2 f3
       go_loopw [49] (fun i wr => ∃ j : Nat, j ≤ xgl ∧ i = .int .i64 j ∧ NuS w3 N E n m (putN t1 n1 o1) (putN t2 n2 (o2.take j)) wr ∧ wr.heap[wo.heap.size]? = some (.cells #[.slice XD xdl xdc, .slice XA xal xac, .slice XG xgl xgc, .int .i64 u] tLp)) (fun i _ => xgl - (intOf i).toNat)
       case atStart => exact ⟨0, Nat.zero_le _, rfl, by rw [List.take_zero, putN_nil]; exact hNj_h.out, kj_h.out⟩
       case round =>
        clear hNj_h kj_h
        obtain ⟨j, hj', rfl, hNj, kj⟩ := hrel
        obtain ⟨wu, rfl⟩ : ∃ x, x = wr := ⟨_, rfl⟩
        by_cases hltj' : j < xgl
        · obtain ⟨x, hx⟩ : ∃ x, o2[j]? = some x := ⟨_, List.getElem?_eq_getElem (by rw [hl2_h.out]; exact hltj')⟩
          have hxr := hr2_h.out x (List.mem_of_getElem? hx)
          obtain ⟨xx, rfl⟩ : ∃ xx : Nat, x = (xx : Int) := ⟨x.toNat, by omega⟩
          obtain ⟨gd, rfl, pg⟩ := hx2_h.out wu _ _ hNj j _ hx
          obtain ⟨zd, z0, ze, _, _, zc, zf⟩ := hNj.i2.at_ (j := xx) (by rw [hNj.l2]; omega)
          obtain rfl := Option.some.inj ze
          have zfk := zf xx
          obtain ⟨hNn, hkn⟩ := hNj.set2 (j := xx) (n2 + (j : Int)) (by omega)
          rw [← putN_step hnd2_h.out hx] at hNn
          have kn := t_box_keeps kj hkn (fun e => by have := hNj.lt.2; have := hwo_h.out; omega)
          have hjI : (j : Int) < (xgl : Int) := by omega
          have hxI : (xx : Int) < (m : Int) := by omega
          clear zf ze hNj kj hkn hx; have hNn_h := lH hNn; have kn_h := lH kn; clear hNn kn
          go_wp2_with (fail)
          go_roundw
          case rel => exact ⟨j + 1, by omega, by go_num, hNn_h.out, kn_h.out⟩
          case measure => simp [intOf]; omega
        · obtain rfl : xgl = j := by omega
          rw [List.take_of_length_le (by rw [hl2_h.out]; exact Nat.le_refl _)] at hNj
          obtain ⟨⟨c0, c1, c2, c3⟩, f0, f1, f2, f3⟩ := t_box4 kj
          clear kj; have hNj_h := lH hNj; clear hNj
          go_wp2_with (fail)
          go_roundw
          case rel => exact ⟨k + 1, by omega, by go_num, by rw [hadd_h.out], by rw [hadd_h.out], by rw [hadd_h.out]; exact hNj_h.out⟩
          case measure => simp [intOf]; omega
  · obtain rfl : xl = k := by omega
    have hc1 : (cnM g).1 = t1 := by unfold cnM; rw [hxp_h.out, ht]
    have hc2 : (cnM g).2 = t2 := by unfold cnM; rw [hxp_h.out, ht]
    have hBe := below_keeps hB3_h.out hN.kp hB3_h.out.size (fun b hb => by have := hEn_h.out; omega)
    clear hct ht; have hN_h := lH hN; clear hN
    go_wp2_with (fail)
    go_ret2
    have hz := hEn_h.out
    exact ⟨N, E, rfl, by rw [hc1]; exact hN_h.out.i1, by rw [hc2]; exact hN_h.out.i2, hN_h.out.ne, by omega, by omega, hBe⟩
set_option maxRecDepth 100000 in
set_option maxHeartbeats 4000000 in
theorem sIsMonogamous_any {v : Value} {g : Gr} (w : World) (h : RdGr w v g) (ok : OkG g) :
  Calls Tryz.prog 25 #[v] w fun e w' => e = .returned (.bool (monoB g)) ∧ Below w.heap.size w w' := by
 obtain ⟨D, hD⟩ : ∃ D, D = monoB g := ⟨_, rfl⟩
 have hDD := hD
 unfold monoB at hDD
 rw [← hD]
 obtain ⟨A, n0, c, B, m0, d, C, k0', e0, rfl⟩ := h.shape
 obtain ⟨z, hz⟩ : ∃ z, z = g.1 := ⟨_, rfl⟩
 rw [← hz] at h ⊢
 obtain ⟨W, hW, bW, k0⟩ := (⟨_, rfl, t_below_alloc _ _, heap_alloc_new _ _⟩ : ∃ W, W = w.alloc (.cells #[.int .i64 z, .slice A n0 c, .slice B m0 d, .slice C k0' e0] tGr) ∧ Below w.heap.size w W ∧ W.heap[w.heap.size]? = some (.cells #[.int .i64 z, .slice A n0 c, .slice B m0 d, .slice C k0' e0] tGr))
 have hG := hgValid_any W (h.below bW) ok
 obtain ⟨T, hT⟩ : ∃ T, T = grB g := ⟨_, rfl⟩
 rw [← hT] at hG hDD
 obtain ⟨M, hM⟩ : ∃ M, M = (prmN g.1 (orgW g) && prmN g.1 (dstW g)) := ⟨_, rfl⟩
 rw [← hM] at hDD
 have hF : T = true → ∀ (W' : World), Below W.heap.size W W' → Calls Tryz.prog 53 #[.agg #[.int .i64 z, .slice A n0 c, .slice B m0 d, .slice C k0' e0]] W' fun e w' => e = .returned (.bool M) ∧ Below W'.heap.size W' w' := fun hh W' hb => by
  obtain ⟨n, e1, hn, _, _, _, hin⟩ := grB_parts (hT.symm.trans hh)
  have := hgMono_any W' n ((h.below bW).below hb) ok e1 (by omega) hin
  rw [← hM] at this
  exact this
 obtain ⟨⟨c0, c1, c2, c3⟩, f0, f1, f2, f3⟩ := t_box4 k0
 clear h hz hT hM ok hD; have bW_h := lH bW; have k0_h := lH k0; have hG_h := lH hG; have hF_h := lH hF; have hDD_h := lH hDD; clear bW k0 hG hF hDD
 go_enter Tryz.func25, Tryz.ntmps25
 go_upto_region 1 with (fail)
 rw [← hW]
 clear hW
 go_wp2_with (fail)
 refine (hG_h.out).mono ?_
 rintro e w1 ⟨rfl, hb1⟩
 have k1 := t_box_below k0_h.out hb1
 have hB := below_trans bW_h.out hb1 bW_h.out.size
 clear c0 c1 c2 c3 f0 f1 f2 f3
 obtain ⟨⟨c0, c1, c2, c3⟩, f0, f1, f2, f3⟩ := t_box4 k1
 cases T
 case false =>
  obtain rfl : D = false := hDD_h.out
  have hB_h := lH hB; clear hB
  go_wp2_with (fail)
  go_ret
  exact ⟨rfl, hB_h.out⟩
 case true =>
  obtain rfl : D = M := hDD_h.out.trans (Bool.true_and _)
  have hB_h := lH hB; have hb1_h := lH hb1; clear hB hb1
  go_wp2_with (fail)
  refine ((hF_h.out trivial _ hb1_h.out)).mono ?_
  rintro e w2 ⟨rfl, hb2⟩
  have hB2 := below_trans hB_h.out hb2 hB_h.out.size
  clear hb2; have hB2_h := lH hB2; clear hB2
  go_wp2_with (fail)
  go_ret
  exact ⟨rfl, hB2_h.out⟩
set_option maxRecDepth 100000 in
set_option maxHeartbeats 4000000 in
theorem mtTwo_any {v v' : Value} {g g' : Gr} (w : World) (h : RdGr w v g) (h' : RdGr w v' g') (ok : OkG g) (ok' : OkG g') :
  Calls Tryz.prog 37 #[v, v'] w fun e w' => e = .returned (.bool (monoB g && monoB g')) ∧ Below w.heap.size w w' := by
 obtain ⟨T1, hT1⟩ : ∃ D, D = monoB g := ⟨_, rfl⟩
 obtain ⟨T2, hT2⟩ : ∃ D, D = monoB g' := ⟨_, rfl⟩
 rw [← hT1, ← hT2]
 obtain ⟨A, n0, c, B, m0, d, C, k0', e0, rfl⟩ := h.shape
 obtain ⟨A', n0', c', B', m0', d', C', k0'', e0', rfl⟩ := h'.shape
 obtain ⟨z, hz⟩ : ∃ z, z = g.1 := ⟨_, rfl⟩
 obtain ⟨z', hz'⟩ : ∃ z, z = g'.1 := ⟨_, rfl⟩
 rw [← hz] at h ⊢
 rw [← hz'] at h' ⊢
 obtain ⟨W, hW, bW, k0, k1⟩ := allocs2 w (.cells #[.int .i64 z, .slice A n0 c, .slice B m0 d, .slice C k0' e0] tGr) (.cells #[.int .i64 z', .slice A' n0' c', .slice B' m0' d', .slice C' k0'' e0'] tGr)
 have hG := sIsMonogamous_any W (h.below bW) ok
 have hG' := fun (W' : World) (hb : Below W.heap.size W W') => sIsMonogamous_any W' ((h'.below bW).below hb) ok'
 rw [← hT1] at hG
 simp only [← hT2] at hG'
 obtain ⟨⟨c0, c1, c2, c3⟩, f0, f1, f2, f3⟩ := t_box4 k0
 clear h h' hz hz' hT1 hT2 ok ok'; have bW_h := lH bW; have k0_h := lH k0; have k1_h := lH k1; have hG_h := lH hG; have hG'_h := lH hG'; clear bW k0 k1 hG hG'
 go_enter Tryz.func37, Tryz.ntmps37
 go_upto_region 1 with (fail)
 rw [← hW]
 clear hW
 go_wp2_with (fail)
 refine (hG_h.out).mono ?_
 rintro e w1 ⟨rfl, hb1⟩
 have k2 := t_box_below k1_h.out hb1
 have hB := below_trans bW_h.out hb1 bW_h.out.size
 clear c0 c1 c2 c3 f0 f1 f2 f3
 obtain ⟨⟨c0, c1, c2, c3⟩, f0, f1, f2, f3⟩ := t_box4 k2
 cases T1
 case false =>
  have hB_h := lH hB; clear hB
  go_wp2_with (fail)
  go_ret
  exact ⟨rfl, hB_h.out⟩
 case true =>
  have hB_h := lH hB; have hb1_h := lH hb1; clear hB hb1
  go_wp2_with (fail)
  refine ((hG'_h.out _ hb1_h.out)).mono ?_
  rintro e w2 ⟨rfl, hb2⟩
  have hB2 := below_trans hB_h.out hb2 hB_h.out.size
  clear hb2; have hB2_h := lH hB2; clear hB2
  go_wp2_with (fail)
  go_ret
  exact ⟨by cases T2 <;> rfl, hB2_h.out⟩
end Go.Proofs.YtjompikdkhhlgaaGreat
