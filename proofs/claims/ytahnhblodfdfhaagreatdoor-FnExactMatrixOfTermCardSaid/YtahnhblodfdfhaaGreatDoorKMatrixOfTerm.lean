/-
  The program's MatrixOfTerm returns what the reference's returns, for all arguments (laws.FnExactMatrixOfTerm answers true): the tied card.
-/
import Derived.Test.YtahnhblodfdfhaaGreatDoorKMatrixOfTerm6
import Derived.Laws.IdiomStrings
import Derived.Test.YtahnhblodfdfhaaGreatDoorCards
import Derived.Test.YtahnhblodfdfhaaGreatDoorTie
import Derived.ProofKit
import Derived.OpenShut
import Derived.Deep.DeepHandedRow
import Derived.Lib.LaidTab
namespace Go.Proofs.YtahnhblodfdfhaaGreatDoor
open Go.RowKit
set_option maxRecDepth 8000 in
set_option maxHeartbeats 1000000 in
theorem eqNodeS_any (A B : Option Addr) (c d : Nat) (l l' : List Nd) (w : World) (ha : RdN w A l) (hb : RdN w B l') (hl : l.length ≤ 1048576) :
  Calls Tryz.prog 54 #[.slice A l.length c, .slice B l'.length d] w fun e w' => ∃ b, e = .returned (.bool b) ∧ (b = true ↔ l = l') ∧ Below w.heap.size w w' := by
 obtain ⟨m, hm⟩ : ∃ m, m = l.length := ⟨_, rfl⟩
 obtain ⟨n, hn⟩ : ∃ n, n = l'.length := ⟨_, rfl⟩
 rw [← hm] at hl ⊢
 rw [← hn]
 by_cases hmn : m = n
 · subst hmn
   have hm_h := lH hm; have hn_h := lH hn; clear hm hn
   go_enter Tryz.func54, Tryz.ntmps54
   go_wp2_with (fail)
   go_loopw [5] (fun i wr => ∃ k : Nat, k ≤ m ∧ i = .int .i64 k ∧ l.take k = l'.take k ∧ Below w.heap.size w wr) (fun i _ => m - (intOf i).toNat)
   case atStart => exact ⟨0, Nat.zero_le _, rfl, rfl, Below.refl _ _⟩
   case round =>
    obtain ⟨k, hk, rfl, htk, hbl⟩ := hrel
    by_cases hlt : k < m
    · have hkI : (k : Int) < (m : Int) := by omega
      obtain ⟨ad, κ, v, s, rfl, hn1, -⟩ := (ha.below hbl).at_ (j := k) (by rw [← hm_h.out]; exact hlt)
      obtain ⟨bd, κ', v', s', rfl, hn2, -⟩ := (hb.below hbl).at_ (j := k) (by rw [← hn_h.out]; exact hlt)
      have hk0 : (0 : Int) ≤ (k : Int) := by omega
      have hAB : ∀ W', Below wr.heap.size wr W' → (W'.cell? (ad.add (k * 3)) = some (.int .i64 κ) ∧ W'.cell? ⟨(ad.add (k * 3)).block, (ad.add (k * 3)).off + 1, none⟩ = some (.int .i64 v) ∧ W'.cell? ⟨(ad.add (k * 3)).block, (ad.add (k * 3)).off + 2, none⟩ = some (.string s)) ∧ (W'.cell? (bd.add (k * 3)) = some (.int .i64 κ') ∧ W'.cell? ⟨(bd.add (k * 3)).block, (bd.add (k * 3)).off + 1, none⟩ = some (.int .i64 v') ∧ W'.cell? ⟨(bd.add (k * 3)).block, (bd.add (k * 3)).off + 2, none⟩ = some (.string s')) := by
       intro W' hW'
       obtain ⟨x1, _, _, _, e1, e2, q⟩ := ((ha.below hbl).below hW').at_ (j := k) (by rw [← hm_h.out]; exact hlt)
       obtain ⟨y1, _, _, _, f1, f2, r⟩ := ((hb.below hbl).below hW').at_ (j := k) (by rw [← hn_h.out]; exact hlt)
       rw [hn1] at e2
       rw [hn2] at f2
       cases e1; cases e2; cases f1; cases f2
       exact ⟨q, r⟩
      have htk_h := lH htk; have hn1_h := lH hn1; have hn2_h := lH hn2; have hAB_h := lH hAB; clear htk hn1 hn2 hAB; clear ha hb
      go_wp2_with (fail)
      refine beginB (by kernel_rfl) (fun W1 hW1 => ?_)
      have hbw : Below wr.heap.size wr W1 := by rw [hW1]; exact below_drew (Below.refl _ _)
      clear hW1
      refine tkH 0 ?_ rfl (Below.refl _ _) (fun W' hW' => ?_) ?_; rotate_left; · (obtain ⟨⟨a0, a1, a2⟩, b0, b1, b2⟩ := hAB_h.out W' (hbw.trans (hW'.mono hbw.size)); clear hW'; go_simp; first | done | with_reducible rfl)
      simp only [Act.put, nS]
      refine tkH 1 ?_ rfl (Below.refl _ _) (fun W' hW' => ?_) ?_; rotate_left; · (obtain ⟨⟨a0, a1, a2⟩, b0, b1, b2⟩ := hAB_h.out W' (hbw.trans (hW'.mono hbw.size)); clear hW'; go_simp; first | done | with_reducible rfl)
      simp only [Act.put, nS]
      refine tkH 2 ?_ rfl (Below.refl _ _) (fun W' hW' => ?_) ?_; rotate_left; · (obtain ⟨⟨a0, a1, a2⟩, b0, b1, b2⟩ := hAB_h.out W' (hbw.trans (hW'.mono hbw.size)); clear hW'; go_simp; first | done | with_reducible rfl)
      simp only [Act.put, nS]
      refine tkH 3 ?_ rfl (Below.refl _ _) (fun W' hW' => ?_) ?_; rotate_left; · (obtain ⟨⟨a0, a1, a2⟩, b0, b1, b2⟩ := hAB_h.out W' (hbw.trans (hW'.mono hbw.size)); clear hW'; go_simp; first | done | with_reducible rfl)
      simp only [Act.put, nS]
      refine tkH 4 ?_ rfl (Below.refl _ _) (fun W' hW' => ?_) ?_; rotate_left; · (obtain ⟨⟨a0, a1, a2⟩, b0, b1, b2⟩ := hAB_h.out W' (hbw.trans (hW'.mono hbw.size)); clear hW'; go_simp; first | done | with_reducible rfl)
      simp only [Act.put, nS]
      refine tkH 5 ?_ rfl (Below.refl _ _) (fun W' hW' => ?_) ?_; rotate_left; · (obtain ⟨⟨a0, a1, a2⟩, b0, b1, b2⟩ := hAB_h.out W' (hbw.trans (hW'.mono hbw.size)); clear hW'; go_simp; first | done | with_reducible rfl)
      simp only [Act.put, nS]
      refine tkH 6 ?_ rfl (Below.refl _ _) (fun W' hW' => ?_) ?_; rotate_left; · (obtain ⟨⟨a0, a1, a2⟩, b0, b1, b2⟩ := hAB_h.out W' (hbw.trans (hW'.mono hbw.size)); clear hW'; go_simp; first | done | with_reducible rfl)
      simp only [Act.put, nS]
      refine tkH 7 ?_ rfl (Below.refl _ _) (fun W' hW' => ?_) ?_; rotate_left; · (obtain ⟨⟨a0, a1, a2⟩, b0, b1, b2⟩ := hAB_h.out W' (hbw.trans (hW'.mono hbw.size)); clear hW'; go_simp; first | done | with_reducible rfl)
      simp only [Act.put, nS]
      refine' callH 8 (f := _) (args := _) rfl (by kernel_rfl) (by rfl) ?_ ?_; rotate_left 2; · (go_simp; first | done | with_reducible rfl | (constructor <;> with_reducible rfl))
      refine (eqNode_any _ _ _ _ _ _ _).mono ?_
      rintro e w2 ⟨b, rfl, hbq, hb2⟩
      refine ⟨_, rfl, hb2, ?_⟩
      have hb3 := below_trans (below_trans hbl hbw hbl.size) hb2 (Nat.le_trans hbl.size hbw.size)
      have hbq_h := lH hbq; have hb3_h := lH hb3; clear hbq hb3
      simp only [Act.put, nS]
      refine tkH 9 ?_ rfl hb2 (fun W' hW' => ?_) ?_; rotate_left; · (skip; clear hW'; go_simp; first | done | with_reducible rfl)
      simp only [Act.put, nS]
      refine doneH (by kernel_rfl) ?_
      cases b
      · go_wp2_with (fail)
        go_ret
        refine ⟨false, rfl, ?_, hb3_h.out⟩
        refine ⟨fun h => (by cases h), fun h => ?_⟩
        have h1 := hn1_h.out
        rw [h, hn2_h.out] at h1
        exact hbq_h.out.2 (Option.some.inj h1).symm
      · go_wp2_with (fail)
        go_roundw
        case rel => exact ⟨k + 1, by omega, by go_num, by rw [List.take_add_one, List.take_add_one, htk_h.out, hn1_h.out, hn2_h.out, hbq_h.out.1 rfl], hb3_h.out⟩
        case measure => simp [intOf]; omega
    · obtain rfl : k = m := by omega
      have htk_h := lH htk; clear htk; clear ha hb
      go_wp2_with (fail)
      go_ret
      refine ⟨true, rfl, ⟨fun _ => ?_, fun _ => rfl⟩, hbl⟩
      have := htk_h.out
      rwa [List.take_of_length_le (by rw [← hm_h.out]; omega), List.take_of_length_le (by rw [← hn_h.out]; omega)] at this
 · have h0 : ((m : Int) != (n : Int)) = true := by simp; omega
   have hm_h := lH hm; have hn_h := lH hn; have hmn_h := lH hmn; clear hm hn hmn
   go_enter Tryz.func54, Tryz.ntmps54
   go_wp2_with (fail)
   go_ret
   refine ⟨false, rfl, ⟨fun h => (by cases h), fun h => ?_⟩, Below.refl _ _⟩
   exact absurd (by rw [hm_h.out, hn_h.out, h]) hmn_h.out
theorem szTerm_any {v : Value} {l : List Nd} (left : Int) {w : World} (h : RdTm w v l) (hB : BigTm l) (h0 : 0 ≤ left) (h1 : left ≤ 1048576) :
  Calls Tryz.prog 22 #[v, .int .i64 left] w fun e w' => e = .returned (.int .i64 (szNS l left)) ∧ Below w.heap.size w w' := by
 obtain ⟨A, c, rfl, h⟩ := h
 have hb := t_below_alloc w (.cells #[.slice A l.length c] 49)
 have hC := szNodeS_any A c l left _ (h.below hb) hB h0 h1
 obtain ⟨S, hS⟩ : ∃ S, S = szNS l left := ⟨_, rfl⟩
 obtain ⟨m, hm⟩ : ∃ m, m = l.length := ⟨_, rfl⟩
 rw [← hS] at hC ⊢
 rw [← hm] at hC hb ⊢
 by_cases hneg : S < 0
 · have hS1 : S = -1 := by rw [hS]; exact szNS_neg (by rw [← hS]; exact hneg)
   subst hS1
   have hC_h := lH hC; have hS_h := lH hS; have hm_h := lH hm; have hb_h := lH hb; clear hC hS hm hb; clear h
   go_enter Tryz.func22, Tryz.ntmps22
   go_wp2_with (fail)
   refine (hC_h.out).mono ?_
   rintro e w1 ⟨rfl, hb1⟩
   go_wp2_with (fail)
   go_ret
   exact ⟨rfl, below_trans hb_h.out hb1 hb_h.out.size⟩
 · have hC_h := lH hC
   have hS_h := lH hS; have hm_h := lH hm; have hb_h := lH hb; clear hC hS hm hb; clear h
   go_enter Tryz.func22, Tryz.ntmps22
   go_wp2_with (fail)
   refine (hC_h.out).mono ?_
   rintro e w1 ⟨rfl, hb1⟩
   go_wp2_with (fail)
   go_ret
   exact ⟨rfl, below_trans hb_h.out hb1 hb_h.out.size⟩
theorem eqTerm_any {v v' : Value} {l l' : List Nd} {w : World} (h : RdTm w v l) (h' : RdTm w v' l') (hl : l.length ≤ 1048576) :
  Calls Tryz.prog 26 #[v, v'] w fun e w' => ∃ b, e = .returned (.bool b) ∧ (b = true ↔ l = l') ∧ Below w.heap.size w w' := by
 obtain ⟨A, c, rfl, h⟩ := h
 obtain ⟨B, d, rfl, h'⟩ := h'
 obtain ⟨b0, -, -, -⟩ := two_boxes w (.cells #[.slice A l.length c] 54) (.cells #[.slice B l'.length d] 54)
 have hC := eqNodeS_any A B c d l l' _ (h.below b0) (h'.below b0) hl
 obtain ⟨m, hm⟩ : ∃ m, m = l.length := ⟨_, rfl⟩
 obtain ⟨n, hn⟩ : ∃ n, n = l'.length := ⟨_, rfl⟩
 rw [← hm, ← hn] at hC b0 ⊢
 have hC_h := lH hC; have hm_h := lH hm; have hn_h := lH hn; have b0_h := lH b0; clear hC hm hn b0; clear h h'
 go_enter Tryz.func26, Tryz.ntmps26
 go_wp2_with (fail)
 refine (hC_h.out).mono ?_
 rintro e w1 ⟨b, rfl, hb, hb1⟩
 have hb_h := lH hb; clear hb
 cases b
 · go_wp2_with (fail)
   go_ret
   exact ⟨false, rfl, by simpa using hb_h.out, below_trans b0_h.out hb1 b0_h.out.size⟩
 · go_wp2_with (fail)
   go_ret
   exact ⟨true, rfl, by simpa using hb_h.out, below_trans b0_h.out hb1 b0_h.out.size⟩
theorem bx1 {w : World} {B : Nat} {x : Value} {t : TypeId} (h : w.heap[B]? = some (.cells #[x] t)) : w.cell? ⟨B, 0, none⟩ = some x ∧ w.frozen? ⟨B, 0, none⟩ = false := by simp [World.cell?, World.frozen?, h]
set_option maxHeartbeats 1000000 in
theorem toTerm_any {v : Value} {l : List Nd} {w : World} (h : RdTm w v l) (hl : l.length ≤ 1048576) :
  Calls Tryz.prog 24 #[v] w fun e w' => ∃ v' fp, e = .returned v' ∧ OwTm w' v' l fp ∧ FreshL w.heap.size fp ∧ Below w.heap.size w w' := by
 obtain ⟨A, c, rfl, h⟩ := h
 obtain ⟨W, hW⟩ : ∃ W, W = ((w.alloc (.cells #[.slice A l.length c] 49)).alloc (.cells #[.slice none 0 0] 54)).alloc (.cells #[.slice none 0 0] 54) := ⟨_, rfl⟩
 have hbW : Below w.heap.size w W := by rw [hW]; exact (((Below.refl _ _).alloc (Nat.le_refl _) _).alloc (by simp) _).alloc (by simp; omega) _
 have k2 : W.heap[w.heap.size + 1 + 1]? = some (.cells #[.slice none 0 0] 54) := by
  have := heap_alloc_new ((w.alloc (.cells #[.slice A l.length c] 49)).alloc (.cells #[.slice none 0 0] 54)) (.cells #[.slice none 0 0] 54)
  rw [World.size_alloc, World.size_alloc, ← hW] at this; exact this
 have k1 : W.heap[w.heap.size + 1]? = some (.cells #[.slice none 0 0] 54) := by
  have := heap_alloc_new (w.alloc (.cells #[.slice A l.length c] 49)) (.cells #[.slice none 0 0] 54)
  rw [World.size_alloc] at this
  rw [hW]; exact t_box_below this (t_below_alloc _ _)
 have hC := toNodeS_any A c l W (h.below hbW) hl
 obtain ⟨m, hm⟩ : ∃ m, m = l.length := ⟨_, rfl⟩
 rw [← hm] at hC hW ⊢
 have hC_h := lH hC; have hm_h := lH hm; have hbW_h := lH hbW; have k1_h := lH k1; have k2_h := lH k2; clear hC hm hbW k1 k2; clear h
 go_enter Tryz.func24, Tryz.ntmps24
 go_wp2_with (fail)
 rw [← hW]
 clear hW
 refine (hC_h.out).mono ?_
 rintro e w1 ⟨A1, c1, rfl, hN, hf, hb1⟩
 rw [← hm_h.out]
 have k1' := t_box_below k1_h.out hb1
 have k2' := t_box_below k2_h.out hb1
 have hBW := t_box_lt k2_h.out
 obtain ⟨c10, f10⟩ := bx1 k1'
 obtain ⟨c20, f20⟩ := bx1 k2'
 have hBb := below_trans hbW_h.out hb1 hbW_h.out.size
 have hkp : Keeps (fun k => k = w.heap.size + 1 ∨ k = w.heap.size + 1 + 1) w1 ((w1.setCell ⟨w.heap.size + 1 + 1, 0, none⟩ (.slice A1 m c1)).setCell ⟨w.heap.size + 1, 0, none⟩ (.slice A1 m c1)) :=
  ((Keeps.refl _ w1).setCell (p := ⟨w.heap.size + 1 + 1, 0, none⟩) (.inr rfl) _).setCell (p := ⟨w.heap.size + 1, 0, none⟩) (.inl rfl) _
 have hx : ((w1.setCell ⟨w.heap.size + 1 + 1, 0, none⟩ (.slice A1 m c1)).setCell ⟨w.heap.size + 1, 0, none⟩ (.slice A1 m c1)).heap[w.heap.size + 1]? = some (.cells #[.slice A1 m c1] 54) := by simp [World.setCell, Array.getElem?_modify, k1']
 have hN2 := hN.keeps hkp (fun b hb e => by have := hf b hb; omega)
 have hB3 := below_keeps hBb hkp (by have := hBb.size; omega) (fun k hk => by omega)
 have hf2 : FreshL w.heap.size (fpA A1) := fun b hb => by have := hf b hb; have := hbW_h.out.size; omega
 have hN_h := lH hN; have hf_h := lH hf; have k1'_h := lH k1'; have k2'_h := lH k2'; have hBb_h := lH hBb; have hkp_h := lH hkp; have hx_h := lH hx; have hN2_h := lH hN2; have hB3_h := lH hB3; have hf2_h := lH hf2; clear hN hf k1' k2' hBb hkp hx hN2 hB3 hf2; clear hb1
 go_wp2_with (fail)
 refine bodyPost_ret (results_cell_row rfl _ _ (w.heap.size + 1) _ _ (0, 0) _ rfl hx_h.out Tryz.underlying54 rfl (by kernel_rfl)) rfl ?_
 exact ⟨_, fpA A1, rfl, ⟨A1, c1, by rw [hm_h.out], hN2_h.out, rfl⟩, hf2_h.out, hB3_h.out⟩
def overB (p : Int) (n : Nd) : Bool := !(hvB n.1 && decide (p ≤ n.2.1))
def goodM (p : Int) (l : List Nd) : Bool := fieldB p && ((treeM l).isSome && l.all (overB p))
theorem goodM_nf {p : Int} {l : List Nd} (h : fieldB p = false) : goodM p l = false := by simp [goodM, h]
theorem goodM_nt {p : Int} {l : List Nd} (h : treeM l = none) : goodM p l = false := by simp [goodM, h]
theorem goodM_all {p : Int} {l : List Nd} {t : Tr} (h : fieldB p = true) (h' : treeM l = some t) : goodM p l = l.all (overB p) := by simp [goodM, h, h']
theorem all_no {p : Int} {l : List Nd} {k : Nat} {n : Nd} (h : l[k]? = some n) (hn : overB p n = false) : l.all (overB p) = false := by
 rw [List.all_eq_false]
 exact ⟨n, List.mem_of_getElem? h, by simp [hn]⟩
theorem all_yes {p : Int} {l : List Nd} (h : ∀ j n, l[j]? = some n → j < l.length → overB p n = true) : l.all (overB p) = true := by
 rw [List.all_eq_true]
 intro n hn
 obtain ⟨j, hj⟩ := List.mem_iff_getElem?.1 hn
 exact h j n hj (List.getElem?_eq_some_iff.1 hj).1
set_option maxRecDepth 8000 in
set_option maxHeartbeats 2000000 in
theorem isOver_any (p : Int) {v : Value} {l : List Nd} {w : World} (h : RdTm w v l) (hT : Tab w) :
  Calls Tryz.prog 92 #[v, .int .i64 p] w fun e w' => e = .returned (.bool (goodM p l)) ∧ Below w.heap.size w w' := by
 obtain ⟨A, c, rfl, h⟩ := h
 obtain ⟨m, hm⟩ : ∃ m, m = l.length := ⟨_, rfl⟩
 obtain ⟨W, hW⟩ : ∃ W, W = w.alloc (.cells #[.slice A m c] tTerm) := ⟨_, rfl⟩
 have b0 := t_below_alloc w (.cells #[.slice A m c] tTerm)
 have k0 := heap_alloc_new w (.cells #[.slice A m c] tTerm)
 rw [← hW] at b0 k0
 have hr := h.below b0
 have hI := isField_any p W (hT.below b0 hT.lt)
 have hC := isValid_any (v := .agg #[.slice A m c]) (l := l) (w := W) ⟨A, c, by rw [hm], hr⟩
 rw [← hm]
 obtain ⟨F, hF⟩ : ∃ F, F = fieldB p := ⟨_, rfl⟩
 obtain ⟨G, hG⟩ : ∃ G, G = goodM p l := ⟨_, rfl⟩
 rw [← hF] at hI
 rw [← hG]
 clear h; have b0_h := lH b0; have k0_h := lH k0; have hr_h := lH hr; have hI_h := lH hI; have hC_h := lH hC; have hF_h := lH hF; have hG_h := lH hG; have hm_h := lH hm; have hT_h := lH hT; clear b0 k0 hr hI hC hF hG hm hT
 obtain ⟨k0_c, k0_f⟩ := bx1 k0_h.out
 cases F
 case false =>
  obtain rfl : G = false := by rw [hG_h.out]; exact goodM_nf hF_h.out.symm
  go_enter Tryz.func92, Tryz.ntmps92
  go_wp2_with (fail)
  rw [← hW]
  clear hW
  refine (hI_h.out).mono ?_
  rintro e w' ⟨rfl, rfl⟩
  go_wp2_with (fail)
  go_ret
  exact ⟨rfl, b0_h.out⟩
 case true =>
 go_enter Tryz.func92, Tryz.ntmps92
 go_wp2_with (fail)
 rw [← hW]
 clear hW
 refine (hI_h.out).mono ?_
 rintro e w' ⟨rfl, rfl⟩
 go_wp2_with (fail)
 refine (hC_h.out).mono ?_
 rintro e w1 ⟨b, rfl, hb, hb1⟩
 clear k0_c k0_f
 have hB1 := below_trans b0_h.out hb1 b0_h.out.size
 replace k0_h := lH (t_box_below k0_h.out hb1)
 have hr1 := hr_h.out.below hb1
 cases b
 · have hN : treeM l = none := by cases h : treeM l with | none => rfl | some t => rw [h] at hb; cases hb
   obtain rfl : G = false := by rw [hG_h.out]; exact goodM_nt hN
   have hb_h := lH hb; have hN_h := lH hN; have hB1_h := lH hB1; have hb1_h := lH hb1; have hr1_h := lH hr1; clear hb hN hB1 hb1 hr1
   go_wp2_with (fail)
   go_ret
   exact ⟨rfl, hB1_h.out⟩
 · obtain ⟨t, hN⟩ : ∃ t, treeM l = some t := by cases h : treeM l with | none => rw [h] at hb; cases hb | some t => exact ⟨t, rfl⟩
   have hGe : G = l.all (overB p) := by rw [hG_h.out]; exact goodM_all hF_h.out.symm hN
   have hm4 : m ≤ 400 := by rw [hm_h.out, (treeM_some hN).1]; exact (treeM_some hN).2.2
   obtain ⟨k0_c, k0_f⟩ := bx1 k0_h.out
   have hb_h := lH hb; have hN_h := lH hN; have hB1_h := lH hB1; have hb1_h := lH hb1; have hr1_h := lH hr1; have hGe_h := lH hGe; clear hb hN hB1 hb1 hr1 hGe
   go_wp2_with (fail)
   go_loopw [18] (fun iv wr => ∃ k : Nat, k ≤ m ∧ iv = .int .i64 k ∧ (∀ j n, l[j]? = some n → j < k → overB p n = true) ∧ Below w.heap.size w wr ∧ Below w1.heap.size w1 wr) (fun iv _ => m - (intOf iv).toNat)
   case atStart => exact ⟨0, Nat.zero_le _, rfl, fun _ _ _ h => absurd h (Nat.not_lt_zero _), hB1_h.out, Below.refl _ _⟩
   case round =>
    obtain ⟨k, hk, rfl, hall, hB, hb2⟩ := hrel
    clear k0_c k0_f
    by_cases hlt : k < m
    · obtain ⟨ad, κ, v, s, rfl, hn, d0, d1, d2⟩ := (hr1_h.out.below hb2).at_ (j := k) (by rw [← hm_h.out]; exact hlt)
      have hkI : (k : Int) < (m : Int) := by omega
      obtain ⟨H, hH⟩ : ∃ H, H = hvB κ := ⟨_, rfl⟩
      have hV := fun W => hasValue_any κ W
      rw [← hH] at hV
      have hba := t_below_alloc wr (.cells #[.int .i64 κ, .int .i64 v, .string s] tNd)
      have hB2 := below_trans hB hba hB.size
      have hb3 := below_trans hb2 hba hb2.size
      have hn_h := lH hn; have hH_h := lH hH; have hV_h := lH hV; have hall_h := lH hall; have hB_h := lH hB; have hb2_h := lH hb2; have hba_h := lH hba; have hB2_h := lH hB2; have hb3_h := lH hb3; clear hn hH hV hall hB hb2 hba hB2 hb3
      by_cases ho : overB p (κ, v, s) = true
      · have hall2 : ∀ j n, l[j]? = some n → j < k + 1 → overB p n = true := fun j n hj hlt' => by
         by_cases e : j = k
         · subst e
           rw [hn_h.out] at hj
           rw [← Option.some.inj hj]; exact ho
         · exact hall_h.out j n hj (by omega)
        cases H
        · have ho_h := lH ho
          have hall2_h := lH hall2; clear ho hall2
          go_wp2_with (fail)
          refine (hV_h.out _).mono ?_
          rintro e w' ⟨rfl, rfl⟩
          go_wp2_with (fail)
          go_roundw
          case rel => exact ⟨k + 1, by omega, by go_num, hall2_h.out, hB2_h.out, hb3_h.out⟩
          case measure => simp [intOf]; omega
        · have hlt2 : ¬ p ≤ v := fun h => by
           simp [overB, ← hH_h.out, h] at ho
          have hlt3 : v < p := by omega
          have ho_h := lH ho; have hall2_h := lH hall2; clear ho hall2
          go_wp2_with (fail)
          refine (hV_h.out _).mono ?_
          rintro e w' ⟨rfl, rfl⟩
          go_wp2_with (fail)
          go_roundw
          case rel => exact ⟨k + 1, by omega, by go_num, hall2_h.out, hB2_h.out, hb3_h.out⟩
          case measure => simp [intOf]; omega
      · have ho2 : overB p (κ, v, s) = false := by simpa using ho
        obtain rfl : H = true := by
         cases H
         · simp [overB, ← hH_h.out] at ho2
         · rfl
        have hge : p ≤ v := by
         simp [overB, ← hH_h.out] at ho2; exact ho2
        obtain rfl : G = false := by rw [hGe_h.out]; exact all_no hn_h.out ho2
        have ho_h := lH ho; have ho2_h := lH ho2; clear ho ho2
        go_wp2_with (fail)
        refine (hV_h.out _).mono ?_
        rintro e w' ⟨rfl, rfl⟩
        go_wp2_with (fail)
        go_ret
        exact ⟨rfl, hB2_h.out⟩
    · obtain rfl : k = m := by omega
      obtain rfl : G = true := by rw [hGe_h.out]; exact all_yes (fun j n hj hl => hall j n hj (by rw [hm_h.out]; exact hl))
      have hall_h := lH hall; have hB_h := lH hB; have hb2_h := lH hb2; clear hall hB hb2
      go_wp2_with (fail)
      go_ret
      exact ⟨rfl, hB_h.out⟩
set_option maxRecDepth 8000 in
set_option maxHeartbeats 4000000 in
theorem tmGood_any (p : Int) {v : Value} {l : List Nd} {w : World} (h : RdTm w v l) :
  Calls Tryz.prog 87 #[.int .i64 p, v] w fun e w' => e = .returned (.bool (goodM p l)) ∧ Below w.heap.size w w' := by
 obtain ⟨A, c, rfl, h⟩ := h
 obtain ⟨m, hm⟩ : ∃ m, m = l.length := ⟨_, rfl⟩
 obtain ⟨W, hW⟩ : ∃ W, W = w.alloc (.cells #[.slice A m c] tTerm) := ⟨_, rfl⟩
 have b0 := t_below_alloc w (.cells #[.slice A m c] tTerm)
 have k0 := heap_alloc_new w (.cells #[.slice A m c] tTerm)
 rw [← hW] at b0 k0
 have hr := h.below b0
 have hI := fun W => fdGood_any p W
 have hC := tmScan_any (v := .agg #[.slice A m c]) (l := l) (w := W) ⟨A, c, by rw [hm], hr⟩
 rw [← hm]
 obtain ⟨F, hF⟩ : ∃ F, F = fieldB p := ⟨_, rfl⟩
 obtain ⟨G, hG⟩ : ∃ G, G = goodM p l := ⟨_, rfl⟩
 rw [← hF] at hI
 rw [← hG]
 clear h; have b0_h := lH b0; have k0_h := lH k0; have hr_h := lH hr; have hI_h := lH hI; have hC_h := lH hC; have hF_h := lH hF; have hG_h := lH hG; have hm_h := lH hm; clear b0 k0 hr hI hC hF hG hm
 obtain ⟨k0_c, k0_f⟩ := bx1 k0_h.out
 go_enter Tryz.func87, Tryz.ntmps87
 go_wp2_with (fail)
 rw [← hW]
 clear hW
 refine (hC_h.out).mono ?_
 rintro e w1 ⟨A0, A1, A2, d0, d1, d2, n0, n1, n2, b, rfl, hb, ht, hb1⟩
 clear k0_c k0_f
 obtain ⟨W2, hW2⟩ : ∃ W2, W2 = w1.alloc (.cells #[.slice A0 n0 d0, .slice A1 n1 d1, .slice A2 n2 d2] tInfo) := ⟨_, rfl⟩
 have hb2 : Below w1.heap.size w1 W2 := by rw [hW2]; exact t_below_alloc _ _
 have hB1 := below_trans (below_trans b0_h.out hb1 b0_h.out.size) hb2 (Nat.le_trans b0_h.out.size hb1.size)
 replace k0_h := lH (t_box_below k0_h.out hb1)
 replace k0_h := lH (t_box_below k0_h.out hb2)
 have hr1 := (hr_h.out.below hb1).below hb2
 clear ht
 cases b
 · have hN : treeM l = none := by cases h : treeM l with | none => rfl | some t => rw [h] at hb; cases hb
   obtain rfl : G = false := by rw [hG_h.out]; exact goodM_nt hN
   have hb_h := lH hb; have hN_h := lH hN; have hB1_h := lH hB1; have hb1_h := lH hb1; have hb2_h := lH hb2; have hr1_h := lH hr1; clear hb hN hB1 hb1 hb2 hr1
   go_upto_region 2 with (fail)
   rw [← hW2]
   clear hW2
   go_wp2_with (fail)
   go_ret
   exact ⟨rfl, hB1_h.out⟩
 · obtain ⟨t, hN⟩ : ∃ t, treeM l = some t := by cases h : treeM l with | none => rw [h] at hb; cases hb | some t => exact ⟨t, rfl⟩
   have hm4 : m ≤ 400 := by rw [hm_h.out, (treeM_some hN).1]; exact (treeM_some hN).2.2
   cases F
   case false =>
    obtain rfl : G = false := by rw [hG_h.out]; exact goodM_nf hF_h.out.symm
    have hb_h := lH hb; have hN_h := lH hN; have hB1_h := lH hB1; have hb1_h := lH hb1; have hb2_h := lH hb2; have hr1_h := lH hr1; clear hb hN hB1 hb1 hb2 hr1
    go_upto_region 2 with (fail)
    rw [← hW2]
    clear hW2
    go_wp2_with (fail)
    refine (hI_h.out _).mono ?_
    rintro e w' ⟨rfl, rfl⟩
    go_wp2_with (fail)
    go_ret
    exact ⟨rfl, hB1_h.out⟩
   case true =>
   have hGe : G = l.all (overB p) := by rw [hG_h.out]; exact goodM_all hF_h.out.symm hN
   obtain ⟨k0_c, k0_f⟩ := bx1 k0_h.out
   have hb_h := lH hb; have hN_h := lH hN; have hB1_h := lH hB1; have hb1_h := lH hb1; have hb2_h := lH hb2; have hr1_h := lH hr1; have hGe_h := lH hGe; clear hb hN hB1 hb1 hb2 hr1 hGe
   go_upto_region 2 with (fail)
   rw [← hW2]
   clear hW2
   go_wp2_with (fail)
   refine (hI_h.out _).mono ?_
   rintro e w' ⟨rfl, rfl⟩
   go_wp2_with (fail)
   go_loopw [24] (fun iv wr => ∃ k : Nat, k ≤ m ∧ iv = .int .i64 k ∧ (∀ j n, l[j]? = some n → j < k → overB p n = true) ∧ Below w.heap.size w wr ∧ Below W2.heap.size W2 wr) (fun iv _ => m - (intOf iv).toNat)
   case atStart => exact ⟨0, Nat.zero_le _, rfl, fun _ _ _ h => absurd h (Nat.not_lt_zero _), hB1_h.out, Below.refl _ _⟩
   case round =>
    obtain ⟨k, hk, rfl, hall, hB, hb2⟩ := hrel
    clear k0_c k0_f
    by_cases hlt : k < m
    · obtain ⟨ad, κ, v, s, rfl, hn, d0, d1, d2⟩ := (hr1_h.out.below hb2).at_ (j := k) (by rw [← hm_h.out]; exact hlt)
      have hkI : (k : Int) < (m : Int) := by omega
      have hba := t_below_alloc wr (.cells #[.int .i64 κ, .int .i64 v, .string s] tNd)
      have hB2 := below_trans hB hba hB.size
      have hb3 := below_trans hb2 hba hb2.size
      have hn_h := lH hn; have hall_h := lH hall; have hB_h := lH hB; have hb2_h := lH hb2; have hba_h := lH hba; have hB2_h := lH hB2; have hb3_h := lH hb3; clear hn hall hB hb2 hba hB2 hb3
      by_cases ho : overB p (κ, v, s) = true
      · have hall2 : ∀ j n, l[j]? = some n → j < k + 1 → overB p n = true := fun j n hj hlt' => by
         by_cases e : j = k
         · subst e
           rw [hn_h.out] at hj
           rw [← Option.some.inj hj]; exact ho
         · exact hall_h.out j n hj (by omega)
        by_cases h7 : κ = 7
        · have e7 : (κ == 7) = true := by simp [h7]
          have hlt3 : v < p := by
           simp [overB, hvB, h7] at ho; omega
          have ho_h := lH ho; have hall2_h := lH hall2; have h7_h := lH h7; clear ho hall2 h7
          go_wp2_with (fail)
          go_roundw
          case rel => exact ⟨k + 1, by omega, by go_num, hall2_h.out, hB2_h.out, hb3_h.out⟩
          case measure => simp [intOf]; omega
        · have e7 : (κ == 7) = false := by simp [h7]
          by_cases h13 : κ = 13
          · have e13 : (κ == 13) = true := by simp [h13]
            have hlt3 : v < p := by
             simp [overB, hvB, h13] at ho; omega
            have ho_h := lH ho; have hall2_h := lH hall2; have h7_h := lH h7; have h13_h := lH h13; clear ho hall2 h7 h13
            go_wp2_with (fail)
            go_roundw
            case rel => exact ⟨k + 1, by omega, by go_num, hall2_h.out, hB2_h.out, hb3_h.out⟩
            case measure => simp [intOf]; omega
          · have e13 : (κ == 13) = false := by simp [h13]
            have ho_h := lH ho; have hall2_h := lH hall2; have h7_h := lH h7; have h13_h := lH h13; clear ho hall2 h7 h13
            go_wp2_with (fail)
            go_roundw
            case rel => exact ⟨k + 1, by omega, by go_num, hall2_h.out, hB2_h.out, hb3_h.out⟩
            case measure => simp [intOf]; omega
      · have ho2 : overB p (κ, v, s) = false := by simpa using ho
        have hge : p ≤ v := by
         simp [overB] at ho2; exact ho2.2
        have hv : κ = 7 ∨ κ = 13 := by
         simp [overB, hvB] at ho2; have := ho2.1; omega
        obtain rfl : G = false := by rw [hGe_h.out]; exact all_no hn_h.out ho2
        by_cases h7 : κ = 7
        · have e7 : (κ == 7) = true := by simp [h7]
          have ho_h := lH ho; have ho2_h := lH ho2; have h7_h := lH h7; have hv_h := lH hv; clear ho ho2 h7 hv
          go_wp2_with (fail)
          go_ret
          exact ⟨rfl, hB2_h.out⟩
        · have e7 : (κ == 7) = false := by simp [h7]
          have h13 : κ = 13 := by omega
          have e13 : (κ == 13) = true := by simp [h13]
          have ho_h := lH ho; have ho2_h := lH ho2; have h7_h := lH h7; have hv_h := lH hv; have h13_h := lH h13; clear ho ho2 h7 hv h13
          go_wp2_with (fail)
          go_ret
          exact ⟨rfl, hB2_h.out⟩
    · obtain rfl : k = m := by omega
      obtain rfl : G = true := by rw [hGe_h.out]; exact all_yes (fun j n hj hl => hall j n hj (by rw [hm_h.out]; exact hl))
      have hall_h := lH hall; have hB_h := lH hB; have hb2_h := lH hb2; clear hall hB hb2
      go_wp2_with (fail)
      go_ret
      exact ⟨rfl, hB_h.out⟩
structure BoxS where
 i : Nat
 d : Tmp
 obj : Obj
def putB (a : Act) (bs : List (BoxS × Nat)) : Act := bs.foldl (fun a x => a.put (some x.1.d) (.pointer (some ⟨x.2, 0, none⟩))) a
theorem putB_put (bs : List (BoxS × Nat)) (d : Tmp) (v : Value) : ∀ (a : Act), (∀ x ∈ bs, x.1.d ≠ d) → (putB a bs).put (some d) v = putB (a.put (some d) v) bs := by
 induction bs with
 | nil => intro a _; rfl
 | cons x r ih =>
   intro a h
   show (putB (a.put _ _) r).put _ _ = putB ((a.put _ _).put _ _) r
   rw [ih _ (fun y hy => h y (List.mem_cons_of_mem _ hy)), Act.put_comm a _ _ (fun e he => by obtain rfl := Option.some.inj he; intro h2; exact h x (by simp) (Option.some.inj h2).symm)]
theorem putB_perm {bs cs : List (BoxS × Nat)} (hp : bs.Perm cs) (hn : (bs.map (·.1.d)).Nodup) (a : Act) : putB a bs = putB a cs := by
 unfold putB
 refine List.Perm.foldl_eq' hp (fun x hx y hy z => ?_) a
 by_cases e : x = y
 · subst e; rfl
 · refine Act.put_comm z _ _ (fun d hd h2 => ?_)
   have hd' : x.1.d = y.1.d := by rw [Option.some.inj hd, Option.some.inj h2]
   clear hp
   induction bs with
   | nil => cases hx
   | cons b r ih =>
     simp only [List.map_cons, List.nodup_cons, List.mem_map, not_exists, not_and] at hn
     rcases List.mem_cons.1 hx with h1 | h1 <;> rcases List.mem_cons.1 hy with h3 | h3
     · exact e (h1.trans h3.symm)
     · subst h1; exact hn.1 y h3 hd'.symm
     · subst h3; exact hn.1 x h1 hd'
     · exact ih hn.2 h1 h3
theorem perm_lift : ∀ (zs : List BoxS) (bs : List (BoxS × Nat)), (bs.map (·.1)).Perm zs → ∃ cs, bs.Perm cs ∧ cs.map (·.1) = zs
 | [], bs, h => by
   have : bs = [] := by simpa using h.eq_nil
   exact ⟨[], by rw [this], rfl⟩
 | z :: zs, bs, h => by
   have hz : z ∈ bs.map (·.1) := h.symm.subset (by simp)
   obtain ⟨x, hx, rfl⟩ := List.mem_map.1 hz
   obtain ⟨s, t, rfl⟩ := List.append_of_mem hx
   have h2 : ((s ++ t).map (·.1)).Perm zs := by
    have : ((s ++ x :: t).map (·.1)).Perm (x.1 :: (s ++ t).map (·.1)) := by simp only [List.map_append, List.map_cons]; exact List.perm_middle
    exact (this.symm.trans h).cons_inv
   obtain ⟨cs, hc, he⟩ := perm_lift zs (s ++ t) h2
   exact ⟨x :: cs, List.perm_middle.trans (hc.cons x), by simp [he]⟩
theorem erase_split : ∀ (ps : List BoxS) (j : Nat), j ∈ ps.map (·.i) → ∃ s z t, ps = s ++ z :: t ∧ z.i = j ∧ (ps.map (·.i)).erase j = (s ++ t).map (·.i)
 | [], _, h => by cases h
 | p :: ps, j, h => by
   by_cases e : p.i = j
   · exact ⟨[], p, ps, rfl, e, by rw [List.map_cons, e, List.erase_cons_head]; rfl⟩
   · have h' : j ∈ ps.map (·.i) := by
      rw [List.map_cons] at h
      rcases List.mem_cons.1 h with h | h
      · exact absurd h.symm e
      · exact h
     obtain ⟨s, z, t, h1, h2, h3⟩ := erase_split ps j h'
     exact ⟨p :: s, z, t, by rw [h1]; rfl, h2, by rw [List.map_cons, List.erase_cons_tail (by simpa using e), h3]; rfl⟩
theorem boxB {w w' : World} {B : Nat} {o : Obj} (h : w.heap[B]? = some o) (hb : Below w.heap.size w w') : w'.heap[B]? = some o := (hb.block B (Array.getElem?_eq_some_iff.1 h).1).trans h
section
variable {P : Program} {l : List Oper} {Q : Exit → Act → World → Prop} {md : Region.Mode} {S : World → Prop}
def rdyB (md : Region.Mode) (ops : Array Oper) (fin : Array Bool) : Nat → Array Bool → List Nat → List Nat → Bool
 | 0, L, cs, ps => cs.isEmpty && ps.isEmpty && L.toList == fin.toList
 | n + 1, L, cs, ps =>
   !(Region.ready md ops L).isEmpty && (Region.ready md ops L).all fun j =>
     (match cs with | c :: cs' => c == j && rdyB md ops fin n (L.setIfInBounds j true) cs' ps | [] => false) || (ps.contains j && rdyB md ops fin n (L.setIfInBounds j true) cs (ps.erase j))
def callsB (P : Program) (ops : Array Oper) (zs : List BoxS) (w : World) (R : List Value → World → Prop) (K : Act → List Value → Prop) : List (Nat × Tmp) → Act → List Value → Prop
 | [], A, vs => K A vs
 | c :: cs, A, vs => ∃ o f args, ops[c.1]? = some o ∧ o.dst = some c.2 ∧ (zs.all fun z => !(o.looksAt ops).contains z.d && z.d != c.2) = true ∧ Region.wanted o (yielded ops A.tmps) = true ∧
     (∀ w', (execOp A.eval o).run P w' = .ok (.enter f args) w') ∧
     (∀ w', Below w.heap.size w w' → R vs w' → Calls P f args w' fun e w'' => ∃ v, e = .returned v ∧ Below w'.heap.size w' w'' ∧ R (vs ++ [v]) w'') ∧ ∀ v, callsB P ops zs w R K cs (A.put (some c.2) v) (vs ++ [v])
theorem wanted_putB {o : Oper} {ops : Array Oper} (bs : List (BoxS × Nat)) : ∀ (a : Act), (∀ x ∈ bs, x.1.d ∉ o.looksAt ops) → Region.wanted o (yielded ops (putB a bs).tmps) = Region.wanted o (yielded ops a.tmps) := by
 induction bs with
 | nil => intro a _; rfl
 | cons x r ih =>
   intro a h
   show Region.wanted o (yielded ops (putB (a.put _ _) r).tmps) = _
   rw [ih _ (fun y hy => h y (List.mem_cons_of_mem _ hy)), wanted_put o a _ _ (fun d hd => by obtain rfl := Option.some.inj hd; exact h x (by simp))]
theorem execOp_putB {o : Oper} {ops : Array Oper} (hs : ∀ cs b, o.op ≠ .select cs b) (bs : List (BoxS × Nat)) : ∀ (a : Act), (∀ x ∈ bs, x.1.d ∉ o.looksAt ops) → execOp (putB a bs).eval o = execOp a.eval o := by
 induction bs with
 | nil => intro a _; rfl
 | cons x r ih =>
   intro a h
   show execOp (putB (a.put _ _) r).eval o = _
   rw [ih _ (fun y hy => h y (List.mem_cons_of_mem _ hy)), execOp_put (ops := ops) o hs a _ _ (fun d hd => by obtain rfl := Option.some.inj hd; exact h x (by simp))]
theorem callsBoxes {zs : List BoxS} {w : World} {R : List Value → World → Prop} {fuel : Nat} {fin : Array Bool} (hsel : Region.noSelect l.toArray = true) (hnd : (zs.map (·.d)).Nodup)
  (hstab : ∀ vs w' w'', R vs w' → Below w'.heap.size w' w'' → R vs w'') (hS : ∀ w', Below w.heap.size w w' → S w')
  (hz : ∀ z ∈ zs, ∃ o, l.toArray[z.i]? = some o ∧ o.dst = some z.d ∧ o.guard = none ∧ ∀ (a : Act) w, (execOp a.eval o).run P w = .ok (.value (.pointer (some ⟨w.heap.size, 0, none⟩))) (w.alloc z.obj)) :
  ∀ (n : Nat) (listed : Array Bool) (cs : List (Nat × Tmp)) (ps : List BoxS) (A : Act) (vs : List Value) (bs : List (BoxS × Nat)) (w' : World),
    rdyB md l.toArray fin n listed (cs.map (·.1)) (ps.map (·.i)) = true → (bs.map (·.1) ++ ps).Perm zs → Below w.heap.size w w' → R vs w' →
    (∀ x ∈ bs, w'.heap[x.2]? = some x.1.obj ∧ w.heap.size ≤ x.2) → (bs.map (·.2)).Nodup →
    callsB P l.toArray zs w R (fun A vs => ∀ (bs : List (BoxS × Nat)) w', bs.map (·.1) = zs → Below w.heap.size w w' → R vs w' → (∀ x ∈ bs, w'.heap[x.2]? = some x.1.obj ∧ w.heap.size ≤ x.2) → (bs.map (·.2)).Nodup → wpAnyH P md l.toArray Q S fuel fin (putB A bs) w') cs A vs →
    wpAnyH P md l.toArray Q S (fuel + n) listed (putB A bs) w' := by
 intro n
 induction n with
 | zero =>
   intro listed cs ps A vs bs w' hr hp hb hR hbx hnb hc
   simp only [rdyB, Bool.and_eq_true, List.isEmpty_iff, List.map_eq_nil_iff, beq_iff_eq] at hr
   obtain ⟨⟨rfl, rfl⟩, hl⟩ := hr
   have hl' : listed = fin := by cases listed; cases fin; simp at hl; rw [hl]
   rw [List.append_nil] at hp
   obtain ⟨cs', h1, h2⟩ := perm_lift zs bs hp
   have hnd' : (bs.map (·.1.d)).Nodup := by
    have : (bs.map (·.1.d)).Perm (zs.map (·.d)) := by have h := hp.map (·.d); rw [List.map_map] at h; exact h
    exact this.symm.nodup hnd
   rw [putB_perm h1 hnd' A, hl']
   exact hc cs' w' h2 hb hR (fun x hx => hbx x (h1.symm.subset hx)) ((h1.map (·.2)).nodup hnb)
 | succ n ih =>
   intro listed cs ps A vs bs w' hr hp hb hR hbx hnb hc
   simp only [rdyB, Bool.and_eq_true, Bool.not_eq_true', List.all_eq_true, Bool.or_eq_true] at hr
   refine wpAnyH_all rfl (fun h => by rw [h] at hr; simp at hr) fun j hj => ?_
   have hbz : ∀ x ∈ bs, x.1 ∈ zs := fun x hx => hp.subset (List.mem_append_left _ (List.mem_map.2 ⟨x, hx, rfl⟩))
   rcases hr.2 j hj with h | h
   · cases cs with
     | nil => cases h
     | cons c cs =>
       simp only [List.map_cons, Bool.and_eq_true, beq_iff_eq] at h
       obtain ⟨hcj, hr'⟩ := h
       obtain ⟨o, f, args, ho, hd, hap, hw, hrun, hcall, hrest⟩ := hc
       rw [hcj] at ho
       simp only [List.all_eq_true, Bool.and_eq_true, Bool.not_eq_true', bne_iff_ne] at hap
       have h1 : ∀ x ∈ bs, x.1.d ∉ o.looksAt l.toArray := fun x hx => by have := (hap _ (hbz x hx)).1; simpa using this
       have h2 : ∀ x ∈ bs, x.1.d ≠ c.2 := fun x hx => (hap _ (hbz x hx)).2
       unfold wpOp
       simp only [ho, wanted_putB bs A h1, hw, if_true]
       refine .inl ?_
       unfold Oper.wp
       rw [execOp_putB (fun cs b => Region.noSelect_spec hsel j o cs b ho) bs A h1, hrun]
       refine (hcall w' hb hR).mono fun e w'' ⟨v, he, hb2, hR2⟩ => ?_
       subst he
       rw [hd]
       have hb3 := below_trans hb hb2 hb.size
       refine ⟨hS _ hb3, ?_⟩
       rw [putB_put bs c.2 v A h2]
       exact ih _ cs ps _ _ bs w'' hr' hp hb3 hR2 (fun x hx => ⟨boxB (hbx x hx).1 hb2, (hbx x hx).2⟩) hnb (hrest v)
   · simp only [List.contains_eq_mem, decide_eq_true_eq] at h
     obtain ⟨hm, hr'⟩ := h
     obtain ⟨s, z, t, rfl, hzi, hse⟩ := erase_split ps j hm
     rw [hse] at hr'
     obtain ⟨o, ho, hd, hg, hrun⟩ := hz z (hp.subset (List.mem_append_right _ (by simp)))
     rw [hzi] at ho
     have hw : ∀ y, Region.wanted o y = true := fun y => by unfold Region.wanted; rw [hg]
     unfold wpOp
     simp only [ho, hw, if_true]
     refine .inl ?_
     unfold Oper.wp
     rw [hrun]
     have hal := (Below.refl w'.heap.size w').alloc (Nat.le_refl _) z.obj
     have hb3 := below_trans hb hal hb.size
     refine ⟨hS _ hb3, ?_⟩
     rw [hd, show (putB A bs).put (some z.d) (.pointer (some ⟨w'.heap.size, 0, none⟩)) = putB A (bs ++ [(z, w'.heap.size)]) by simp [putB]]
     have hlt : ∀ x ∈ bs, x.2 < w'.heap.size := fun x hx => (Array.getElem?_eq_some_iff.1 (hbx x hx).1).1
     refine ih _ cs (s ++ t) A vs _ _ hr' ?_ hb3 (hstab _ _ _ hR hal) (fun x hx => ?_) ?_ hc
     · refine List.Perm.trans ?_ hp
       simp only [List.map_append, List.map_cons, List.map_nil, List.append_assoc, List.cons_append, List.nil_append]
       exact (List.perm_middle.symm).append_left _
     · rcases List.mem_append.1 hx with hx | hx
       · exact ⟨boxB (hbx x hx).1 hal, (hbx x hx).2⟩
       · obtain rfl := List.mem_singleton.1 hx
         exact ⟨heap_alloc_new w' z.obj, hb.size⟩
     · simp only [List.map_append, List.map_cons, List.map_nil]
       rw [List.nodup_append]
       refine ⟨hnb, by simp, fun x hx y hy => ?_⟩
       obtain ⟨q, hq, rfl⟩ := List.mem_map.1 hx
       have := hlt q hq
       have := List.mem_singleton.1 hy
       omega
end
def dnTmM (p : Int) (l : List Nd) : Sys × Bool := if goodM p l && l.all (fun n => noDl n.1) then (match treeM l with | some t => (den p t, true) | none => ((0, 0, []), false)) else ((0, 0, []), false)
set_option maxRecDepth 100000 in
set_option maxHeartbeats 4000000 in
theorem dnTerm_any (p : Int) {v : Value} {l : List Nd} (w : World) (h : RdTm w v l) :
  Calls Tryz.prog 50 #[.int .i64 p, v] w fun e w' => ∃ v' fp, e = .returned (.tuple #[v', .bool (dnTmM p l).2]) ∧ OwSys w' v' (dnTmM p l).1 fp ∧ FreshL w.heap.size fp ∧ Below w.heap.size w w' := by
 have hG0 := fun (w1 : World) (hb : Below w.heap.size w w1) => tmGood_any p (h.below hb)
 obtain ⟨A, c, rfl, h⟩ := h
 obtain ⟨m, hm⟩ : ∃ m, m = l.length := ⟨_, rfl⟩
 rw [← hm]
 rw [← hm] at hG0
 obtain ⟨W, hW, bW, k0, k1⟩ := alloc2 w (.cells #[.slice A m c] tTerm) (.cells #[.int .i64 0, .int .i64 0, .slice none 0 0] tRelD)
 have hWs : W.heap.size = w.heap.size + 1 + 1 := by rw [hW]; simp
 have hWl : w.heap.size + 1 < W.heap.size := by omega
 obtain ⟨c0, f0⟩ := bx1_d k0
 by_cases hg : goodM p l = true
 · obtain ⟨D, hD⟩ : ∃ D, D = dnTmM p l := ⟨_, rfl⟩
   have hg2 := hg
   unfold goodM at hg2
   simp only [Bool.and_eq_true] at hg2
   obtain ⟨hf, hsome, hover⟩ := hg2
   obtain ⟨t, hv⟩ := Option.isSome_iff_exists.1 hsome
   have hDY : l.all (fun n => noDl n.1) = true → D = (den p t, true) := fun h => by rw [hD]; unfold dnTmM; rw [hg, h, hv]; rfl
   have hDN : l.all (fun n => noDl n.1) = false → D = ((0, 0, []), false) := fun h => by rw [hD]; unfold dnTmM; rw [hg, h]; rfl
   have hokv : ∀ n, n ∈ l → (n.1 = 7 ∨ n.1 = 13) → n.2.1 < p := fun n hn h7 => by
    have := List.all_eq_true.1 hover n hn
    unfold overB hvB at this
    simp [h7] at this
    omega
   have hl400 : m ≤ 400 := by
    have hv' := hv
    unfold treeM at hv'
    split at hv'
    · rename_i h2; omega
    · cases hv'
   rw [← hD]
   simp only [hg] at hG0
   have hr := h.below bW
   clear hg hsome hover hD h hWs; have hG0_h := lH hG0; have k0_h := lH k0; have k1_h := lH k1; have bW_h := lH bW; have hm_h := lH hm; have hr_h := lH hr; have hDY_h := lH hDY; have hDN_h := lH hDN; have hokv_h := lH hokv; have hv_h := lH hv; clear hG0 k0 k1 bW hm hr hDY hDN hokv hv
   go_enter Tryz.func50, Tryz.ntmps50
   go_upto_region 1 with (fail)
   rw [← hW]
   clear hW
   go_wp2_with (fail)
   refine (hG0_h.out _ bW_h.out).mono ?_
   rintro e w2 ⟨rfl, hb2⟩
   clear c0 f0
   have k0r := box_below k0_h.out hb2
   have k1r := box_below k1_h.out hb2
   have hB2 := below_trans bW_h.out hb2 bW_h.out.size
   have hz2 := hb2.size
   have hr2 := hr_h.out.below hb2
   have hS0 : Stk w2 w2 none 0 [] (dens p []) := ⟨Sl.nil _ _ _, fun i s hi => by simp [dens] at hi, rfl, fun b hb => by simp at hb, Below.refl _ _⟩
   obtain ⟨d0, g0⟩ := bx1_d k0r
   clear hb2 hr_h k0_h k1_h bW_h; have k0r_h := lH k0r; have k1r_h := lH k1r; have hB2_h := lH hB2; have hr2_h := lH hr2; have hS0_h := lH hS0; clear k0r k1r hB2 hr2 hS0
   go_wp2_with (fail)
   go_loopw [19, 6] (fun iv sv wr => ∃ (k : Nat) (st : List Tr) (A1 : Option Addr) (c1 n1 : Nat) (hs : List RV), k ≤ m ∧ iv = .int .i64 k ∧ sv = .slice A1 n1 c1 ∧ n1 = st.length ∧ n1 ≤ k ∧ hs.length = n1 ∧ parse [] (l.take k) = some st ∧ (∀ t, t ∈ st → wt t ∧ okTr p t) ∧ (∀ (j : Nat) (n : Nd), l[j]? = some n → j < k → noDl n.1 = true) ∧ Stk w2 wr A1 c1 hs (dens p st)) (fun iv _ _ => m - (intOf iv).toNat)
   case atStart => exact ⟨0, [], _, 0, 0, [], Nat.zero_le _, rfl, rfl, rfl, Nat.le_refl _, rfl, by simp [parse], fun t ht => (by cases ht), fun j n _ h => (by omega), hS0_h.out⟩
   case round =>
    clear hS0_h d0 g0
    obtain ⟨k, st, A1, c1, n1, hs, hk, rfl, rfl, hn1, hnk, hsl, hpar, hall, hnd, hS⟩ := hrel
    obtain ⟨wo, rfl⟩ : ∃ x, x = wr := ⟨_, rfl⟩
    by_cases hlt : k < m
    · have hbo := hS.below_
      obtain ⟨ad, κ, v, s, rfl, hn, d0, d1, d2⟩ := (hr2_h.out.below hbo).at_ (j := k) (by rw [← hm_h.out]; exact hlt)
      have hkI : (k : Int) < (m : Int) := by omega
      have hbWo := below_trans hB2_h.out hbo hB2_h.out.size
      obtain ⟨wN, hwN⟩ : ∃ wN, wN = wo.alloc (.cells #[.int .i64 κ, .int .i64 v, .string s] 113) := ⟨_, rfl⟩
      have hbN : Below wo.heap.size wo wN := by rw [hwN]; exact below_alloc _ _
      have kN : wN.heap[wo.heap.size]? = some (.cells #[.int .i64 κ, .int .i64 v, .string s] 113) := by rw [hwN]; exact heap_alloc_new _ _
      have hTm := fun W' => dnTimeless_any κ W'
      by_cases hdl : noDl κ = true
      · simp only [hdl] at hTm
        have hokv := hokv_h.out _ (List.mem_of_getElem? hn)
        have hnd' : ∀ (j : Nat) (n : Nd), l[j]? = some n → j < k + 1 → noDl n.1 = true := fun j n h2 h3 => by
         rcases Nat.lt_or_ge j k with h4 | h4
         · exact hnd j n h2 h4
         · obtain rfl : j = k := by omega
           rw [hn] at h2
           obtain rfl := Option.some.inj h2
           exact hdl
        obtain ⟨st', hst, hpar'⟩ := step_some hv_h.out hpar hn
        have hSN := hS.below hbN
        have h814 : κ ≠ 8 ∧ κ ≠ 14 := by
         unfold noDl at hdl
         simp only [Bool.and_eq_true, decide_eq_true_eq] at hdl
         exact hdl
        obtain ⟨⟨e0, e1, e2⟩, e3, e4, e5⟩ := box3 kN
        by_cases hj : κ = 15 ∨ κ = 16
        · obtain ⟨b, a, r, rfl, hjb, rfl⟩ := step_join_some (show isJoin (κ, v, s) from hj) hst
          obtain ⟨q, hq⟩ : ∃ q, q = r.length := ⟨_, rfl⟩
          have hnq : n1 = q + 2 := by rw [hn1, hq]; rfl
          obtain ⟨ga, gb, gt⟩ := dens_two (p := p) (b := b) (a := a) hq.symm
          obtain ⟨qb, hqb⟩ : ∃ qb, qb = q + 1 := ⟨_, rfl⟩
          rw [← hqb] at gb
          have i1 : (n1 : Int) - 1 = (qb : Int) := by omega
          have i2 : (n1 : Int) - 2 = (q : Int) := by omega
          have r1 : IntKind.i64.wrap (qb : Int) = (qb : Int) := IntWalk.i64_in _ (by omega)
          have r2 : IntKind.i64.wrap (q : Int) = (q : Int) := IntWalk.i64_in _ (by omega)
          have hqI : (q : Int) < (n1 : Int) := by omega
          have hqbI : (qb : Int) < (n1 : Int) := by omega
          have hqle : (q : Int) ≤ (n1 : Int) := by omega
          have hq0 : (0 : Int) ≤ (q : Int) := by omega
          have hb1516 : (κ != 15 && κ != 16) = false := by rcases hj with rfl | rfl <;> rfl
          clear hpar hS hn hdl h814 hnd hokv; have hsl_h := lH hsl; have hn1_h := lH hn1; have hpar'_h := lH hpar'; have hall_h := lH hall; have hSN_h := lH hSN; have hbN_h := lH hbN; have kN_h := lH kN; have hbo_h := lH hbo; have hnd'_h := lH hnd'; have hTm_h := lH hTm; have hbWo_h := lH hbWo; have hst_h := lH hst; have ga_h := lH ga; have gb_h := lH gb; have gt_h := lH gt; have hqb_h := lH hqb; have hq_h := lH hq; have hj_h := lH hj; have hjb_h := lH hjb; have hnq_h := lH hnq; clear hsl hn1 hpar' hall hSN hbN kN hbo hnd' hTm hbWo hst ga gb gt hqb hq hj hjb hnq
          obtain ⟨ad1, x, y, B, n, e, fpa, rfl, a0, a1', a2, hoa, hfa⟩ := hSN_h.out.at_ ga_h.out
          obtain ⟨ad2, x', y', B', n', e', fpb, hA2, z0, z1, z2, hob, hfb⟩ := hSN_h.out.at_ gb_h.out
          obtain rfl := Option.some.inj hA2
          clear hA2; have hoa_h := lH hoa; have hob_h := lH hob; have hfa_h := lH hfa; have hfb_h := lH hfb; have a0_h := lH a0; have a1'_h := lH a1'; have a2_h := lH a2; have z0_h := lH z0; have z1_h := lH z1; have z2_h := lH z2; clear hoa hob hfa hfb a0 a1' a2 z0 z1 z2
          go_upto_region 7 with (fail)
          rw [← hwN]
          clear hwN d0 d1 d2
          go_wp2_with (fail)
          refine (hTm_h.out _).mono ?_
          rintro e w' ⟨rfl, hw'⟩
          subst hw'
          obtain ⟨wN, rfl⟩ : ∃ x, x = w' := ⟨_, rfl⟩
          rcases hj_h.out with rfl | rfl
          · obtain ⟨wa, oa⟩ := hall_h.out a (by simp)
            obtain ⟨wb, ob⟩ := hall_h.out b (by simp)
            obtain ⟨ra, ta1, ta2⟩ := den_ok hf wa oa
            obtain ⟨rb, tb1, tb2⟩ := den_ok hf wb ob
            have fa := wt_fit wa
            have fb := wt_fit wb
            have hjb2 := hjb_h.out
            simp only [joinB, show decide ((15 : Int) = 16) = false from rfl, Bool.false_eq_true, if_false, decide_eq_true_eq] at hjb2
            have hC := fun (W' : World) (h1 : OwSys W' (.agg #[.int .i64 x, .int .i64 y, .slice B n e]) (den p a) fpa) (h2 : OwSys W' (.agg #[.int .i64 x', .int .i64 y', .slice B' n' e']) (den p b) fpb) => rlCompose_any p W' h1 h2 ra rb (by omega) (by omega)
            obtain ⟨V, hV⟩ : ∃ V, V = cmpV p (den p a) (den p b) := ⟨_, rfl⟩
            simp only [← hV] at hC
            have hden : den p (.node false a b) = V := hV.symm
            clear hV
            have hT := hSN_h.out.take (k := q) (by rw [hsl_h.out, hnq_h.out]; omega)
            rw [gt_h.out] at hT
            have hqc : (q : Int) ≤ (c1 : Int) := by
             have h9 := hSN_h.out.sl.2.1
             rw [hsl_h.out] at h9
             omega
            have hqk : q + 2 ≤ k := by have := hnq_h.out; omega
            have hC_h := lH hC; have hden_h := lH hden; have hT_h := lH hT; have hqk_h := lH hqk; clear hC hden hT hqk
            go_upto_region 11 with (fail)
            refine beginH (fun w' => Below wN.heap.size wN w') (by kernel_rfl) ?_
            have hbd : Below wN.heap.size wN wN.drew := below_drew (Below.refl _ _)
            generalize wN.drew = W1 at hbd ⊢
            have hbd_h := lH hbd; clear hbd
            refine tkH 0 ?_ rfl hbd_h.out (fun W' hW' => ?_) ?_; rotate_left; · (have y0 := cell_mv hW' a0_h.out; have y1 := cell_mv hW' a1'_h.out; have y2 := cell_mv hW' a2_h.out; have y3 := cell_mv hW' z0_h.out; have y4 := cell_mv hW' z1_h.out; have y5 := cell_mv hW' z2_h.out; clear hW'; go_simp; first | done | with_reducible rfl)
            simp only [Act.put, nS]
            refine tkH 1 ?_ rfl hbd_h.out (fun W' hW' => ?_) ?_; rotate_left; · (have y0 := cell_mv hW' a0_h.out; have y1 := cell_mv hW' a1'_h.out; have y2 := cell_mv hW' a2_h.out; have y3 := cell_mv hW' z0_h.out; have y4 := cell_mv hW' z1_h.out; have y5 := cell_mv hW' z2_h.out; clear hW'; go_simp; first | done | with_reducible rfl)
            simp only [Act.put, nS]
            refine tkH 2 ?_ rfl hbd_h.out (fun W' hW' => ?_) ?_; rotate_left; · (have y0 := cell_mv hW' a0_h.out; have y1 := cell_mv hW' a1'_h.out; have y2 := cell_mv hW' a2_h.out; have y3 := cell_mv hW' z0_h.out; have y4 := cell_mv hW' z1_h.out; have y5 := cell_mv hW' z2_h.out; clear hW'; go_simp; first | done | with_reducible rfl)
            simp only [Act.put, nS]
            refine tkH 3 ?_ rfl hbd_h.out (fun W' hW' => ?_) ?_; rotate_left; · (have y0 := cell_mv hW' a0_h.out; have y1 := cell_mv hW' a1'_h.out; have y2 := cell_mv hW' a2_h.out; have y3 := cell_mv hW' z0_h.out; have y4 := cell_mv hW' z1_h.out; have y5 := cell_mv hW' z2_h.out; clear hW'; go_simp; first | done | with_reducible rfl)
            simp only [Act.put, nS]
            refine tkH 4 ?_ rfl hbd_h.out (fun W' hW' => ?_) ?_; rotate_left; · (have y0 := cell_mv hW' a0_h.out; have y1 := cell_mv hW' a1'_h.out; have y2 := cell_mv hW' a2_h.out; have y3 := cell_mv hW' z0_h.out; have y4 := cell_mv hW' z1_h.out; have y5 := cell_mv hW' z2_h.out; clear hW'; go_simp; first | done | with_reducible rfl)
            simp only [Act.put, nS]
            refine tkH 5 ?_ rfl hbd_h.out (fun W' hW' => ?_) ?_; rotate_left; · (have y0 := cell_mv hW' a0_h.out; have y1 := cell_mv hW' a1'_h.out; have y2 := cell_mv hW' a2_h.out; have y3 := cell_mv hW' z0_h.out; have y4 := cell_mv hW' z1_h.out; have y5 := cell_mv hW' z2_h.out; clear hW'; go_simp; first | done | with_reducible rfl)
            simp only [Act.put, nS]
            refine tkH 6 ?_ rfl hbd_h.out (fun W' hW' => ?_) ?_; rotate_left; · (have y0 := cell_mv hW' a0_h.out; have y1 := cell_mv hW' a1'_h.out; have y2 := cell_mv hW' a2_h.out; have y3 := cell_mv hW' z0_h.out; have y4 := cell_mv hW' z1_h.out; have y5 := cell_mv hW' z2_h.out; clear hW'; go_simp; first | done | with_reducible rfl)
            simp only [Act.put, nS]
            refine tkH 7 ?_ rfl hbd_h.out (fun W' hW' => ?_) ?_; rotate_left; · (have y0 := cell_mv hW' a0_h.out; have y1 := cell_mv hW' a1'_h.out; have y2 := cell_mv hW' a2_h.out; have y3 := cell_mv hW' z0_h.out; have y4 := cell_mv hW' z1_h.out; have y5 := cell_mv hW' z2_h.out; clear hW'; go_simp; first | done | with_reducible rfl)
            simp only [Act.put, nS]
            refine tkH 8 ?_ rfl hbd_h.out (fun W' hW' => ?_) ?_; rotate_left; · (have y0 := cell_mv hW' a0_h.out; have y1 := cell_mv hW' a1'_h.out; have y2 := cell_mv hW' a2_h.out; have y3 := cell_mv hW' z0_h.out; have y4 := cell_mv hW' z1_h.out; have y5 := cell_mv hW' z2_h.out; clear hW'; go_simp; first | done | with_reducible rfl)
            simp only [Act.put, nS]
            refine tkH 9 ?_ rfl hbd_h.out (fun W' hW' => ?_) ?_; rotate_left; · (have y0 := cell_mv hW' a0_h.out; have y1 := cell_mv hW' a1'_h.out; have y2 := cell_mv hW' a2_h.out; have y3 := cell_mv hW' z0_h.out; have y4 := cell_mv hW' z1_h.out; have y5 := cell_mv hW' z2_h.out; clear hW'; go_simp; first | done | with_reducible rfl)
            simp only [Act.put, nS]
            refine tkH 10 ?_ rfl hbd_h.out (fun W' hW' => ?_) ?_; rotate_left; · (have y0 := cell_mv hW' a0_h.out; have y1 := cell_mv hW' a1'_h.out; have y2 := cell_mv hW' a2_h.out; have y3 := cell_mv hW' z0_h.out; have y4 := cell_mv hW' z1_h.out; have y5 := cell_mv hW' z2_h.out; clear hW'; go_simp; first | done | with_reducible rfl)
            simp only [Act.put, nS]
            refine tkH 11 ?_ rfl hbd_h.out (fun W' hW' => ?_) ?_; rotate_left; · (have y0 := cell_mv hW' a0_h.out; have y1 := cell_mv hW' a1'_h.out; have y2 := cell_mv hW' a2_h.out; have y3 := cell_mv hW' z0_h.out; have y4 := cell_mv hW' z1_h.out; have y5 := cell_mv hW' z2_h.out; clear hW'; go_simp; first | done | with_reducible rfl)
            simp only [Act.put, nS]
            refine callsBoxes (fuel := 2) (w := W1) (R := fun vs _ => vs = []) (fin := #[true, true, true, true, true, true, true, true, true, true, true, true, true, true, false, false]) (zs := [⟨12, 9, .cells #[.int .i64 0, .int .i64 0, .slice none 0 0] tRelD⟩, ⟨13, 10, .cells #[.int .i64 0, .int .i64 0, .slice none 0 0] tRelD⟩]) (by kernel_rfl) (by decide) (fun _ _ _ h _ => h) (fun w' hb => below_trans hbd_h.out hb hbd_h.out.size) ?hz1 2 _ [] [⟨12, 9, .cells #[.int .i64 0, .int .i64 0, .slice none 0 0] tRelD⟩, ⟨13, 10, .cells #[.int .i64 0, .int .i64 0, .slice none 0 0] tRelD⟩] _ [] [] W1 (by kernel_rfl) (List.Perm.refl _) (Below.refl _ _) rfl (by simp) (by simp) ?hc1
            case hz1 =>
             intro z hz
             simp only [List.mem_cons, List.not_mem_nil, or_false] at hz
             rcases hz with rfl | rfl
             · exact ⟨_, rfl, rfl, rfl, fun a w => (by kernel_rfl)⟩
             · exact ⟨_, rfl, rfl, rfl, fun a w => (by kernel_rfl)⟩
            case hc1 =>
             intro bs wA hbs hbA _ hbx hnd
             match bs, hbs with
             | [(zz1, B1), (zz2, B2)], hbs =>
               simp only [List.map_cons, List.map_nil, List.cons.injEq, and_true] at hbs
               obtain ⟨rfl, rfl⟩ := hbs
               obtain ⟨x1, x2⟩ := hbx _ (List.mem_cons_self ..)
               obtain ⟨x3, x4⟩ := hbx _ (List.mem_cons_of_mem _ (List.mem_cons_self ..))
               have hne : B1 ≠ B2 := by simpa using hnd
               clear hbx hnd hbs
               have hzW := hbd_h.out.size
               simp only at x1 x2 x3 x4
               obtain ⟨s1, s2⟩ := set3 (a := .int .i64 x) (b := .int .i64 y) (c := .slice B n e) x1
               have x5 := box_keeps x3 s2 (fun e => hne e.symm)
               obtain ⟨s3, s4⟩ := set3 (a := .int .i64 x') (b := .int .i64 y') (c := .slice B' n' e') x5
               have s5 := box_keeps s1 s4 hne
               have hbA1 := below_trans hbd_h.out hbA hbd_h.out.size
               have hbA2 := below_keeps hbA1 s2 hbA1.size (fun k hk => by omega)
               have hbA3 := below_keeps hbA2 s4 hbA2.size (fun k hk => by omega)
               obtain ⟨⟨c0, c1', c2⟩, c3, c4, c5⟩ := box3 x1
               obtain ⟨⟨d0, d1, d2⟩, d3, d4, d5⟩ := box3 x5
               obtain ⟨W5, hW5⟩ : ∃ W5, W5 = (((((wA.setCell ⟨B1, 0, none⟩ (.int .i64 x)).setCell ⟨B1, 1, none⟩ (.int .i64 y)).setCell ⟨B1, 2, none⟩ (.slice B n e)).setCell ⟨B2, 0, none⟩ (.int .i64 x')).setCell ⟨B2, 1, none⟩ (.int .i64 y')).setCell ⟨B2, 2, none⟩ (.slice B' n' e') := ⟨_, rfl⟩
               have hbA4 := hbA3
               rw [← hW5] at s5 s3 hbA4
               have x1_h := lH x1; have x2_h := lH x2; have x3_h := lH x3; have x4_h := lH x4; have x5_h := lH x5; have s1_h := lH s1; have s2_h := lH s2; have s3_h := lH s3; have s4_h := lH s4; have s5_h := lH s5; have hbA_h := lH hbA; have hbA1_h := lH hbA1; have hbA2_h := lH hbA2; have hbA3_h := lH hbA3; have hbA4_h := lH hbA4; have hne_h := lH hne; have hzW_h := lH hzW; clear x1 x2 x3 x4 x5 s1 s2 s3 s4 s5 hbA hbA1 hbA2 hbA3 hbA4 hne hzW
               simp only [putB, List.foldl_cons, List.foldl_nil]
               simp only [Act.put, nS]
               refine oneH 14 rfl (by kernel_rfl) (by rfl) (fun K hK => ?_)
               go_simp
               refine hK _ _ hbA2_h.out ?_
               clear hK K
               refine oneH 15 rfl (by kernel_rfl) (by rfl) (fun K hK => ?_)
               go_simp
               refine hK _ _ hbA3_h.out ?_
               clear hK K
               refine doneH (by kernel_rfl) ?_
               rw [← hW5]
               clear hW5 c0 c1' c2 c3 c4 c5 d0 d1 d2 d3 d4 d5 e0 e1 e2 e3 e4 e5
               obtain ⟨⟨u0, u1, u2⟩, u3, u4, u5⟩ := box3 s5_h.out
               obtain ⟨⟨t0, t1, t2⟩, t3, t4, t5⟩ := box3 s3_h.out
               have kN5 := box_below kN_h.out hbA4_h.out
               obtain ⟨⟨e0, e1, e2⟩, e3, e4, e5⟩ := box3 kN5
               clear kN5
               go_wp2_with (fail)
               refine (hC_h.out W5 (hoa_h.out.below hbA4_h.out) (hob_h.out.below hbA4_h.out)).mono ?_
               rintro e w3 ⟨v2, fp2, rfl, hO2, hf2, hb2⟩
               obtain ⟨A2, n2, c2, rfl⟩ := hO2.shape
               have hal := below_alloc w3 (.cells #[.int .i64 V.1, .int .i64 V.2.1, .slice A2 n2 c2] tRelD)
               have hb3 := below_trans hbA4_h.out hb2 hbA4_h.out.size
               have hba := below_trans hb3 hal hb3.size
               have htl : (hs.take q).length = q := by rw [List.length_take, hsl_h.out, hnq_h.out]; omega
               have hsl' : Sl (w3.alloc (.cells #[.int .i64 V.1, .int .i64 V.2.1, .slice A2 n2 c2] tRelD)) tRelD 3 (some ad1) q c1 (rcs (hs.take q)) := by
                have := hT_h.out.sl.below hba
                rwa [htl] at this
               have hO3 : OwSys (w3.alloc (.cells #[.int .i64 V.1, .int .i64 V.2.1, .slice A2 n2 c2] tRelD)) (rv (V.1, V.2.1, A2, n2, c2)) V fp2 := hO2.below hal
               have hf3 : FreshL w2.heap.size fp2 := hf2.mono (by have := hbA4_h.out.size; have := hbN_h.out.size; have := hbo_h.out.size; omega)
               clear hO2 hf2 u0 u1 u2 u3 u4 u5 t0 t1 t2 t3 t4 t5 e0 e1 e2 e3 e4 e5 hb3; have hal_h := lH hal; have hba_h := lH hba; have hsl'_h := lH hsl'; have hO3_h := lH hO3; have hf3_h := lH hf3; have hb2_h := lH hb2; have htl_h := lH htl; clear hal hba hsl' hO3 hf3 hb2 htl
               go_wp2_with (at_builtin; refine wpList_append_Sl _ rfl _ _ _ rfl tRelD Tryz.underlying112 info_rel rfl (by omega) rfl hsl'_h.out rfl (news := [.int .i64 V.1, .int .i64 V.2.1, .slice A2 n2 c2]) rfl (Sl.rdc (Sl.laid w3 tRelD 3 1 #[.int .i64 V.1, .int .i64 V.2.1, .slice A2 n2 c2] (by unfold maxLen; omega) rfl)) (by intro u hu; simp at hu; rcases hu with rfl | rfl | rfl <;> rfl) (by unfold maxLen; omega) (by omega) ?_; intro A6 c6 w6 hsA6 hA6 hkA6)
               have hS6 := hT_h.out.push hba_h.out (v := (V.1, V.2.1, A2, n2, c2)) hO3_h.out hf3_h.out (n := q + 1) (by rw [htl_h.out]) hsA6 hA6 hkA6
               have hdn : dens p r ++ [V] = dens p (Tr.node false a b :: r) := by rw [dens_push, hden_h.out]
               rw [hdn] at hS6
               have hl6 : (hs.take q ++ [(V.1, V.2.1, A2, n2, c2)]).length = q + 1 := by rw [List.length_append, htl_h.out]; rfl
               have hall6 : ∀ t, t ∈ (Tr.node false a b :: r) → wt t ∧ okTr p t := fun t ht => by
                rcases List.mem_cons.1 ht with rfl | ht
                · exact ⟨⟨wa, wb, hjb_h.out⟩, oa, ob⟩
                · exact hall_h.out t (by simp [ht])
               clear hsA6 hA6 hkA6 hdn; have hS6_h := lH hS6; have hl6_h := lH hl6; have hall6_h := lH hall6; clear hS6 hl6 hall6
               go_roundw
               case rel => exact ⟨k + 1, _, A6, c6, q + 1, _, by omega, by go_num, rfl, by rw [List.length_cons, ← hq_h.out], by have := hqk_h.out; omega, hl6_h.out, hpar'_h.out, hall6_h.out, hnd'_h.out, hS6_h.out⟩
               case measure => simp [intOf]; omega
          · obtain ⟨wa, oa⟩ := hall_h.out a (by simp)
            obtain ⟨wb, ob⟩ := hall_h.out b (by simp)
            obtain ⟨ra, ta1, ta2⟩ := den_ok hf wa oa
            obtain ⟨rb, tb1, tb2⟩ := den_ok hf wb ob
            have fa := wt_fit wa
            have fb := wt_fit wb
            have hjb2 := hjb_h.out
            simp only [joinB, if_true, decide_eq_true_eq] at hjb2
            have hC := fun (W' : World) (h1 : OwSys W' (.agg #[.int .i64 x, .int .i64 y, .slice B n e]) (den p a) fpa) (h2 : OwSys W' (.agg #[.int .i64 x', .int .i64 y', .slice B' n' e']) (den p b) fpb) => rlTensor_any p W' h1 h2 ra rb (by omega)
            obtain ⟨V, hV⟩ : ∃ V, V = tenV p (den p a) (den p b) := ⟨_, rfl⟩
            simp only [← hV] at hC
            have hden : den p (.node true a b) = V := hV.symm
            clear hV
            have hT := hSN_h.out.take (k := q) (by rw [hsl_h.out, hnq_h.out]; omega)
            rw [gt_h.out] at hT
            have hqc : (q : Int) ≤ (c1 : Int) := by
             have h9 := hSN_h.out.sl.2.1
             rw [hsl_h.out] at h9
             omega
            have hqk : q + 2 ≤ k := by have := hnq_h.out; omega
            have hC_h := lH hC; have hden_h := lH hden; have hT_h := lH hT; have hqk_h := lH hqk; clear hC hden hT hqk
            go_upto_region 11 with (fail)
            refine beginH (fun w' => Below wN.heap.size wN w') (by kernel_rfl) ?_
            have hbd : Below wN.heap.size wN wN.drew := below_drew (Below.refl _ _)
            generalize wN.drew = W1 at hbd ⊢
            have hbd_h := lH hbd; clear hbd
            refine tkH 0 ?_ rfl hbd_h.out (fun W' hW' => ?_) ?_; rotate_left; · (have y0 := cell_mv hW' a0_h.out; have y1 := cell_mv hW' a1'_h.out; have y2 := cell_mv hW' a2_h.out; have y3 := cell_mv hW' z0_h.out; have y4 := cell_mv hW' z1_h.out; have y5 := cell_mv hW' z2_h.out; clear hW'; go_simp; first | done | with_reducible rfl)
            simp only [Act.put, nS]
            refine tkH 1 ?_ rfl hbd_h.out (fun W' hW' => ?_) ?_; rotate_left; · (have y0 := cell_mv hW' a0_h.out; have y1 := cell_mv hW' a1'_h.out; have y2 := cell_mv hW' a2_h.out; have y3 := cell_mv hW' z0_h.out; have y4 := cell_mv hW' z1_h.out; have y5 := cell_mv hW' z2_h.out; clear hW'; go_simp; first | done | with_reducible rfl)
            simp only [Act.put, nS]
            refine tkH 2 ?_ rfl hbd_h.out (fun W' hW' => ?_) ?_; rotate_left; · (have y0 := cell_mv hW' a0_h.out; have y1 := cell_mv hW' a1'_h.out; have y2 := cell_mv hW' a2_h.out; have y3 := cell_mv hW' z0_h.out; have y4 := cell_mv hW' z1_h.out; have y5 := cell_mv hW' z2_h.out; clear hW'; go_simp; first | done | with_reducible rfl)
            simp only [Act.put, nS]
            refine tkH 3 ?_ rfl hbd_h.out (fun W' hW' => ?_) ?_; rotate_left; · (have y0 := cell_mv hW' a0_h.out; have y1 := cell_mv hW' a1'_h.out; have y2 := cell_mv hW' a2_h.out; have y3 := cell_mv hW' z0_h.out; have y4 := cell_mv hW' z1_h.out; have y5 := cell_mv hW' z2_h.out; clear hW'; go_simp; first | done | with_reducible rfl)
            simp only [Act.put, nS]
            refine tkH 4 ?_ rfl hbd_h.out (fun W' hW' => ?_) ?_; rotate_left; · (have y0 := cell_mv hW' a0_h.out; have y1 := cell_mv hW' a1'_h.out; have y2 := cell_mv hW' a2_h.out; have y3 := cell_mv hW' z0_h.out; have y4 := cell_mv hW' z1_h.out; have y5 := cell_mv hW' z2_h.out; clear hW'; go_simp; first | done | with_reducible rfl)
            simp only [Act.put, nS]
            refine tkH 5 ?_ rfl hbd_h.out (fun W' hW' => ?_) ?_; rotate_left; · (have y0 := cell_mv hW' a0_h.out; have y1 := cell_mv hW' a1'_h.out; have y2 := cell_mv hW' a2_h.out; have y3 := cell_mv hW' z0_h.out; have y4 := cell_mv hW' z1_h.out; have y5 := cell_mv hW' z2_h.out; clear hW'; go_simp; first | done | with_reducible rfl)
            simp only [Act.put, nS]
            refine tkH 6 ?_ rfl hbd_h.out (fun W' hW' => ?_) ?_; rotate_left; · (have y0 := cell_mv hW' a0_h.out; have y1 := cell_mv hW' a1'_h.out; have y2 := cell_mv hW' a2_h.out; have y3 := cell_mv hW' z0_h.out; have y4 := cell_mv hW' z1_h.out; have y5 := cell_mv hW' z2_h.out; clear hW'; go_simp; first | done | with_reducible rfl)
            simp only [Act.put, nS]
            refine tkH 7 ?_ rfl hbd_h.out (fun W' hW' => ?_) ?_; rotate_left; · (have y0 := cell_mv hW' a0_h.out; have y1 := cell_mv hW' a1'_h.out; have y2 := cell_mv hW' a2_h.out; have y3 := cell_mv hW' z0_h.out; have y4 := cell_mv hW' z1_h.out; have y5 := cell_mv hW' z2_h.out; clear hW'; go_simp; first | done | with_reducible rfl)
            simp only [Act.put, nS]
            refine tkH 8 ?_ rfl hbd_h.out (fun W' hW' => ?_) ?_; rotate_left; · (have y0 := cell_mv hW' a0_h.out; have y1 := cell_mv hW' a1'_h.out; have y2 := cell_mv hW' a2_h.out; have y3 := cell_mv hW' z0_h.out; have y4 := cell_mv hW' z1_h.out; have y5 := cell_mv hW' z2_h.out; clear hW'; go_simp; first | done | with_reducible rfl)
            simp only [Act.put, nS]
            refine tkH 9 ?_ rfl hbd_h.out (fun W' hW' => ?_) ?_; rotate_left; · (have y0 := cell_mv hW' a0_h.out; have y1 := cell_mv hW' a1'_h.out; have y2 := cell_mv hW' a2_h.out; have y3 := cell_mv hW' z0_h.out; have y4 := cell_mv hW' z1_h.out; have y5 := cell_mv hW' z2_h.out; clear hW'; go_simp; first | done | with_reducible rfl)
            simp only [Act.put, nS]
            refine tkH 10 ?_ rfl hbd_h.out (fun W' hW' => ?_) ?_; rotate_left; · (have y0 := cell_mv hW' a0_h.out; have y1 := cell_mv hW' a1'_h.out; have y2 := cell_mv hW' a2_h.out; have y3 := cell_mv hW' z0_h.out; have y4 := cell_mv hW' z1_h.out; have y5 := cell_mv hW' z2_h.out; clear hW'; go_simp; first | done | with_reducible rfl)
            simp only [Act.put, nS]
            refine tkH 11 ?_ rfl hbd_h.out (fun W' hW' => ?_) ?_; rotate_left; · (have y0 := cell_mv hW' a0_h.out; have y1 := cell_mv hW' a1'_h.out; have y2 := cell_mv hW' a2_h.out; have y3 := cell_mv hW' z0_h.out; have y4 := cell_mv hW' z1_h.out; have y5 := cell_mv hW' z2_h.out; clear hW'; go_simp; first | done | with_reducible rfl)
            simp only [Act.put, nS]
            refine callsBoxes (fuel := 2) (w := W1) (R := fun vs _ => vs = []) (fin := #[true, true, true, true, true, true, true, true, true, true, true, true, true, true, false, false]) (zs := [⟨12, 9, .cells #[.int .i64 0, .int .i64 0, .slice none 0 0] tRelD⟩, ⟨13, 10, .cells #[.int .i64 0, .int .i64 0, .slice none 0 0] tRelD⟩]) (by kernel_rfl) (by decide) (fun _ _ _ h _ => h) (fun w' hb => below_trans hbd_h.out hb hbd_h.out.size) ?hz2 2 _ [] [⟨12, 9, .cells #[.int .i64 0, .int .i64 0, .slice none 0 0] tRelD⟩, ⟨13, 10, .cells #[.int .i64 0, .int .i64 0, .slice none 0 0] tRelD⟩] _ [] [] W1 (by kernel_rfl) (List.Perm.refl _) (Below.refl _ _) rfl (by simp) (by simp) ?hc2
            case hz2 =>
             intro z hz
             simp only [List.mem_cons, List.not_mem_nil, or_false] at hz
             rcases hz with rfl | rfl
             · exact ⟨_, rfl, rfl, rfl, fun a w => (by kernel_rfl)⟩
             · exact ⟨_, rfl, rfl, rfl, fun a w => (by kernel_rfl)⟩
            case hc2 =>
             intro bs wA hbs hbA _ hbx hnd
             match bs, hbs with
             | [(zz1, B1), (zz2, B2)], hbs =>
               simp only [List.map_cons, List.map_nil, List.cons.injEq, and_true] at hbs
               obtain ⟨rfl, rfl⟩ := hbs
               obtain ⟨x1, x2⟩ := hbx _ (List.mem_cons_self ..)
               obtain ⟨x3, x4⟩ := hbx _ (List.mem_cons_of_mem _ (List.mem_cons_self ..))
               have hne : B1 ≠ B2 := by simpa using hnd
               clear hbx hnd hbs
               have hzW := hbd_h.out.size
               simp only at x1 x2 x3 x4
               obtain ⟨s1, s2⟩ := set3 (a := .int .i64 x) (b := .int .i64 y) (c := .slice B n e) x1
               have x5 := box_keeps x3 s2 (fun e => hne e.symm)
               obtain ⟨s3, s4⟩ := set3 (a := .int .i64 x') (b := .int .i64 y') (c := .slice B' n' e') x5
               have s5 := box_keeps s1 s4 hne
               have hbA1 := below_trans hbd_h.out hbA hbd_h.out.size
               have hbA2 := below_keeps hbA1 s2 hbA1.size (fun k hk => by omega)
               have hbA3 := below_keeps hbA2 s4 hbA2.size (fun k hk => by omega)
               obtain ⟨⟨c0, c1', c2⟩, c3, c4, c5⟩ := box3 x1
               obtain ⟨⟨d0, d1, d2⟩, d3, d4, d5⟩ := box3 x5
               obtain ⟨W5, hW5⟩ : ∃ W5, W5 = (((((wA.setCell ⟨B1, 0, none⟩ (.int .i64 x)).setCell ⟨B1, 1, none⟩ (.int .i64 y)).setCell ⟨B1, 2, none⟩ (.slice B n e)).setCell ⟨B2, 0, none⟩ (.int .i64 x')).setCell ⟨B2, 1, none⟩ (.int .i64 y')).setCell ⟨B2, 2, none⟩ (.slice B' n' e') := ⟨_, rfl⟩
               have hbA4 := hbA3
               rw [← hW5] at s5 s3 hbA4
               have x1_h := lH x1; have x2_h := lH x2; have x3_h := lH x3; have x4_h := lH x4; have x5_h := lH x5; have s1_h := lH s1; have s2_h := lH s2; have s3_h := lH s3; have s4_h := lH s4; have s5_h := lH s5; have hbA_h := lH hbA; have hbA1_h := lH hbA1; have hbA2_h := lH hbA2; have hbA3_h := lH hbA3; have hbA4_h := lH hbA4; have hne_h := lH hne; have hzW_h := lH hzW; clear x1 x2 x3 x4 x5 s1 s2 s3 s4 s5 hbA hbA1 hbA2 hbA3 hbA4 hne hzW
               simp only [putB, List.foldl_cons, List.foldl_nil]
               simp only [Act.put, nS]
               refine oneH 14 rfl (by kernel_rfl) (by rfl) (fun K hK => ?_)
               go_simp
               refine hK _ _ hbA2_h.out ?_
               clear hK K
               refine oneH 15 rfl (by kernel_rfl) (by rfl) (fun K hK => ?_)
               go_simp
               refine hK _ _ hbA3_h.out ?_
               clear hK K
               refine doneH (by kernel_rfl) ?_
               rw [← hW5]
               clear hW5 c0 c1' c2 c3 c4 c5 d0 d1 d2 d3 d4 d5 e0 e1 e2 e3 e4 e5
               obtain ⟨⟨u0, u1, u2⟩, u3, u4, u5⟩ := box3 s5_h.out
               obtain ⟨⟨t0, t1, t2⟩, t3, t4, t5⟩ := box3 s3_h.out
               have kN5 := box_below kN_h.out hbA4_h.out
               obtain ⟨⟨e0, e1, e2⟩, e3, e4, e5⟩ := box3 kN5
               clear kN5
               go_wp2_with (fail)
               refine (hC_h.out W5 (hoa_h.out.below hbA4_h.out) (hob_h.out.below hbA4_h.out)).mono ?_
               rintro e w3 ⟨v2, fp2, rfl, hO2, hf2, hb2⟩
               obtain ⟨A2, n2, c2, rfl⟩ := hO2.shape
               have hal := below_alloc w3 (.cells #[.int .i64 V.1, .int .i64 V.2.1, .slice A2 n2 c2] tRelD)
               have hb3 := below_trans hbA4_h.out hb2 hbA4_h.out.size
               have hba := below_trans hb3 hal hb3.size
               have htl : (hs.take q).length = q := by rw [List.length_take, hsl_h.out, hnq_h.out]; omega
               have hsl' : Sl (w3.alloc (.cells #[.int .i64 V.1, .int .i64 V.2.1, .slice A2 n2 c2] tRelD)) tRelD 3 (some ad1) q c1 (rcs (hs.take q)) := by
                have := hT_h.out.sl.below hba
                rwa [htl] at this
               have hO3 : OwSys (w3.alloc (.cells #[.int .i64 V.1, .int .i64 V.2.1, .slice A2 n2 c2] tRelD)) (rv (V.1, V.2.1, A2, n2, c2)) V fp2 := hO2.below hal
               have hf3 : FreshL w2.heap.size fp2 := hf2.mono (by have := hbA4_h.out.size; have := hbN_h.out.size; have := hbo_h.out.size; omega)
               clear hO2 hf2 u0 u1 u2 u3 u4 u5 t0 t1 t2 t3 t4 t5 e0 e1 e2 e3 e4 e5 hb3; have hal_h := lH hal; have hba_h := lH hba; have hsl'_h := lH hsl'; have hO3_h := lH hO3; have hf3_h := lH hf3; have hb2_h := lH hb2; have htl_h := lH htl; clear hal hba hsl' hO3 hf3 hb2 htl
               go_wp2_with (at_builtin; refine wpList_append_Sl _ rfl _ _ _ rfl tRelD Tryz.underlying112 info_rel rfl (by omega) rfl hsl'_h.out rfl (news := [.int .i64 V.1, .int .i64 V.2.1, .slice A2 n2 c2]) rfl (Sl.rdc (Sl.laid w3 tRelD 3 1 #[.int .i64 V.1, .int .i64 V.2.1, .slice A2 n2 c2] (by unfold maxLen; omega) rfl)) (by intro u hu; simp at hu; rcases hu with rfl | rfl | rfl <;> rfl) (by unfold maxLen; omega) (by omega) ?_; intro A6 c6 w6 hsA6 hA6 hkA6)
               have hS6 := hT_h.out.push hba_h.out (v := (V.1, V.2.1, A2, n2, c2)) hO3_h.out hf3_h.out (n := q + 1) (by rw [htl_h.out]) hsA6 hA6 hkA6
               have hdn : dens p r ++ [V] = dens p (Tr.node true a b :: r) := by rw [dens_push, hden_h.out]
               rw [hdn] at hS6
               have hl6 : (hs.take q ++ [(V.1, V.2.1, A2, n2, c2)]).length = q + 1 := by rw [List.length_append, htl_h.out]; rfl
               have hall6 : ∀ t, t ∈ (Tr.node true a b :: r) → wt t ∧ okTr p t := fun t ht => by
                rcases List.mem_cons.1 ht with rfl | ht
                · exact ⟨⟨wa, wb, hjb_h.out⟩, oa, ob⟩
                · exact hall_h.out t (by simp [ht])
               clear hsA6 hA6 hkA6 hdn; have hS6_h := lH hS6; have hl6_h := lH hl6; have hall6_h := lH hall6; clear hS6 hl6 hall6
               go_roundw
               case rel => exact ⟨k + 1, _, A6, c6, q + 1, _, by omega, by go_num, rfl, by rw [List.length_cons, ← hq_h.out], by have := hqk_h.out; omega, hl6_h.out, hpar'_h.out, hall6_h.out, hnd'_h.out, hS6_h.out⟩
               case measure => simp [intOf]; omega
        · have hb15 : (κ != 15) = true := by rw [bne_iff_ne]; omega
          have hb16 : (κ != 16) = true := by rw [bne_iff_ne]; omega
          obtain ⟨hlb, rfl⟩ := step_leaf_some (show ¬ isJoin (κ, v, s) from hj) hst
          have hlf : okLf p (κ, v, s) := ⟨hlb, h814.1, h814.2, hokv⟩
          have hC := fun (W' : World) => dnLeaf_any (k := κ) (v := v) (s := s) W' hf hlf
          have hall' : ∀ t, t ∈ (Tr.leaf (κ, v, s) :: st) → wt t ∧ okTr p t := fun t ht => by
           rcases List.mem_cons.1 ht with rfl | ht
           · exact ⟨hlb, hlf⟩
           · exact hall t ht
          clear hj hst hokv hlb hlf hpar hall hS hn hdl h814 hnd; have hsl_h := lH hsl; have hn1_h := lH hn1; have hpar'_h := lH hpar'; have hall'_h := lH hall'; have hSN_h := lH hSN; have hC_h := lH hC; have hbN_h := lH hbN; have kN_h := lH kN; have hbo_h := lH hbo; have hnd'_h := lH hnd'; have hTm_h := lH hTm; have hbWo_h := lH hbWo; clear hsl hn1 hpar' hall' hSN hC hbN kN hbo hnd' hTm hbWo
          go_upto_region 7 with (fail)
          rw [← hwN]
          clear hwN d0 d1 d2
          go_wp2_with (fail)
          refine (hTm_h.out _).mono ?_
          rintro e w' ⟨rfl, hw'⟩
          subst hw'
          obtain ⟨wN, rfl⟩ : ∃ x, x = w' := ⟨_, rfl⟩
          go_wp2_with (fail)
          refine (hC_h.out wN).mono ?_
          rintro e w2' ⟨v2, fp2, rfl, hO2, hf2, hb2⟩
          obtain ⟨V, hV⟩ : ∃ V, V = leafV p (κ, v, s) := ⟨_, rfl⟩
          rw [← hV] at hO2
          obtain ⟨A2, n2, c2, rfl⟩ := hO2.shape
          have hal := below_alloc w2' (.cells #[.int .i64 V.1, .int .i64 V.2.1, .slice A2 n2 c2] tRelD)
          have hba := below_trans hb2 hal hb2.size
          have hsl' : Sl (w2'.alloc (.cells #[.int .i64 V.1, .int .i64 V.2.1, .slice A2 n2 c2] tRelD)) tRelD 3 A1 n1 c1 (rcs hs) := by
           have := hSN_h.out.sl.below hba
           rwa [hsl_h.out] at this
          have hO3 : OwSys (w2'.alloc (.cells #[.int .i64 V.1, .int .i64 V.2.1, .slice A2 n2 c2] tRelD)) (rv (V.1, V.2.1, A2, n2, c2)) V fp2 := hO2.below hal
          have hf3 : FreshL w2.heap.size fp2 := hf2.mono (by have := hbN_h.out.size; have := hbo_h.out.size; omega)
          clear hO2 hf2 e0 e1 e2 e3 e4 e5; have hal_h := lH hal; have hba_h := lH hba; have hsl'_h := lH hsl'; have hO3_h := lH hO3; have hf3_h := lH hf3; have hV_h := lH hV; have hb2_h := lH hb2; clear hal hba hsl' hO3 hf3 hV hb2
          go_wp2_with (at_builtin; refine wpList_append_Sl _ rfl _ _ _ rfl tRelD Tryz.underlying112 info_rel rfl (by omega) rfl hsl'_h.out rfl (news := [.int .i64 V.1, .int .i64 V.2.1, .slice A2 n2 c2]) rfl (Sl.rdc (Sl.laid w2' tRelD 3 1 #[.int .i64 V.1, .int .i64 V.2.1, .slice A2 n2 c2] (by unfold maxLen; omega) rfl)) (by intro u hu; simp at hu; rcases hu with rfl | rfl | rfl <;> rfl) (by unfold maxLen; omega) (by omega) ?_; intro A6 c6 w6 hsA6 hA6 hkA6)
          have hS6 := hSN_h.out.push hba_h.out (v := (V.1, V.2.1, A2, n2, c2)) hO3_h.out hf3_h.out (n := n1 + 1) (by rw [hsl_h.out]) hsA6 hA6 hkA6
          have hdn : dens p (Tr.leaf (κ, v, s) :: st) = dens p st ++ [V] := by rw [dens_push, hV_h.out]; rfl
          rw [← hdn] at hS6
          have hl6 : (hs ++ [(V.1, V.2.1, A2, n2, c2)]).length = n1 + 1 := by rw [List.length_append, hsl_h.out]; rfl
          clear hsA6 hA6 hkA6 hdn; have hS6_h := lH hS6; have hl6_h := lH hl6; clear hS6 hl6
          go_roundw
          case rel => exact ⟨k + 1, _, A6, c6, n1 + 1, _, by omega, by go_num, rfl, by rw [List.length_cons, ← hn1_h.out], by omega, hl6_h.out, hpar'_h.out, hall'_h.out, hnd'_h.out, hS6_h.out⟩
          case measure => simp [intOf]; omega
      · have hdl' : noDl κ = false := by simpa using hdl
        simp only [hdl'] at hTm
        have hno : l.all (fun n => noDl n.1) = false := by
         rw [List.all_eq_false]
         exact ⟨_, List.mem_of_getElem? hn, by simp [hdl']⟩
        have hfin := hDN_h.out hno
        subst hfin
        have hbNo := below_trans hbWo hbN hbWo.size
        have k1N := box_below (box_below k1r_h.out hbo) hbN
        obtain ⟨⟨e0, e1, e2⟩, e3, e4, e5⟩ := box3 kN
        obtain ⟨⟨y0, y1, y2⟩, y3, y4, y5⟩ := box3 k1N
        obtain ⟨s1, s2⟩ := set3 (a := .int .i64 0) (b := .int .i64 0) (c := .slice none 0 0) k1N
        have hB3 := below_keeps hbNo s2 hbNo.size (fun k hk => by omega)
        clear hpar hall hS hn hdl hdl' hno hnd hbNo k1N s2 hbo hbWo; have hsl_h := lH hsl; have hn1_h := lH hn1; have hbN_h := lH hbN; have kN_h := lH kN; have hTm_h := lH hTm; have s1_h := lH s1; have hB3_h := lH hB3; clear hsl hn1 hbN kN hTm s1 hB3
        go_upto_region 7 with (fail)
        rw [← hwN]
        clear hwN d0 d1 d2
        go_wp2_with (fail)
        refine (hTm_h.out _).mono ?_
        rintro e w' ⟨rfl, hw'⟩
        subst hw'
        go_wp2_with (fail)
        refine bodyPost_ret (results_cell_tmp rfl _ _ (w.heap.size + 1) _ _ (0, 0) _ rfl s1_h.out Tryz.underlying29 rfl (by kernel_rfl)) rfl ?_
        first | exact ⟨_, [], rfl, OwSys.zero _ 0 0, FreshL.nil _, hB3_h.out⟩ | exact ⟨_, rfl, [], OwSys.zero _ 0 0, FreshL.nil _, hB3_h.out⟩
    · obtain rfl : m = k := by omega
      have hpl : parse [] l = some st := by have := hpar; rwa [List.take_of_length_le (by rw [hm_h.out]; exact Nat.le_refl _)] at this
      have h400 : 1 ≤ l.length ∧ l.length ≤ 400 := by
       have h2 := hv_h.out
       unfold treeM at h2
       split at h2
       · rename_i h3; exact h3
       · cases h2
      have hst := treeM_of h400 hpl
      rw [hv_h.out] at hst
      have hst1 := oneOf_some hst.symm
      subst hst1
      have hyes : l.all (fun n => noDl n.1) = true := by
       rw [List.all_eq_true]
       intro n hn
       obtain ⟨j, hj⟩ := List.mem_iff_getElem?.1 hn
       exact hnd j n hj (by rw [hm_h.out]; exact (List.getElem?_eq_some_iff.1 hj).1)
      have hfin := hDY_h.out hyes
      subst hfin
      obtain ⟨ad, x, y, B, n, e, fp, rfl, a0, a1', a2, hO, hfp⟩ := hS.at_ (i := 0) (s := den p t) (by simp [dens])
      have hbo := hS.below_
      have k1s := box_below k1r_h.out hbo
      obtain ⟨⟨y0, y1, y2⟩, y3, y4, y5⟩ := box3 k1s
      obtain ⟨s1, s2⟩ := set3 (a := .int .i64 x) (b := .int .i64 y) (c := .slice B n e) k1s
      have hbb := below_trans hB2_h.out hbo hB2_h.out.size
      have hbw := below_keeps hbb s2 hbb.size (fun k hk => by omega)
      have hz1 := hB2_h.out.size
      have hO2 := hO.keeps s2 (fun k hk e => by have := hfp k hk; omega)
      have hf2 : FreshL w.heap.size fp := hfp.mono hz1
      have hnz : (0 : Int) < (n1 : Int) := by rw [hn1]; simp
      have hb0 : wo.cell? ad = some (.int .i64 x) := a0
      have hb1 : wo.cell? ⟨ad.block, ad.off + 1, none⟩ = some (.int .i64 y) := a1'
      have hb2 : wo.cell? ⟨ad.block, ad.off + 2, none⟩ = some (.slice B n e) := a2
      have ha : ad.add 0 = ad := rfl
      clear a0 a1' a2 hyes hnd; clear hS hst hpl h400 hpar hall hbo k1s s2 hbb hO hfp; have s1_h := lH s1; have hbw_h := lH hbw; have hO2_h := lH hO2; have hf2_h := lH hf2; have hn1_h := lH hn1; have hsl_h := lH hsl; clear s1 hbw hO2 hf2 hn1 hsl
      go_wp2_with (fail)
      refine bodyPost_ret (results_cell_tmp rfl _ _ (w.heap.size + 1) _ _ (0, 0) _ rfl s1_h.out Tryz.underlying29 rfl (by kernel_rfl)) rfl ?_
      first | exact ⟨_, fp, rfl, hO2_h.out, hf2_h.out, hbw_h.out⟩ | exact ⟨_, rfl, fp, hO2_h.out, hf2_h.out, hbw_h.out⟩
 · have hg' : goodM p l = false := by simpa using hg
   have hD : dnTmM p l = ((0, 0, []), false) := by unfold dnTmM; rw [hg']; rfl
   rw [hD]
   simp only [hg'] at hG0
   clear hg hg' hD h hWs; have hG0_h := lH hG0; have k0_h := lH k0; have k1_h := lH k1; have bW_h := lH bW; have hm_h := lH hm; clear hG0 k0 k1 bW hm
   go_enter Tryz.func50, Tryz.ntmps50
   go_upto_region 1 with (fail)
   rw [← hW]
   clear hW
   go_wp2_with (fail)
   refine (hG0_h.out _ bW_h.out).mono ?_
   rintro e w2 ⟨rfl, hb2⟩
   clear c0 f0
   have k1r := box_below k1_h.out hb2
   have hB2 := below_trans bW_h.out hb2 bW_h.out.size
   have hz2 := hb2.size
   obtain ⟨⟨d0, d1, d2⟩, g0, g1, g2⟩ := box3 k1r
   obtain ⟨s1, s2⟩ := set3 (a := .int .i64 0) (b := .int .i64 0) (c := .slice none 0 0) k1r
   have hB3 := below_keeps hB2 s2 hB2.size (fun k hk => by omega)
   clear hB2 hb2 s2 k1r; have s1_h := lH s1; have hB3_h := lH hB3; clear s1 hB3
   go_wp2_with (fail)
   refine bodyPost_ret (results_cell_tmp rfl _ _ (w.heap.size + 1) _ _ (0, 0) _ rfl s1_h.out Tryz.underlying29 rfl (by kernel_rfl)) rfl ?_
   first | exact ⟨_, [], rfl, OwSys.zero _ 0 0, FreshL.nil _, hB3_h.out⟩ | exact ⟨_, rfl, [], OwSys.zero _ 0 0, FreshL.nil _, hB3_h.out⟩
theorem isDelay_any (k : Int) (w : World) : Calls Tryz.prog 65 #[.int .i64 k] w fun e w' => e = .returned (.bool (!noDl k)) ∧ w' = w := by
 unfold noDl
 by_cases h8 : k = 8
 · subst h8
   go_enter Tryz.func65, Tryz.ntmps65
   go_wp2_with (fail)
   go_ret
   exact ⟨rfl, rfl⟩
 · have b8 : (k == 8) = false := by rw [beq_eq_false_iff_ne]; exact h8
   by_cases h14 : k = 14
   · subst h14
     go_enter Tryz.func65, Tryz.ntmps65
     go_wp2_with (fail)
     go_ret
     exact ⟨rfl, rfl⟩
   · have b14 : (k == 14) = false := by rw [beq_eq_false_iff_ne]; exact h14
     go_enter Tryz.func65, Tryz.ntmps65
     go_wp2_with (fail)
     go_ret
     exact ⟨by simp [h8, h14], rfl⟩
def statB (p : Int) (l : List Nd) : Bool := goodM p l && l.all fun n => noDl n.1
set_option maxRecDepth 100000 in
set_option maxHeartbeats 4000000 in
theorem isStatic_any (p : Int) {v : Value} {l : List Nd} (w : World) (h : RdTm w v l) (hT : Tab w) :
  Calls Tryz.prog 52 #[v, .int .i64 p] w fun e w' => e = .returned (.bool (statB p l)) ∧ Below w.heap.size w w' := by
 obtain ⟨A, c, rfl, h⟩ := h
 obtain ⟨m, hm⟩ : ∃ m, m = l.length := ⟨_, rfl⟩
 obtain ⟨W, hW⟩ : ∃ W, W = w.alloc (.cells #[.slice A m c] tTerm) := ⟨_, rfl⟩
 have b0 : Below w.heap.size w W := by rw [hW]; exact below_alloc _ _
 have k0 : W.heap[w.heap.size]? = some (.cells #[.slice A m c] tTerm) := by rw [hW]; exact heap_alloc_new _ _
 have hC := isOver_any p (v := .agg #[.slice A m c]) (l := l) (w := W) ⟨A, c, by rw [hm], h.below b0⟩ (hT.below b0 hT.lt)
 obtain ⟨c0, f0⟩ := bx1_d k0
 rw [← hm]
 have hr := h.below b0
 obtain ⟨D, hD⟩ : ∃ D, D = statB p l := ⟨_, rfl⟩
 rw [← hD]
 unfold statB at hD
 have hDY : goodM p l = true → l.all (fun n => noDl n.1) = true → D = true := fun h1 h2 => by rw [hD, h1, h2]; rfl
 have hDN : l.all (fun n => noDl n.1) = false → D = false := fun h2 => by rw [hD, h2, Bool.and_false]
 have hDG : goodM p l = false → D = false := fun h2 => by rw [hD, h2]; rfl
 have hgl : goodM p l = true → m ≤ 400 := fun h1 => by
  unfold goodM at h1
  simp only [Bool.and_eq_true] at h1
  obtain ⟨t, hv⟩ := Option.isSome_iff_exists.1 h1.2.1
  unfold treeM at hv
  split at hv
  · omega
  · cases hv
 obtain ⟨g, hg⟩ : ∃ g, g = goodM p l := ⟨_, rfl⟩
 rw [← hg] at hC hDY hDG hgl
 clear h hD hT hg; have b0_h := lH b0; have k0_h := lH k0; have hC_h := lH hC; have hm_h := lH hm; have hr_h := lH hr; have hDY_h := lH hDY; have hDN_h := lH hDN; have hDG_h := lH hDG; have hgl_h := lH hgl; clear b0 k0 hC hm hr hDY hDN hDG hgl
 go_enter Tryz.func52, Tryz.ntmps52
 go_upto_region 1 with (fail)
 rw [← hW]
 clear hW
 go_wp2_with (fail)
 refine (hC_h.out).mono ?_
 rintro e w2 ⟨rfl, hb2⟩
 clear c0 f0
 have k2 := box_below k0_h.out hb2
 have hB2 := below_trans b0_h.out hb2 b0_h.out.size
 have hr2 := hr_h.out.below hb2
 obtain ⟨c0, f0⟩ := bx1_d k2
 clear hb2 k2
 cases g
 · have hfin := hDG_h.out rfl
   subst hfin
   have hB2_h := lH hB2; have hr2_h := lH hr2; clear hB2 hr2
   go_wp2_with (fail)
   go_ret
   exact ⟨rfl, hB2_h.out⟩
 · have hDY2 := hDY_h.out rfl
   have hl400 := hgl_h.out rfl
   have hB2_h := lH hB2; have hr2_h := lH hr2; have hDY2_h := lH hDY2; clear hB2 hr2 hDY2
   go_wp2_with (fail)
   go_loopw [14] (fun iv wr => ∃ k : Nat, k ≤ m ∧ iv = .int .i64 k ∧ (∀ (j : Nat) (n : Nd), l[j]? = some n → j < k → noDl n.1 = true) ∧ Below w2.heap.size w2 wr) (fun iv _ => m - (intOf iv).toNat)
   case atStart => exact ⟨0, Nat.zero_le _, rfl, fun j n _ h => (by omega), Below.refl _ _⟩
   case round =>
    clear c0 f0
    obtain ⟨k, hk, rfl, hnd, hbo⟩ := hrel
    obtain ⟨wo, rfl⟩ : ∃ x, x = wr := ⟨_, rfl⟩
    have hbWo := below_trans hB2_h.out hbo hB2_h.out.size
    by_cases hlt : k < m
    · obtain ⟨ad, κ, v, s, rfl, hn, d0, d1, d2⟩ := (hr2_h.out.below hbo).at_ (j := k) (by rw [← hm_h.out]; exact hlt)
      have hkI : (k : Int) < (m : Int) := by omega
      obtain ⟨wN, hwN⟩ : ∃ wN, wN = wo.alloc (.cells #[.int .i64 κ, .int .i64 v, .string s] 113) := ⟨_, rfl⟩
      have hbN : Below wo.heap.size wo wN := by rw [hwN]; exact below_alloc _ _
      have kN : wN.heap[wo.heap.size]? = some (.cells #[.int .i64 κ, .int .i64 v, .string s] 113) := by rw [hwN]; exact heap_alloc_new _ _
      have hTm := fun W' => isDelay_any κ W'
      have hb3 := below_trans hbo hbN hbo.size
      have hb4 := below_trans hbWo hbN hbWo.size
      obtain ⟨⟨e0, e1, e2⟩, e3, e4, e5⟩ := box3 kN
      by_cases hdl : noDl κ = true
      · simp only [hdl] at hTm
        have hnd' : ∀ (j : Nat) (n : Nd), l[j]? = some n → j < k + 1 → noDl n.1 = true := fun j n h2 h3 => by
         rcases Nat.lt_or_ge j k with h4 | h4
         · exact hnd j n h2 h4
         · obtain rfl : j = k := by omega
           rw [hn] at h2
           obtain rfl := Option.some.inj h2
           exact hdl
        clear hnd hn hdl kN hbN hbo hbWo; have hnd'_h := lH hnd'; have hTm_h := lH hTm; have hb3_h := lH hb3; have hb4_h := lH hb4; clear hnd' hTm hb3 hb4
        go_upto_region 6 with (fail)
        rw [← hwN]
        clear hwN d0 d1 d2
        go_wp2_with (fail)
        refine (hTm_h.out _).mono ?_
        rintro e w' ⟨rfl, hw'⟩
        subst hw'
        go_wp2_with (fail)
        go_roundw
        case rel => exact ⟨k + 1, by omega, by go_num, hnd'_h.out, hb3_h.out⟩
        case measure => simp [intOf]; omega
      · have hdl' : noDl κ = false := by simpa using hdl
        simp only [hdl'] at hTm
        have hno : l.all (fun n => noDl n.1) = false := by
         rw [List.all_eq_false]
         exact ⟨_, List.mem_of_getElem? hn, by simp [hdl']⟩
        have hfin := hDN_h.out hno
        subst hfin
        clear hnd hn hdl hdl' hno kN hbN hbo hbWo; have hTm_h := lH hTm; have hb3_h := lH hb3; have hb4_h := lH hb4; clear hTm hb3 hb4
        go_upto_region 6 with (fail)
        rw [← hwN]
        clear hwN d0 d1 d2
        go_wp2_with (fail)
        refine (hTm_h.out _).mono ?_
        rintro e w' ⟨rfl, hw'⟩
        subst hw'
        go_wp2_with (fail)
        go_ret
        exact ⟨rfl, hb4_h.out⟩
    · obtain rfl : m = k := by omega
      have hyes : l.all (fun n => noDl n.1) = true := by
       rw [List.all_eq_true]
       intro n hn
       obtain ⟨j, hj⟩ := List.mem_iff_getElem?.1 hn
       exact hnd j n hj (by rw [hm_h.out]; exact (List.getElem?_eq_some_iff.1 hj).1)
      have hfin := hDY2_h.out hyes
      subst hfin
      clear hnd hyes; have hbWo_h := lH hbWo; clear hbWo
      go_wp2_with (fail)
      go_ret
      exact ⟨rfl, hbWo_h.out⟩
theorem statB_parts {p : Int} {l : List Nd} (h : statB p l = true) : fieldB p = true ∧ (∃ t, treeM l = some t ∧ dnTmM p l = (den p t, true)) ∧ ∀ n, n ∈ l → okNd p n := by
 unfold statB at h
 simp only [Bool.and_eq_true] at h
 obtain ⟨hg, hnd⟩ := h
 have hg2 := hg
 unfold goodM at hg2
 simp only [Bool.and_eq_true] at hg2
 obtain ⟨hf, hsome, hover⟩ := hg2
 obtain ⟨t, hv⟩ := Option.isSome_iff_exists.1 hsome
 refine ⟨hf, ⟨t, hv, by unfold dnTmM; rw [hg, hnd, hv]; rfl⟩, fun n hn => ?_⟩
 have h1 := List.all_eq_true.1 hover n hn
 have h2 := List.all_eq_true.1 hnd n hn
 unfold noDl at h2
 simp only [Bool.and_eq_true, decide_eq_true_eq] at h2
 refine ⟨h2.1, h2.2, fun h7 => ?_⟩
 unfold overB hvB at h1
 simp [h7] at h1
 omega
theorem statB_no {p : Int} {l : List Nd} (h : statB p l = false) : dnTmM p l = ((0, 0, []), false) := by
 unfold statB at h
 unfold dnTmM
 rw [h]
 rfl
def digit (j : Nat) : UInt8 := UInt8.ofNat (48 + j % 10)
theorem digit_val (j : Nat) : ((digit j).toNat : Int) = 48 + (j : Int) % 10 := by
 unfold digit
 rw [UInt8.toNat_ofNat']
 omega
def mkGo : Nat → Nat → ByteArray → ByteArray
 | 0, _, o => o
 | f + 1, j, o => if j = 0 then o else mkGo f (j / 10) (⟨#[digit j]⟩ ++ o)
def mkT (k : Nat) : ByteArray := ⟨#[109]⟩ ++ mkGo k k ⟨#[]⟩
theorem mkGo_zero (f : Nat) (o : ByteArray) : mkGo f 0 o = o := by cases f <;> simp [mkGo]
set_option maxRecDepth 20000 in
set_option maxHeartbeats 1000000 in
theorem markText_any (k : Nat) (hk : 0 < k) (hb : k ≤ 17592186044416) (w : World) :
  Calls Tryz.prog 97 #[.int .i64 k] w fun e w' => e = .returned (.string (mkT k)) ∧ Below w.heap.size w w' := by
 have h0 : ¬ ((k : Int) ≤ 0) := by omega
 obtain ⟨R, hR⟩ : ∃ R, R = mkGo k k ⟨#[]⟩ := ⟨_, rfl⟩
 have hT : mkT k = ⟨#[109]⟩ ++ R := by rw [hR]; rfl
 rw [hT]
 have hR_h := lH hR; have hT_h := lH hT; clear hR hT
 go_enter Tryz.func97, Tryz.ntmps97
 go_wp2_with (fail)
 go_loopw [0, 3] (fun kv ov wr => ∃ (f j : Nat) (o : ByteArray), j ≤ f ∧ o.size + j ≤ 17592186044416 ∧ kv = .int .i64 j ∧ ov = .string o ∧ mkGo f j o = R ∧ Below w.heap.size w wr) (fun kv _ _ => (intOf kv).toNat)
 case atStart => exact ⟨k, k, ⟨#[]⟩, Nat.le_refl _, by show 0 + k ≤ _; omega, rfl, rfl, hR_h.out.symm, Below.refl _ _⟩
 case round =>
  obtain ⟨f, j, o, hf, hj, rfl, rfl, hgo, hbl⟩ := hrel
  by_cases hj0 : 0 < j
  · obtain ⟨f, rfl⟩ : ∃ f', f = f' + 1 := ⟨f - 1, by omega⟩
    have hgo' : mkGo f (j / 10) (⟨#[digit j]⟩ ++ o) = R := by rw [← hgo]; show _ = (if j = 0 then _ else _); rw [if_neg (by omega)]
    have hjI : (0 : Int) < (j : Int) := by omega
    have hcv : (convert 152 9 (.slice (some ⟨wr.heap.size, 0, none⟩) 1 1)).run Tryz.prog (wr.alloc (.cells #[.int .u8 (48 + (j : Int) % 10)] 5)) = .ok (.string ⟨#[digit j]⟩) (wr.alloc (.cells #[.int .u8 (48 + (j : Int) % 10)] 5)) := by
     have := run_convert_bytes_back (P := Tryz.prog) (wr.alloc (.cells #[.int .u8 (48 + (j : Int) % 10)] 5)) 152 9 5 ⟨wr.heap.size, 0, none⟩ 1 [digit j] Tryz.underlying152 Tryz.underlying5 Tryz.underlying9 (fun i hi => by
      have : i = 0 := by simp at hi; exact hi
      subst this
      simp only [List.getElem_cons_zero, digit_val]
      exact (bx1 (heap_alloc_new wr _)).1)
     exact this
    have hbl2 := below_trans hbl (t_below_alloc wr (.cells #[.int .u8 (48 + (j : Int) % 10)] 5)) hbl.size
    have hgo_h := lH hgo; have hgo'_h := lH hgo'; have hbl2_h := lH hbl2; clear hgo hgo' hbl2
    go_wp2_with (fail)
    go_roundw
    case rel => exact ⟨f, j / 10, _, by omega, by show (⟨#[digit j]⟩ ++ o : ByteArray).size + _ ≤ _; rw [ByteArray.size_append]; show 1 + o.size + _ ≤ _; omega, by go_num, rfl, hgo'_h.out, hbl2_h.out⟩
    case measure => simp [intOf]; omega
  · obtain rfl : j = 0 := by omega
    have : o = R := by rw [← hgo, mkGo_zero]
    subst this
    have hgo_h := lH hgo; clear hgo
    go_wp2_with (fail)
    go_ret
    exact ⟨rfl, hbl⟩
def mkN (k : Nat) : Nd := ((k : Int), (k : Int) + 1, mkT (k + 2))
def marksN (k n : Nat) : List Nd := (List.range n).map fun i => mkN (k + 3 * i)
@[simp] theorem marksN_length (k n : Nat) : (marksN k n).length = n := by simp [marksN]
theorem marksN_get {k n j : Nat} (h : j < n) : (marksN k n)[j]? = some (mkN (k + 3 * j)) := by simp [marksN, h]
set_option maxRecDepth 8000 in
set_option maxHeartbeats 1000000 in
theorem markNodeS_any (A : Option Addr) (c : Nat) (l : List Nd) (k : Nat) (w : World) (h : NS w A c l) (hk0 : 0 < k) (hl : k + 3 * l.length ≤ 17592186044000) :
  Calls Tryz.prog 55 #[.slice A l.length c, .int .i64 k] w fun e w' => e = .returned (.int .i64 ((k + 3 * l.length : Nat) : Int)) ∧ NS w' A c (marksN k l.length) ∧ Keeps (· ∈ fpA A) w w' := by
 obtain ⟨m, hm⟩ : ∃ m, m = l.length := ⟨_, rfl⟩
 rw [← hm] at hl ⊢
 have hm_h := lH hm; clear hm
 go_enter Tryz.func55, Tryz.ntmps55
 go_wp2_with (fail)
 go_loopw [1, 5] (fun q i wr => ∃ j x : Nat, j ≤ m ∧ x = k + 3 * j ∧ i = .int .i64 j ∧ q = .int .i64 (x : Int) ∧ NS wr A c ((marksN k m).take j ++ l.drop j) ∧ Keeps (· ∈ fpA A) w wr) (fun _ i _ => m - (intOf i).toNat)
 case atStart => exact ⟨0, k, Nat.zero_le _, rfl, rfl, rfl, by simpa using h, Keeps.refl _ _⟩
 case round =>
  obtain ⟨j, x, hj, hx, rfl, rfl, his, hkp⟩ := hrel
  have hlen : ((marksN k m).take j ++ l.drop j).length = m := by have := hm_h.out; simp; omega
  have hxb : x ≤ 17592186044000 := by omega
  have hx0 : 0 < x := by omega
  by_cases hlt : j < m
  · have hjI : (j : Int) < (m : Int) := by omega
    obtain ⟨ad, hA, g0, g1, g2⟩ := his.free (j := j) (by omega)
    subst hA
    obtain ⟨_, κ, v, s, hA', hn, d0, d1, d2⟩ := his.rd.at_ (j := j) (by omega)
    obtain rfl := Option.some.inj hA'
    obtain ⟨⟨xm1, m1⟩, n1, ⟨xm2, m2⟩, n2⟩ := his.mid (j := j) (x : Int) ((x : Int) + 1) (by omega)
    have hcl : (ncs ((marksN k m).take j ++ l.drop j)).length = m * 3 := by rw [ncs_length, hlen]
    have s1 := Sl.set his rfl (j * 3) (.int .i64 (x : Int)) (by omega)
    have s2 := Sl.set s1 rfl (j * 3 + 1) (.int .i64 ((x : Int) + 1)) (by rw [List.length_set]; omega)
    rw [add_next ad (j * 3) 1 (by omega)] at s2
    have hk2 : Keeps (· ∈ fpA (some ad)) w ((wr.setCell (ad.add (j * 3)) (.int .i64 (x : Int))).setCell ⟨(ad.add (j * 3)).block, (ad.add (j * 3)).off + 1, none⟩ (.int .i64 ((x : Int) + 1))) :=
     (hkp.setCell (p := ad.add (j * 3)) (by rw [block_of_add]; simp) _).setCell (p := ⟨(ad.add (j * 3)).block, (ad.add (j * 3)).off + 1, none⟩) (by show (ad.add (j * 3)).block ∈ _; rw [block_of_add]; simp) _
    have hMT := markText_any (x + 2) (by omega) (by omega)
    have hset := ncs_set (l := (marksN k m).take j ++ l.drop j) (j := j) (mkN x) (by omega)
    have htr : ((marksN k m).take j ++ l.drop j).set j (mkN x) = (marksN k m).take (j + 1) ++ l.drop (j + 1) := take_append_step (by have := hm_h.out; simp; omega) (by rw [marksN_get hlt, hx])
    rw [htr] at hset
    have s1_h := lH s1; have s2_h := lH s2; have hk2_h := lH hk2; have hcl_h := lH hcl; have hlen_h := lH hlen; have hn_h := lH hn; have his_h := lH his; have hkp_h := lH hkp; have hMT_h := lH hMT; have hset_h := lH hset; have htr_h := lH htr; have hx_h := lH hx; clear s1 s2 hk2 hcl hlen hn his hkp hMT hset htr hx; clear h hA'
    go_wp2_with (fail)
    rw [show ((x : Int) + 1 + 1) = ((x + 2 : Nat) : Int) by omega]
    refine (hMT_h.out _).mono ?_
    rintro e w2 ⟨rfl, hb2⟩
    have s2' := s2_h.out.below hb2
    have s3 := Sl.set s2' rfl (j * 3 + 2) (.string (mkT (x + 2))) (by rw [List.length_set, List.length_set]; have := hcl_h.out; omega)
    obtain ⟨a3, h3, _, c3, f3⟩ := Sl.cell s2' (j := j * 3 + 2) (u := _) (List.getElem?_eq_getElem (by rw [List.length_set, List.length_set]; have := hcl_h.out; omega))
    obtain rfl := Option.some.inj h3
    have f3 := f3 (j * 3 + 2)
    rw [add_next ad (j * 3) 2 (by omega)] at s3 c3 f3
    rw [show (((ncs ((marksN k m).take j ++ l.drop j)).set (j * 3) (.int .i64 (x : Int))).set (j * 3 + 1) (.int .i64 ((x : Int) + 1))).set (j * 3 + 2) (.string (mkT (x + 2))) = ncs ((marksN k m).take (j + 1) ++ l.drop (j + 1)) from hset_h.out] at s3
    have hl2 : ((marksN k m).take j ++ l.drop j).length = ((marksN k m).take (j + 1) ++ l.drop (j + 1)).length := by have := hm_h.out; simp; omega
    rw [hl2] at s3
    have hk3 := ((hk2_h.out.trans (Keeps.of_below hb2 _)).setCell (p := ⟨(ad.add (j * 3)).block, (ad.add (j * 3)).off + 2, none⟩) (by show (ad.add (j * 3)).block ∈ _; rw [block_of_add]; simp) (.string (mkT (x + 2))))
    have s3_h := lH s3; have hk3_h := lH hk3; have hl2_h := lH hl2; clear s3 hk3 hl2; clear s2' h3
    go_wp2_with (fail)
    go_roundw
    case rel => exact ⟨j + 1, x + 3, by omega, by have := hx_h.out; omega, by go_num, by go_num, s3_h.out, hk3_h.out⟩
    case measure => simp [intOf]; omega
  · obtain rfl : j = m := by omega
    have hfin : NS wr A c (marksN k j) := by rw [List.take_of_length_le (by simp), List.drop_of_length_le (by rw [← hm_h.out]; omega), List.append_nil] at his; exact his
    have his_h := lH his; have hfin_h := lH hfin; have hkp_h := lH hkp; have hlen_h := lH hlen; have hx_h := lH hx; clear his hfin hkp hlen hx; clear h
    go_wp2_with (fail)
    go_ret
    refine ⟨ret_int (by have := hx_h.out; omega), ?_, hkp_h.out⟩
    exact hfin_h.out
def cntN (l : List Nd) : Nat := 3 * l.length
def OkN (l : List Nd) : Prop := l.length ≤ 1048576 ∧ True ∧ cntN l ≤ 3145728
theorem OkN.of {l : List Nd} (h : l.length ≤ 1048576) : OkN l := ⟨h, trivial, by unfold cntN; omega⟩
theorem szN_ok {l : List Nd} {left : Int} (h : 0 ≤ szNS l left) (h1 : left ≤ 1048576) : OkN l ∧ szNS l left ≤ left := ⟨.of (szNS_ok h h1).1, (szNS_ok h h1).2⟩
def HeTm (w : World) (v : Value) (l : List Nd) (k : Nat) (fp : List Nat) : Prop := ∃ A cap, v = .agg #[.slice A l.length cap] ∧ NS w A cap (marksN k l.length) ∧ fp = fpA A
section
variable {w w' : World} {v v' : Value} {l l' : List Nd} {k : Nat} {fp : List Nat} {K : Int}
theorem HeTm.below (h : HeTm w v l k fp) (hb : Below w.heap.size w w') : HeTm w' v l k fp := by obtain ⟨A, c, rfl, h, e⟩ := h; exact ⟨A, c, rfl, h.below hb, e⟩
theorem HeTm.keeps (h : HeTm w v l k fp) {S : Nat → Prop} (hk : Keeps S w w') (hS : ∀ b, b ∈ fp → ¬ S b) : HeTm w' v l k fp := by obtain ⟨A, c, rfl, h, rfl⟩ := h; exact ⟨A, c, rfl, h.keeps hk hS, rfl⟩
theorem RdTm.shape (h : RdTm w v l) : ∃ A n c, v = .agg #[.slice A n c] := by obtain ⟨A, c, rfl, _⟩ := h; exact ⟨A, _, c, rfl⟩
theorem OwTm.shape (h : OwTm w v l fp) : ∃ A n c, v = .agg #[.slice A n c] := h.rd.shape
theorem szTerm_law (left : Int) (h : RdTm w v l) (hB : BigTm l) (h0 : 0 ≤ left) (h1 : left ≤ 1048576) :
  Calls Tryz.prog 22 #[v, .int .i64 left] w fun e w' => e = .returned (.int .i64 (szNS l left)) ∧ Below w.heap.size w w' := szTerm_any left h hB h0 h1
theorem toTerm_law (h : RdTm w v l) (ok : OkN l) :
  Calls Tryz.prog 24 #[v] w fun e w' => ∃ v' fp, e = .returned v' ∧ OwTm w' v' l fp ∧ FreshL w.heap.size fp ∧ Below w.heap.size w w' := toTerm_any h ok.1
theorem eqTerm_law (h : RdTm w v l) (h' : RdTm w v' l') (ok : OkN l) :
  Calls Tryz.prog 26 #[v, v'] w fun e w' => e = .returned (.bool (decide (l = l'))) ∧ Below w.heap.size w w' := by
 refine (eqTerm_any h h' ok.1).mono ?_
 rintro e w1 ⟨b, rfl, hb, hb1⟩
 refine ⟨ret_bool ?_, hb1⟩
 rw [Bool.eq_iff_iff, hb]; simp
set_option maxHeartbeats 400000 in
theorem markTerm_law (k : Nat) (h : OwTm w v l fp) (hK : K = (k : Int)) (_ok : OkN l) (hl : k + cntN l ≤ 17592186044000 ∧ 0 < k) :
  Calls Tryz.prog 27 #[v, .int .i64 K] w fun e w' => e = .returned (.int .i64 (K + (cntN l : Int))) ∧ HeTm w' v l k fp ∧ Keeps (· ∈ fp) w w' := by
 obtain ⟨A, c, rfl, h, rfl⟩ := h
 subst hK
 have hb := t_below_alloc w (.cells #[.slice A l.length c] 54)
 have hC := markNodeS_any A c l k _ (h.below hb) hl.2 (by have := hl.1; unfold cntN at this; exact this)
 obtain ⟨m, hm⟩ : ∃ m, m = l.length := ⟨_, rfl⟩
 have hcn : cntN l = 3 * m := by rw [hm]; rfl
 rw [hcn]
 rw [← hm] at hC hb ⊢
 obtain ⟨x, hx⟩ : ∃ x, x = k + 3 * m := ⟨_, rfl⟩
 rw [← hx] at hC
 have hC_h := lH hC; have hm_h := lH hm; have hcn_h := lH hcn; have hb_h := lH hb; have hx_h := lH hx; clear hC hm hcn hb hx; clear h hl
 go_enter Tryz.func27, Tryz.ntmps27
 go_wp2_with (fail)
 refine (hC_h.out).mono ?_
 rintro e w1 ⟨rfl, hN, hk⟩
 go_wp2_with (fail)
 go_ret
 exact ⟨ret_int (by have := hx_h.out; omega), ⟨A, c, by rw [hm_h.out], by rw [← hm_h.out]; exact hN, rfl⟩, (Keeps.of_below hb_h.out _).trans hk⟩
end
theorem okTr_flat {p : Int} : ∀ {t : Tr}, wt t → (∀ n, n ∈ flat t → okNd p n) → okTr p t
 | .leaf n, hw, h => ⟨hw, h n (by simp [flat])⟩
 | .node q a b, hw, h => ⟨okTr_flat hw.1 fun n hn => h n (by simp [flat, hn]), okTr_flat hw.2.1 fun n hn => h n (by simp [flat, hn])⟩
theorem statB_rel {p : Int} {l : List Nd} (h : statB p l = true) : RelOk p (dnTmM p l).1 ∧ (dnTmM p l).2 = true := by
 obtain ⟨hf, ⟨t, hv, hd⟩, hok⟩ := statB_parts h
 rw [hd]
 obtain ⟨rfl, hw, _⟩ := treeM_some hv
 exact ⟨(den_ok hf hw (okTr_flat hw hok)).1, rfl⟩
theorem RelOk.okR {p : Int} {s : Sys} (h : RelOk p s) : OkR s.2.2 := by
 have h1 := h.lo; have h2 := h.hi; have h3 := h.sum; have h4 := h.len
 exact okR_mat h.mat (by omega) (by omega)
theorem RelOk.relB {p : Int} {s : Sys} (h : RelOk p s) : relB p s = true := by
 have h1 := h.lo; have h2 := h.hi; have h3 := h.sum; have h4 := h.len
 unfold Go.Proofs.YtahnhblodfdfhaaGreatDoor.relB redB rowsB
 simp only [Bool.and_eq_true, decide_eq_true_eq, List.all_eq_true]
 refine ⟨⟨h1, by omega⟩, ⟨h2, by omega⟩, h.fld, h4, fun v hv => ?_, h.red⟩
 have := h.row hv
 exact ⟨this.1, inB_iff.2 fun x hx => by have := this.2 x hx; omega⟩
def mtM (p : Int) (l : List Nd) : (Int × List (List Int)) × Bool := if statB p l then funM p (dnTmM p l).1 else ((0, []), false)
theorem mtM_ok (p : Int) (l : List Nd) : OkR (mtM p l).1.2 := by
 unfold mtM
 split
 · exact funM_ok
 · exact okR_nil
set_option maxRecDepth 100000 in
set_option maxHeartbeats 4000000 in
theorem sMatrixOfTerm_law (p : Int) {v : Value} {l : List Nd} {w : World} (h : RdTm w v l) (_ok : OkN l) :
  Calls Tryz.prog 28 #[.int .i64 p, v] w fun e w' => ∃ v' fp, e = .returned (.tuple #[v', .bool (mtM p l).2]) ∧ OwMt w' v' (mtM p l).1 fp ∧ FreshL w.heap.size fp ∧ Below w.heap.size w w' := by
 obtain ⟨A, c, rfl, h⟩ := h
 obtain ⟨m, hm⟩ : ∃ m, m = l.length := ⟨_, rfl⟩
 obtain ⟨W, hW, b0, k0, k1⟩ := alloc2 w (.cells #[.slice A m c] tTerm) (.cells #[.int .i64 0, .slice none 0 0] tMat)
 have hC := dnTerm_any p (v := .agg #[.slice A m c]) (l := l) W ⟨A, c, by rw [hm], h.below b0⟩
 obtain ⟨c0, f0⟩ := bx1_d k0
 rw [← hm]
 obtain ⟨D, hD⟩ : ∃ D, D = mtM p l := ⟨_, rfl⟩
 rw [← hD]
 unfold mtM at hD
 by_cases hs : statB p l = true
 · obtain ⟨hrel, htt⟩ := statB_rel hs
   rw [if_pos hs] at hD
   obtain ⟨R, hR⟩ : ∃ R, R = (dnTmM p l).1 := ⟨_, rfl⟩
   rw [← hR] at hrel hD hC
   rw [htt] at hC
   have hF := fun (W' : World) (v : Value) (fp : List Nat) (hO : OwSys W' v R fp) => sFunctionOf_law p hO hrel.okR
   rw [← hD] at hF
   clear h hs htt hrel hR; have hC_h := lH hC; have hm_h := lH hm; have b0_h := lH b0; have k0_h := lH k0; have k1_h := lH k1; have hF_h := lH hF; have hD_h := lH hD; clear hC hm b0 k0 k1 hF hD
   go_enter Tryz.func28, Tryz.ntmps28
   go_upto_region 1 with (fail)
   rw [← hW]
   clear hW
   go_wp2_with (fail)
   refine (hC_h.out).mono ?_
   rintro e w2 ⟨v2, fp, rfl, hO, hf2, hb2⟩
   obtain ⟨A2, n2, c2, rfl⟩ := hO.shape
   obtain ⟨w3, hw3⟩ : ∃ w3, w3 = w2.alloc (.cells #[.int .i64 R.1, .int .i64 R.2.1, .slice A2 n2 c2] tRelD) := ⟨_, rfl⟩
   have hal : Below w2.heap.size w2 w3 := by rw [hw3]; exact below_alloc _ _
   have kr : w3.heap[w2.heap.size]? = some (.cells #[.int .i64 R.1, .int .i64 R.2.1, .slice A2 n2 c2] tRelD) := by rw [hw3]; exact heap_alloc_new _ _
   have hO3 := hO.below hal
   have hC3 := hF_h.out w3 _ _ hO3
   have hb3 := below_trans hb2 hal hb2.size
   have hB3 := below_trans b0_h.out hb3 b0_h.out.size
   have hl1 := box_lt k1_h.out
   have hz3 := hb3.size
   replace k1_h := lH (box_below k1_h.out hb3)
   obtain ⟨⟨y0, y1, y2⟩, y3, y4, y5⟩ := box3 kr
   clear hO hf2 hb2 hal hO3 hb3 c0 f0; have hC3_h := lH hC3; have hB3_h := lH hB3; clear hC3 hB3
   go_upto_region 2 with (fail)
   rw [← hw3]
   clear hw3
   go_wp2_with (fail)
   refine (hC3_h.out).mono ?_
   rintro e w4 ⟨v4, fp4, rfl, hO4, hf4, hb4⟩
   obtain ⟨A4, n4, c4, rfl⟩ := hO4.shape
   replace k1_h := lH (box_below k1_h.out hb4)
   obtain ⟨⟨d0, d1⟩, g0, g1⟩ := box2 k1_h.out
   obtain ⟨s1, s2⟩ := set2 (a := .int .i64 D.1.1) (b := .slice A4 n4 c4) k1_h.out
   have hB8 := below_trans hB3_h.out hb4 hB3_h.out.size
   have hB9 := below_keeps hB8 s2 hB8.size (fun k hk => by omega)
   have hO8 := hO4.keeps s2 (fun k hk e => by have := hf4 k hk; omega)
   have hf8 := hf4.mono hB3_h.out.size
   clear hB8 hO4 hf4 hb4; have s1_h := lH s1; have s2_h := lH s2; have hB9_h := lH hB9; have hO8_h := lH hO8; have hf8_h := lH hf8; clear s1 s2 hB9 hO8 hf8
   go_wp2_with (fail)
   refine bodyPost_ret (results_cell_tmp rfl _ _ (w.heap.size + 1) _ _ (0, 0) _ rfl s1_h.out Tryz.underlying60 rfl (by kernel_rfl)) rfl ?_
   exact ⟨_, fp4, rfl, hO8_h.out, hf8_h.out, hB9_h.out⟩
 · have hs' : statB p l = false := by simpa using hs
   rw [if_neg hs] at hD
   rw [statB_no hs'] at hC
   subst hD
   clear h hs hs'; have hC_h := lH hC; have hm_h := lH hm; have b0_h := lH b0; have k0_h := lH k0; have k1_h := lH k1; clear hC hm b0 k0 k1
   go_enter Tryz.func28, Tryz.ntmps28
   go_upto_region 1 with (fail)
   rw [← hW]
   clear hW
   go_wp2_with (fail)
   refine (hC_h.out).mono ?_
   rintro e w2 ⟨v2, fp, rfl, hO, hf2, hb2⟩
   obtain ⟨A2, n2, c2, rfl⟩ := hO.shape
   obtain ⟨w3, hw3⟩ : ∃ w3, w3 = w2.alloc (.cells #[.int .i64 0, .int .i64 0, .slice A2 n2 c2] tRelD) := ⟨_, rfl⟩
   have hal : Below w2.heap.size w2 w3 := by rw [hw3]; exact below_alloc _ _
   have hb3 := below_trans hb2 hal hb2.size
   have hB3 := below_trans b0_h.out hb3 b0_h.out.size
   have hl1 := box_lt k1_h.out
   replace k1_h := lH (box_below k1_h.out hb3)
   obtain ⟨⟨d0, d1⟩, g0, g1⟩ := box2 k1_h.out
   obtain ⟨s1, s2⟩ := set2 (a := .int .i64 0) (b := .slice none 0 0) k1_h.out
   have hB9 := below_keeps hB3 s2 hB3.size (fun k hk => by omega)
   clear hO hf2 hb2 hal hb3 c0 f0 hB3; have s1_h := lH s1; have s2_h := lH s2; have hB9_h := lH hB9; clear s1 s2 hB9
   go_upto_region 2 with (fail)
   first
   | rw [← hw3]
   | (change Code.wp _ _ _ _ (w2.alloc (.cells #[.int .i64 0, .int .i64 0, .slice A2 n2 c2] tRelD)); rw [← hw3])
   clear hw3
   go_wp2_with (fail)
   refine bodyPost_ret (results_cell_tmp rfl _ _ (w.heap.size + 1) _ _ (0, 0) _ rfl s1_h.out Tryz.underlying60 rfl (by kernel_rfl)) rfl ?_
   exact ⟨_, [], rfl, OwMt.zero _ 0, FreshL.nil _, hB9_h.out⟩
set_option maxRecDepth 100000 in
set_option maxHeartbeats 4000000 in
theorem iMatrixOfTerm_law (p : Int) {v : Value} {l : List Nd} {w : World} (h : RdTm w v l) (_ok : OkN l) (hT : Tab w) :
  Calls Tryz.prog 29 #[.int .i64 p, v] w fun e w' => ∃ v' fp, e = .returned (.tuple #[v', .bool (mtM p l).2]) ∧ OwMt w' v' (mtM p l).1 fp ∧ FreshL w.heap.size fp ∧ Below w.heap.size w w' := by
 obtain ⟨A, c, rfl, h⟩ := h
 obtain ⟨m, hm⟩ : ∃ m, m = l.length := ⟨_, rfl⟩
 obtain ⟨W, hW, b0, k0, k1⟩ := alloc2 w (.cells #[.slice A m c] tTerm) (.cells #[.int .i64 0, .slice none 0 0] tMat)
 have hr : RdTm W (.agg #[.slice A m c]) l := ⟨A, c, by rw [hm], h.below b0⟩
 have hC := isStatic_any p W hr (hT.below b0 hT.lt)
 obtain ⟨c0, f0⟩ := bx1_d k0
 rw [← hm]
 obtain ⟨D, hD⟩ : ∃ D, D = mtM p l := ⟨_, rfl⟩
 rw [← hD]
 unfold mtM at hD
 by_cases hs : statB p l = true
 · obtain ⟨hf, ⟨t, hv, hd⟩, hok⟩ := statB_parts hs
   have hrel := (statB_rel hs).1
   rw [if_pos hs] at hD
   rw [hd] at hrel hD
   have hE := fun W' (hb : Below W.heap.size W W') => denote_any p W' ⟨A, c, by rw [hm], (h.below b0).below hb⟩ hf hv hok (v := .agg #[.slice A m c])
   rw [hs] at hC
   obtain ⟨R, hR⟩ : ∃ R, R = den p t := ⟨_, rfl⟩
   simp only [← hR] at hE hD hrel
   have hF := fun (W' : World) (v : Value) (fp : List Nat) (hO : OwSys W' v R fp) => functionOf_any p W' hO hrel
   rw [funM_eq, hrel.relB, if_pos rfl] at hD
   rw [← hD] at hF
   clear h hT hs hf hv hd hok hr hR hrel; have b0_h := lH b0; have k0_h := lH k0; have k1_h := lH k1; have hC_h := lH hC; have hm_h := lH hm; have hE_h := lH hE; have hF_h := lH hF; have hD_h := lH hD; clear b0 k0 k1 hC hm hE hF hD
   go_enter Tryz.func29, Tryz.ntmps29
   go_upto_region 1 with (fail)
   rw [← hW]
   clear hW
   go_wp2_with (fail)
   refine (hC_h.out).mono ?_
   rintro e w2 ⟨rfl, hb2⟩
   clear c0 f0
   replace k0_h := lH (box_below k0_h.out hb2)
   replace k1_h := lH (box_below k1_h.out hb2)
   have hB2 := below_trans b0_h.out hb2 b0_h.out.size
   obtain ⟨c0, f0⟩ := bx1_d k0_h.out
   have hb2_h := lH hb2; have hB2_h := lH hB2; clear hb2 hB2
   go_wp2_with (fail)
   refine (hE_h.out w2 hb2_h.out).mono ?_
   rintro e w3 ⟨v3, fp, rfl, hO, hf3, hb3⟩
   obtain ⟨A9, n9, c9, rfl⟩ := hO.shape
   have hC3 := hF_h.out w3 _ _ hO
   have hB3 := below_trans hB2_h.out hb3 hB2_h.out.size
   have hl1 := box_lt k1_h.out
   have hz3 := hb3.size
   replace k1_h := lH (box_below k1_h.out hb3)
   clear hO hf3 hb3; have hC3_h := lH hC3; have hB3_h := lH hB3; clear hC3 hB3
   go_wp2_with (fail)
   refine (hC3_h.out).mono ?_
   rintro e w4 ⟨v4, fp4, rfl, hO4, hf4, hb4⟩
   obtain ⟨A4, n4, c4, rfl⟩ := hO4.shape
   replace k1_h := lH (box_below k1_h.out hb4)
   obtain ⟨⟨d0, d1⟩, g0, g1⟩ := box2 k1_h.out
   obtain ⟨s1, s2⟩ := set2 (a := .int .i64 D.1.1) (b := .slice A4 n4 c4) k1_h.out
   have hB8 := below_trans hB3_h.out hb4 hB3_h.out.size
   have hB9 := below_keeps hB8 s2 hB8.size (fun k hk => by omega)
   have hO8 := hO4.keeps s2 (fun k hk e => by have := hf4 k hk; omega)
   have hf8 := hf4.mono hB3_h.out.size
   clear hB8 hO4 hf4 hb4; have s1_h := lH s1; have s2_h := lH s2; have hB9_h := lH hB9; have hO8_h := lH hO8; have hf8_h := lH hf8; clear s1 s2 hB9 hO8 hf8
   go_wp2_with (fail)
   refine bodyPost_ret (results_cell_tmp rfl _ _ (w.heap.size + 1) _ _ (0, 0) _ rfl s1_h.out Tryz.underlying60 rfl (by kernel_rfl)) rfl ?_
   exact ⟨_, fp4, rfl, hO8_h.out, hf8_h.out, hB9_h.out⟩
 · have hs' : statB p l = false := by simpa using hs
   rw [if_neg hs] at hD
   rw [hs'] at hC
   subst hD
   clear h hT hs hs' hr; have b0_h := lH b0; have k0_h := lH k0; have k1_h := lH k1; have hC_h := lH hC; have hm_h := lH hm; clear b0 k0 k1 hC hm
   go_enter Tryz.func29, Tryz.ntmps29
   go_upto_region 1 with (fail)
   rw [← hW]
   clear hW
   go_wp2_with (fail)
   refine (hC_h.out).mono ?_
   rintro e w2 ⟨rfl, hb2⟩
   clear c0 f0
   have hl1 := box_lt k1_h.out
   replace k0_h := lH (box_below k0_h.out hb2)
   replace k1_h := lH (box_below k1_h.out hb2)
   have hB2 := below_trans b0_h.out hb2 b0_h.out.size
   obtain ⟨⟨d0, d1⟩, g0, g1⟩ := box2 k1_h.out
   obtain ⟨s1, s2⟩ := set2 (a := .int .i64 0) (b := .slice none 0 0) k1_h.out
   have hB9 := below_keeps hB2 s2 hB2.size (fun k hk => by omega)
   clear hb2; have hB2_h := lH hB2; have s1_h := lH s1; have s2_h := lH s2; have hB9_h := lH hB9; clear hB2 s1 s2 hB9
   go_wp2_with (fail)
   refine bodyPost_ret (results_cell_tmp rfl _ _ (w.heap.size + 1) _ _ (0, 0) _ rfl s1_h.out Tryz.underlying60 rfl (by kernel_rfl)) rfl ?_
   exact ⟨_, [], rfl, OwMt.zero _ 0, FreshL.nil _, hB9_h.out⟩
end Go.Proofs.YtahnhblodfdfhaaGreatDoor
namespace Go.Proofs.YtahnhblodfdfhaaGreatDoor
open Go.ChangeShapes Go.WideShapes Go.ChangeAt Go.RowKit
theorem gTab : Tryz.prog.globalNamed "loop.example/g01073/impl.smallPrimes" = some 0 := by kernel_rfl
theorem gTabType : (Tryz.prog.globals[0]?).map (·.type) = some 159 := by kernel_rfl
theorem cellsTab : Tryz.prog.cellsOf 159 = 4 := by kernel_rfl
theorem tab_of_laid {W : World} (h : laidMetH Tryz.prog [("loop.example/g01073/impl.smallPrimes", Rows.laid_loop_example_g01073_impl_smallPrimes)] W) : Tab W := by
 have ht : Lib.TabIs Tryz.prog W "loop.example/g01073/impl.smallPrimes" .i64 [2, 3, 5, 7] :=
  Lib.tabIs_of_head (rest := []) gTab gTabType Tryz.underlying159 Tryz.underlying3 cellsInt cellsTab h
 exact ⟨ht.cell gTab 0 (by decide), ht.cell gTab 1 (by decide), ht.cell gTab 2 (by decide), ht.cell gTab 3 (by decide)⟩
theorem vars_ok : ∀ n ∈ ["loop.example/g01073/impl.smallPrimes"], ∀ g t, Tryz.prog.globalNamed n = some g → (Tryz.prog.globals[g]?).map (·.type) = some t → Tryz.prog.readableRec t = true ∧ t < Tryz.prog.types.size := by
 intro n hn g t h1 h2
 obtain rfl := List.mem_singleton.1 hn
 obtain rfl := Option.some.inj (gTab.symm.trans h1)
 obtain rfl := Option.some.inj (gTabType.symm.trans h2)
 exact ⟨by kernel_rfl, of_decide_eq_true (by kernel_rfl)⟩
noncomputable def laidWorld (os : Os) : World :=
 { World.holding Tryz.prog os ⟨#[], #[], []⟩ with heap := (World.holding Tryz.prog os ⟨#[], #[], []⟩).heap.modify 0 fun
   | .cells _ t frozen => .cells #[.int .i64 2, .int .i64 3, .int .i64 5, .int .i64 7] t frozen
   | o => o }
theorem laid_met (os : Os) (args : Array Value) : laidMet Tryz.prog [("loop.example/g01073/impl.smallPrimes", Rows.laid_loop_example_g01073_impl_smallPrimes)] ((laidWorld os).forCall (fun _ _ => 0) ⟨#[], args, []⟩).memory :=
 laidMet_of_run' 8 (by kernel_rfl) (by kernel_rfl)
end Go.Proofs.YtahnhblodfdfhaaGreatDoor
namespace Go.Proofs.YtahnhblodfdfhaaGreatDoor
open Go.RowKit
set_option maxHeartbeats 1000000 in
theorem eqMatrix_law {v v' : Value} {s t : Mt} {w : World} (h : RdMtV w v s) (h' : RdMtV w v' t) (ok : OkR s.2) :
  Calls Tryz.prog 30 #[v, v'] w fun e w' => e = .returned (.bool (decide (s = t))) ∧ Below w.heap.size w w' := by
 obtain ⟨hn, hr, _⟩ := ok
 obtain ⟨A, c, hs, rfl, hL, hR⟩ := h
 obtain ⟨B, d, gs, rfl, hM, hS⟩ := h'
 obtain ⟨a1, L⟩ := s
 obtain ⟨a2, M⟩ := t
 have hL' : L = hs.map (fun h : Hd => h.2.2) := hL
 have hM' : M = gs.map (fun h : Hd => h.2.2) := hM
 subst hL' hM'
 have hb : Below w.heap.size w ((w.alloc (.cells #[.int .i64 a1, .slice A hs.length c] 60)).alloc (.cells #[.int .i64 a2, .slice B gs.length d] 60)) :=
  ((Below.refl _ _).alloc (Nat.le_refl _) _).alloc (by simp) _
 have hC := eqIntSS_any A B c d hs gs _ (hR.below hb) (hS.below hb) (by have : (hs.map fun h : Hd => h.2.2).length ≤ 1048576 := hn; simp at this; omega) (fun x hx => by have := hr _ (List.mem_map_of_mem hx); omega)
 have HC := lH hC; clear hC hL hM hR hS hr
 by_cases e0 : a1 = a2
 · have h0 : (a1 != a2) = false := by simp [e0]
   have E0 := lH e0; clear e0
   go_enter Tryz.func30, Tryz.ntmps30
   go_wp2_with (fail)
   have hC2 := HC.out
   by_cases e9 : (hs.map fun h : Hd => h.2.2) = gs.map fun h : Hd => h.2.2
   · rw [decide_eq_true e9] at hC2
     have E9 := lH e9; clear e9
     refine hC2.mono ?_
     clear hC2
     rintro e w1 ⟨rfl, n, rfl⟩
     go_wp2_with (fail)
     go_ret
     exact ⟨ret_bool (decide_eq_true (by rw [E0.out, E9.out])).symm, below_drewN hb n⟩
   · rw [decide_eq_false e9] at hC2
     have E9 := lH e9; clear e9
     refine hC2.mono ?_
     clear hC2
     rintro e w1 ⟨rfl, n, rfl⟩
     go_wp2_with (fail)
     go_ret
     exact ⟨ret_bool (decide_eq_false (fun e => E9.out (congrArg (·.2) e))).symm, below_drewN hb n⟩
 · have h0 : (a1 != a2) = true := by simp [e0]
   have E0 := lH e0; clear e0
   go_enter Tryz.func30, Tryz.ntmps30
   go_wp2_with (fail)
   go_ret
   exact ⟨ret_bool (by have := E0.out; simp [this]), hb⟩
set_option maxHeartbeats 1000000 in
theorem markMatrix_law {v : Value} {s : Mt} {fp : List Nat} {K : Int} {w : World} (k : Nat) (h : OwMt w v s fp) (hK : K = (k : Int)) (ok : OkR s.2) (hl : k + cntR s.2 ≤ 17592186044416) :
  Calls Tryz.prog 31 #[v, .int .i64 K] w fun e w' => e = .returned (.int .i64 (K + (cntR s.2 : Int))) ∧ HeMt w' v s k fp ∧ Keeps (· ∈ fp) w w' := by
 obtain ⟨A, c, hs, rfl, hL, hO, rfl⟩ := h
 subst hK
 have hb : Below w.heap.size w (w.alloc (.cells #[.int .i64 s.1, .slice A hs.length c] 60)) := below_alloc _ _
 have hlen : s.2.length = hs.length := by rw [hL, List.length_map]
 have hC := markIntSS_any A c hs.length s.2 (fpA A ++ fpR hs) k _ ⟨hs, hL, hO.below hb, fun b hb => hb⟩ hlen (by have := ok.1; omega) hl
 have HC := lH hC; have HL := lH hlen; clear hC hlen hL ok
 go_enter Tryz.func31, Tryz.ntmps31
 go_wp2_with (fail)
 refine HC.out.mono ?_
 rintro e w1 ⟨rfl, hR, hk⟩
 go_wp2_with (fail)
 go_ret
 obtain ⟨gs, hg, hO', hf⟩ := hR
 have hgl : gs.length = hs.length := by
  have := congrArg List.length hg
  rw [marksR_length, List.length_map, List.length_map, HL.out] at this; exact this.symm
 refine ⟨ret_int (by omega), ⟨A, c, gs, by rw [hgl], hg.symm, hO', hf⟩, (Keeps.of_below hb _).trans hk⟩
set_option maxHeartbeats 1000000 in
theorem heldMatrix_law {v : Value} {s : Mt} {k : Nat} {fp : List Nat} {K : Int} {w : World} (h : HeMt w v s k fp) (hK : K = (k : Int)) (ok : OkR s.2) (hl : k + cntR s.2 ≤ 17592186044416) :
  Calls Tryz.prog 32 #[v, .int .i64 K] w fun e w' => e = .returned (.int .i64 (K + (cntR s.2 : Int))) ∧ Below w.heap.size w w' := by
 obtain ⟨A, c, hs, rfl, hL, hO, _⟩ := h
 subst hK
 have hb : Below w.heap.size w (w.alloc (.cells #[.int .i64 s.1, .slice A hs.length c] 60)) := below_alloc _ _
 have hlen : s.2.length = hs.length := by have := congrArg List.length hL; rw [List.length_map, marksR_length, List.length_map] at this; exact this.symm
 have hC := heldIntSS_any A c hs s.2 k _ (hO.rd.below hb) hL (by have := ok.1; omega) hl
 have HC := lH hC
 have hnn : ¬ ((k + cntR s.2 : Nat) : Int) < 0 := by omega
 clear hC hlen hL ok
 go_enter Tryz.func32, Tryz.ntmps32
 go_wp2_with (fail)
 refine HC.out.mono ?_
 rintro e w1 ⟨rfl, rfl⟩
 go_wp2_with (fail)
 go_ret
 exact ⟨ret_int (by omega), hb⟩
end Go.Proofs.YtahnhblodfdfhaaGreatDoor
namespace Go.Proofs.YtahnhblodfdfhaaGreatDoor
open Go.ChangeShapes Go.WideShapes Go.ChangeAt Go.RowKit
set_option maxHeartbeats 40000000 in
set_option maxRecDepth 100000 in
theorem lawMatrixOfTerm_any (p : Int) (vt : Value) (t : List Nd) (w : World) (ht : RdTm w vt t) (hgt : BigTm t) (_lop : -9223372036854775808 ≤ p) (_hip : p ≤ 9223372036854775807) (hT : Tab w) :
  Calls Tryz.prog 6 #[.int .i64 p, vt] w fun e w' => e = .returned (.bool true) ∧ Below w.heap.size w w' := by
 obtain ⟨At, nt, ct, rfl⟩ := ht.shape
 obtain ⟨St, hSt⟩ : ∃ S, S = szNS (t) 1048576 := ⟨_, rfl⟩
 have HSt := lH hSt; clear hSt
 have hB0 : Below w.heap.size w w := Below.refl _ _
 have hb1 := below_alloc (w) (.cells #[.slice At nt ct] 49)
 have hB1 := below_trans hB0 hb1 hB0.size
 have bx1 := heap_alloc_new (w) (.cells #[.slice At nt ct] 49)
 have lt_pt : LtL ((w).alloc (.cells #[.slice At nt ct] 49)).heap.size [(w).heap.size] := fun b hb => by obtain rfl := List.mem_singleton.1 hb; exact box_lt bx1
 have fr_pt : FreshL (w).heap.size [(w).heap.size] := fun b hb => by obtain rfl := List.mem_singleton.1 hb; exact Nat.le_refl _
 have BX_pt_1 := lH bx1; clear bx1
 by_cases negt : St < 0
 case pos =>
  go_enter Tryz.func6, Tryz.ntmps6
  obtain ⟨c1_0, f1_0⟩ := bx1 BX_pt_1.out
  go_wp2_with (fail)
  refine (szTerm_law 1048576 (ht.below hB1) hgt (by omega) (by omega)).mono ?_
  rintro e w2 ⟨he2, hb2⟩
  have hB2 := below_trans hB1 hb2 hB1.size
  clear c1_0 f1_0
  rw [← HSt.out] at he2
  subst he2
  go_wp2_with (fail)
  go_ret
  exact ⟨rfl, hB2⟩
 have sokt := szN_ok (by rw [← HSt.out]; omega : 0 ≤ szNS (t) 1048576) (by omega)
 have okt := sokt.1
 have slet : St ≤ 1048576 := by rw [HSt.out]; exact sokt.2
 clear sokt
 go_enter Tryz.func6, Tryz.ntmps6
 obtain ⟨c2_0, f2_0⟩ := bx1 BX_pt_1.out
 go_wp2_with (fail)
 refine (szTerm_law 1048576 (ht.below hB1) hgt (by omega) (by omega)).mono ?_
 rintro e w2 ⟨he2, hb2⟩
 have hB2 := below_trans hB1 hb2 hB1.size
 clear c2_0 f2_0
 rw [← HSt.out] at he2
 subst he2
 have F3_pt_2 := lH (box_below BX_pt_1.out hb2)
 clear BX_pt_1
 obtain ⟨c4_0, f4_0⟩ := bx1 F3_pt_2.out
 go_wp2_with (fail)
 refine (toTerm_law (ht.below hB2) okt).mono ?_
 rintro e w3 ⟨v3, fp3, rfl, o3, fr3, hb3⟩
 have hB3 := below_trans hB2 hb3 hB2.size
 clear c4_0 f4_0
 obtain ⟨A3, n3, c3, rfl⟩ := o3.shape
 have lt_at := o3.lt
 go_wp2_with (fail)
 refine (sMatrixOfTerm_law p o3.rd okt).mono ?_
 rintro e w4 ⟨v4_0, fp4_0, rfl, o4r0, fr4_0, hb4⟩
 have hB4 := below_trans hB3 hb4 hB3.size
 obtain ⟨A4_0, n4_0, c4_0, rfl⟩ := o4r0.shape
 have lt_W0 := o4r0.lt
 have hb5 := below_alloc (w4) (.cells #[.int .i64 ((mtM p t).1).1, .slice A4_0 n4_0 c4_0] 60)
 have hB5 := below_trans hB4 hb5 hB4.size
 have bx5 := heap_alloc_new (w4) (.cells #[.int .i64 ((mtM p t).1).1, .slice A4_0 n4_0 c4_0] 60)
 have lt_bW0 : LtL ((w4).alloc (.cells #[.int .i64 ((mtM p t).1).1, .slice A4_0 n4_0 c4_0] 60)).heap.size [(w4).heap.size] := fun b hb => by obtain rfl := List.mem_singleton.1 hb; exact box_lt bx5
 have fr_bW0 : FreshL (w4).heap.size [(w4).heap.size] := fun b hb => by obtain rfl := List.mem_singleton.1 hb; exact Nat.le_refl _
 have BX_bW0_5 := lH bx5; clear bx5
 have F5_pt_3 := lH (box_below F3_pt_2.out hb3)
 clear F3_pt_2
 have F6_pt_4 := lH (box_below F5_pt_3.out hb4)
 clear F5_pt_3
 have F7_pt_5 := lH (box_below F6_pt_4.out hb5)
 clear F6_pt_4
 obtain ⟨c8_0, f8_0⟩ := bx1 F7_pt_5.out
 go_wp2_with (fail)
 refine (toTerm_law (ht.below hB5) okt).mono ?_
 rintro e w6 ⟨v6, fp6, rfl, o6, fr6, hb6⟩
 have hB6 := below_trans hB5 hb6 hB5.size
 clear c8_0 f8_0
 obtain ⟨A6, n6, c6, rfl⟩ := o6.shape
 have lt_xt := o6.lt
 have hb7 := below_alloc (w6) (.cells #[.slice A6 n6 c6] 54)
 have hB7 := below_trans hB6 hb7 hB6.size
 have bx7 := heap_alloc_new (w6) (.cells #[.slice A6 n6 c6] 54)
 have lt_bxt : LtL ((w6).alloc (.cells #[.slice A6 n6 c6] 54)).heap.size [(w6).heap.size] := fun b hb => by obtain rfl := List.mem_singleton.1 hb; exact box_lt bx7
 have fr_bxt : FreshL (w6).heap.size [(w6).heap.size] := fun b hb => by obtain rfl := List.mem_singleton.1 hb; exact Nat.le_refl _
 have BX_bxt_7 := lH bx7; clear bx7
 have F9_xt_7 := o6.below hb7
 clear o6
 obtain ⟨c10_0, f10_0⟩ := bx1 BX_bxt_7.out
 go_wp2_with (fail)
 refine (iMatrixOfTerm_law p F9_xt_7.rd okt (hT.below hB7 hT.lt)).mono ?_
 rintro e w8 ⟨v8_0, fp8_0, rfl, o8r0, fr8_0, hb8⟩
 have hB8 := below_trans hB7 hb8 hB7.size
 clear c10_0 f10_0
 obtain ⟨A8_0, n8_0, c8_0, rfl⟩ := o8r0.shape
 have lt_G0 := o8r0.lt
 have hb9 := below_alloc (w8) (.cells #[.int .i64 ((mtM p t).1).1, .slice A8_0 n8_0 c8_0] 60)
 have hB9 := below_trans hB8 hb9 hB8.size
 have bx9 := heap_alloc_new (w8) (.cells #[.int .i64 ((mtM p t).1).1, .slice A8_0 n8_0 c8_0] 60)
 have lt_bG0 : LtL ((w8).alloc (.cells #[.int .i64 ((mtM p t).1).1, .slice A8_0 n8_0 c8_0] 60)).heap.size [(w8).heap.size] := fun b hb => by obtain rfl := List.mem_singleton.1 hb; exact box_lt bx9
 have fr_bG0 : FreshL (w8).heap.size [(w8).heap.size] := fun b hb => by obtain rfl := List.mem_singleton.1 hb; exact Nat.le_refl _
 have BX_bG0_9 := lH bx9; clear bx9
 have F11_G0_9 := o8r0.below hb9
 clear o8r0
 have F12_W0_5 := o4r0.below hb5
 clear o4r0
 have F13_W0_6 := F12_W0_5.below hb6
 clear F12_W0_5
 have F14_W0_7 := F13_W0_6.below hb7
 clear F13_W0_6
 have F15_W0_8 := F14_W0_7.below hb8
 clear F14_W0_7
 have F16_W0_9 := F15_W0_8.below hb9
 clear F15_W0_8
 obtain ⟨⟨c17_0, c17_1⟩, f17_0, f17_1⟩ := box2 BX_bG0_9.out
 have F18_bW0_6 := lH (box_below BX_bW0_5.out hb6)
 clear BX_bW0_5
 have F19_bW0_7 := lH (box_below F18_bW0_6.out hb7)
 clear F18_bW0_6
 have F20_bW0_8 := lH (box_below F19_bW0_7.out hb8)
 clear F19_bW0_7
 have F21_bW0_9 := lH (box_below F20_bW0_8.out hb9)
 clear F20_bW0_8
 obtain ⟨⟨c22_0, c22_1⟩, f22_0, f22_1⟩ := box2 F21_bW0_9.out
 go_wp2_with (fail)
 refine (eqMatrix_law F11_G0_9.rd F16_W0_9.rd ((mtM_ok p t))).mono ?_
 rintro e w10 ⟨rfl, hb10⟩
 have hB10 := below_trans hB9 hb10 hB9.size
 clear c17_0 c17_1 f17_0 f17_1 c22_0 c22_1 f22_0 f22_1
 rw [decide_eq_true (rfl : (mtM p t).1 = (mtM p t).1)]
 have F23_bxt_8 := lH (box_below BX_bxt_7.out hb8)
 clear BX_bxt_7
 have F24_bxt_9 := lH (box_below F23_bxt_8.out hb9)
 clear F23_bxt_8
 have F25_bxt_10 := lH (box_below F24_bxt_9.out hb10)
 clear F24_bxt_9
 have F26_pt_6 := lH (box_below F7_pt_5.out hb6)
 clear F7_pt_5
 have F27_pt_7 := lH (box_below F26_pt_6.out hb7)
 clear F26_pt_6
 have F28_pt_8 := lH (box_below F27_pt_7.out hb8)
 clear F27_pt_7
 have F29_pt_9 := lH (box_below F28_pt_8.out hb9)
 clear F28_pt_8
 have F30_pt_10 := lH (box_below F29_pt_9.out hb10)
 clear F29_pt_9
 have F31_xt_8 := F9_xt_7.below hb8
 clear F9_xt_7
 have F32_xt_9 := F31_xt_8.below hb9
 clear F31_xt_8
 have F33_xt_10 := F32_xt_9.below hb10
 clear F32_xt_9
 go_wp2_with (fail)
 refine beginH (fun w' => w'.heap[(w6).heap.size]? = some (.cells #[.slice A6 n6 c6] 54) ∧ w'.heap[(w).heap.size]? = some (.cells #[.slice At nt ct] 49)) (by kernel_rfl) ?_
 have hb11 : Below (w10).heap.size (w10) (w10).drew := below_drewN (Below.refl _ _) 1
 have hB11 := below_trans hB10 hb11 hB10.size
 have F35_bxt_11 := lH (box_below F25_bxt_10.out hb11)
 clear F25_bxt_10
 have F36_pt_11 := lH (box_below F30_pt_10.out hb11)
 clear F30_pt_10
 have F37_xt_11 := F33_xt_10.below hb11
 clear F33_xt_10
 refine tkH 0 ?_ rfl ⟨F35_bxt_11.out, F36_pt_11.out⟩ (fun W' hW' => ?_) ?_; rotate_left; · (obtain ⟨q1, q2⟩ := hW'; obtain ⟨ca0, gca0⟩ := bx1 q1; obtain ⟨cb0, gcb0⟩ := bx1 q2; clear q1 q2; go_simp; first | done | with_reducible rfl)
 simp only [Act.put, nS]
 refine tkH 1 ?_ rfl ⟨F35_bxt_11.out, F36_pt_11.out⟩ (fun W' hW' => ?_) ?_; rotate_left; · (obtain ⟨q1, q2⟩ := hW'; obtain ⟨ca0, gca0⟩ := bx1 q1; obtain ⟨cb0, gcb0⟩ := bx1 q2; clear q1 q2; go_simp; first | done | with_reducible rfl)
 simp only [Act.put, nS]
 refine' callH 2 (f := _) (args := _) rfl (by kernel_rfl) (by rfl) ?_ ?_; rotate_left 2; · (go_simp; first | done | with_reducible rfl | (constructor <;> with_reducible rfl))
 refine (toTerm_law (ht.below hB11) okt).mono ?_
 rintro e w12 ⟨v12, fp12, rfl, o12, fr12, hb12⟩
 have hB12 := below_trans hB11 hb12 hB11.size
 have F38_bxt_12 := lH (box_below F35_bxt_11.out hb12)
 clear F35_bxt_11
 have F39_pt_12 := lH (box_below F36_pt_11.out hb12)
 clear F36_pt_11
 have F40_xt_12 := F37_xt_11.below hb12
 clear F37_xt_11
 refine ⟨_, rfl, ⟨F38_bxt_12.out, F39_pt_12.out⟩, ?_⟩
 simp only [Act.put, nS]
 refine' callH 3 (f := _) (args := _) rfl (by kernel_rfl) (by rfl) ?_ ?_; rotate_left 2; · (go_simp; first | done | with_reducible rfl | (constructor <;> with_reducible rfl))
 refine (eqTerm_law F40_xt_12.rd o12.rd okt).mono ?_
 rintro e w13 ⟨rfl, hb13⟩
 have hB13 := below_trans hB12 hb13 hB12.size
 have F41_bxt_13 := lH (box_below F38_bxt_12.out hb13)
 clear F38_bxt_12
 have F42_pt_13 := lH (box_below F39_pt_12.out hb13)
 clear F39_pt_12
 have F43_xt_13 := F40_xt_12.below hb13
 clear F40_xt_12
 refine ⟨_, rfl, ⟨F41_bxt_13.out, F42_pt_13.out⟩, ?_⟩
 rw [decide_eq_true (rfl : t = t)]
 simp only [Act.put, nS]
 refine takeH 4 (v := .bool false) rfl (by kernel_rfl) (by kernel_rfl) (by kernel_rfl) (fun _ _ _ h => h) ⟨F41_bxt_13.out, F42_pt_13.out⟩ (by rfl) (fun W' hW' => ?_) ?_; · (go_simp; first | done | with_reducible rfl)
 simp only [Act.put, nS]
 refine doneH (by kernel_rfl) ?_
 obtain ⟨c44_0, f44_0⟩ := bx1 F41_bxt_13.out
 go_wp2_with (fail)
 refine (markTerm_law (1) F43_xt_13 (by omega) okt (by have := okt.2.2; constructor <;> omega)).mono ?_
 rintro e w14 ⟨rfl, he14, hk14⟩
 have hB14 := below_keeps hB13 hk14 hB13.size (fun b hb => Nat.le_trans hB5.size (fr6 b hb))
 clear c44_0 f44_0
 have F45_G0_10 := F11_G0_9.below hb10
 clear F11_G0_9
 have F46_G0_11 := F45_G0_10.below hb11
 clear F45_G0_10
 have F47_G0_12 := F46_G0_11.below hb12
 clear F46_G0_11
 have F48_G0_13 := F47_G0_12.below hb13
 clear F47_G0_12
 have F49_G0_14 := F48_G0_13.keeps hk14 (apart_of' lt_xt (fr8_0.mono (Nat.le_trans (Nat.le_refl _) hb7.size)))
 clear F48_G0_13
 have F50_W0_10 := F16_W0_9.below hb10
 clear F16_W0_9
 have F51_W0_11 := F50_W0_10.below hb11
 clear F50_W0_10
 have F52_W0_12 := F51_W0_11.below hb12
 clear F51_W0_11
 have F53_W0_13 := F52_W0_12.below hb13
 clear F52_W0_12
 have F54_W0_14 := F53_W0_13.keeps hk14 (apart_of lt_W0 (fr6.mono (Nat.le_trans (Nat.le_refl _) hb5.size)))
 clear F53_W0_13
 have F55_bG0_10 := lH (box_below BX_bG0_9.out hb10)
 clear BX_bG0_9
 have F56_bG0_11 := lH (box_below F55_bG0_10.out hb11)
 clear F55_bG0_10
 have F57_bG0_12 := lH (box_below F56_bG0_11.out hb12)
 clear F56_bG0_11
 have F58_bG0_13 := lH (box_below F57_bG0_12.out hb13)
 clear F57_bG0_12
 have F59_bG0_14 := lH (box_keeps F58_bG0_13.out hk14 (fun hh => (apart_of' lt_xt (fr_bG0.mono (Nat.le_trans (Nat.le_trans (Nat.le_refl _) hb7.size) hb8.size))) _ (List.mem_singleton.2 rfl) hh))
 clear F58_bG0_13
 obtain ⟨⟨c60_0, c60_1⟩, f60_0, f60_1⟩ := box2 F59_bG0_14.out
 have F61_bW0_10 := lH (box_below F21_bW0_9.out hb10)
 clear F21_bW0_9
 have F62_bW0_11 := lH (box_below F61_bW0_10.out hb11)
 clear F61_bW0_10
 have F63_bW0_12 := lH (box_below F62_bW0_11.out hb12)
 clear F62_bW0_11
 have F64_bW0_13 := lH (box_below F63_bW0_12.out hb13)
 clear F63_bW0_12
 have F65_bW0_14 := lH (box_keeps F64_bW0_13.out hk14 (fun hh => (apart_of lt_bW0 (fr6)) _ (List.mem_singleton.2 rfl) hh))
 clear F64_bW0_13
 obtain ⟨⟨c66_0, c66_1⟩, f66_0, f66_1⟩ := box2 F65_bW0_14.out
 go_wp2_with (fail)
 refine (eqMatrix_law F49_G0_14.rd F54_W0_14.rd ((mtM_ok p t))).mono ?_
 rintro e w15 ⟨rfl, hb15⟩
 have hB15 := below_trans hB14 hb15 hB14.size
 clear c60_0 c60_1 f60_0 f60_1 c66_0 c66_1 f66_0 f66_1
 rw [decide_eq_true (rfl : (mtM p t).1 = (mtM p t).1)]
 have F67_G0_15 := F49_G0_14.below hb15
 clear F49_G0_14
 have F68_bG0_15 := lH (box_below F59_bG0_14.out hb15)
 clear F59_bG0_14
 obtain ⟨⟨c69_0, c69_1⟩, f69_0, f69_1⟩ := box2 F68_bG0_15.out
 go_wp2_with (fail)
 refine (markMatrix_law (1) F67_G0_15 (by omega) ((mtM_ok p t)) (by have := ((mtM_ok p t)).2.2; omega)).mono ?_
 rintro e w16 ⟨rfl, he16, hk16⟩
 have hB16 := below_keeps hB15 hk16 hB15.size (fun b hb => Nat.le_trans hB7.size (fr8_0 b hb))
 clear c69_0 c69_1 f69_0 f69_1
 have F70_bG0_16 := lH (box_keeps F68_bG0_15.out hk16 (fun hh => (apart_of' lt_G0 (fr_bG0)) _ (List.mem_singleton.2 rfl) hh))
 clear F68_bG0_15
 obtain ⟨⟨c71_0, c71_1⟩, f71_0, f71_1⟩ := box2 F70_bG0_16.out
 go_wp2_with (fail)
 refine (heldMatrix_law he16 (by omega) ((mtM_ok p t)) (by have := ((mtM_ok p t)).2.2; omega)).mono ?_
 rintro e w17 ⟨rfl, hb17⟩
 have hB17 := below_trans hB16 hb17 hB16.size
 clear c71_0 c71_1 f71_0 f71_1
 have F72_pt_14 := lH (box_keeps F42_pt_13.out hk14 (fun hh => (apart_of lt_pt (fr6.mono (Nat.le_trans (Nat.le_trans (Nat.le_trans (Nat.le_trans (Nat.le_refl _) hb2.size) hb3.size) hb4.size) hb5.size))) _ (List.mem_singleton.2 rfl) hh))
 clear F42_pt_13
 have F73_pt_15 := lH (box_below F72_pt_14.out hb15)
 clear F72_pt_14
 have F74_pt_16 := lH (box_keeps F73_pt_15.out hk16 (fun hh => (apart_of lt_pt (fr8_0.mono (Nat.le_trans (Nat.le_trans (Nat.le_trans (Nat.le_trans (Nat.le_trans (Nat.le_trans (Nat.le_refl _) hb2.size) hb3.size) hb4.size) hb5.size) hb6.size) hb7.size))) _ (List.mem_singleton.2 rfl) hh))
 clear F73_pt_15
 have F75_pt_17 := lH (box_below F74_pt_16.out hb17)
 clear F74_pt_16
 obtain ⟨c76_0, f76_0⟩ := bx1 F75_pt_17.out
 go_wp2_with (fail)
 refine (toTerm_law (ht.below hB17) okt).mono ?_
 rintro e w18 ⟨v18, fp18, rfl, o18, fr18, hb18⟩
 have hB18 := below_trans hB17 hb18 hB17.size
 clear c76_0 f76_0
 obtain ⟨A18, n18, c18, rfl⟩ := o18.shape
 have lt_yt := o18.lt
 go_wp2_with (fail)
 refine (iMatrixOfTerm_law p o18.rd okt (hT.below hB18 hT.lt)).mono ?_
 rintro e w19 ⟨v19_0, fp19_0, rfl, o19r0, fr19_0, hb19⟩
 have hB19 := below_trans hB18 hb19 hB18.size
 obtain ⟨A19_0, n19_0, c19_0, rfl⟩ := o19r0.shape
 have lt_H0 := o19r0.lt
 have hb20 := below_alloc (w19) (.cells #[.int .i64 ((mtM p t).1).1, .slice A19_0 n19_0 c19_0] 60)
 have hB20 := below_trans hB19 hb20 hB19.size
 have bx20 := heap_alloc_new (w19) (.cells #[.int .i64 ((mtM p t).1).1, .slice A19_0 n19_0 c19_0] 60)
 have lt_bH0 : LtL ((w19).alloc (.cells #[.int .i64 ((mtM p t).1).1, .slice A19_0 n19_0 c19_0] 60)).heap.size [(w19).heap.size] := fun b hb => by obtain rfl := List.mem_singleton.1 hb; exact box_lt bx20
 have fr_bH0 : FreshL (w19).heap.size [(w19).heap.size] := fun b hb => by obtain rfl := List.mem_singleton.1 hb; exact Nat.le_refl _
 have BX_bH0_20 := lH bx20; clear bx20
 have F77_H0_20 := o19r0.below hb20
 clear o19r0
 have F78_W0_15 := F54_W0_14.below hb15
 clear F54_W0_14
 have F79_W0_16 := F78_W0_15.keeps hk16 (apart_of lt_W0 (fr8_0.mono (Nat.le_trans (Nat.le_trans (Nat.le_trans (Nat.le_refl _) hb5.size) hb6.size) hb7.size)))
 clear F78_W0_15
 have F80_W0_17 := F79_W0_16.below hb17
 clear F79_W0_16
 have F81_W0_18 := F80_W0_17.below hb18
 clear F80_W0_17
 have F82_W0_19 := F81_W0_18.below hb19
 clear F81_W0_18
 have F83_W0_20 := F82_W0_19.below hb20
 clear F82_W0_19
 obtain ⟨⟨c84_0, c84_1⟩, f84_0, f84_1⟩ := box2 BX_bH0_20.out
 have F85_bW0_15 := lH (box_below F65_bW0_14.out hb15)
 clear F65_bW0_14
 have F86_bW0_16 := lH (box_keeps F85_bW0_15.out hk16 (fun hh => (apart_of lt_bW0 (fr8_0.mono (Nat.le_trans (Nat.le_trans (Nat.le_refl _) hb6.size) hb7.size))) _ (List.mem_singleton.2 rfl) hh))
 clear F85_bW0_15
 have F87_bW0_17 := lH (box_below F86_bW0_16.out hb17)
 clear F86_bW0_16
 have F88_bW0_18 := lH (box_below F87_bW0_17.out hb18)
 clear F87_bW0_17
 have F89_bW0_19 := lH (box_below F88_bW0_18.out hb19)
 clear F88_bW0_18
 have F90_bW0_20 := lH (box_below F89_bW0_19.out hb20)
 clear F89_bW0_19
 obtain ⟨⟨c91_0, c91_1⟩, f91_0, f91_1⟩ := box2 F90_bW0_20.out
 go_wp2_with (fail)
 refine (eqMatrix_law F77_H0_20.rd F83_W0_20.rd ((mtM_ok p t))).mono ?_
 rintro e w21 ⟨rfl, hb21⟩
 have hB21 := below_trans hB20 hb21 hB20.size
 clear c84_0 c84_1 f84_0 f84_1 c91_0 c91_1 f91_0 f91_1
 rw [decide_eq_true (rfl : (mtM p t).1 = (mtM p t).1)]
 have F92_G0_17 := he16.below hb17
 clear he16
 have F93_G0_18 := F92_G0_17.below hb18
 clear F92_G0_17
 have F94_G0_19 := F93_G0_18.below hb19
 clear F93_G0_18
 have F95_G0_20 := F94_G0_19.below hb20
 clear F94_G0_19
 have F96_G0_21 := F95_G0_20.below hb21
 clear F95_G0_20
 have F97_bG0_17 := lH (box_below F70_bG0_16.out hb17)
 clear F70_bG0_16
 have F98_bG0_18 := lH (box_below F97_bG0_17.out hb18)
 clear F97_bG0_17
 have F99_bG0_19 := lH (box_below F98_bG0_18.out hb19)
 clear F98_bG0_18
 have F100_bG0_20 := lH (box_below F99_bG0_19.out hb20)
 clear F99_bG0_19
 have F101_bG0_21 := lH (box_below F100_bG0_20.out hb21)
 clear F100_bG0_20
 obtain ⟨⟨c102_0, c102_1⟩, f102_0, f102_1⟩ := box2 F101_bG0_21.out
 go_wp2_with (fail)
 refine (heldMatrix_law F96_G0_21 (by omega) ((mtM_ok p t)) (by have := ((mtM_ok p t)).2.2; omega)).mono ?_
 rintro e w22 ⟨rfl, hb22⟩
 have hB22 := below_trans hB21 hb22 hB21.size
 clear c102_0 c102_1 f102_0 f102_1
 go_wp2_with (fail)
 go_ret
 exact ⟨rfl, hB22⟩
set_option maxRecDepth 100000 in
theorem contractMatrixOfTerm (H : Type) (enc : TypeId × Value → H) (W : World) (args : Array Value) (ds gs : List (DataW H)) (before : List MemPlace)
  (hval : ∀ (j : Nat) t v, Tryz.f6.params[j]? = some t → args[j]? = some v → Value.okWide Tryz.prog W .any 0 t v)
  (hW : DataW.Whole enc Tryz.prog Tryz.f6.params.toList Rows.fnExactMatrixOfTermSpec.vars false W args.toList ds gs before) (hL : laidMetH Tryz.prog Rows.fnExactMatrixOfTermRow.laid W) :
  Calls Tryz.prog 6 args W fun e W' => ∃ v, e = .returned v ∧ Rows.fnExactMatrixOfTermSpec.post enc Tryz.prog Tryz.f6 false true false false W args v W' := by
 have hW' := hW
 obtain ⟨p, q, hA0, hV, rfl, hfz, hnd⟩ := hW
 have hA : DataW.TrodAll enc Tryz.prog W 0 (fun _ => true) true Tryz.f6.params.toList args.toList ds p := hA0
 have hr : ∀ t ∈ Tryz.f6.params.toList, Tryz.prog.readableRec t = true ∧ t < Tryz.prog.types.size := by
  rw [Tryz.params6]
  intro t ht
  have ht' : t ∈ ([3, 49] : List TypeId) := ht
  rcases List.mem_cons.1 ht' with rfl | ht'
  · exact ⟨by kernel_rfl, of_decide_eq_true (by kernel_rfl)⟩
  rcases List.mem_cons.1 ht' with rfl | ht'
  · exact ⟨by kernel_rfl, of_decide_eq_true (by kernel_rfl)⟩
  cases ht'
 rw [Tryz.params6] at hA hval
 obtain ⟨v0, vs0, d0, ds0, p0, q0, hargs, rfl, rfl, t0, r0⟩ := trodAll_cons hA
 obtain ⟨v1, vs1, d1, ds1, p1, q1, rfl, rfl, rfl, t1, r1⟩ := trodAll_cons r0
 obtain ⟨rfl, rfl, rfl⟩ := trodAll_nil r1
 obtain rfl : args = #[v0, v1] := by cases args; simp_all
 obtain ⟨g, _, _, _, dg, pg, rfl, _⟩ := trodVars_one hV
 obtain ⟨x0, rfl, lo0, hi0⟩ := in_int (hval 0 _ v0 rfl rfl) t0
 obtain ⟨m1, hl1, hg1⟩ := in_Term (hval 1 _ v1 rfl rfl) t1
 refine (lawMatrixOfTerm_any x0 v1 m1 W hl1 hg1 lo0 hi0 (tab_of_laid hL)).mono fun e W' ⟨he, hb⟩ => ?_
 subst he
 exact ⟨_, rfl, post_true laidOut hW' hb hr vars_ok rfl rfl Tryz.underlying4⟩
set_option maxRecDepth 100000 in
theorem liftedMatrixOfTerm (os : Os) (started : os.Started) (H : Type) (enc : TypeId × Value → H) (F : Stop.Interp) :
  ReturnsInHanded {} Tryz.checked os 6 .any ((OpenSpec.ofChange Rows.fnExactMatrixOfTermSpec).preRow enc Tryz.prog Tryz.f6 Rows.fnExactMatrixOfTermRow.domain false Rows.fnExactMatrixOfTermRow.laid) (((OpenSpec.ofChange Rows.fnExactMatrixOfTermSpec).at F).post enc Tryz.prog Tryz.f6 false true false false) := by
 obtain ⟨ds, gs, places, hx⟩ : ∃ ds gs places, DataW.whole enc Tryz.prog ((laidWorld os).forCall (fun _ _ => 0) ⟨#[], #[.int .i64 0, .agg #[.slice none 0 0]], []⟩).memory Tryz.f6.params.toList Rows.fnExactMatrixOfTermSpec.vars false (#[.int .i64 0, .agg #[.slice none 0 0]] : Array Value).toList 8 = some (ds, gs, places) :=
  ⟨[.lit (.int .i64 0), .agg [.nil]], [Rows.laid_loop_example_g01073_impl_smallPrimes], MemPlace.row ⟨0, 0, none⟩ 4, by kernel_rfl⟩
 refine returnsInHanded_of_row (C := Tryz.checked) (s := OpenSpec.ofChange Rows.fnExactMatrixOfTermSpec) own started (by kernel_rfl) Tryz.func6
  (witness_row_at (enc := enc) (C := Tryz.checked) false (laidWorld os) #[.int .i64 0, .agg #[.slice none 0 0]] rfl (by kernel_rfl) (by kernel_rfl) (by kernel_rfl)
   (OpenSpec.preRow_of_cond 8 hx (by kernel_rfl) (fun k hk => by cases hk) (by kernel_rfl) (laid_met os _))) ?_
 intro W base args ds gs before hval hW _ _ _ hL _ _
 exact contractMatrixOfTerm H enc W args ds gs before hval hW hL
theorem saidMatrixOfTerm : Rows.FnExactMatrixOfTermSaid :=
 OpenClaim.holds_of_cond 6 Tryz.f6 rfl rfl rfl rfl rfl rfl rfl ⟨rfl, rfl, rfl, rfl, rfl⟩ rfl rfl rfl rfl rfl (by kernel_rfl) Tryz.func6 (by kernel_rfl)
  (of_decide_eq_true (by kernel_rfl)) (by unfold Func.isWrapper; first | (rw [if_pos (by decide +kernel)]; kernel_rfl) | (rw [if_neg (by decide +kernel)]; exact ⟨rfl, rfl⟩))
  (fun os started H enc _ F => by rw [OpenClaim.pre_eq_preRow]; exact liftedMatrixOfTerm os started H enc F)
theorem plainMatrixOfTerm (f : FuncId) (fn : Func) (hf : Tryz.pinned.checked.prog.funcNamed "loop.example/g01073/laws.FnExactMatrixOfTerm" = some f) (hfn : Tryz.pinned.checked.prog.funcs[f]? = some fn) :
  false = Tryz.pinned.checked.prog.looks [] ∧ ∀ (j : Nat) t, fn.params[j]? = some t → Tryz.pinned.checked.prog.wantsStandIn t = false := by
 obtain rfl : f = 6 := Option.some.inj ((show Tryz.prog.funcNamed "loop.example/g01073/laws.FnExactMatrixOfTerm" = some 6 by kernel_rfl).symm.trans hf) |>.symm
 obtain rfl : fn = Tryz.f6 := (Option.some.inj (Tryz.func6.symm.trans hfn)).symm
 refine ⟨by kernel_rfl, fun j t ht => ?_⟩
 rw [Tryz.params6] at ht
 have ht' : t ∈ ([3, 49] : List TypeId) := by have := Array.mem_of_getElem? ht; simpa using this
 rcases List.mem_cons.1 ht' with rfl | ht'
 · exact (show Tryz.prog.wantsStandIn 3 = false by kernel_rfl)
 rcases List.mem_cons.1 ht' with rfl | ht'
 · exact (show Tryz.prog.wantsStandIn 49 = false by kernel_rfl)
 cases ht'
theorem cardMatrixOfTerm : Rows.FnExactMatrixOfTermCardSaid :=
 Claim7.holds_tied_plain_at .later [] _ _ _ _ saidMatrixOfTerm (fun _ h => by cases h) (by kernel_rfl) (fun _ h => by cases h) fnExactMatrixOfTerm_row_tie rfl ⟨rfl, rfl⟩ (by kernel_rfl) rfl plainMatrixOfTerm (by kernel_rfl)
#print axioms cardMatrixOfTerm
end Go.Proofs.YtahnhblodfdfhaaGreatDoor
