/-
  The program's DimensionOf returns what the reference's returns, for all arguments (laws.FnExactDimensionOf answers true). No condition.
-/
import Derived.Test.YtahnhblodfdfhaaDoorKDimensionOf5
import Derived.Test.YtahnhblodfdfhaaDoorCards
import Derived.Test.YtahnhblodfdfhaaDoorTie
import Derived.ProofKit
import Derived.OpenShut
import Derived.Deep.DeepHandedRow
import Derived.Lib.LaidTab
namespace Go.Proofs.YtahnhblodfdfhaaDoor
open Go.RowKit
set_option maxRecDepth 8000 in
set_option maxHeartbeats 1000000 in
theorem eqNodeS_any (A B : Option Addr) (c d : Nat) (l l' : List Nd) (w : World) (ha : RdN w A l) (hb : RdN w B l') (hl : l.length ≤ 1048576) :
    Calls Tryd.prog 94 #[.slice A l.length c, .slice B l'.length d] w fun e w' => ∃ b, e = .returned (.bool b) ∧ (b = true ↔ l = l') ∧ Below w.heap.size w w' := by
  obtain ⟨m, hm⟩ : ∃ m, m = l.length := ⟨_, rfl⟩
  obtain ⟨n, hn⟩ : ∃ n, n = l'.length := ⟨_, rfl⟩
  rw [← hm] at hl ⊢
  rw [← hn]
  by_cases hmn : m = n
  · subst hmn
    have hm_h := Lib.hid hm; have hn_h := Lib.hid hn; clear hm hn
    go_enter Tryd.func94, Tryd.ntmps94
    go_wp2_with (fail)
    go_loopw [5] (fun i wr => ∃ k : Nat, k ≤ m ∧ i = .int .i64 k ∧ l.take k = l'.take k ∧ Below w.heap.size w wr) (fun i _ => m - (intOf i).toNat)
    case atStart => exact ⟨0, Nat.zero_le _, rfl, rfl, Below.refl _ _⟩
    case round =>
      obtain ⟨k, hk, rfl, htk, hbl⟩ := hrel
      by_cases hlt : k < m
      · have hkI : (k : Int) < (m : Int) := by omega
        obtain ⟨ad, κ, v, s, rfl, hn1, -⟩ := (ha.below hbl).at_ (j := k) (by rw [← hm_h.out]; exact hlt)
        obtain ⟨bd, κ', v', s', rfl, hn2, -⟩ := (hb.below hbl).at_ (j := k) (by rw [← hn_h.out]; exact hlt)
        have hk0 : (0 : Int) ≤ (k : Int) := by omega
        have hAB : ∀ W', Below wr.heap.size wr W' → (W'.cell? (ad.add (k * 3)) = some (.int .i64 κ) ∧ W'.cell? ⟨(ad.add (k * 3)).block, (ad.add (k * 3)).off + 1, none⟩ = some (.int .i64 v) ∧ W'.cell? ⟨(ad.add (k * 3)).block, (ad.add (k * 3)).off + 2, none⟩ = some (.string s)) ∧ (W'.cell? (bd.add (k * 3)) = some (.int .i64 κ') ∧ W'.cell? ⟨(bd.add (k * 3)).block, (bd.add (k * 3)).off + 1, none⟩ = some (.int .i64 v') ∧ W'.cell? ⟨(bd.add (k * 3)).block, (bd.add (k * 3)).off + 2, none⟩ = some (.string s')) := by
          intro W' hW'
          obtain ⟨x1, _, _, _, e1, e2, q⟩ := ((ha.below hbl).below hW').at_ (j := k) (by rw [← hm_h.out]; exact hlt)
          obtain ⟨y1, _, _, _, f1, f2, r⟩ := ((hb.below hbl).below hW').at_ (j := k) (by rw [← hn_h.out]; exact hlt)
          rw [hn1] at e2
          rw [hn2] at f2
          cases e1; cases e2; cases f1; cases f2
          exact ⟨q, r⟩
        have htk_h := Lib.hid htk; have hn1_h := Lib.hid hn1; have hn2_h := Lib.hid hn2; have hAB_h := Lib.hid hAB; clear htk hn1 hn2 hAB; clear ha hb
        go_wp2_with (fail)
        refine beginB (by kernel_rfl) (fun W1 hW1 => ?_)
        have hbw : Below wr.heap.size wr W1 := by rw [hW1]; exact below_drew (Below.refl _ _)
        clear hW1
        refine takeH 0 (v := ?_) rfl (by kernel_rfl) (by kernel_rfl) (by kernel_rfl) (fun _ _ _ h => h) (Below.refl _ _) (by rfl) (fun W' hW' => ?_) ?_; rotate_left; · (obtain ⟨⟨a0, a1, a2⟩, b0, b1, b2⟩ := hAB_h.out W' (hbw.trans (hW'.mono hbw.size)); clear hW'; go_simp; first | done | with_reducible rfl)
        simp only [Act.put, nS1, nS2, nS3]
        refine takeH 1 (v := ?_) rfl (by kernel_rfl) (by kernel_rfl) (by kernel_rfl) (fun _ _ _ h => h) (Below.refl _ _) (by rfl) (fun W' hW' => ?_) ?_; rotate_left; · (obtain ⟨⟨a0, a1, a2⟩, b0, b1, b2⟩ := hAB_h.out W' (hbw.trans (hW'.mono hbw.size)); clear hW'; go_simp; first | done | with_reducible rfl)
        simp only [Act.put, nS1, nS2, nS3]
        refine takeH 2 (v := ?_) rfl (by kernel_rfl) (by kernel_rfl) (by kernel_rfl) (fun _ _ _ h => h) (Below.refl _ _) (by rfl) (fun W' hW' => ?_) ?_; rotate_left; · (obtain ⟨⟨a0, a1, a2⟩, b0, b1, b2⟩ := hAB_h.out W' (hbw.trans (hW'.mono hbw.size)); clear hW'; go_simp; first | done | with_reducible rfl)
        simp only [Act.put, nS1, nS2, nS3]
        refine takeH 3 (v := ?_) rfl (by kernel_rfl) (by kernel_rfl) (by kernel_rfl) (fun _ _ _ h => h) (Below.refl _ _) (by rfl) (fun W' hW' => ?_) ?_; rotate_left; · (obtain ⟨⟨a0, a1, a2⟩, b0, b1, b2⟩ := hAB_h.out W' (hbw.trans (hW'.mono hbw.size)); clear hW'; go_simp; first | done | with_reducible rfl)
        simp only [Act.put, nS1, nS2, nS3]
        refine takeH 4 (v := ?_) rfl (by kernel_rfl) (by kernel_rfl) (by kernel_rfl) (fun _ _ _ h => h) (Below.refl _ _) (by rfl) (fun W' hW' => ?_) ?_; rotate_left; · (obtain ⟨⟨a0, a1, a2⟩, b0, b1, b2⟩ := hAB_h.out W' (hbw.trans (hW'.mono hbw.size)); clear hW'; go_simp; first | done | with_reducible rfl)
        simp only [Act.put, nS1, nS2, nS3]
        refine takeH 5 (v := ?_) rfl (by kernel_rfl) (by kernel_rfl) (by kernel_rfl) (fun _ _ _ h => h) (Below.refl _ _) (by rfl) (fun W' hW' => ?_) ?_; rotate_left; · (obtain ⟨⟨a0, a1, a2⟩, b0, b1, b2⟩ := hAB_h.out W' (hbw.trans (hW'.mono hbw.size)); clear hW'; go_simp; first | done | with_reducible rfl)
        simp only [Act.put, nS1, nS2, nS3]
        refine takeH 6 (v := ?_) rfl (by kernel_rfl) (by kernel_rfl) (by kernel_rfl) (fun _ _ _ h => h) (Below.refl _ _) (by rfl) (fun W' hW' => ?_) ?_; rotate_left; · (obtain ⟨⟨a0, a1, a2⟩, b0, b1, b2⟩ := hAB_h.out W' (hbw.trans (hW'.mono hbw.size)); clear hW'; go_simp; first | done | with_reducible rfl)
        simp only [Act.put, nS1, nS2, nS3]
        refine takeH 7 (v := ?_) rfl (by kernel_rfl) (by kernel_rfl) (by kernel_rfl) (fun _ _ _ h => h) (Below.refl _ _) (by rfl) (fun W' hW' => ?_) ?_; rotate_left; · (obtain ⟨⟨a0, a1, a2⟩, b0, b1, b2⟩ := hAB_h.out W' (hbw.trans (hW'.mono hbw.size)); clear hW'; go_simp; first | done | with_reducible rfl)
        simp only [Act.put, nS1, nS2, nS3]
        refine' callH 8 (f := _) (args := _) rfl (by kernel_rfl) (by rfl) ?_ ?_; rotate_left 2; · (go_simp; first | done | with_reducible rfl | (constructor <;> with_reducible rfl))
        refine (eqNode_any _ _ _ _ _ _ _).mono ?_
        rintro e w2 ⟨b, rfl, hbq, hb2⟩
        refine ⟨_, rfl, hb2, ?_⟩
        have hb3 := below_trans (below_trans hbl hbw hbl.size) hb2 (Nat.le_trans hbl.size hbw.size)
        have hbq_h := Lib.hid hbq; have hb3_h := Lib.hid hb3; clear hbq hb3
        simp only [Act.put, nS1, nS2, nS3]
        refine takeH 9 (v := ?_) rfl (by kernel_rfl) (by kernel_rfl) (by kernel_rfl) (fun _ _ _ h => h) hb2 (by rfl) (fun W' hW' => ?_) ?_; rotate_left; · (skip; clear hW'; go_simp; first | done | with_reducible rfl)
        simp only [Act.put, nS1, nS2, nS3]
        refine doneH (by kernel_rfl) ?_
        cases b
        · go_wp2_with (fail)
          go_ret
          refine ⟨false, rfl, ?_, hb3_h.out⟩
          refine ⟨fun h => (by cases h), fun h => ?_⟩
          have h1 := hn1_h.out
          rw [h, hn2_h.out] at h1
          exact hbq_h.out.2 (Option.some.inj h1).symm
        · go_wp2_with (fail)
          go_roundw
          case rel => exact ⟨k + 1, by omega, by go_num, by rw [List.take_add_one, List.take_add_one, htk_h.out, hn1_h.out, hn2_h.out, hbq_h.out.1 rfl], hb3_h.out⟩
          case measure => simp [intOf]; omega
      · obtain rfl : k = m := by omega
        have htk_h := Lib.hid htk; clear htk; clear ha hb
        go_wp2_with (fail)
        go_ret
        refine ⟨true, rfl, ⟨fun _ => ?_, fun _ => rfl⟩, hbl⟩
        have := htk_h.out
        rwa [List.take_of_length_le (by rw [← hm_h.out]; omega), List.take_of_length_le (by rw [← hn_h.out]; omega)] at this
  · have h0 : ((m : Int) != (n : Int)) = true := by simp; omega
    have hm_h := Lib.hid hm; have hn_h := Lib.hid hn; have hmn_h := Lib.hid hmn; clear hm hn hmn
    go_enter Tryd.func94, Tryd.ntmps94
    go_wp2_with (fail)
    go_ret
    refine ⟨false, rfl, ⟨fun h => (by cases h), fun h => ?_⟩, Below.refl _ _⟩
    exact absurd (by rw [hm_h.out, hn_h.out, h]) hmn_h.out
theorem szTerm_any {v : Value} {l : List Nd} (left : Int) {w : World} (h : RdTm w v l) (hB : BigTm l) (h0 : 0 ≤ left) (h1 : left ≤ 1048576) :
    Calls Tryd.prog 42 #[v, .int .i64 left] w fun e w' => e = .returned (.int .i64 (szNS l left)) ∧ Below w.heap.size w w' := by
  obtain ⟨A, c, rfl, h⟩ := h
  have hb := t_below_alloc w (.cells #[.slice A l.length c] 74)
  have hC := szNodeS_any A c l left _ (h.below hb) hB h0 h1
  obtain ⟨S, hS⟩ : ∃ S, S = szNS l left := ⟨_, rfl⟩
  obtain ⟨m, hm⟩ : ∃ m, m = l.length := ⟨_, rfl⟩
  rw [← hS] at hC ⊢
  rw [← hm] at hC hb ⊢
  by_cases hneg : S < 0
  · have hS1 : S = -1 := by rw [hS]; exact szNS_neg (by rw [← hS]; exact hneg)
    subst hS1
    have hC_h := Lib.hid hC; have hS_h := Lib.hid hS; have hm_h := Lib.hid hm; have hb_h := Lib.hid hb; clear hC hS hm hb; clear h
    go_enter Tryd.func42, Tryd.ntmps42
    go_wp2_with (fail)
    refine (hC_h.out).mono ?_
    rintro e w1 ⟨rfl, hb1⟩
    go_wp2_with (fail)
    go_ret
    exact ⟨rfl, below_trans hb_h.out hb1 hb_h.out.size⟩
  · have hC_h := Lib.hid hC
    have hS_h := Lib.hid hS; have hm_h := Lib.hid hm; have hb_h := Lib.hid hb; clear hC hS hm hb; clear h
    go_enter Tryd.func42, Tryd.ntmps42
    go_wp2_with (fail)
    refine (hC_h.out).mono ?_
    rintro e w1 ⟨rfl, hb1⟩
    go_wp2_with (fail)
    go_ret
    exact ⟨rfl, below_trans hb_h.out hb1 hb_h.out.size⟩
theorem eqTerm_any {v v' : Value} {l l' : List Nd} {w : World} (h : RdTm w v l) (h' : RdTm w v' l') (hl : l.length ≤ 1048576) :
    Calls Tryd.prog 46 #[v, v'] w fun e w' => ∃ b, e = .returned (.bool b) ∧ (b = true ↔ l = l') ∧ Below w.heap.size w w' := by
  obtain ⟨A, c, rfl, h⟩ := h
  obtain ⟨B, d, rfl, h'⟩ := h'
  obtain ⟨b0, -, -, -⟩ := two_boxes w (.cells #[.slice A l.length c] 80) (.cells #[.slice B l'.length d] 80)
  have hC := eqNodeS_any A B c d l l' _ (h.below b0) (h'.below b0) hl
  obtain ⟨m, hm⟩ : ∃ m, m = l.length := ⟨_, rfl⟩
  obtain ⟨n, hn⟩ : ∃ n, n = l'.length := ⟨_, rfl⟩
  rw [← hm, ← hn] at hC b0 ⊢
  have hC_h := Lib.hid hC; have hm_h := Lib.hid hm; have hn_h := Lib.hid hn; have b0_h := Lib.hid b0; clear hC hm hn b0; clear h h'
  go_enter Tryd.func46, Tryd.ntmps46
  go_wp2_with (fail)
  refine (hC_h.out).mono ?_
  rintro e w1 ⟨b, rfl, hb, hb1⟩
  have hb_h := Lib.hid hb; clear hb
  cases b
  · go_wp2_with (fail)
    go_ret
    exact ⟨false, rfl, by simpa using hb_h.out, below_trans b0_h.out hb1 b0_h.out.size⟩
  · go_wp2_with (fail)
    go_ret
    exact ⟨true, rfl, by simpa using hb_h.out, below_trans b0_h.out hb1 b0_h.out.size⟩
theorem bx1 {w : World} {B : Nat} {x : Value} {t : TypeId} (h : w.heap[B]? = some (.cells #[x] t)) : w.cell? ⟨B, 0, none⟩ = some x ∧ w.frozen? ⟨B, 0, none⟩ = false := by simp [World.cell?, World.frozen?, h]
set_option maxHeartbeats 1000000 in
theorem toTerm_any {v : Value} {l : List Nd} {w : World} (h : RdTm w v l) (hl : l.length ≤ 1048576) :
    Calls Tryd.prog 44 #[v] w fun e w' => ∃ v' fp, e = .returned v' ∧ OwTm w' v' l fp ∧ FreshL w.heap.size fp ∧ Below w.heap.size w w' := by
  obtain ⟨A, c, rfl, h⟩ := h
  obtain ⟨W, hW⟩ : ∃ W, W = ((w.alloc (.cells #[.slice A l.length c] 74)).alloc (.cells #[.slice none 0 0] 80)).alloc (.cells #[.slice none 0 0] 80) := ⟨_, rfl⟩
  have hbW : Below w.heap.size w W := by rw [hW]; exact (((Below.refl _ _).alloc (Nat.le_refl _) _).alloc (by simp) _).alloc (by simp; omega) _
  have k2 : W.heap[w.heap.size + 1 + 1]? = some (.cells #[.slice none 0 0] 80) := by
    have := heap_alloc_new ((w.alloc (.cells #[.slice A l.length c] 74)).alloc (.cells #[.slice none 0 0] 80)) (.cells #[.slice none 0 0] 80)
    rw [World.size_alloc, World.size_alloc, ← hW] at this; exact this
  have k1 : W.heap[w.heap.size + 1]? = some (.cells #[.slice none 0 0] 80) := by
    have := heap_alloc_new (w.alloc (.cells #[.slice A l.length c] 74)) (.cells #[.slice none 0 0] 80)
    rw [World.size_alloc] at this
    rw [hW]; exact t_box_below this (t_below_alloc _ _)
  have hC := toNodeS_any A c l W (h.below hbW) hl
  obtain ⟨m, hm⟩ : ∃ m, m = l.length := ⟨_, rfl⟩
  rw [← hm] at hC hW ⊢
  have hC_h := Lib.hid hC; have hm_h := Lib.hid hm; have hbW_h := Lib.hid hbW; have k1_h := Lib.hid k1; have k2_h := Lib.hid k2; clear hC hm hbW k1 k2; clear h
  go_enter Tryd.func44, Tryd.ntmps44
  go_wp2_with (fail)
  rw [← hW]
  clear hW
  refine (hC_h.out).mono ?_
  rintro e w1 ⟨A1, c1, rfl, hN, hf, hb1⟩
  rw [← hm_h.out]
  have k1' := t_box_below k1_h.out hb1
  have k2' := t_box_below k2_h.out hb1
  have hBW := t_box_lt k2_h.out
  obtain ⟨c10, f10⟩ := bx1 k1'
  obtain ⟨c20, f20⟩ := bx1 k2'
  have hBb := below_trans hbW_h.out hb1 hbW_h.out.size
  have hkp : Keeps (fun k => k = w.heap.size + 1 ∨ k = w.heap.size + 1 + 1) w1 ((w1.setCell ⟨w.heap.size + 1 + 1, 0, none⟩ (.slice A1 m c1)).setCell ⟨w.heap.size + 1, 0, none⟩ (.slice A1 m c1)) :=
    ((Keeps.refl _ w1).setCell (p := ⟨w.heap.size + 1 + 1, 0, none⟩) (.inr rfl) _).setCell (p := ⟨w.heap.size + 1, 0, none⟩) (.inl rfl) _
  have hx : ((w1.setCell ⟨w.heap.size + 1 + 1, 0, none⟩ (.slice A1 m c1)).setCell ⟨w.heap.size + 1, 0, none⟩ (.slice A1 m c1)).heap[w.heap.size + 1]? = some (.cells #[.slice A1 m c1] 80) := by simp [World.setCell, Array.getElem?_modify, k1']
  have hN2 := hN.keeps hkp (fun b hb e => by have := hf b hb; omega)
  have hB3 := below_keeps hBb hkp (by have := hBb.size; omega) (fun k hk => by omega)
  have hf2 : FreshL w.heap.size (fpA A1) := fun b hb => by have := hf b hb; have := hbW_h.out.size; omega
  have hN_h := Lib.hid hN; have hf_h := Lib.hid hf; have k1'_h := Lib.hid k1'; have k2'_h := Lib.hid k2'; have hBb_h := Lib.hid hBb; have hkp_h := Lib.hid hkp; have hx_h := Lib.hid hx; have hN2_h := Lib.hid hN2; have hB3_h := Lib.hid hB3; have hf2_h := Lib.hid hf2; clear hN hf k1' k2' hBb hkp hx hN2 hB3 hf2; clear hb1
  go_wp2_with (fail)
  refine bodyPost_ret (results_cell_row rfl _ _ (w.heap.size + 1) _ _ (0, 0) _ rfl hx_h.out Tryd.underlying80 rfl (by kernel_rfl)) rfl ?_
  exact ⟨_, fpA A1, rfl, ⟨A1, c1, by rw [hm_h.out], hN2_h.out, rfl⟩, hf2_h.out, hB3_h.out⟩
end Go.Proofs.YtahnhblodfdfhaaDoor
namespace Go.Proofs.YtahnhblodfdfhaaDoor
open Go.RowKit
def overB (p : Int) (n : Nd) : Bool := !(hvB n.1 && decide (p ≤ n.2.1))
def goodM (p : Int) (l : List Nd) : Bool := fieldB p && ((treeM l).isSome && l.all (overB p))
theorem goodM_nf {p : Int} {l : List Nd} (h : fieldB p = false) : goodM p l = false := by simp [goodM, h]
theorem goodM_nt {p : Int} {l : List Nd} (h : treeM l = none) : goodM p l = false := by simp [goodM, h]
theorem goodM_all {p : Int} {l : List Nd} {t : Tr} (h : fieldB p = true) (h' : treeM l = some t) : goodM p l = l.all (overB p) := by simp [goodM, h, h']
theorem all_no {p : Int} {l : List Nd} {k : Nat} {n : Nd} (h : l[k]? = some n) (hn : overB p n = false) : l.all (overB p) = false := by
  rw [List.all_eq_false]
  exact ⟨n, List.mem_of_getElem? h, by simp [hn]⟩
theorem all_yes {p : Int} {l : List Nd} (h : ∀ j n, l[j]? = some n → j < l.length → overB p n = true) : l.all (overB p) = true := by
  rw [List.all_eq_true]
  intro n hn
  obtain ⟨j, hj⟩ := List.mem_iff_getElem?.1 hn
  exact h j n hj (List.getElem?_eq_some_iff.1 hj).1
set_option maxRecDepth 8000 in
set_option maxHeartbeats 2000000 in
theorem isOver_any (p : Int) {v : Value} {l : List Nd} {w : World} (h : RdTm w v l) (hT : Tab w) :
    Calls Tryd.prog 150 #[v, .int .i64 p] w fun e w' => e = .returned (.bool (goodM p l)) ∧ Below w.heap.size w w' := by
  obtain ⟨A, c, rfl, h⟩ := h
  obtain ⟨m, hm⟩ : ∃ m, m = l.length := ⟨_, rfl⟩
  obtain ⟨W, hW⟩ : ∃ W, W = w.alloc (.cells #[.slice A m c] tTerm) := ⟨_, rfl⟩
  have b0 := t_below_alloc w (.cells #[.slice A m c] tTerm)
  have k0 := heap_alloc_new w (.cells #[.slice A m c] tTerm)
  rw [← hW] at b0 k0
  have hr := h.below b0
  have hI := isField_any p W (hT.below b0 hT.lt)
  have hC := isValid_any (v := .agg #[.slice A m c]) (l := l) (w := W) ⟨A, c, by rw [hm], hr⟩
  rw [← hm]
  obtain ⟨F, hF⟩ : ∃ F, F = fieldB p := ⟨_, rfl⟩
  obtain ⟨G, hG⟩ : ∃ G, G = goodM p l := ⟨_, rfl⟩
  rw [← hF] at hI
  rw [← hG]
  clear h; have b0_h := Lib.hid b0; have k0_h := Lib.hid k0; have hr_h := Lib.hid hr; have hI_h := Lib.hid hI; have hC_h := Lib.hid hC; have hF_h := Lib.hid hF; have hG_h := Lib.hid hG; have hm_h := Lib.hid hm; have hT_h := Lib.hid hT; clear b0 k0 hr hI hC hF hG hm hT
  obtain ⟨k0_c, k0_f⟩ := bx1 k0_h.out
  cases F
  case false =>
    obtain rfl : G = false := by rw [hG_h.out]; exact goodM_nf hF_h.out.symm
    go_enter Tryd.func150, Tryd.ntmps150
    go_wp2_with (fail)
    rw [← hW]
    clear hW
    refine (hI_h.out).mono ?_
    rintro e w' ⟨rfl, rfl⟩
    go_wp2_with (fail)
    go_ret
    exact ⟨rfl, b0_h.out⟩
  case true =>
  go_enter Tryd.func150, Tryd.ntmps150
  go_wp2_with (fail)
  rw [← hW]
  clear hW
  refine (hI_h.out).mono ?_
  rintro e w' ⟨rfl, rfl⟩
  go_wp2_with (fail)
  refine (hC_h.out).mono ?_
  rintro e w1 ⟨b, rfl, hb, hb1⟩
  clear k0_c k0_f
  have hB1 := below_trans b0_h.out hb1 b0_h.out.size
  replace k0_h := Lib.hid (t_box_below k0_h.out hb1)
  have hr1 := hr_h.out.below hb1
  cases b
  · have hN : treeM l = none := by cases h : treeM l with | none => rfl | some t => rw [h] at hb; cases hb
    obtain rfl : G = false := by rw [hG_h.out]; exact goodM_nt hN
    have hb_h := Lib.hid hb; have hN_h := Lib.hid hN; have hB1_h := Lib.hid hB1; have hb1_h := Lib.hid hb1; have hr1_h := Lib.hid hr1; clear hb hN hB1 hb1 hr1
    go_wp2_with (fail)
    go_ret
    exact ⟨rfl, hB1_h.out⟩
  · obtain ⟨t, hN⟩ : ∃ t, treeM l = some t := by cases h : treeM l with | none => rw [h] at hb; cases hb | some t => exact ⟨t, rfl⟩
    have hGe : G = l.all (overB p) := by rw [hG_h.out]; exact goodM_all hF_h.out.symm hN
    have hm4 : m ≤ 400 := by rw [hm_h.out, (treeM_some hN).1]; exact (treeM_some hN).2.2
    obtain ⟨k0_c, k0_f⟩ := bx1 k0_h.out
    have hb_h := Lib.hid hb; have hN_h := Lib.hid hN; have hB1_h := Lib.hid hB1; have hb1_h := Lib.hid hb1; have hr1_h := Lib.hid hr1; have hGe_h := Lib.hid hGe; clear hb hN hB1 hb1 hr1 hGe
    go_wp2_with (fail)
    go_loopw [18] (fun iv wr => ∃ k : Nat, k ≤ m ∧ iv = .int .i64 k ∧ (∀ j n, l[j]? = some n → j < k → overB p n = true) ∧ Below w.heap.size w wr ∧ Below w1.heap.size w1 wr) (fun iv _ => m - (intOf iv).toNat)
    case atStart => exact ⟨0, Nat.zero_le _, rfl, fun _ _ _ h => absurd h (Nat.not_lt_zero _), hB1_h.out, Below.refl _ _⟩
    case round =>
      obtain ⟨k, hk, rfl, hall, hB, hb2⟩ := hrel
      clear k0_c k0_f
      by_cases hlt : k < m
      · obtain ⟨ad, κ, v, s, rfl, hn, d0, d1, d2⟩ := (hr1_h.out.below hb2).at_ (j := k) (by rw [← hm_h.out]; exact hlt)
        have hkI : (k : Int) < (m : Int) := by omega
        obtain ⟨H, hH⟩ : ∃ H, H = hvB κ := ⟨_, rfl⟩
        have hV := fun W => hasValue_any κ W
        rw [← hH] at hV
        have hba := t_below_alloc wr (.cells #[.int .i64 κ, .int .i64 v, .string s] tNd)
        have hB2 := below_trans hB hba hB.size
        have hb3 := below_trans hb2 hba hb2.size
        have hn_h := Lib.hid hn; have hH_h := Lib.hid hH; have hV_h := Lib.hid hV; have hall_h := Lib.hid hall; have hB_h := Lib.hid hB; have hb2_h := Lib.hid hb2; have hba_h := Lib.hid hba; have hB2_h := Lib.hid hB2; have hb3_h := Lib.hid hb3; clear hn hH hV hall hB hb2 hba hB2 hb3
        by_cases ho : overB p (κ, v, s) = true
        · have hall2 : ∀ j n, l[j]? = some n → j < k + 1 → overB p n = true := fun j n hj hlt' => by
            by_cases e : j = k
            · subst e
              rw [hn_h.out] at hj
              rw [← Option.some.inj hj]; exact ho
            · exact hall_h.out j n hj (by omega)
          cases H
          · have ho_h := Lib.hid ho
            have hall2_h := Lib.hid hall2; clear ho hall2
            go_wp2_with (fail)
            refine (hV_h.out _).mono ?_
            rintro e w' ⟨rfl, rfl⟩
            go_wp2_with (fail)
            go_roundw
            case rel => exact ⟨k + 1, by omega, by go_num, hall2_h.out, hB2_h.out, hb3_h.out⟩
            case measure => simp [intOf]; omega
          · have hlt2 : ¬ p ≤ v := fun h => by
              simp [overB, ← hH_h.out, h] at ho
            have hlt3 : v < p := by omega
            have ho_h := Lib.hid ho; have hall2_h := Lib.hid hall2; clear ho hall2
            go_wp2_with (fail)
            refine (hV_h.out _).mono ?_
            rintro e w' ⟨rfl, rfl⟩
            go_wp2_with (fail)
            go_roundw
            case rel => exact ⟨k + 1, by omega, by go_num, hall2_h.out, hB2_h.out, hb3_h.out⟩
            case measure => simp [intOf]; omega
        · have ho2 : overB p (κ, v, s) = false := by simpa using ho
          obtain rfl : H = true := by
            cases H
            · simp [overB, ← hH_h.out] at ho2
            · rfl
          have hge : p ≤ v := by
            simp [overB, ← hH_h.out] at ho2; exact ho2
          obtain rfl : G = false := by rw [hGe_h.out]; exact all_no hn_h.out ho2
          have ho_h := Lib.hid ho; have ho2_h := Lib.hid ho2; clear ho ho2
          go_wp2_with (fail)
          refine (hV_h.out _).mono ?_
          rintro e w' ⟨rfl, rfl⟩
          go_wp2_with (fail)
          go_ret
          exact ⟨rfl, hB2_h.out⟩
      · obtain rfl : k = m := by omega
        obtain rfl : G = true := by rw [hGe_h.out]; exact all_yes (fun j n hj hl => hall j n hj (by rw [hm_h.out]; exact hl))
        have hall_h := Lib.hid hall; have hB_h := Lib.hid hB; have hb2_h := Lib.hid hb2; clear hall hB hb2
        go_wp2_with (fail)
        go_ret
        exact ⟨rfl, hB_h.out⟩
end Go.Proofs.YtahnhblodfdfhaaDoor
namespace Go.Proofs.YtahnhblodfdfhaaDoor
open Go.RowKit
set_option maxRecDepth 8000 in
set_option maxHeartbeats 4000000 in
theorem tmGood_any (p : Int) {v : Value} {l : List Nd} {w : World} (h : RdTm w v l) :
    Calls Tryd.prog 85 #[.int .i64 p, v] w fun e w' => e = .returned (.bool (goodM p l)) ∧ Below w.heap.size w w' := by
  obtain ⟨A, c, rfl, h⟩ := h
  obtain ⟨m, hm⟩ : ∃ m, m = l.length := ⟨_, rfl⟩
  obtain ⟨W, hW⟩ : ∃ W, W = w.alloc (.cells #[.slice A m c] tTerm) := ⟨_, rfl⟩
  have b0 := t_below_alloc w (.cells #[.slice A m c] tTerm)
  have k0 := heap_alloc_new w (.cells #[.slice A m c] tTerm)
  rw [← hW] at b0 k0
  have hr := h.below b0
  have hI := fun W => fdGood_any p W
  have hC := tmScan_any (v := .agg #[.slice A m c]) (l := l) (w := W) ⟨A, c, by rw [hm], hr⟩
  rw [← hm]
  obtain ⟨F, hF⟩ : ∃ F, F = fieldB p := ⟨_, rfl⟩
  obtain ⟨G, hG⟩ : ∃ G, G = goodM p l := ⟨_, rfl⟩
  rw [← hF] at hI
  rw [← hG]
  clear h; have b0_h := Lib.hid b0; have k0_h := Lib.hid k0; have hr_h := Lib.hid hr; have hI_h := Lib.hid hI; have hC_h := Lib.hid hC; have hF_h := Lib.hid hF; have hG_h := Lib.hid hG; have hm_h := Lib.hid hm; clear b0 k0 hr hI hC hF hG hm
  obtain ⟨k0_c, k0_f⟩ := bx1 k0_h.out
  go_enter Tryd.func85, Tryd.ntmps85
  go_wp2_with (fail)
  rw [← hW]
  clear hW
  refine (hC_h.out).mono ?_
  rintro e w1 ⟨A0, A1, A2, d0, d1, d2, n0, n1, n2, b, rfl, hb, ht, hb1⟩
  clear k0_c k0_f
  obtain ⟨W2, hW2⟩ : ∃ W2, W2 = w1.alloc (.cells #[.slice A0 n0 d0, .slice A1 n1 d1, .slice A2 n2 d2] tInfo) := ⟨_, rfl⟩
  have hb2 : Below w1.heap.size w1 W2 := by rw [hW2]; exact t_below_alloc _ _
  have hB1 := below_trans (below_trans b0_h.out hb1 b0_h.out.size) hb2 (Nat.le_trans b0_h.out.size hb1.size)
  replace k0_h := Lib.hid (t_box_below k0_h.out hb1)
  replace k0_h := Lib.hid (t_box_below k0_h.out hb2)
  have hr1 := (hr_h.out.below hb1).below hb2
  clear ht
  cases b
  · have hN : treeM l = none := by cases h : treeM l with | none => rfl | some t => rw [h] at hb; cases hb
    obtain rfl : G = false := by rw [hG_h.out]; exact goodM_nt hN
    have hb_h := Lib.hid hb; have hN_h := Lib.hid hN; have hB1_h := Lib.hid hB1; have hb1_h := Lib.hid hb1; have hb2_h := Lib.hid hb2; have hr1_h := Lib.hid hr1; clear hb hN hB1 hb1 hb2 hr1
    go_upto_region 2 with (fail)
    rw [← hW2]
    clear hW2
    go_wp2_with (fail)
    go_ret
    exact ⟨rfl, hB1_h.out⟩
  · obtain ⟨t, hN⟩ : ∃ t, treeM l = some t := by cases h : treeM l with | none => rw [h] at hb; cases hb | some t => exact ⟨t, rfl⟩
    have hm4 : m ≤ 400 := by rw [hm_h.out, (treeM_some hN).1]; exact (treeM_some hN).2.2
    cases F
    case false =>
      obtain rfl : G = false := by rw [hG_h.out]; exact goodM_nf hF_h.out.symm
      have hb_h := Lib.hid hb; have hN_h := Lib.hid hN; have hB1_h := Lib.hid hB1; have hb1_h := Lib.hid hb1; have hb2_h := Lib.hid hb2; have hr1_h := Lib.hid hr1; clear hb hN hB1 hb1 hb2 hr1
      go_upto_region 2 with (fail)
      rw [← hW2]
      clear hW2
      go_wp2_with (fail)
      refine (hI_h.out _).mono ?_
      rintro e w' ⟨rfl, rfl⟩
      go_wp2_with (fail)
      go_ret
      exact ⟨rfl, hB1_h.out⟩
    case true =>
    have hGe : G = l.all (overB p) := by rw [hG_h.out]; exact goodM_all hF_h.out.symm hN
    obtain ⟨k0_c, k0_f⟩ := bx1 k0_h.out
    have hb_h := Lib.hid hb; have hN_h := Lib.hid hN; have hB1_h := Lib.hid hB1; have hb1_h := Lib.hid hb1; have hb2_h := Lib.hid hb2; have hr1_h := Lib.hid hr1; have hGe_h := Lib.hid hGe; clear hb hN hB1 hb1 hb2 hr1 hGe
    go_upto_region 2 with (fail)
    rw [← hW2]
    clear hW2
    go_wp2_with (fail)
    refine (hI_h.out _).mono ?_
    rintro e w' ⟨rfl, rfl⟩
    go_wp2_with (fail)
    go_loopw [24] (fun iv wr => ∃ k : Nat, k ≤ m ∧ iv = .int .i64 k ∧ (∀ j n, l[j]? = some n → j < k → overB p n = true) ∧ Below w.heap.size w wr ∧ Below W2.heap.size W2 wr) (fun iv _ => m - (intOf iv).toNat)
    case atStart => exact ⟨0, Nat.zero_le _, rfl, fun _ _ _ h => absurd h (Nat.not_lt_zero _), hB1_h.out, Below.refl _ _⟩
    case round =>
      obtain ⟨k, hk, rfl, hall, hB, hb2⟩ := hrel
      clear k0_c k0_f
      by_cases hlt : k < m
      · obtain ⟨ad, κ, v, s, rfl, hn, d0, d1, d2⟩ := (hr1_h.out.below hb2).at_ (j := k) (by rw [← hm_h.out]; exact hlt)
        have hkI : (k : Int) < (m : Int) := by omega
        have hba := t_below_alloc wr (.cells #[.int .i64 κ, .int .i64 v, .string s] tNd)
        have hB2 := below_trans hB hba hB.size
        have hb3 := below_trans hb2 hba hb2.size
        have hn_h := Lib.hid hn; have hall_h := Lib.hid hall; have hB_h := Lib.hid hB; have hb2_h := Lib.hid hb2; have hba_h := Lib.hid hba; have hB2_h := Lib.hid hB2; have hb3_h := Lib.hid hb3; clear hn hall hB hb2 hba hB2 hb3
        by_cases ho : overB p (κ, v, s) = true
        · have hall2 : ∀ j n, l[j]? = some n → j < k + 1 → overB p n = true := fun j n hj hlt' => by
            by_cases e : j = k
            · subst e
              rw [hn_h.out] at hj
              rw [← Option.some.inj hj]; exact ho
            · exact hall_h.out j n hj (by omega)
          by_cases h7 : κ = 7
          · have e7 : (κ == 7) = true := by simp [h7]
            have hlt3 : v < p := by
              simp [overB, hvB, h7] at ho; omega
            have ho_h := Lib.hid ho; have hall2_h := Lib.hid hall2; have h7_h := Lib.hid h7; clear ho hall2 h7
            go_wp2_with (fail)
            go_roundw
            case rel => exact ⟨k + 1, by omega, by go_num, hall2_h.out, hB2_h.out, hb3_h.out⟩
            case measure => simp [intOf]; omega
          · have e7 : (κ == 7) = false := by simp [h7]
            by_cases h13 : κ = 13
            · have e13 : (κ == 13) = true := by simp [h13]
              have hlt3 : v < p := by
                simp [overB, hvB, h13] at ho; omega
              have ho_h := Lib.hid ho; have hall2_h := Lib.hid hall2; have h7_h := Lib.hid h7; have h13_h := Lib.hid h13; clear ho hall2 h7 h13
              go_wp2_with (fail)
              go_roundw
              case rel => exact ⟨k + 1, by omega, by go_num, hall2_h.out, hB2_h.out, hb3_h.out⟩
              case measure => simp [intOf]; omega
            · have e13 : (κ == 13) = false := by simp [h13]
              have ho_h := Lib.hid ho; have hall2_h := Lib.hid hall2; have h7_h := Lib.hid h7; have h13_h := Lib.hid h13; clear ho hall2 h7 h13
              go_wp2_with (fail)
              go_roundw
              case rel => exact ⟨k + 1, by omega, by go_num, hall2_h.out, hB2_h.out, hb3_h.out⟩
              case measure => simp [intOf]; omega
        · have ho2 : overB p (κ, v, s) = false := by simpa using ho
          have hge : p ≤ v := by
            simp [overB] at ho2; exact ho2.2
          have hv : κ = 7 ∨ κ = 13 := by
            simp [overB, hvB] at ho2; have := ho2.1; omega
          obtain rfl : G = false := by rw [hGe_h.out]; exact all_no hn_h.out ho2
          by_cases h7 : κ = 7
          · have e7 : (κ == 7) = true := by simp [h7]
            have ho_h := Lib.hid ho; have ho2_h := Lib.hid ho2; have h7_h := Lib.hid h7; have hv_h := Lib.hid hv; clear ho ho2 h7 hv
            go_wp2_with (fail)
            go_ret
            exact ⟨rfl, hB2_h.out⟩
          · have e7 : (κ == 7) = false := by simp [h7]
            have h13 : κ = 13 := by omega
            have e13 : (κ == 13) = true := by simp [h13]
            have ho_h := Lib.hid ho; have ho2_h := Lib.hid ho2; have h7_h := Lib.hid h7; have hv_h := Lib.hid hv; have h13_h := Lib.hid h13; clear ho ho2 h7 hv h13
            go_wp2_with (fail)
            go_ret
            exact ⟨rfl, hB2_h.out⟩
      · obtain rfl : k = m := by omega
        obtain rfl : G = true := by rw [hGe_h.out]; exact all_yes (fun j n hj hl => hall j n hj (by rw [hm_h.out]; exact hl))
        have hall_h := Lib.hid hall; have hB_h := Lib.hid hB; have hb2_h := Lib.hid hb2; clear hall hB hb2
        go_wp2_with (fail)
        go_ret
        exact ⟨rfl, hB_h.out⟩
end Go.Proofs.YtahnhblodfdfhaaDoor
namespace Go.Proofs.YtahnhblodfdfhaaDoor
open Go.RowKit
structure BoxS where
  i : Nat
  d : Tmp
  obj : Obj
def putB (a : Act) (bs : List (BoxS × Nat)) : Act := bs.foldl (fun a x => a.put (some x.1.d) (.pointer (some ⟨x.2, 0, none⟩))) a
theorem putB_put (bs : List (BoxS × Nat)) (d : Tmp) (v : Value) : ∀ (a : Act), (∀ x ∈ bs, x.1.d ≠ d) → (putB a bs).put (some d) v = putB (a.put (some d) v) bs := by
  induction bs with
  | nil => intro a _; rfl
  | cons x r ih =>
    intro a h
    show (putB (a.put _ _) r).put _ _ = putB ((a.put _ _).put _ _) r
    rw [ih _ (fun y hy => h y (List.mem_cons_of_mem _ hy)), Act.put_comm a _ _ (fun e he => by obtain rfl := Option.some.inj he; intro h2; exact h x (by simp) (Option.some.inj h2).symm)]
theorem putB_perm {bs cs : List (BoxS × Nat)} (hp : bs.Perm cs) (hn : (bs.map (·.1.d)).Nodup) (a : Act) : putB a bs = putB a cs := by
  unfold putB
  refine List.Perm.foldl_eq' hp (fun x hx y hy z => ?_) a
  by_cases e : x = y
  · subst e; rfl
  · refine Act.put_comm z _ _ (fun d hd h2 => ?_)
    have hd' : x.1.d = y.1.d := by rw [Option.some.inj hd, Option.some.inj h2]
    clear hp
    induction bs with
    | nil => cases hx
    | cons b r ih =>
      simp only [List.map_cons, List.nodup_cons, List.mem_map, not_exists, not_and] at hn
      rcases List.mem_cons.1 hx with h1 | h1 <;> rcases List.mem_cons.1 hy with h3 | h3
      · exact e (h1.trans h3.symm)
      · subst h1; exact hn.1 y h3 hd'.symm
      · subst h3; exact hn.1 x h1 hd'
      · exact ih hn.2 h1 h3
theorem perm_lift : ∀ (zs : List BoxS) (bs : List (BoxS × Nat)), (bs.map (·.1)).Perm zs → ∃ cs, bs.Perm cs ∧ cs.map (·.1) = zs
  | [], bs, h => by
    have : bs = [] := by simpa using h.eq_nil
    exact ⟨[], by rw [this], rfl⟩
  | z :: zs, bs, h => by
    have hz : z ∈ bs.map (·.1) := h.symm.subset (by simp)
    obtain ⟨x, hx, rfl⟩ := List.mem_map.1 hz
    obtain ⟨s, t, rfl⟩ := List.append_of_mem hx
    have h2 : ((s ++ t).map (·.1)).Perm zs := by
      have : ((s ++ x :: t).map (·.1)).Perm (x.1 :: (s ++ t).map (·.1)) := by simp only [List.map_append, List.map_cons]; exact List.perm_middle
      exact (this.symm.trans h).cons_inv
    obtain ⟨cs, hc, he⟩ := perm_lift zs (s ++ t) h2
    exact ⟨x :: cs, List.perm_middle.trans (hc.cons x), by simp [he]⟩
theorem erase_split : ∀ (ps : List BoxS) (j : Nat), j ∈ ps.map (·.i) → ∃ s z t, ps = s ++ z :: t ∧ z.i = j ∧ (ps.map (·.i)).erase j = (s ++ t).map (·.i)
  | [], _, h => by cases h
  | p :: ps, j, h => by
    by_cases e : p.i = j
    · exact ⟨[], p, ps, rfl, e, by rw [List.map_cons, e, List.erase_cons_head]; rfl⟩
    · have h' : j ∈ ps.map (·.i) := by
        rw [List.map_cons] at h
        rcases List.mem_cons.1 h with h | h
        · exact absurd h.symm e
        · exact h
      obtain ⟨s, z, t, h1, h2, h3⟩ := erase_split ps j h'
      exact ⟨p :: s, z, t, by rw [h1]; rfl, h2, by rw [List.map_cons, List.erase_cons_tail (by simpa using e), h3]; rfl⟩
theorem boxB {w w' : World} {B : Nat} {o : Obj} (h : w.heap[B]? = some o) (hb : Below w.heap.size w w') : w'.heap[B]? = some o := (hb.block B (Array.getElem?_eq_some_iff.1 h).1).trans h
section
variable {P : Program} {l : List Oper} {Q : Exit → Act → World → Prop} {md : Region.Mode} {S : World → Prop}
def rdyB (md : Region.Mode) (ops : Array Oper) (fin : Array Bool) : Nat → Array Bool → List Nat → List Nat → Bool
  | 0, L, cs, ps => cs.isEmpty && ps.isEmpty && L.toList == fin.toList
  | n + 1, L, cs, ps =>
    !(Region.ready md ops L).isEmpty && (Region.ready md ops L).all fun j =>
      (match cs with | c :: cs' => c == j && rdyB md ops fin n (L.setIfInBounds j true) cs' ps | [] => false) || (ps.contains j && rdyB md ops fin n (L.setIfInBounds j true) cs (ps.erase j))
def callsB (P : Program) (ops : Array Oper) (zs : List BoxS) (w : World) (R : List Value → World → Prop) (K : Act → List Value → Prop) : List (Nat × Tmp) → Act → List Value → Prop
  | [], A, vs => K A vs
  | c :: cs, A, vs => ∃ o f args, ops[c.1]? = some o ∧ o.dst = some c.2 ∧ (zs.all fun z => !(o.looksAt ops).contains z.d && z.d != c.2) = true ∧ Region.wanted o (yielded ops A.tmps) = true ∧
      (∀ w', (execOp A.eval o).run P w' = .ok (.enter f args) w') ∧
      (∀ w', Below w.heap.size w w' → R vs w' → Calls P f args w' fun e w'' => ∃ v, e = .returned v ∧ Below w'.heap.size w' w'' ∧ R (vs ++ [v]) w'') ∧ ∀ v, callsB P ops zs w R K cs (A.put (some c.2) v) (vs ++ [v])
theorem wanted_putB {o : Oper} {ops : Array Oper} (bs : List (BoxS × Nat)) : ∀ (a : Act), (∀ x ∈ bs, x.1.d ∉ o.looksAt ops) → Region.wanted o (yielded ops (putB a bs).tmps) = Region.wanted o (yielded ops a.tmps) := by
  induction bs with
  | nil => intro a _; rfl
  | cons x r ih =>
    intro a h
    show Region.wanted o (yielded ops (putB (a.put _ _) r).tmps) = _
    rw [ih _ (fun y hy => h y (List.mem_cons_of_mem _ hy)), wanted_put o a _ _ (fun d hd => by obtain rfl := Option.some.inj hd; exact h x (by simp))]
theorem execOp_putB {o : Oper} {ops : Array Oper} (hs : ∀ cs b, o.op ≠ .select cs b) (bs : List (BoxS × Nat)) : ∀ (a : Act), (∀ x ∈ bs, x.1.d ∉ o.looksAt ops) → execOp (putB a bs).eval o = execOp a.eval o := by
  induction bs with
  | nil => intro a _; rfl
  | cons x r ih =>
    intro a h
    show execOp (putB (a.put _ _) r).eval o = _
    rw [ih _ (fun y hy => h y (List.mem_cons_of_mem _ hy)), execOp_put (ops := ops) o hs a _ _ (fun d hd => by obtain rfl := Option.some.inj hd; exact h x (by simp))]
theorem callsBoxes {zs : List BoxS} {w : World} {R : List Value → World → Prop} {fuel : Nat} {fin : Array Bool} (hsel : Region.noSelect l.toArray = true) (hnd : (zs.map (·.d)).Nodup)
    (hstab : ∀ vs w' w'', R vs w' → Below w'.heap.size w' w'' → R vs w'') (hS : ∀ w', Below w.heap.size w w' → S w')
    (hz : ∀ z ∈ zs, ∃ o, l.toArray[z.i]? = some o ∧ o.dst = some z.d ∧ o.guard = none ∧ ∀ (a : Act) w, (execOp a.eval o).run P w = .ok (.value (.pointer (some ⟨w.heap.size, 0, none⟩))) (w.alloc z.obj)) :
    ∀ (n : Nat) (listed : Array Bool) (cs : List (Nat × Tmp)) (ps : List BoxS) (A : Act) (vs : List Value) (bs : List (BoxS × Nat)) (w' : World),
      rdyB md l.toArray fin n listed (cs.map (·.1)) (ps.map (·.i)) = true → (bs.map (·.1) ++ ps).Perm zs → Below w.heap.size w w' → R vs w' →
      (∀ x ∈ bs, w'.heap[x.2]? = some x.1.obj ∧ w.heap.size ≤ x.2) → (bs.map (·.2)).Nodup →
      callsB P l.toArray zs w R (fun A vs => ∀ (bs : List (BoxS × Nat)) w', bs.map (·.1) = zs → Below w.heap.size w w' → R vs w' → (∀ x ∈ bs, w'.heap[x.2]? = some x.1.obj ∧ w.heap.size ≤ x.2) → (bs.map (·.2)).Nodup → wpAnyH P md l.toArray Q S fuel fin (putB A bs) w') cs A vs →
      wpAnyH P md l.toArray Q S (fuel + n) listed (putB A bs) w' := by
  intro n
  induction n with
  | zero =>
    intro listed cs ps A vs bs w' hr hp hb hR hbx hnb hc
    simp only [rdyB, Bool.and_eq_true, List.isEmpty_iff, List.map_eq_nil_iff, beq_iff_eq] at hr
    obtain ⟨⟨rfl, rfl⟩, hl⟩ := hr
    have hl' : listed = fin := by cases listed; cases fin; simp at hl; rw [hl]
    rw [List.append_nil] at hp
    obtain ⟨cs', h1, h2⟩ := perm_lift zs bs hp
    have hnd' : (bs.map (·.1.d)).Nodup := by
      have : (bs.map (·.1.d)).Perm (zs.map (·.d)) := by have h := hp.map (·.d); rw [List.map_map] at h; exact h
      exact this.symm.nodup hnd
    rw [putB_perm h1 hnd' A, hl']
    exact hc cs' w' h2 hb hR (fun x hx => hbx x (h1.symm.subset hx)) ((h1.map (·.2)).nodup hnb)
  | succ n ih =>
    intro listed cs ps A vs bs w' hr hp hb hR hbx hnb hc
    simp only [rdyB, Bool.and_eq_true, Bool.not_eq_true', List.all_eq_true, Bool.or_eq_true] at hr
    refine wpAnyH_all rfl (fun h => by rw [h] at hr; simp at hr) fun j hj => ?_
    have hbz : ∀ x ∈ bs, x.1 ∈ zs := fun x hx => hp.subset (List.mem_append_left _ (List.mem_map.2 ⟨x, hx, rfl⟩))
    rcases hr.2 j hj with h | h
    · cases cs with
      | nil => cases h
      | cons c cs =>
        simp only [List.map_cons, Bool.and_eq_true, beq_iff_eq] at h
        obtain ⟨hcj, hr'⟩ := h
        obtain ⟨o, f, args, ho, hd, hap, hw, hrun, hcall, hrest⟩ := hc
        rw [hcj] at ho
        simp only [List.all_eq_true, Bool.and_eq_true, Bool.not_eq_true', bne_iff_ne] at hap
        have h1 : ∀ x ∈ bs, x.1.d ∉ o.looksAt l.toArray := fun x hx => by have := (hap _ (hbz x hx)).1; simpa using this
        have h2 : ∀ x ∈ bs, x.1.d ≠ c.2 := fun x hx => (hap _ (hbz x hx)).2
        unfold wpOp
        simp only [ho, wanted_putB bs A h1, hw, if_true]
        refine .inl ?_
        unfold Oper.wp
        rw [execOp_putB (fun cs b => Region.noSelect_spec hsel j o cs b ho) bs A h1, hrun]
        refine (hcall w' hb hR).mono fun e w'' ⟨v, he, hb2, hR2⟩ => ?_
        subst he
        rw [hd]
        have hb3 := below_trans hb hb2 hb.size
        refine ⟨hS _ hb3, ?_⟩
        rw [putB_put bs c.2 v A h2]
        exact ih _ cs ps _ _ bs w'' hr' hp hb3 hR2 (fun x hx => ⟨boxB (hbx x hx).1 hb2, (hbx x hx).2⟩) hnb (hrest v)
    · simp only [List.contains_eq_mem, decide_eq_true_eq] at h
      obtain ⟨hm, hr'⟩ := h
      obtain ⟨s, z, t, rfl, hzi, hse⟩ := erase_split ps j hm
      rw [hse] at hr'
      obtain ⟨o, ho, hd, hg, hrun⟩ := hz z (hp.subset (List.mem_append_right _ (by simp)))
      rw [hzi] at ho
      have hw : ∀ y, Region.wanted o y = true := fun y => by unfold Region.wanted; rw [hg]
      unfold wpOp
      simp only [ho, hw, if_true]
      refine .inl ?_
      unfold Oper.wp
      rw [hrun]
      have hal := (Below.refl w'.heap.size w').alloc (Nat.le_refl _) z.obj
      have hb3 := below_trans hb hal hb.size
      refine ⟨hS _ hb3, ?_⟩
      rw [hd, show (putB A bs).put (some z.d) (.pointer (some ⟨w'.heap.size, 0, none⟩)) = putB A (bs ++ [(z, w'.heap.size)]) by simp [putB]]
      have hlt : ∀ x ∈ bs, x.2 < w'.heap.size := fun x hx => (Array.getElem?_eq_some_iff.1 (hbx x hx).1).1
      refine ih _ cs (s ++ t) A vs _ _ hr' ?_ hb3 (hstab _ _ _ hR hal) (fun x hx => ?_) ?_ hc
      · refine List.Perm.trans ?_ hp
        simp only [List.map_append, List.map_cons, List.map_nil, List.append_assoc, List.cons_append, List.nil_append]
        exact (List.perm_middle.symm).append_left _
      · rcases List.mem_append.1 hx with hx | hx
        · exact ⟨boxB (hbx x hx).1 hal, (hbx x hx).2⟩
        · obtain rfl := List.mem_singleton.1 hx
          exact ⟨heap_alloc_new w' z.obj, hb.size⟩
      · simp only [List.map_append, List.map_cons, List.map_nil]
        rw [List.nodup_append]
        refine ⟨hnb, by simp, fun x hx y hy => ?_⟩
        obtain ⟨q, hq, rfl⟩ := List.mem_map.1 hx
        have := hlt q hq
        have := List.mem_singleton.1 hy
        omega
end
end Go.Proofs.YtahnhblodfdfhaaDoor
namespace Go.Proofs.YtahnhblodfdfhaaDoor
open Go.RowKit
def dnTmM (p : Int) (l : List Nd) : Sys × Bool := if goodM p l && l.all (fun n => noDl n.1) then (match treeM l with | some t => (den p t, true) | none => ((0, 0, []), false)) else ((0, 0, []), false)
set_option maxRecDepth 100000 in
set_option maxHeartbeats 4000000 in
theorem dnTerm_any (p : Int) {v : Value} {l : List Nd} (w : World) (h : RdTm w v l) :
    Calls Tryd.prog 90 #[.int .i64 p, v] w fun e w' => ∃ v' fp, e = .returned (.tuple #[v', .bool (dnTmM p l).2]) ∧ OwSys w' v' (dnTmM p l).1 fp ∧ FreshL w.heap.size fp ∧ Below w.heap.size w w' := by
  have hG0 := fun (w1 : World) (hb : Below w.heap.size w w1) => tmGood_any p (h.below hb)
  obtain ⟨A, c, rfl, h⟩ := h
  obtain ⟨m, hm⟩ : ∃ m, m = l.length := ⟨_, rfl⟩
  rw [← hm]
  rw [← hm] at hG0
  obtain ⟨W, hW, bW, k0, k1⟩ := alloc2 w (.cells #[.slice A m c] tTerm) (.cells #[.int .i64 0, .int .i64 0, .slice none 0 0] tRelD)
  have hWs : W.heap.size = w.heap.size + 1 + 1 := by rw [hW]; simp
  have hWl : w.heap.size + 1 < W.heap.size := by omega
  obtain ⟨c0, f0⟩ := bx1_d k0
  by_cases hg : goodM p l = true
  · obtain ⟨D, hD⟩ : ∃ D, D = dnTmM p l := ⟨_, rfl⟩
    have hg2 := hg
    unfold goodM at hg2
    simp only [Bool.and_eq_true] at hg2
    obtain ⟨hf, hsome, hover⟩ := hg2
    obtain ⟨t, hv⟩ := Option.isSome_iff_exists.1 hsome
    have hDY : l.all (fun n => noDl n.1) = true → D = (den p t, true) := fun h => by rw [hD]; unfold dnTmM; rw [hg, h, hv]; rfl
    have hDN : l.all (fun n => noDl n.1) = false → D = ((0, 0, []), false) := fun h => by rw [hD]; unfold dnTmM; rw [hg, h]; rfl
    have hokv : ∀ n, n ∈ l → (n.1 = 7 ∨ n.1 = 13) → n.2.1 < p := fun n hn h7 => by
      have := List.all_eq_true.1 hover n hn
      unfold overB hvB at this
      simp [h7] at this
      omega
    have hl400 : m ≤ 400 := by
      have hv' := hv
      unfold treeM at hv'
      split at hv'
      · rename_i h2; omega
      · cases hv'
    rw [← hD]
    simp only [hg] at hG0
    have hr := h.below bW
    clear hg hsome hover hD h hWs; have hG0_h := Lib.hid hG0; have k0_h := Lib.hid k0; have k1_h := Lib.hid k1; have bW_h := Lib.hid bW; have hm_h := Lib.hid hm; have hr_h := Lib.hid hr; have hDY_h := Lib.hid hDY; have hDN_h := Lib.hid hDN; have hokv_h := Lib.hid hokv; have hv_h := Lib.hid hv; clear hG0 k0 k1 bW hm hr hDY hDN hokv hv
    go_enter Tryd.func90, Tryd.ntmps90
    go_upto_region 1 with (fail)
    rw [← hW]
    clear hW
    go_wp2_with (fail)
    refine (hG0_h.out _ bW_h.out).mono ?_
    rintro e w2 ⟨rfl, hb2⟩
    clear c0 f0
    have k0r := box_below k0_h.out hb2
    have k1r := box_below k1_h.out hb2
    have hB2 := below_trans bW_h.out hb2 bW_h.out.size
    have hz2 := hb2.size
    have hr2 := hr_h.out.below hb2
    have hS0 : Stk w2 w2 none 0 [] (dens p []) := ⟨Sl.nil _ _ _, fun i s hi => by simp [dens] at hi, rfl, fun b hb => by simp at hb, Below.refl _ _⟩
    obtain ⟨d0, g0⟩ := bx1_d k0r
    clear hb2 hr_h k0_h k1_h bW_h; have k0r_h := Lib.hid k0r; have k1r_h := Lib.hid k1r; have hB2_h := Lib.hid hB2; have hr2_h := Lib.hid hr2; have hS0_h := Lib.hid hS0; clear k0r k1r hB2 hr2 hS0
    go_wp2_with (fail)
    go_loopw [19, 6] (fun iv sv wr => ∃ (k : Nat) (st : List Tr) (A1 : Option Addr) (c1 n1 : Nat) (hs : List RV), k ≤ m ∧ iv = .int .i64 k ∧ sv = .slice A1 n1 c1 ∧ n1 = st.length ∧ n1 ≤ k ∧ hs.length = n1 ∧ parse [] (l.take k) = some st ∧ (∀ t, t ∈ st → wt t ∧ okTr p t) ∧ (∀ (j : Nat) (n : Nd), l[j]? = some n → j < k → noDl n.1 = true) ∧ Stk w2 wr A1 c1 hs (dens p st)) (fun iv _ _ => m - (intOf iv).toNat)
    case atStart => exact ⟨0, [], _, 0, 0, [], Nat.zero_le _, rfl, rfl, rfl, Nat.le_refl _, rfl, by simp [parse], fun t ht => (by cases ht), fun j n _ h => (by omega), hS0_h.out⟩
    case round =>
      clear hS0_h d0 g0
      obtain ⟨k, st, A1, c1, n1, hs, hk, rfl, rfl, hn1, hnk, hsl, hpar, hall, hnd, hS⟩ := hrel
      obtain ⟨wo, rfl⟩ : ∃ x, x = wr := ⟨_, rfl⟩
      by_cases hlt : k < m
      · have hbo := hS.below_
        obtain ⟨ad, κ, v, s, rfl, hn, d0, d1, d2⟩ := (hr2_h.out.below hbo).at_ (j := k) (by rw [← hm_h.out]; exact hlt)
        have hkI : (k : Int) < (m : Int) := by omega
        have hbWo := below_trans hB2_h.out hbo hB2_h.out.size
        obtain ⟨wN, hwN⟩ : ∃ wN, wN = wo.alloc (.cells #[.int .i64 κ, .int .i64 v, .string s] 69) := ⟨_, rfl⟩
        have hbN : Below wo.heap.size wo wN := by rw [hwN]; exact below_alloc _ _
        have kN : wN.heap[wo.heap.size]? = some (.cells #[.int .i64 κ, .int .i64 v, .string s] 69) := by rw [hwN]; exact heap_alloc_new _ _
        have hTm := fun W' => dnTimeless_any κ W'
        by_cases hdl : noDl κ = true
        · simp only [hdl] at hTm
          have hokv := hokv_h.out _ (List.mem_of_getElem? hn)
          have hnd' : ∀ (j : Nat) (n : Nd), l[j]? = some n → j < k + 1 → noDl n.1 = true := fun j n h2 h3 => by
            rcases Nat.lt_or_ge j k with h4 | h4
            · exact hnd j n h2 h4
            · obtain rfl : j = k := by omega
              rw [hn] at h2
              obtain rfl := Option.some.inj h2
              exact hdl
          obtain ⟨st', hst, hpar'⟩ := step_some hv_h.out hpar hn
          have hSN := hS.below hbN
          have h814 : κ ≠ 8 ∧ κ ≠ 14 := by
            unfold noDl at hdl
            simp only [Bool.and_eq_true, decide_eq_true_eq] at hdl
            exact hdl
          obtain ⟨⟨e0, e1, e2⟩, e3, e4, e5⟩ := box3 kN
          by_cases hj : κ = 15 ∨ κ = 16
          · obtain ⟨b, a, r, rfl, hjb, rfl⟩ := step_join_some (show isJoin (κ, v, s) from hj) hst
            obtain ⟨q, hq⟩ : ∃ q, q = r.length := ⟨_, rfl⟩
            have hnq : n1 = q + 2 := by rw [hn1, hq]; rfl
            obtain ⟨ga, gb, gt⟩ := dens_two (p := p) (b := b) (a := a) hq.symm
            obtain ⟨qb, hqb⟩ : ∃ qb, qb = q + 1 := ⟨_, rfl⟩
            rw [← hqb] at gb
            have i1 : (n1 : Int) - 1 = (qb : Int) := by omega
            have i2 : (n1 : Int) - 2 = (q : Int) := by omega
            have r1 : IntKind.i64.wrap (qb : Int) = (qb : Int) := IntWalk.i64_in _ (by omega)
            have r2 : IntKind.i64.wrap (q : Int) = (q : Int) := IntWalk.i64_in _ (by omega)
            have hqI : (q : Int) < (n1 : Int) := by omega
            have hqbI : (qb : Int) < (n1 : Int) := by omega
            have hqle : (q : Int) ≤ (n1 : Int) := by omega
            have hq0 : (0 : Int) ≤ (q : Int) := by omega
            have hb1516 : (κ != 15 && κ != 16) = false := by rcases hj with rfl | rfl <;> rfl
            clear hpar hS hn hdl h814 hnd hokv; have hsl_h := Lib.hid hsl; have hn1_h := Lib.hid hn1; have hpar'_h := Lib.hid hpar'; have hall_h := Lib.hid hall; have hSN_h := Lib.hid hSN; have hbN_h := Lib.hid hbN; have kN_h := Lib.hid kN; have hbo_h := Lib.hid hbo; have hnd'_h := Lib.hid hnd'; have hTm_h := Lib.hid hTm; have hbWo_h := Lib.hid hbWo; have hst_h := Lib.hid hst; have ga_h := Lib.hid ga; have gb_h := Lib.hid gb; have gt_h := Lib.hid gt; have hqb_h := Lib.hid hqb; have hq_h := Lib.hid hq; have hj_h := Lib.hid hj; have hjb_h := Lib.hid hjb; have hnq_h := Lib.hid hnq; clear hsl hn1 hpar' hall hSN hbN kN hbo hnd' hTm hbWo hst ga gb gt hqb hq hj hjb hnq
            obtain ⟨ad1, x, y, B, n, e, fpa, rfl, a0, a1', a2, hoa, hfa⟩ := hSN_h.out.at_ ga_h.out
            obtain ⟨ad2, x', y', B', n', e', fpb, hA2, z0, z1, z2, hob, hfb⟩ := hSN_h.out.at_ gb_h.out
            obtain rfl := Option.some.inj hA2
            clear hA2; have hoa_h := Lib.hid hoa; have hob_h := Lib.hid hob; have hfa_h := Lib.hid hfa; have hfb_h := Lib.hid hfb; have a0_h := Lib.hid a0; have a1'_h := Lib.hid a1'; have a2_h := Lib.hid a2; have z0_h := Lib.hid z0; have z1_h := Lib.hid z1; have z2_h := Lib.hid z2; clear hoa hob hfa hfb a0 a1' a2 z0 z1 z2
            go_upto_region 7 with (fail)
            rw [← hwN]
            clear hwN d0 d1 d2
            go_wp2_with (fail)
            refine (hTm_h.out _).mono ?_
            rintro e w' ⟨rfl, hw'⟩
            subst hw'
            obtain ⟨wN, rfl⟩ : ∃ x, x = w' := ⟨_, rfl⟩
            rcases hj_h.out with rfl | rfl
            · obtain ⟨wa, oa⟩ := hall_h.out a (by simp)
              obtain ⟨wb, ob⟩ := hall_h.out b (by simp)
              obtain ⟨ra, ta1, ta2⟩ := den_ok hf wa oa
              obtain ⟨rb, tb1, tb2⟩ := den_ok hf wb ob
              have fa := wt_fit wa
              have fb := wt_fit wb
              have hjb2 := hjb_h.out
              simp only [joinB, show decide ((15 : Int) = 16) = false from rfl, Bool.false_eq_true, if_false, decide_eq_true_eq] at hjb2
              have hC := fun (W' : World) (h1 : OwSys W' (.agg #[.int .i64 x, .int .i64 y, .slice B n e]) (den p a) fpa) (h2 : OwSys W' (.agg #[.int .i64 x', .int .i64 y', .slice B' n' e']) (den p b) fpb) => rlCompose_any p W' h1 h2 ra rb (by omega) (by omega)
              obtain ⟨V, hV⟩ : ∃ V, V = cmpV p (den p a) (den p b) := ⟨_, rfl⟩
              simp only [← hV] at hC
              have hden : den p (.node false a b) = V := hV.symm
              clear hV
              have hT := hSN_h.out.take (k := q) (by rw [hsl_h.out, hnq_h.out]; omega)
              rw [gt_h.out] at hT
              have hqc : (q : Int) ≤ (c1 : Int) := by
                have h9 := hSN_h.out.sl.2.1
                rw [hsl_h.out] at h9
                omega
              have hqk : q + 2 ≤ k := by have := hnq_h.out; omega
              have hC_h := Lib.hid hC; have hden_h := Lib.hid hden; have hT_h := Lib.hid hT; have hqk_h := Lib.hid hqk; clear hC hden hT hqk
              go_upto_region 11 with (fail)
              refine beginH (fun w' => Below wN.heap.size wN w') (by kernel_rfl) ?_
              have hbd : Below wN.heap.size wN wN.drew := below_drew (Below.refl _ _)
              generalize wN.drew = W1 at hbd ⊢
              have hbd_h := Lib.hid hbd; clear hbd
              refine takeH 0 (v := ?_) rfl (by kernel_rfl) (by kernel_rfl) (by kernel_rfl) (fun _ _ _ h => h) hbd_h.out (by rfl) (fun W' hW' => ?_) ?_; rotate_left; · (have y0 := cell_mv hW' a0_h.out; have y1 := cell_mv hW' a1'_h.out; have y2 := cell_mv hW' a2_h.out; have y3 := cell_mv hW' z0_h.out; have y4 := cell_mv hW' z1_h.out; have y5 := cell_mv hW' z2_h.out; clear hW'; go_simp; first | done | with_reducible rfl)
              simp only [Act.put, nS1, nS2, nS3]
              refine takeH 1 (v := ?_) rfl (by kernel_rfl) (by kernel_rfl) (by kernel_rfl) (fun _ _ _ h => h) hbd_h.out (by rfl) (fun W' hW' => ?_) ?_; rotate_left; · (have y0 := cell_mv hW' a0_h.out; have y1 := cell_mv hW' a1'_h.out; have y2 := cell_mv hW' a2_h.out; have y3 := cell_mv hW' z0_h.out; have y4 := cell_mv hW' z1_h.out; have y5 := cell_mv hW' z2_h.out; clear hW'; go_simp; first | done | with_reducible rfl)
              simp only [Act.put, nS1, nS2, nS3]
              refine takeH 2 (v := ?_) rfl (by kernel_rfl) (by kernel_rfl) (by kernel_rfl) (fun _ _ _ h => h) hbd_h.out (by rfl) (fun W' hW' => ?_) ?_; rotate_left; · (have y0 := cell_mv hW' a0_h.out; have y1 := cell_mv hW' a1'_h.out; have y2 := cell_mv hW' a2_h.out; have y3 := cell_mv hW' z0_h.out; have y4 := cell_mv hW' z1_h.out; have y5 := cell_mv hW' z2_h.out; clear hW'; go_simp; first | done | with_reducible rfl)
              simp only [Act.put, nS1, nS2, nS3]
              refine takeH 3 (v := ?_) rfl (by kernel_rfl) (by kernel_rfl) (by kernel_rfl) (fun _ _ _ h => h) hbd_h.out (by rfl) (fun W' hW' => ?_) ?_; rotate_left; · (have y0 := cell_mv hW' a0_h.out; have y1 := cell_mv hW' a1'_h.out; have y2 := cell_mv hW' a2_h.out; have y3 := cell_mv hW' z0_h.out; have y4 := cell_mv hW' z1_h.out; have y5 := cell_mv hW' z2_h.out; clear hW'; go_simp; first | done | with_reducible rfl)
              simp only [Act.put, nS1, nS2, nS3]
              refine takeH 4 (v := ?_) rfl (by kernel_rfl) (by kernel_rfl) (by kernel_rfl) (fun _ _ _ h => h) hbd_h.out (by rfl) (fun W' hW' => ?_) ?_; rotate_left; · (have y0 := cell_mv hW' a0_h.out; have y1 := cell_mv hW' a1'_h.out; have y2 := cell_mv hW' a2_h.out; have y3 := cell_mv hW' z0_h.out; have y4 := cell_mv hW' z1_h.out; have y5 := cell_mv hW' z2_h.out; clear hW'; go_simp; first | done | with_reducible rfl)
              simp only [Act.put, nS1, nS2, nS3]
              refine takeH 5 (v := ?_) rfl (by kernel_rfl) (by kernel_rfl) (by kernel_rfl) (fun _ _ _ h => h) hbd_h.out (by rfl) (fun W' hW' => ?_) ?_; rotate_left; · (have y0 := cell_mv hW' a0_h.out; have y1 := cell_mv hW' a1'_h.out; have y2 := cell_mv hW' a2_h.out; have y3 := cell_mv hW' z0_h.out; have y4 := cell_mv hW' z1_h.out; have y5 := cell_mv hW' z2_h.out; clear hW'; go_simp; first | done | with_reducible rfl)
              simp only [Act.put, nS1, nS2, nS3]
              refine takeH 6 (v := ?_) rfl (by kernel_rfl) (by kernel_rfl) (by kernel_rfl) (fun _ _ _ h => h) hbd_h.out (by rfl) (fun W' hW' => ?_) ?_; rotate_left; · (have y0 := cell_mv hW' a0_h.out; have y1 := cell_mv hW' a1'_h.out; have y2 := cell_mv hW' a2_h.out; have y3 := cell_mv hW' z0_h.out; have y4 := cell_mv hW' z1_h.out; have y5 := cell_mv hW' z2_h.out; clear hW'; go_simp; first | done | with_reducible rfl)
              simp only [Act.put, nS1, nS2, nS3]
              refine takeH 7 (v := ?_) rfl (by kernel_rfl) (by kernel_rfl) (by kernel_rfl) (fun _ _ _ h => h) hbd_h.out (by rfl) (fun W' hW' => ?_) ?_; rotate_left; · (have y0 := cell_mv hW' a0_h.out; have y1 := cell_mv hW' a1'_h.out; have y2 := cell_mv hW' a2_h.out; have y3 := cell_mv hW' z0_h.out; have y4 := cell_mv hW' z1_h.out; have y5 := cell_mv hW' z2_h.out; clear hW'; go_simp; first | done | with_reducible rfl)
              simp only [Act.put, nS1, nS2, nS3]
              refine takeH 8 (v := ?_) rfl (by kernel_rfl) (by kernel_rfl) (by kernel_rfl) (fun _ _ _ h => h) hbd_h.out (by rfl) (fun W' hW' => ?_) ?_; rotate_left; · (have y0 := cell_mv hW' a0_h.out; have y1 := cell_mv hW' a1'_h.out; have y2 := cell_mv hW' a2_h.out; have y3 := cell_mv hW' z0_h.out; have y4 := cell_mv hW' z1_h.out; have y5 := cell_mv hW' z2_h.out; clear hW'; go_simp; first | done | with_reducible rfl)
              simp only [Act.put, nS1, nS2, nS3]
              refine takeH 9 (v := ?_) rfl (by kernel_rfl) (by kernel_rfl) (by kernel_rfl) (fun _ _ _ h => h) hbd_h.out (by rfl) (fun W' hW' => ?_) ?_; rotate_left; · (have y0 := cell_mv hW' a0_h.out; have y1 := cell_mv hW' a1'_h.out; have y2 := cell_mv hW' a2_h.out; have y3 := cell_mv hW' z0_h.out; have y4 := cell_mv hW' z1_h.out; have y5 := cell_mv hW' z2_h.out; clear hW'; go_simp; first | done | with_reducible rfl)
              simp only [Act.put, nS1, nS2, nS3]
              refine takeH 10 (v := ?_) rfl (by kernel_rfl) (by kernel_rfl) (by kernel_rfl) (fun _ _ _ h => h) hbd_h.out (by rfl) (fun W' hW' => ?_) ?_; rotate_left; · (have y0 := cell_mv hW' a0_h.out; have y1 := cell_mv hW' a1'_h.out; have y2 := cell_mv hW' a2_h.out; have y3 := cell_mv hW' z0_h.out; have y4 := cell_mv hW' z1_h.out; have y5 := cell_mv hW' z2_h.out; clear hW'; go_simp; first | done | with_reducible rfl)
              simp only [Act.put, nS1, nS2, nS3]
              refine takeH 11 (v := ?_) rfl (by kernel_rfl) (by kernel_rfl) (by kernel_rfl) (fun _ _ _ h => h) hbd_h.out (by rfl) (fun W' hW' => ?_) ?_; rotate_left; · (have y0 := cell_mv hW' a0_h.out; have y1 := cell_mv hW' a1'_h.out; have y2 := cell_mv hW' a2_h.out; have y3 := cell_mv hW' z0_h.out; have y4 := cell_mv hW' z1_h.out; have y5 := cell_mv hW' z2_h.out; clear hW'; go_simp; first | done | with_reducible rfl)
              simp only [Act.put, nS1, nS2, nS3]
              refine callsBoxes (fuel := 2) (w := W1) (R := fun vs _ => vs = []) (fin := #[true, true, true, true, true, true, true, true, true, true, true, true, true, true, false, false]) (zs := [⟨12, 9, .cells #[.int .i64 0, .int .i64 0, .slice none 0 0] tRelD⟩, ⟨13, 10, .cells #[.int .i64 0, .int .i64 0, .slice none 0 0] tRelD⟩]) (by kernel_rfl) (by decide) (fun _ _ _ h _ => h) (fun w' hb => below_trans hbd_h.out hb hbd_h.out.size) ?hz1 2 _ [] [⟨12, 9, .cells #[.int .i64 0, .int .i64 0, .slice none 0 0] tRelD⟩, ⟨13, 10, .cells #[.int .i64 0, .int .i64 0, .slice none 0 0] tRelD⟩] _ [] [] W1 (by kernel_rfl) (List.Perm.refl _) (Below.refl _ _) rfl (by simp) (by simp) ?hc1
              case hz1 =>
                intro z hz
                simp only [List.mem_cons, List.not_mem_nil, or_false] at hz
                rcases hz with rfl | rfl
                · exact ⟨_, rfl, rfl, rfl, fun a w => (by kernel_rfl)⟩
                · exact ⟨_, rfl, rfl, rfl, fun a w => (by kernel_rfl)⟩
              case hc1 =>
                intro bs wA hbs hbA _ hbx hnd
                match bs, hbs with
                | [(zz1, B1), (zz2, B2)], hbs =>
                  simp only [List.map_cons, List.map_nil, List.cons.injEq, and_true] at hbs
                  obtain ⟨rfl, rfl⟩ := hbs
                  obtain ⟨x1, x2⟩ := hbx _ (List.mem_cons_self ..)
                  obtain ⟨x3, x4⟩ := hbx _ (List.mem_cons_of_mem _ (List.mem_cons_self ..))
                  have hne : B1 ≠ B2 := by simpa using hnd
                  clear hbx hnd hbs
                  have hzW := hbd_h.out.size
                  simp only at x1 x2 x3 x4
                  obtain ⟨s1, s2⟩ := set3 (a := .int .i64 x) (b := .int .i64 y) (c := .slice B n e) x1
                  have x5 := box_keeps x3 s2 (fun e => hne e.symm)
                  obtain ⟨s3, s4⟩ := set3 (a := .int .i64 x') (b := .int .i64 y') (c := .slice B' n' e') x5
                  have s5 := box_keeps s1 s4 hne
                  have hbA1 := below_trans hbd_h.out hbA hbd_h.out.size
                  have hbA2 := below_keeps hbA1 s2 hbA1.size (fun k hk => by omega)
                  have hbA3 := below_keeps hbA2 s4 hbA2.size (fun k hk => by omega)
                  obtain ⟨⟨c0, c1', c2⟩, c3, c4, c5⟩ := box3 x1
                  obtain ⟨⟨d0, d1, d2⟩, d3, d4, d5⟩ := box3 x5
                  obtain ⟨W5, hW5⟩ : ∃ W5, W5 = (((((wA.setCell ⟨B1, 0, none⟩ (.int .i64 x)).setCell ⟨B1, 1, none⟩ (.int .i64 y)).setCell ⟨B1, 2, none⟩ (.slice B n e)).setCell ⟨B2, 0, none⟩ (.int .i64 x')).setCell ⟨B2, 1, none⟩ (.int .i64 y')).setCell ⟨B2, 2, none⟩ (.slice B' n' e') := ⟨_, rfl⟩
                  have hbA4 := hbA3
                  rw [← hW5] at s5 s3 hbA4
                  have x1_h := Lib.hid x1; have x2_h := Lib.hid x2; have x3_h := Lib.hid x3; have x4_h := Lib.hid x4; have x5_h := Lib.hid x5; have s1_h := Lib.hid s1; have s2_h := Lib.hid s2; have s3_h := Lib.hid s3; have s4_h := Lib.hid s4; have s5_h := Lib.hid s5; have hbA_h := Lib.hid hbA; have hbA1_h := Lib.hid hbA1; have hbA2_h := Lib.hid hbA2; have hbA3_h := Lib.hid hbA3; have hbA4_h := Lib.hid hbA4; have hne_h := Lib.hid hne; have hzW_h := Lib.hid hzW; clear x1 x2 x3 x4 x5 s1 s2 s3 s4 s5 hbA hbA1 hbA2 hbA3 hbA4 hne hzW
                  simp only [putB, List.foldl_cons, List.foldl_nil]
                  simp only [Act.put, nS1, nS2, nS3]
                  refine oneH 14 rfl (by kernel_rfl) (by rfl) (fun K hK => ?_)
                  go_simp
                  refine hK _ _ hbA2_h.out ?_
                  clear hK K
                  refine oneH 15 rfl (by kernel_rfl) (by rfl) (fun K hK => ?_)
                  go_simp
                  refine hK _ _ hbA3_h.out ?_
                  clear hK K
                  refine doneH (by kernel_rfl) ?_
                  rw [← hW5]
                  clear hW5 c0 c1' c2 c3 c4 c5 d0 d1 d2 d3 d4 d5 e0 e1 e2 e3 e4 e5
                  obtain ⟨⟨u0, u1, u2⟩, u3, u4, u5⟩ := box3 s5_h.out
                  obtain ⟨⟨t0, t1, t2⟩, t3, t4, t5⟩ := box3 s3_h.out
                  have kN5 := box_below kN_h.out hbA4_h.out
                  obtain ⟨⟨e0, e1, e2⟩, e3, e4, e5⟩ := box3 kN5
                  clear kN5
                  go_wp2_with (fail)
                  refine (hC_h.out W5 (hoa_h.out.below hbA4_h.out) (hob_h.out.below hbA4_h.out)).mono ?_
                  rintro e w3 ⟨v2, fp2, rfl, hO2, hf2, hb2⟩
                  obtain ⟨A2, n2, c2, rfl⟩ := hO2.shape
                  have hal := below_alloc w3 (.cells #[.int .i64 V.1, .int .i64 V.2.1, .slice A2 n2 c2] tRelD)
                  have hb3 := below_trans hbA4_h.out hb2 hbA4_h.out.size
                  have hba := below_trans hb3 hal hb3.size
                  have htl : (hs.take q).length = q := by rw [List.length_take, hsl_h.out, hnq_h.out]; omega
                  have hsl' : Sl (w3.alloc (.cells #[.int .i64 V.1, .int .i64 V.2.1, .slice A2 n2 c2] tRelD)) tRelD 3 (some ad1) q c1 (rcs (hs.take q)) := by
                    have := hT_h.out.sl.below hba
                    rwa [htl] at this
                  have hO3 : OwSys (w3.alloc (.cells #[.int .i64 V.1, .int .i64 V.2.1, .slice A2 n2 c2] tRelD)) (rv (V.1, V.2.1, A2, n2, c2)) V fp2 := hO2.below hal
                  have hf3 : FreshL w2.heap.size fp2 := hf2.mono (by have := hbA4_h.out.size; have := hbN_h.out.size; have := hbo_h.out.size; omega)
                  clear hO2 hf2 u0 u1 u2 u3 u4 u5 t0 t1 t2 t3 t4 t5 e0 e1 e2 e3 e4 e5 hb3; have hal_h := Lib.hid hal; have hba_h := Lib.hid hba; have hsl'_h := Lib.hid hsl'; have hO3_h := Lib.hid hO3; have hf3_h := Lib.hid hf3; have hb2_h := Lib.hid hb2; have htl_h := Lib.hid htl; clear hal hba hsl' hO3 hf3 hb2 htl
                  go_wp2_with (at_builtin; refine wpList_append_Sl _ rfl _ _ _ rfl tRelD Tryd.underlying165 info_rel rfl (by omega) rfl hsl'_h.out rfl (news := [.int .i64 V.1, .int .i64 V.2.1, .slice A2 n2 c2]) rfl (Sl.rdc (Sl.laid w3 tRelD 3 1 #[.int .i64 V.1, .int .i64 V.2.1, .slice A2 n2 c2] (by unfold maxLen; omega) rfl)) (by intro u hu; simp at hu; rcases hu with rfl | rfl | rfl <;> rfl) (by unfold maxLen; omega) (by omega) ?_; intro A6 c6 w6 hsA6 hA6 hkA6)
                  have hS6 := hT_h.out.push hba_h.out (v := (V.1, V.2.1, A2, n2, c2)) hO3_h.out hf3_h.out (n := q + 1) (by rw [htl_h.out]) hsA6 hA6 hkA6
                  have hdn : dens p r ++ [V] = dens p (Tr.node false a b :: r) := by rw [dens_push, hden_h.out]
                  rw [hdn] at hS6
                  have hl6 : (hs.take q ++ [(V.1, V.2.1, A2, n2, c2)]).length = q + 1 := by rw [List.length_append, htl_h.out]; rfl
                  have hall6 : ∀ t, t ∈ (Tr.node false a b :: r) → wt t ∧ okTr p t := fun t ht => by
                    rcases List.mem_cons.1 ht with rfl | ht
                    · exact ⟨⟨wa, wb, hjb_h.out⟩, oa, ob⟩
                    · exact hall_h.out t (by simp [ht])
                  clear hsA6 hA6 hkA6 hdn; have hS6_h := Lib.hid hS6; have hl6_h := Lib.hid hl6; have hall6_h := Lib.hid hall6; clear hS6 hl6 hall6
                  go_roundw
                  case rel => exact ⟨k + 1, _, A6, c6, q + 1, _, by omega, by go_num, rfl, by rw [List.length_cons, ← hq_h.out], by have := hqk_h.out; omega, hl6_h.out, hpar'_h.out, hall6_h.out, hnd'_h.out, hS6_h.out⟩
                  case measure => simp [intOf]; omega
            · obtain ⟨wa, oa⟩ := hall_h.out a (by simp)
              obtain ⟨wb, ob⟩ := hall_h.out b (by simp)
              obtain ⟨ra, ta1, ta2⟩ := den_ok hf wa oa
              obtain ⟨rb, tb1, tb2⟩ := den_ok hf wb ob
              have fa := wt_fit wa
              have fb := wt_fit wb
              have hjb2 := hjb_h.out
              simp only [joinB, if_true, decide_eq_true_eq] at hjb2
              have hC := fun (W' : World) (h1 : OwSys W' (.agg #[.int .i64 x, .int .i64 y, .slice B n e]) (den p a) fpa) (h2 : OwSys W' (.agg #[.int .i64 x', .int .i64 y', .slice B' n' e']) (den p b) fpb) => rlTensor_any p W' h1 h2 ra rb (by omega)
              obtain ⟨V, hV⟩ : ∃ V, V = tenV p (den p a) (den p b) := ⟨_, rfl⟩
              simp only [← hV] at hC
              have hden : den p (.node true a b) = V := hV.symm
              clear hV
              have hT := hSN_h.out.take (k := q) (by rw [hsl_h.out, hnq_h.out]; omega)
              rw [gt_h.out] at hT
              have hqc : (q : Int) ≤ (c1 : Int) := by
                have h9 := hSN_h.out.sl.2.1
                rw [hsl_h.out] at h9
                omega
              have hqk : q + 2 ≤ k := by have := hnq_h.out; omega
              have hC_h := Lib.hid hC; have hden_h := Lib.hid hden; have hT_h := Lib.hid hT; have hqk_h := Lib.hid hqk; clear hC hden hT hqk
              go_upto_region 11 with (fail)
              refine beginH (fun w' => Below wN.heap.size wN w') (by kernel_rfl) ?_
              have hbd : Below wN.heap.size wN wN.drew := below_drew (Below.refl _ _)
              generalize wN.drew = W1 at hbd ⊢
              have hbd_h := Lib.hid hbd; clear hbd
              refine takeH 0 (v := ?_) rfl (by kernel_rfl) (by kernel_rfl) (by kernel_rfl) (fun _ _ _ h => h) hbd_h.out (by rfl) (fun W' hW' => ?_) ?_; rotate_left; · (have y0 := cell_mv hW' a0_h.out; have y1 := cell_mv hW' a1'_h.out; have y2 := cell_mv hW' a2_h.out; have y3 := cell_mv hW' z0_h.out; have y4 := cell_mv hW' z1_h.out; have y5 := cell_mv hW' z2_h.out; clear hW'; go_simp; first | done | with_reducible rfl)
              simp only [Act.put, nS1, nS2, nS3]
              refine takeH 1 (v := ?_) rfl (by kernel_rfl) (by kernel_rfl) (by kernel_rfl) (fun _ _ _ h => h) hbd_h.out (by rfl) (fun W' hW' => ?_) ?_; rotate_left; · (have y0 := cell_mv hW' a0_h.out; have y1 := cell_mv hW' a1'_h.out; have y2 := cell_mv hW' a2_h.out; have y3 := cell_mv hW' z0_h.out; have y4 := cell_mv hW' z1_h.out; have y5 := cell_mv hW' z2_h.out; clear hW'; go_simp; first | done | with_reducible rfl)
              simp only [Act.put, nS1, nS2, nS3]
              refine takeH 2 (v := ?_) rfl (by kernel_rfl) (by kernel_rfl) (by kernel_rfl) (fun _ _ _ h => h) hbd_h.out (by rfl) (fun W' hW' => ?_) ?_; rotate_left; · (have y0 := cell_mv hW' a0_h.out; have y1 := cell_mv hW' a1'_h.out; have y2 := cell_mv hW' a2_h.out; have y3 := cell_mv hW' z0_h.out; have y4 := cell_mv hW' z1_h.out; have y5 := cell_mv hW' z2_h.out; clear hW'; go_simp; first | done | with_reducible rfl)
              simp only [Act.put, nS1, nS2, nS3]
              refine takeH 3 (v := ?_) rfl (by kernel_rfl) (by kernel_rfl) (by kernel_rfl) (fun _ _ _ h => h) hbd_h.out (by rfl) (fun W' hW' => ?_) ?_; rotate_left; · (have y0 := cell_mv hW' a0_h.out; have y1 := cell_mv hW' a1'_h.out; have y2 := cell_mv hW' a2_h.out; have y3 := cell_mv hW' z0_h.out; have y4 := cell_mv hW' z1_h.out; have y5 := cell_mv hW' z2_h.out; clear hW'; go_simp; first | done | with_reducible rfl)
              simp only [Act.put, nS1, nS2, nS3]
              refine takeH 4 (v := ?_) rfl (by kernel_rfl) (by kernel_rfl) (by kernel_rfl) (fun _ _ _ h => h) hbd_h.out (by rfl) (fun W' hW' => ?_) ?_; rotate_left; · (have y0 := cell_mv hW' a0_h.out; have y1 := cell_mv hW' a1'_h.out; have y2 := cell_mv hW' a2_h.out; have y3 := cell_mv hW' z0_h.out; have y4 := cell_mv hW' z1_h.out; have y5 := cell_mv hW' z2_h.out; clear hW'; go_simp; first | done | with_reducible rfl)
              simp only [Act.put, nS1, nS2, nS3]
              refine takeH 5 (v := ?_) rfl (by kernel_rfl) (by kernel_rfl) (by kernel_rfl) (fun _ _ _ h => h) hbd_h.out (by rfl) (fun W' hW' => ?_) ?_; rotate_left; · (have y0 := cell_mv hW' a0_h.out; have y1 := cell_mv hW' a1'_h.out; have y2 := cell_mv hW' a2_h.out; have y3 := cell_mv hW' z0_h.out; have y4 := cell_mv hW' z1_h.out; have y5 := cell_mv hW' z2_h.out; clear hW'; go_simp; first | done | with_reducible rfl)
              simp only [Act.put, nS1, nS2, nS3]
              refine takeH 6 (v := ?_) rfl (by kernel_rfl) (by kernel_rfl) (by kernel_rfl) (fun _ _ _ h => h) hbd_h.out (by rfl) (fun W' hW' => ?_) ?_; rotate_left; · (have y0 := cell_mv hW' a0_h.out; have y1 := cell_mv hW' a1'_h.out; have y2 := cell_mv hW' a2_h.out; have y3 := cell_mv hW' z0_h.out; have y4 := cell_mv hW' z1_h.out; have y5 := cell_mv hW' z2_h.out; clear hW'; go_simp; first | done | with_reducible rfl)
              simp only [Act.put, nS1, nS2, nS3]
              refine takeH 7 (v := ?_) rfl (by kernel_rfl) (by kernel_rfl) (by kernel_rfl) (fun _ _ _ h => h) hbd_h.out (by rfl) (fun W' hW' => ?_) ?_; rotate_left; · (have y0 := cell_mv hW' a0_h.out; have y1 := cell_mv hW' a1'_h.out; have y2 := cell_mv hW' a2_h.out; have y3 := cell_mv hW' z0_h.out; have y4 := cell_mv hW' z1_h.out; have y5 := cell_mv hW' z2_h.out; clear hW'; go_simp; first | done | with_reducible rfl)
              simp only [Act.put, nS1, nS2, nS3]
              refine takeH 8 (v := ?_) rfl (by kernel_rfl) (by kernel_rfl) (by kernel_rfl) (fun _ _ _ h => h) hbd_h.out (by rfl) (fun W' hW' => ?_) ?_; rotate_left; · (have y0 := cell_mv hW' a0_h.out; have y1 := cell_mv hW' a1'_h.out; have y2 := cell_mv hW' a2_h.out; have y3 := cell_mv hW' z0_h.out; have y4 := cell_mv hW' z1_h.out; have y5 := cell_mv hW' z2_h.out; clear hW'; go_simp; first | done | with_reducible rfl)
              simp only [Act.put, nS1, nS2, nS3]
              refine takeH 9 (v := ?_) rfl (by kernel_rfl) (by kernel_rfl) (by kernel_rfl) (fun _ _ _ h => h) hbd_h.out (by rfl) (fun W' hW' => ?_) ?_; rotate_left; · (have y0 := cell_mv hW' a0_h.out; have y1 := cell_mv hW' a1'_h.out; have y2 := cell_mv hW' a2_h.out; have y3 := cell_mv hW' z0_h.out; have y4 := cell_mv hW' z1_h.out; have y5 := cell_mv hW' z2_h.out; clear hW'; go_simp; first | done | with_reducible rfl)
              simp only [Act.put, nS1, nS2, nS3]
              refine takeH 10 (v := ?_) rfl (by kernel_rfl) (by kernel_rfl) (by kernel_rfl) (fun _ _ _ h => h) hbd_h.out (by rfl) (fun W' hW' => ?_) ?_; rotate_left; · (have y0 := cell_mv hW' a0_h.out; have y1 := cell_mv hW' a1'_h.out; have y2 := cell_mv hW' a2_h.out; have y3 := cell_mv hW' z0_h.out; have y4 := cell_mv hW' z1_h.out; have y5 := cell_mv hW' z2_h.out; clear hW'; go_simp; first | done | with_reducible rfl)
              simp only [Act.put, nS1, nS2, nS3]
              refine takeH 11 (v := ?_) rfl (by kernel_rfl) (by kernel_rfl) (by kernel_rfl) (fun _ _ _ h => h) hbd_h.out (by rfl) (fun W' hW' => ?_) ?_; rotate_left; · (have y0 := cell_mv hW' a0_h.out; have y1 := cell_mv hW' a1'_h.out; have y2 := cell_mv hW' a2_h.out; have y3 := cell_mv hW' z0_h.out; have y4 := cell_mv hW' z1_h.out; have y5 := cell_mv hW' z2_h.out; clear hW'; go_simp; first | done | with_reducible rfl)
              simp only [Act.put, nS1, nS2, nS3]
              refine callsBoxes (fuel := 2) (w := W1) (R := fun vs _ => vs = []) (fin := #[true, true, true, true, true, true, true, true, true, true, true, true, true, true, false, false]) (zs := [⟨12, 9, .cells #[.int .i64 0, .int .i64 0, .slice none 0 0] tRelD⟩, ⟨13, 10, .cells #[.int .i64 0, .int .i64 0, .slice none 0 0] tRelD⟩]) (by kernel_rfl) (by decide) (fun _ _ _ h _ => h) (fun w' hb => below_trans hbd_h.out hb hbd_h.out.size) ?hz2 2 _ [] [⟨12, 9, .cells #[.int .i64 0, .int .i64 0, .slice none 0 0] tRelD⟩, ⟨13, 10, .cells #[.int .i64 0, .int .i64 0, .slice none 0 0] tRelD⟩] _ [] [] W1 (by kernel_rfl) (List.Perm.refl _) (Below.refl _ _) rfl (by simp) (by simp) ?hc2
              case hz2 =>
                intro z hz
                simp only [List.mem_cons, List.not_mem_nil, or_false] at hz
                rcases hz with rfl | rfl
                · exact ⟨_, rfl, rfl, rfl, fun a w => (by kernel_rfl)⟩
                · exact ⟨_, rfl, rfl, rfl, fun a w => (by kernel_rfl)⟩
              case hc2 =>
                intro bs wA hbs hbA _ hbx hnd
                match bs, hbs with
                | [(zz1, B1), (zz2, B2)], hbs =>
                  simp only [List.map_cons, List.map_nil, List.cons.injEq, and_true] at hbs
                  obtain ⟨rfl, rfl⟩ := hbs
                  obtain ⟨x1, x2⟩ := hbx _ (List.mem_cons_self ..)
                  obtain ⟨x3, x4⟩ := hbx _ (List.mem_cons_of_mem _ (List.mem_cons_self ..))
                  have hne : B1 ≠ B2 := by simpa using hnd
                  clear hbx hnd hbs
                  have hzW := hbd_h.out.size
                  simp only at x1 x2 x3 x4
                  obtain ⟨s1, s2⟩ := set3 (a := .int .i64 x) (b := .int .i64 y) (c := .slice B n e) x1
                  have x5 := box_keeps x3 s2 (fun e => hne e.symm)
                  obtain ⟨s3, s4⟩ := set3 (a := .int .i64 x') (b := .int .i64 y') (c := .slice B' n' e') x5
                  have s5 := box_keeps s1 s4 hne
                  have hbA1 := below_trans hbd_h.out hbA hbd_h.out.size
                  have hbA2 := below_keeps hbA1 s2 hbA1.size (fun k hk => by omega)
                  have hbA3 := below_keeps hbA2 s4 hbA2.size (fun k hk => by omega)
                  obtain ⟨⟨c0, c1', c2⟩, c3, c4, c5⟩ := box3 x1
                  obtain ⟨⟨d0, d1, d2⟩, d3, d4, d5⟩ := box3 x5
                  obtain ⟨W5, hW5⟩ : ∃ W5, W5 = (((((wA.setCell ⟨B1, 0, none⟩ (.int .i64 x)).setCell ⟨B1, 1, none⟩ (.int .i64 y)).setCell ⟨B1, 2, none⟩ (.slice B n e)).setCell ⟨B2, 0, none⟩ (.int .i64 x')).setCell ⟨B2, 1, none⟩ (.int .i64 y')).setCell ⟨B2, 2, none⟩ (.slice B' n' e') := ⟨_, rfl⟩
                  have hbA4 := hbA3
                  rw [← hW5] at s5 s3 hbA4
                  have x1_h := Lib.hid x1; have x2_h := Lib.hid x2; have x3_h := Lib.hid x3; have x4_h := Lib.hid x4; have x5_h := Lib.hid x5; have s1_h := Lib.hid s1; have s2_h := Lib.hid s2; have s3_h := Lib.hid s3; have s4_h := Lib.hid s4; have s5_h := Lib.hid s5; have hbA_h := Lib.hid hbA; have hbA1_h := Lib.hid hbA1; have hbA2_h := Lib.hid hbA2; have hbA3_h := Lib.hid hbA3; have hbA4_h := Lib.hid hbA4; have hne_h := Lib.hid hne; have hzW_h := Lib.hid hzW; clear x1 x2 x3 x4 x5 s1 s2 s3 s4 s5 hbA hbA1 hbA2 hbA3 hbA4 hne hzW
                  simp only [putB, List.foldl_cons, List.foldl_nil]
                  simp only [Act.put, nS1, nS2, nS3]
                  refine oneH 14 rfl (by kernel_rfl) (by rfl) (fun K hK => ?_)
                  go_simp
                  refine hK _ _ hbA2_h.out ?_
                  clear hK K
                  refine oneH 15 rfl (by kernel_rfl) (by rfl) (fun K hK => ?_)
                  go_simp
                  refine hK _ _ hbA3_h.out ?_
                  clear hK K
                  refine doneH (by kernel_rfl) ?_
                  rw [← hW5]
                  clear hW5 c0 c1' c2 c3 c4 c5 d0 d1 d2 d3 d4 d5 e0 e1 e2 e3 e4 e5
                  obtain ⟨⟨u0, u1, u2⟩, u3, u4, u5⟩ := box3 s5_h.out
                  obtain ⟨⟨t0, t1, t2⟩, t3, t4, t5⟩ := box3 s3_h.out
                  have kN5 := box_below kN_h.out hbA4_h.out
                  obtain ⟨⟨e0, e1, e2⟩, e3, e4, e5⟩ := box3 kN5
                  clear kN5
                  go_wp2_with (fail)
                  refine (hC_h.out W5 (hoa_h.out.below hbA4_h.out) (hob_h.out.below hbA4_h.out)).mono ?_
                  rintro e w3 ⟨v2, fp2, rfl, hO2, hf2, hb2⟩
                  obtain ⟨A2, n2, c2, rfl⟩ := hO2.shape
                  have hal := below_alloc w3 (.cells #[.int .i64 V.1, .int .i64 V.2.1, .slice A2 n2 c2] tRelD)
                  have hb3 := below_trans hbA4_h.out hb2 hbA4_h.out.size
                  have hba := below_trans hb3 hal hb3.size
                  have htl : (hs.take q).length = q := by rw [List.length_take, hsl_h.out, hnq_h.out]; omega
                  have hsl' : Sl (w3.alloc (.cells #[.int .i64 V.1, .int .i64 V.2.1, .slice A2 n2 c2] tRelD)) tRelD 3 (some ad1) q c1 (rcs (hs.take q)) := by
                    have := hT_h.out.sl.below hba
                    rwa [htl] at this
                  have hO3 : OwSys (w3.alloc (.cells #[.int .i64 V.1, .int .i64 V.2.1, .slice A2 n2 c2] tRelD)) (rv (V.1, V.2.1, A2, n2, c2)) V fp2 := hO2.below hal
                  have hf3 : FreshL w2.heap.size fp2 := hf2.mono (by have := hbA4_h.out.size; have := hbN_h.out.size; have := hbo_h.out.size; omega)
                  clear hO2 hf2 u0 u1 u2 u3 u4 u5 t0 t1 t2 t3 t4 t5 e0 e1 e2 e3 e4 e5 hb3; have hal_h := Lib.hid hal; have hba_h := Lib.hid hba; have hsl'_h := Lib.hid hsl'; have hO3_h := Lib.hid hO3; have hf3_h := Lib.hid hf3; have hb2_h := Lib.hid hb2; have htl_h := Lib.hid htl; clear hal hba hsl' hO3 hf3 hb2 htl
                  go_wp2_with (at_builtin; refine wpList_append_Sl _ rfl _ _ _ rfl tRelD Tryd.underlying165 info_rel rfl (by omega) rfl hsl'_h.out rfl (news := [.int .i64 V.1, .int .i64 V.2.1, .slice A2 n2 c2]) rfl (Sl.rdc (Sl.laid w3 tRelD 3 1 #[.int .i64 V.1, .int .i64 V.2.1, .slice A2 n2 c2] (by unfold maxLen; omega) rfl)) (by intro u hu; simp at hu; rcases hu with rfl | rfl | rfl <;> rfl) (by unfold maxLen; omega) (by omega) ?_; intro A6 c6 w6 hsA6 hA6 hkA6)
                  have hS6 := hT_h.out.push hba_h.out (v := (V.1, V.2.1, A2, n2, c2)) hO3_h.out hf3_h.out (n := q + 1) (by rw [htl_h.out]) hsA6 hA6 hkA6
                  have hdn : dens p r ++ [V] = dens p (Tr.node true a b :: r) := by rw [dens_push, hden_h.out]
                  rw [hdn] at hS6
                  have hl6 : (hs.take q ++ [(V.1, V.2.1, A2, n2, c2)]).length = q + 1 := by rw [List.length_append, htl_h.out]; rfl
                  have hall6 : ∀ t, t ∈ (Tr.node true a b :: r) → wt t ∧ okTr p t := fun t ht => by
                    rcases List.mem_cons.1 ht with rfl | ht
                    · exact ⟨⟨wa, wb, hjb_h.out⟩, oa, ob⟩
                    · exact hall_h.out t (by simp [ht])
                  clear hsA6 hA6 hkA6 hdn; have hS6_h := Lib.hid hS6; have hl6_h := Lib.hid hl6; have hall6_h := Lib.hid hall6; clear hS6 hl6 hall6
                  go_roundw
                  case rel => exact ⟨k + 1, _, A6, c6, q + 1, _, by omega, by go_num, rfl, by rw [List.length_cons, ← hq_h.out], by have := hqk_h.out; omega, hl6_h.out, hpar'_h.out, hall6_h.out, hnd'_h.out, hS6_h.out⟩
                  case measure => simp [intOf]; omega
          · have hb15 : (κ != 15) = true := by rw [bne_iff_ne]; omega
            have hb16 : (κ != 16) = true := by rw [bne_iff_ne]; omega
            obtain ⟨hlb, rfl⟩ := step_leaf_some (show ¬ isJoin (κ, v, s) from hj) hst
            have hlf : okLf p (κ, v, s) := ⟨hlb, h814.1, h814.2, hokv⟩
            have hC := fun (W' : World) => dnLeaf_any (k := κ) (v := v) (s := s) W' hf hlf
            have hall' : ∀ t, t ∈ (Tr.leaf (κ, v, s) :: st) → wt t ∧ okTr p t := fun t ht => by
              rcases List.mem_cons.1 ht with rfl | ht
              · exact ⟨hlb, hlf⟩
              · exact hall t ht
            clear hj hst hokv hlb hlf hpar hall hS hn hdl h814 hnd; have hsl_h := Lib.hid hsl; have hn1_h := Lib.hid hn1; have hpar'_h := Lib.hid hpar'; have hall'_h := Lib.hid hall'; have hSN_h := Lib.hid hSN; have hC_h := Lib.hid hC; have hbN_h := Lib.hid hbN; have kN_h := Lib.hid kN; have hbo_h := Lib.hid hbo; have hnd'_h := Lib.hid hnd'; have hTm_h := Lib.hid hTm; have hbWo_h := Lib.hid hbWo; clear hsl hn1 hpar' hall' hSN hC hbN kN hbo hnd' hTm hbWo
            go_upto_region 7 with (fail)
            rw [← hwN]
            clear hwN d0 d1 d2
            go_wp2_with (fail)
            refine (hTm_h.out _).mono ?_
            rintro e w' ⟨rfl, hw'⟩
            subst hw'
            obtain ⟨wN, rfl⟩ : ∃ x, x = w' := ⟨_, rfl⟩
            go_wp2_with (fail)
            refine (hC_h.out wN).mono ?_
            rintro e w2' ⟨v2, fp2, rfl, hO2, hf2, hb2⟩
            obtain ⟨V, hV⟩ : ∃ V, V = leafV p (κ, v, s) := ⟨_, rfl⟩
            rw [← hV] at hO2
            obtain ⟨A2, n2, c2, rfl⟩ := hO2.shape
            have hal := below_alloc w2' (.cells #[.int .i64 V.1, .int .i64 V.2.1, .slice A2 n2 c2] tRelD)
            have hba := below_trans hb2 hal hb2.size
            have hsl' : Sl (w2'.alloc (.cells #[.int .i64 V.1, .int .i64 V.2.1, .slice A2 n2 c2] tRelD)) tRelD 3 A1 n1 c1 (rcs hs) := by
              have := hSN_h.out.sl.below hba
              rwa [hsl_h.out] at this
            have hO3 : OwSys (w2'.alloc (.cells #[.int .i64 V.1, .int .i64 V.2.1, .slice A2 n2 c2] tRelD)) (rv (V.1, V.2.1, A2, n2, c2)) V fp2 := hO2.below hal
            have hf3 : FreshL w2.heap.size fp2 := hf2.mono (by have := hbN_h.out.size; have := hbo_h.out.size; omega)
            clear hO2 hf2 e0 e1 e2 e3 e4 e5; have hal_h := Lib.hid hal; have hba_h := Lib.hid hba; have hsl'_h := Lib.hid hsl'; have hO3_h := Lib.hid hO3; have hf3_h := Lib.hid hf3; have hV_h := Lib.hid hV; have hb2_h := Lib.hid hb2; clear hal hba hsl' hO3 hf3 hV hb2
            go_wp2_with (at_builtin; refine wpList_append_Sl _ rfl _ _ _ rfl tRelD Tryd.underlying165 info_rel rfl (by omega) rfl hsl'_h.out rfl (news := [.int .i64 V.1, .int .i64 V.2.1, .slice A2 n2 c2]) rfl (Sl.rdc (Sl.laid w2' tRelD 3 1 #[.int .i64 V.1, .int .i64 V.2.1, .slice A2 n2 c2] (by unfold maxLen; omega) rfl)) (by intro u hu; simp at hu; rcases hu with rfl | rfl | rfl <;> rfl) (by unfold maxLen; omega) (by omega) ?_; intro A6 c6 w6 hsA6 hA6 hkA6)
            have hS6 := hSN_h.out.push hba_h.out (v := (V.1, V.2.1, A2, n2, c2)) hO3_h.out hf3_h.out (n := n1 + 1) (by rw [hsl_h.out]) hsA6 hA6 hkA6
            have hdn : dens p (Tr.leaf (κ, v, s) :: st) = dens p st ++ [V] := by rw [dens_push, hV_h.out]; rfl
            rw [← hdn] at hS6
            have hl6 : (hs ++ [(V.1, V.2.1, A2, n2, c2)]).length = n1 + 1 := by rw [List.length_append, hsl_h.out]; rfl
            clear hsA6 hA6 hkA6 hdn; have hS6_h := Lib.hid hS6; have hl6_h := Lib.hid hl6; clear hS6 hl6
            go_roundw
            case rel => exact ⟨k + 1, _, A6, c6, n1 + 1, _, by omega, by go_num, rfl, by rw [List.length_cons, ← hn1_h.out], by omega, hl6_h.out, hpar'_h.out, hall'_h.out, hnd'_h.out, hS6_h.out⟩
            case measure => simp [intOf]; omega
        · have hdl' : noDl κ = false := by simpa using hdl
          simp only [hdl'] at hTm
          have hno : l.all (fun n => noDl n.1) = false := by
            rw [List.all_eq_false]
            exact ⟨_, List.mem_of_getElem? hn, by simp [hdl']⟩
          have hfin := hDN_h.out hno
          subst hfin
          have hbNo := below_trans hbWo hbN hbWo.size
          have k1N := box_below (box_below k1r_h.out hbo) hbN
          obtain ⟨⟨e0, e1, e2⟩, e3, e4, e5⟩ := box3 kN
          obtain ⟨⟨y0, y1, y2⟩, y3, y4, y5⟩ := box3 k1N
          obtain ⟨s1, s2⟩ := set3 (a := .int .i64 0) (b := .int .i64 0) (c := .slice none 0 0) k1N
          have hB3 := below_keeps hbNo s2 hbNo.size (fun k hk => by omega)
          clear hpar hall hS hn hdl hdl' hno hnd hbNo k1N s2 hbo hbWo; have hsl_h := Lib.hid hsl; have hn1_h := Lib.hid hn1; have hbN_h := Lib.hid hbN; have kN_h := Lib.hid kN; have hTm_h := Lib.hid hTm; have s1_h := Lib.hid s1; have hB3_h := Lib.hid hB3; clear hsl hn1 hbN kN hTm s1 hB3
          go_upto_region 7 with (fail)
          rw [← hwN]
          clear hwN d0 d1 d2
          go_wp2_with (fail)
          refine (hTm_h.out _).mono ?_
          rintro e w' ⟨rfl, hw'⟩
          subst hw'
          go_wp2_with (fail)
          refine bodyPost_ret (results_cell_tmp rfl _ _ (w.heap.size + 1) _ _ (0, 0) _ rfl s1_h.out Tryd.underlying43 rfl (by kernel_rfl)) rfl ?_
          first | exact ⟨_, [], rfl, OwSys.zero _ 0 0, FreshL.nil _, hB3_h.out⟩ | exact ⟨_, rfl, [], OwSys.zero _ 0 0, FreshL.nil _, hB3_h.out⟩
      · obtain rfl : m = k := by omega
        have hpl : parse [] l = some st := by have := hpar; rwa [List.take_of_length_le (by rw [hm_h.out]; exact Nat.le_refl _)] at this
        have h400 : 1 ≤ l.length ∧ l.length ≤ 400 := by
          have h2 := hv_h.out
          unfold treeM at h2
          split at h2
          · rename_i h3; exact h3
          · cases h2
        have hst := treeM_of h400 hpl
        rw [hv_h.out] at hst
        have hst1 := oneOf_some hst.symm
        subst hst1
        have hyes : l.all (fun n => noDl n.1) = true := by
          rw [List.all_eq_true]
          intro n hn
          obtain ⟨j, hj⟩ := List.mem_iff_getElem?.1 hn
          exact hnd j n hj (by rw [hm_h.out]; exact (List.getElem?_eq_some_iff.1 hj).1)
        have hfin := hDY_h.out hyes
        subst hfin
        obtain ⟨ad, x, y, B, n, e, fp, rfl, a0, a1', a2, hO, hfp⟩ := hS.at_ (i := 0) (s := den p t) (by simp [dens])
        have hbo := hS.below_
        have k1s := box_below k1r_h.out hbo
        obtain ⟨⟨y0, y1, y2⟩, y3, y4, y5⟩ := box3 k1s
        obtain ⟨s1, s2⟩ := set3 (a := .int .i64 x) (b := .int .i64 y) (c := .slice B n e) k1s
        have hbb := below_trans hB2_h.out hbo hB2_h.out.size
        have hbw := below_keeps hbb s2 hbb.size (fun k hk => by omega)
        have hz1 := hB2_h.out.size
        have hO2 := hO.keeps s2 (fun k hk e => by have := hfp k hk; omega)
        have hf2 : FreshL w.heap.size fp := hfp.mono hz1
        have hnz : (0 : Int) < (n1 : Int) := by rw [hn1]; simp
        have hb0 : wo.cell? ad = some (.int .i64 x) := a0
        have hb1 : wo.cell? ⟨ad.block, ad.off + 1, none⟩ = some (.int .i64 y) := a1'
        have hb2 : wo.cell? ⟨ad.block, ad.off + 2, none⟩ = some (.slice B n e) := a2
        have ha : ad.add 0 = ad := rfl
        clear a0 a1' a2 hyes hnd; clear hS hst hpl h400 hpar hall hbo k1s s2 hbb hO hfp; have s1_h := Lib.hid s1; have hbw_h := Lib.hid hbw; have hO2_h := Lib.hid hO2; have hf2_h := Lib.hid hf2; have hn1_h := Lib.hid hn1; have hsl_h := Lib.hid hsl; clear s1 hbw hO2 hf2 hn1 hsl
        go_wp2_with (fail)
        refine bodyPost_ret (results_cell_tmp rfl _ _ (w.heap.size + 1) _ _ (0, 0) _ rfl s1_h.out Tryd.underlying43 rfl (by kernel_rfl)) rfl ?_
        first | exact ⟨_, fp, rfl, hO2_h.out, hf2_h.out, hbw_h.out⟩ | exact ⟨_, rfl, fp, hO2_h.out, hf2_h.out, hbw_h.out⟩
  · have hg' : goodM p l = false := by simpa using hg
    have hD : dnTmM p l = ((0, 0, []), false) := by unfold dnTmM; rw [hg']; rfl
    rw [hD]
    simp only [hg'] at hG0
    clear hg hg' hD h hWs; have hG0_h := Lib.hid hG0; have k0_h := Lib.hid k0; have k1_h := Lib.hid k1; have bW_h := Lib.hid bW; have hm_h := Lib.hid hm; clear hG0 k0 k1 bW hm
    go_enter Tryd.func90, Tryd.ntmps90
    go_upto_region 1 with (fail)
    rw [← hW]
    clear hW
    go_wp2_with (fail)
    refine (hG0_h.out _ bW_h.out).mono ?_
    rintro e w2 ⟨rfl, hb2⟩
    clear c0 f0
    have k1r := box_below k1_h.out hb2
    have hB2 := below_trans bW_h.out hb2 bW_h.out.size
    have hz2 := hb2.size
    obtain ⟨⟨d0, d1, d2⟩, g0, g1, g2⟩ := box3 k1r
    obtain ⟨s1, s2⟩ := set3 (a := .int .i64 0) (b := .int .i64 0) (c := .slice none 0 0) k1r
    have hB3 := below_keeps hB2 s2 hB2.size (fun k hk => by omega)
    clear hB2 hb2 s2 k1r; have s1_h := Lib.hid s1; have hB3_h := Lib.hid hB3; clear s1 hB3
    go_wp2_with (fail)
    refine bodyPost_ret (results_cell_tmp rfl _ _ (w.heap.size + 1) _ _ (0, 0) _ rfl s1_h.out Tryd.underlying43 rfl (by kernel_rfl)) rfl ?_
    first | exact ⟨_, [], rfl, OwSys.zero _ 0 0, FreshL.nil _, hB3_h.out⟩ | exact ⟨_, rfl, [], OwSys.zero _ 0 0, FreshL.nil _, hB3_h.out⟩
end Go.Proofs.YtahnhblodfdfhaaDoor
namespace Go.Proofs.YtahnhblodfdfhaaDoor
open Go.RowKit
def dimM (p : Int) (l : List Nd) : Int × Bool := if (dnTmM p l).2 then (((dnTmM p l).1.2.2.length : Int), true) else (0, false)
set_option maxRecDepth 100000 in
set_option maxHeartbeats 4000000 in
theorem sDimensionOf_any (p : Int) {v : Value} {l : List Nd} (w : World) (h : RdTm w v l) :
    Calls Tryd.prog 43 #[.int .i64 p, v] w fun e w' => e = .returned (.tuple #[.int .i64 (dimM p l).1, .bool (dimM p l).2]) ∧ Below w.heap.size w w' := by
  obtain ⟨A, c, rfl, h⟩ := h
  obtain ⟨m, hm⟩ : ∃ m, m = l.length := ⟨_, rfl⟩
  obtain ⟨W, hW⟩ : ∃ W, W = w.alloc (.cells #[.slice A m c] tTerm) := ⟨_, rfl⟩
  have b0 : Below w.heap.size w W := by rw [hW]; exact below_alloc _ _
  have k0 : W.heap[w.heap.size]? = some (.cells #[.slice A m c] tTerm) := by rw [hW]; exact heap_alloc_new _ _
  have hC := dnTerm_any p (v := .agg #[.slice A m c]) (l := l) W ⟨A, c, by rw [hm], h.below b0⟩
  obtain ⟨c0, f0⟩ := bx1_d k0
  rw [← hm]
  obtain ⟨D, hD⟩ : ∃ D, D = dnTmM p l := ⟨_, rfl⟩
  unfold dimM
  rw [← hD] at hC ⊢
  obtain ⟨R, b⟩ := D
  clear h hD; have b0_h := Lib.hid b0; have k0_h := Lib.hid k0; have hC_h := Lib.hid hC; have hm_h := Lib.hid hm; clear b0 k0 hC hm
  go_enter Tryd.func43, Tryd.ntmps43
  go_upto_region 1 with (fail)
  rw [← hW]
  clear hW
  go_wp2_with (fail)
  refine (hC_h.out).mono ?_
  rintro e w2 ⟨v2, fp, rfl, hO, hf, hb2⟩
  obtain ⟨A2, c2, hs, rfl, e2, hOR, _⟩ := hO
  have el : R.2.2.length = hs.length := by rw [e2, List.length_map]
  have hal := below_alloc w2 (.cells #[.int .i64 R.1, .int .i64 R.2.1, .slice A2 hs.length c2] tRelD)
  have bx := heap_alloc_new w2 (.cells #[.int .i64 R.1, .int .i64 R.2.1, .slice A2 hs.length c2] tRelD)
  have hB := below_trans (below_trans b0_h.out hb2 b0_h.out.size) hal (below_trans b0_h.out hb2 b0_h.out.size).size
  obtain ⟨W4, hW4⟩ : ∃ W4, W4 = w2.alloc (.cells #[.int .i64 R.1, .int .i64 R.2.1, .slice A2 hs.length c2] tRelD) := ⟨_, rfl⟩
  rw [← hW4] at bx hB
  obtain ⟨⟨x0, x1, x2⟩, x3, x4, x5⟩ := box3 bx
  clear hb2 hf hOR hal bx e2 c0 f0; have hB_h := Lib.hid hB; have el_h := Lib.hid el; clear hB el
  cases b
  · go_upto_region 2 with (fail)
    rw [← hW4]
    clear hW4
    go_wp2_with (fail)
    go_ret2
    exact ⟨rfl, hB_h.out⟩
  · go_upto_region 2 with (fail)
    rw [← hW4]
    clear hW4
    go_wp2_with (fail)
    go_ret2
    exact ⟨by simp [el_h.out], hB_h.out⟩
end Go.Proofs.YtahnhblodfdfhaaDoor
namespace Go.Proofs.YtahnhblodfdfhaaDoor
open Go.RowKit
theorem isDelay_any (k : Int) (w : World) : Calls Tryd.prog 137 #[.int .i64 k] w fun e w' => e = .returned (.bool (!noDl k)) ∧ w' = w := by
  unfold noDl
  by_cases h8 : k = 8
  · subst h8
    go_enter Tryd.func137, Tryd.ntmps137
    go_wp2_with (fail)
    go_ret
    exact ⟨rfl, rfl⟩
  · have b8 : (k == 8) = false := by rw [beq_eq_false_iff_ne]; exact h8
    by_cases h14 : k = 14
    · subst h14
      go_enter Tryd.func137, Tryd.ntmps137
      go_wp2_with (fail)
      go_ret
      exact ⟨rfl, rfl⟩
    · have b14 : (k == 14) = false := by rw [beq_eq_false_iff_ne]; exact h14
      go_enter Tryd.func137, Tryd.ntmps137
      go_wp2_with (fail)
      go_ret
      exact ⟨by simp [h8, h14], rfl⟩
def statB (p : Int) (l : List Nd) : Bool := goodM p l && l.all fun n => noDl n.1
set_option maxRecDepth 100000 in
set_option maxHeartbeats 4000000 in
theorem isStatic_any (p : Int) {v : Value} {l : List Nd} (w : World) (h : RdTm w v l) (hT : Tab w) :
    Calls Tryd.prog 92 #[v, .int .i64 p] w fun e w' => e = .returned (.bool (statB p l)) ∧ Below w.heap.size w w' := by
  obtain ⟨A, c, rfl, h⟩ := h
  obtain ⟨m, hm⟩ : ∃ m, m = l.length := ⟨_, rfl⟩
  obtain ⟨W, hW⟩ : ∃ W, W = w.alloc (.cells #[.slice A m c] tTerm) := ⟨_, rfl⟩
  have b0 : Below w.heap.size w W := by rw [hW]; exact below_alloc _ _
  have k0 : W.heap[w.heap.size]? = some (.cells #[.slice A m c] tTerm) := by rw [hW]; exact heap_alloc_new _ _
  have hC := isOver_any p (v := .agg #[.slice A m c]) (l := l) (w := W) ⟨A, c, by rw [hm], h.below b0⟩ (hT.below b0 hT.lt)
  obtain ⟨c0, f0⟩ := bx1_d k0
  rw [← hm]
  have hr := h.below b0
  obtain ⟨D, hD⟩ : ∃ D, D = statB p l := ⟨_, rfl⟩
  rw [← hD]
  unfold statB at hD
  have hDY : goodM p l = true → l.all (fun n => noDl n.1) = true → D = true := fun h1 h2 => by rw [hD, h1, h2]; rfl
  have hDN : l.all (fun n => noDl n.1) = false → D = false := fun h2 => by rw [hD, h2, Bool.and_false]
  have hDG : goodM p l = false → D = false := fun h2 => by rw [hD, h2]; rfl
  have hgl : goodM p l = true → m ≤ 400 := fun h1 => by
    unfold goodM at h1
    simp only [Bool.and_eq_true] at h1
    obtain ⟨t, hv⟩ := Option.isSome_iff_exists.1 h1.2.1
    unfold treeM at hv
    split at hv
    · omega
    · cases hv
  obtain ⟨g, hg⟩ : ∃ g, g = goodM p l := ⟨_, rfl⟩
  rw [← hg] at hC hDY hDG hgl
  clear h hD hT hg; have b0_h := Lib.hid b0; have k0_h := Lib.hid k0; have hC_h := Lib.hid hC; have hm_h := Lib.hid hm; have hr_h := Lib.hid hr; have hDY_h := Lib.hid hDY; have hDN_h := Lib.hid hDN; have hDG_h := Lib.hid hDG; have hgl_h := Lib.hid hgl; clear b0 k0 hC hm hr hDY hDN hDG hgl
  go_enter Tryd.func92, Tryd.ntmps92
  go_upto_region 1 with (fail)
  rw [← hW]
  clear hW
  go_wp2_with (fail)
  refine (hC_h.out).mono ?_
  rintro e w2 ⟨rfl, hb2⟩
  clear c0 f0
  have k2 := box_below k0_h.out hb2
  have hB2 := below_trans b0_h.out hb2 b0_h.out.size
  have hr2 := hr_h.out.below hb2
  obtain ⟨c0, f0⟩ := bx1_d k2
  clear hb2 k2
  cases g
  · have hfin := hDG_h.out rfl
    subst hfin
    have hB2_h := Lib.hid hB2; have hr2_h := Lib.hid hr2; clear hB2 hr2
    go_wp2_with (fail)
    go_ret
    exact ⟨rfl, hB2_h.out⟩
  · have hDY2 := hDY_h.out rfl
    have hl400 := hgl_h.out rfl
    have hB2_h := Lib.hid hB2; have hr2_h := Lib.hid hr2; have hDY2_h := Lib.hid hDY2; clear hB2 hr2 hDY2
    go_wp2_with (fail)
    go_loopw [14] (fun iv wr => ∃ k : Nat, k ≤ m ∧ iv = .int .i64 k ∧ (∀ (j : Nat) (n : Nd), l[j]? = some n → j < k → noDl n.1 = true) ∧ Below w2.heap.size w2 wr) (fun iv _ => m - (intOf iv).toNat)
    case atStart => exact ⟨0, Nat.zero_le _, rfl, fun j n _ h => (by omega), Below.refl _ _⟩
    case round =>
      clear c0 f0
      obtain ⟨k, hk, rfl, hnd, hbo⟩ := hrel
      obtain ⟨wo, rfl⟩ : ∃ x, x = wr := ⟨_, rfl⟩
      have hbWo := below_trans hB2_h.out hbo hB2_h.out.size
      by_cases hlt : k < m
      · obtain ⟨ad, κ, v, s, rfl, hn, d0, d1, d2⟩ := (hr2_h.out.below hbo).at_ (j := k) (by rw [← hm_h.out]; exact hlt)
        have hkI : (k : Int) < (m : Int) := by omega
        obtain ⟨wN, hwN⟩ : ∃ wN, wN = wo.alloc (.cells #[.int .i64 κ, .int .i64 v, .string s] 69) := ⟨_, rfl⟩
        have hbN : Below wo.heap.size wo wN := by rw [hwN]; exact below_alloc _ _
        have kN : wN.heap[wo.heap.size]? = some (.cells #[.int .i64 κ, .int .i64 v, .string s] 69) := by rw [hwN]; exact heap_alloc_new _ _
        have hTm := fun W' => isDelay_any κ W'
        have hb3 := below_trans hbo hbN hbo.size
        have hb4 := below_trans hbWo hbN hbWo.size
        obtain ⟨⟨e0, e1, e2⟩, e3, e4, e5⟩ := box3 kN
        by_cases hdl : noDl κ = true
        · simp only [hdl] at hTm
          have hnd' : ∀ (j : Nat) (n : Nd), l[j]? = some n → j < k + 1 → noDl n.1 = true := fun j n h2 h3 => by
            rcases Nat.lt_or_ge j k with h4 | h4
            · exact hnd j n h2 h4
            · obtain rfl : j = k := by omega
              rw [hn] at h2
              obtain rfl := Option.some.inj h2
              exact hdl
          clear hnd hn hdl kN hbN hbo hbWo; have hnd'_h := Lib.hid hnd'; have hTm_h := Lib.hid hTm; have hb3_h := Lib.hid hb3; have hb4_h := Lib.hid hb4; clear hnd' hTm hb3 hb4
          go_upto_region 6 with (fail)
          rw [← hwN]
          clear hwN d0 d1 d2
          go_wp2_with (fail)
          refine (hTm_h.out _).mono ?_
          rintro e w' ⟨rfl, hw'⟩
          subst hw'
          go_wp2_with (fail)
          go_roundw
          case rel => exact ⟨k + 1, by omega, by go_num, hnd'_h.out, hb3_h.out⟩
          case measure => simp [intOf]; omega
        · have hdl' : noDl κ = false := by simpa using hdl
          simp only [hdl'] at hTm
          have hno : l.all (fun n => noDl n.1) = false := by
            rw [List.all_eq_false]
            exact ⟨_, List.mem_of_getElem? hn, by simp [hdl']⟩
          have hfin := hDN_h.out hno
          subst hfin
          clear hnd hn hdl hdl' hno kN hbN hbo hbWo; have hTm_h := Lib.hid hTm; have hb3_h := Lib.hid hb3; have hb4_h := Lib.hid hb4; clear hTm hb3 hb4
          go_upto_region 6 with (fail)
          rw [← hwN]
          clear hwN d0 d1 d2
          go_wp2_with (fail)
          refine (hTm_h.out _).mono ?_
          rintro e w' ⟨rfl, hw'⟩
          subst hw'
          go_wp2_with (fail)
          go_ret
          exact ⟨rfl, hb4_h.out⟩
      · obtain rfl : m = k := by omega
        have hyes : l.all (fun n => noDl n.1) = true := by
          rw [List.all_eq_true]
          intro n hn
          obtain ⟨j, hj⟩ := List.mem_iff_getElem?.1 hn
          exact hnd j n hj (by rw [hm_h.out]; exact (List.getElem?_eq_some_iff.1 hj).1)
        have hfin := hDY2_h.out hyes
        subst hfin
        clear hnd hyes; have hbWo_h := Lib.hid hbWo; clear hbWo
        go_wp2_with (fail)
        go_ret
        exact ⟨rfl, hbWo_h.out⟩
end Go.Proofs.YtahnhblodfdfhaaDoor
namespace Go.Proofs.YtahnhblodfdfhaaDoor
open Go.RowKit
theorem statB_parts {p : Int} {l : List Nd} (h : statB p l = true) : fieldB p = true ∧ (∃ t, treeM l = some t ∧ dnTmM p l = (den p t, true)) ∧ ∀ n, n ∈ l → okNd p n := by
  unfold statB at h
  simp only [Bool.and_eq_true] at h
  obtain ⟨hg, hnd⟩ := h
  have hg2 := hg
  unfold goodM at hg2
  simp only [Bool.and_eq_true] at hg2
  obtain ⟨hf, hsome, hover⟩ := hg2
  obtain ⟨t, hv⟩ := Option.isSome_iff_exists.1 hsome
  refine ⟨hf, ⟨t, hv, by unfold dnTmM; rw [hg, hnd, hv]; rfl⟩, fun n hn => ?_⟩
  have h1 := List.all_eq_true.1 hover n hn
  have h2 := List.all_eq_true.1 hnd n hn
  unfold noDl at h2
  simp only [Bool.and_eq_true, decide_eq_true_eq] at h2
  refine ⟨h2.1, h2.2, fun h7 => ?_⟩
  unfold overB hvB at h1
  simp [h7] at h1
  omega
theorem statB_no {p : Int} {l : List Nd} (h : statB p l = false) : dnTmM p l = ((0, 0, []), false) := by
  unfold statB at h
  unfold dnTmM
  rw [h]
  rfl
set_option maxRecDepth 100000 in
set_option maxHeartbeats 4000000 in
theorem iDimensionOf_any (p : Int) {v : Value} {l : List Nd} (w : World) (h : RdTm w v l) (hT : Tab w) :
    Calls Tryd.prog 45 #[.int .i64 p, v] w fun e w' => e = .returned (.tuple #[.int .i64 (dimM p l).1, .bool (dimM p l).2]) ∧ Below w.heap.size w w' := by
  obtain ⟨A, c, rfl, h⟩ := h
  obtain ⟨m, hm⟩ : ∃ m, m = l.length := ⟨_, rfl⟩
  obtain ⟨W, hW⟩ : ∃ W, W = w.alloc (.cells #[.slice A m c] tTerm) := ⟨_, rfl⟩
  have b0 : Below w.heap.size w W := by rw [hW]; exact below_alloc _ _
  have k0 : W.heap[w.heap.size]? = some (.cells #[.slice A m c] tTerm) := by rw [hW]; exact heap_alloc_new _ _
  have hr : RdTm W (.agg #[.slice A m c]) l := ⟨A, c, by rw [hm], h.below b0⟩
  have hC := isStatic_any p W hr (hT.below b0 hT.lt)
  obtain ⟨c0, f0⟩ := bx1_d k0
  rw [← hm]
  obtain ⟨D, hD⟩ : ∃ D, D = dimM p l := ⟨_, rfl⟩
  rw [← hD]
  unfold dimM at hD
  by_cases hs : statB p l = true
  · obtain ⟨hf, ⟨t, hv, hd⟩, hok⟩ := statB_parts hs
    rw [hd] at hD
    have hE := fun W' (hb : Below W.heap.size W W') => denote_any p W' ⟨A, c, by rw [hm], (h.below b0).below hb⟩ hf hv hok (v := .agg #[.slice A m c])
    rw [hs] at hC
    obtain ⟨R, hR⟩ : ∃ R, R = den p t := ⟨_, rfl⟩
    rw [← hR] at hD
    simp only [← hR] at hE
    clear h hT hs hf hv hd hok hr hR; have b0_h := Lib.hid b0; have k0_h := Lib.hid k0; have hC_h := Lib.hid hC; have hm_h := Lib.hid hm; have hE_h := Lib.hid hE; have hD_h := Lib.hid hD; clear b0 k0 hC hm hE hD
    go_enter Tryd.func45, Tryd.ntmps45
    go_upto_region 1 with (fail)
    rw [← hW]
    clear hW
    go_wp2_with (fail)
    refine (hC_h.out).mono ?_
    rintro e w2 ⟨rfl, hb2⟩
    clear c0 f0
    have k2 := box_below k0_h.out hb2
    have hB2 := below_trans b0_h.out hb2 b0_h.out.size
    obtain ⟨c0, f0⟩ := bx1_d k2
    have hb2_h := Lib.hid hb2; have hB2_h := Lib.hid hB2; have k2_h := Lib.hid k2; clear hb2 hB2 k2
    go_wp2_with (fail)
    refine (hE_h.out w2 hb2_h.out).mono ?_
    rintro e w3 ⟨v3, fp, rfl, hO, hf3, hb3⟩
    obtain ⟨A2, c2, hs, rfl, e2, hOR, _⟩ := hO
    have el : R.2.2.length = hs.length := by rw [e2, List.length_map]
    have hB := below_trans hB2_h.out hb3 hB2_h.out.size
    clear hb3 hf3 hOR e2; have hB_h := Lib.hid hB; have el_h := Lib.hid el; clear hB el
    have hfd : ∀ (x y z : Value) (W : World), (Instr.field 43 (.agg #[x, y, z]) 2).run Tryd.prog W = .ok z W := fun _ _ _ _ => by kernel_rfl
    go_wp2_with (fail)
    go_ret2
    exact ⟨by rw [hD_h.out]; simp [el_h.out], hB_h.out⟩
  · have hs' : statB p l = false := by simpa using hs
    rw [statB_no hs'] at hD
    rw [hs'] at hC
    subst hD
    clear h hT hs hs' hr; have b0_h := Lib.hid b0; have k0_h := Lib.hid k0; have hC_h := Lib.hid hC; have hm_h := Lib.hid hm; clear b0 k0 hC hm
    go_enter Tryd.func45, Tryd.ntmps45
    go_upto_region 1 with (fail)
    rw [← hW]
    clear hW
    go_wp2_with (fail)
    refine (hC_h.out).mono ?_
    rintro e w2 ⟨rfl, hb2⟩
    have hB2 := below_trans b0_h.out hb2 b0_h.out.size
    clear hb2 c0 f0; have hB2_h := Lib.hid hB2; clear hB2
    go_wp2_with (fail)
    go_ret2
    exact ⟨rfl, hB2_h.out⟩
end Go.Proofs.YtahnhblodfdfhaaDoor
namespace Go.Proofs.YtahnhblodfdfhaaDoor
open Go.ChangeShapes Go.WideShapes Go.ChangeAt Go.RowKit
theorem gTab : Tryd.prog.globalNamed "loop.example/g01073/impl.smallPrimes" = some 0 := by kernel_rfl
theorem gTabType : (Tryd.prog.globals[0]?).map (·.type) = some 167 := by kernel_rfl
theorem cellsTab : Tryd.prog.cellsOf 167 = 4 := by kernel_rfl
theorem tab_of_laid {W : World} (h : laidMetH Tryd.prog [("loop.example/g01073/impl.smallPrimes", Rows.laid_loop_example_g01073_impl_smallPrimes)] W) : Tab W := by
  have ht : Lib.TabIs Tryd.prog W "loop.example/g01073/impl.smallPrimes" .i64 [2, 3, 5, 7] :=
    Lib.tabIs_of_head (rest := []) gTab gTabType Tryd.underlying167 Tryd.underlying3 cellsInt cellsTab h
  exact ⟨ht.cell gTab 0 (by decide), ht.cell gTab 1 (by decide), ht.cell gTab 2 (by decide), ht.cell gTab 3 (by decide)⟩
section
variable {H : Type} {enc : TypeId × Value → H} {P : Program} {W W' : World}
end
theorem vars_ok : ∀ n ∈ ["loop.example/g01073/impl.smallPrimes"], ∀ g t, Tryd.prog.globalNamed n = some g → (Tryd.prog.globals[g]?).map (·.type) = some t → Tryd.prog.readableRec t = true ∧ t < Tryd.prog.types.size := by
  intro n hn g t h1 h2
  obtain rfl := List.mem_singleton.1 hn
  obtain rfl := Option.some.inj (gTab.symm.trans h1)
  obtain rfl := Option.some.inj (gTabType.symm.trans h2)
  exact ⟨by kernel_rfl, of_decide_eq_true (by kernel_rfl)⟩
noncomputable def laidWorld (os : Os) : World :=
  { World.holding Tryd.prog os ⟨#[], #[], []⟩ with heap := (World.holding Tryd.prog os ⟨#[], #[], []⟩).heap.modify 0 fun
      | .cells _ t frozen => .cells #[.int .i64 2, .int .i64 3, .int .i64 5, .int .i64 7] t frozen
      | o => o }
theorem laid_met (os : Os) (args : Array Value) : laidMet Tryd.prog [("loop.example/g01073/impl.smallPrimes", Rows.laid_loop_example_g01073_impl_smallPrimes)] ((laidWorld os).forCall (fun _ _ => 0) ⟨#[], args, []⟩).memory :=
  laidMet_of_run' 8 (by kernel_rfl) (by kernel_rfl)
end Go.Proofs.YtahnhblodfdfhaaDoor
namespace Go.Proofs.YtahnhblodfdfhaaDoor
open Go.ChangeShapes Go.WideShapes Go.ChangeAt Go.RowKit
abbrev tTermL : TypeId := 74
theorem RdTm.shape {w : World} {v : Value} {l : List Nd} (h : RdTm w v l) : ∃ A n c, v = .agg #[.slice A n c] := by
  obtain ⟨A, c, rfl, _⟩ := h; exact ⟨A, _, c, rfl⟩
set_option maxRecDepth 100000 in
set_option maxHeartbeats 4000000 in
theorem lawDimensionOf_any (p : Int) (v : Value) (l : List Nd) (w : World) (h : RdTm w v l) (hB : BigTm l) (hT : Tab w) :
    Calls Tryd.prog 9 #[.int .i64 p, v] w fun e w' => e = .returned (.bool true) ∧ Below w.heap.size w w' := by
  obtain ⟨A, n, c, rfl⟩ := h.shape
  have hb0 := below_alloc w (.cells #[.slice A n c] tTermL)
  have k0 := heap_alloc_new w (.cells #[.slice A n c] tTermL)
  have hS := szTerm_any 1048576 (h.below hb0) hB (by omega) (by omega)
  obtain ⟨S, hSe⟩ : ∃ S, S = szNS l 1048576 := ⟨_, rfl⟩
  rw [← hSe] at hS
  by_cases hneg : S < 0
  · have hS_h := Lib.hid hS
    have hSe_h := Lib.hid hSe; have hb0_h := Lib.hid hb0; have k0_h := Lib.hid k0; have hT_h := Lib.hid hT; clear hS hSe hb0 k0 hT; clear h hB
    go_enter Tryd.func9, Tryd.ntmps9
    go_wp2_with (fail)
    refine (hS_h.out).mono ?_
    rintro e w1 ⟨rfl, hb1⟩
    go_wp2_with (fail)
    go_ret
    exact ⟨rfl, below_trans hb0_h.out hb1 hb0_h.out.size⟩
  · have hlen := (szNS_ok (l := l) (left := 1048576) (by omega) (by omega)).1
    obtain ⟨T, hG⟩ : ∃ T, T = dimM p l := ⟨_, rfl⟩
    have hS_h := Lib.hid hS; have hSe_h := Lib.hid hSe; have hb0_h := Lib.hid hb0; have k0_h := Lib.hid k0; have hG_h := Lib.hid hG; have hT_h := Lib.hid hT; clear hS hSe hb0 k0 hG hT; clear hB
    go_enter Tryd.func9, Tryd.ntmps9
    go_wp2_with (fail)
    refine (hS_h.out).mono ?_
    rintro e w1 ⟨rfl, hb1⟩
    have hB1 := below_trans hb0_h.out hb1 hb0_h.out.size
    have k1 := box_below k0_h.out hb1
    obtain ⟨c1, f1⟩ := bx1 k1
    have hB1_h := Lib.hid hB1; have k1_h := Lib.hid k1; clear hB1 k1; clear hb1 hS_h
    go_wp2_with (fail)
    refine (toTerm_any (h.below hB1_h.out) hlen).mono ?_
    rintro e w2 ⟨v2, fp2, rfl, o2, fr2, hb2⟩
    go_wp2_with (fail)
    refine (sDimensionOf_any p w2 o2.rd).mono ?_
    rintro e w3 ⟨rfl, hb3⟩
    rw [← hG_h.out]
    have hB3 := below_trans (below_trans hB1_h.out hb2 hB1_h.out.size) hb3 (Nat.le_trans hB1_h.out.size hb2.size)
    have k3 := box_below (box_below k1_h.out hb2) hb3
    clear c1 f1
    obtain ⟨c1, f1⟩ := bx1 k3
    have hB3_h := Lib.hid hB3; have k3_h := Lib.hid k3; clear hB3 k3; clear o2 fr2 hb2 hb3 hB1_h k1_h
    go_wp2_with (fail)
    refine (toTerm_any (h.below hB3_h.out) hlen).mono ?_
    rintro e w4 ⟨v4, fp4, rfl, o4, fr4, hb4⟩
    obtain ⟨A4, n4, c4, rfl⟩ := o4.rd.shape
    have hB4 := below_trans hB3_h.out hb4 hB3_h.out.size
    have hba := below_alloc w4 (.cells #[.slice A4 n4 c4] tTerm)
    have kx := heap_alloc_new w4 (.cells #[.slice A4 n4 c4] tTerm)
    have hBa := below_trans hB4 hba hB4.size
    have hI := iDimensionOf_any p (w4.alloc (.cells #[.slice A4 n4 c4] tTerm)) (o4.rd.below hba) (hT_h.out.below hBa hT_h.out.lt)
    rw [← hG_h.out] at hI
    have k4 := box_below k3_h.out hb4
    have o4' := o4
    have hlt4 := box_lt k4
    clear c1 f1 o4 fr4
    obtain ⟨c1, f1⟩ := bx1 k4
    have hB4_h := Lib.hid hB4; have hba_h := Lib.hid hba; have kx_h := Lib.hid kx; have hI_h := Lib.hid hI; have k4_h := Lib.hid k4; have o4'_h := Lib.hid o4'; have hBa_h := Lib.hid hBa; clear hB4 hba kx hI k4 o4' hBa; clear hb4 hB3_h k3_h
    go_wp2_with (fail)
    refine (hI_h.out).mono ?_
    rintro e w5 ⟨rfl, hb5⟩
    have hB5 := below_trans (below_trans hB4_h.out hba_h.out hB4_h.out.size) hb5 (Nat.le_trans hB4_h.out.size hba_h.out.size)
    have k5 := box_below (box_below k4_h.out hba_h.out) hb5
    have kx5 := box_below kx_h.out hb5
    have o5 := ((o4'_h.out.rd.below hba_h.out).below hb5)
    clear c1 f1 hlt4; have hB5_h := Lib.hid hB5; have k5_h := Lib.hid k5; have kx5_h := Lib.hid kx5; have o5_h := Lib.hid o5; clear hB5 k5 kx5 o5; clear hb5 hI_h hB4_h hba_h kx_h k4_h o4'_h hBa_h
    go_wp2_with (fail)
    refine beginB (by kernel_rfl) (fun W1 hW1 => ?_)
    have hbw : Below w5.heap.size w5 W1 := by rw [hW1]; exact below_drew (Below.refl _ _)
    have kk := box_below k5_h.out hbw
    have kkx := box_below kx5_h.out hbw
    have oo := o5_h.out.below hbw
    have hB6 := below_trans hB5_h.out hbw hB5_h.out.size
    clear hW1 hbw; have kk_h := Lib.hid kk; have kkx_h := Lib.hid kkx; have oo_h := Lib.hid oo; have hB6_h := Lib.hid hB6; clear kk kkx oo hB6
    refine takeH 0 (v := ?_) rfl (by kernel_rfl) (by kernel_rfl) (by kernel_rfl) (fun _ _ _ h => h) (Below.refl _ _) (by rfl) (fun W' hW' => ?_) ?_; rotate_left; · (obtain ⟨c1, f1⟩ := bx1 (box_below kk_h.out hW'); obtain ⟨c2, f2⟩ := bx1 (box_below kkx_h.out hW'); clear hW'; go_simp; first | done | with_reducible rfl)
    simp only [Act.put, nS1, nS2, nS3]
    refine takeH 1 (v := ?_) rfl (by kernel_rfl) (by kernel_rfl) (by kernel_rfl) (fun _ _ _ h => h) (Below.refl _ _) (by rfl) (fun W' hW' => ?_) ?_; rotate_left; · (obtain ⟨c1, f1⟩ := bx1 (box_below kk_h.out hW'); obtain ⟨c2, f2⟩ := bx1 (box_below kkx_h.out hW'); clear hW'; go_simp; first | done | with_reducible rfl)
    simp only [Act.put, nS1, nS2, nS3]
    refine' callH 2 (f := _) (args := _) rfl (by kernel_rfl) (by rfl) ?_ ?_; rotate_left 2; · (go_simp; first | done | with_reducible rfl | (constructor <;> with_reducible rfl))
    refine (toTerm_any (h.below hB6_h.out) hlen).mono ?_
    rintro e w7 ⟨v7, fp7, rfl, o7, fr7, hb7⟩
    refine ⟨_, rfl, hb7, ?_⟩
    simp only [Act.put, nS1, nS2, nS3]
    refine' callH 3 (f := _) (args := _) rfl (by kernel_rfl) (by rfl) ?_ ?_; rotate_left 2; · (go_simp; first | done | with_reducible rfl | (constructor <;> with_reducible rfl))
    refine (eqTerm_any (oo_h.out.below hb7) o7.rd hlen).mono ?_
    rintro e w8 ⟨bq, rfl, hbq, hb8⟩
    obtain rfl : bq = true := hbq.2 rfl
    have hb78 := hb7.trans (hb8.mono hb7.size)
    have hB8 := below_trans hB6_h.out hb78 hB6_h.out.size
    refine ⟨_, rfl, hb78, ?_⟩
    have hB8_h := Lib.hid hB8; clear hB8; clear hbq o7 fr7
    simp only [Act.put, nS1, nS2, nS3]
    refine takeH 4 (v := ?_) rfl (by kernel_rfl) (by kernel_rfl) (by kernel_rfl) (fun _ _ _ h => h) hb78 (by rfl) (fun W' hW' => ?_) ?_; rotate_left; · (skip; clear hW'; go_simp; first | done | with_reducible rfl)
    simp only [Act.put, nS1, nS2, nS3]
    refine doneH (by kernel_rfl) ?_
    go_wp2_with (fail)
    go_ret
    exact ⟨rfl, hB8_h.out⟩
set_option maxRecDepth 100000 in
theorem contractDimensionOf (H : Type) (enc : TypeId × Value → H) (W : World) (args : Array Value) (ds gs : List (DataW H)) (before : List MemPlace)
    (hval : ∀ (j : Nat) t v, Tryd.f9.params[j]? = some t → args[j]? = some v → Value.okWide Tryd.prog W .any 0 t v)
    (hW : DataW.Whole enc Tryd.prog Tryd.f9.params.toList Rows.fnExactDimensionOfSpec.vars false W args.toList ds gs before) (hL : laidMetH Tryd.prog Rows.fnExactDimensionOfRow.laid W) :
    Calls Tryd.prog 9 args W fun e W' => ∃ v, e = .returned v ∧ Rows.fnExactDimensionOfSpec.post enc Tryd.prog Tryd.f9 false true false false W args v W' := by
  have hW' := hW
  obtain ⟨p, q, hA0, hV, rfl, hfz, hnd⟩ := hW
  have hA : DataW.TrodAll enc Tryd.prog W 0 (fun _ => true) true Tryd.f9.params.toList args.toList ds p := hA0
  have hr : ∀ t ∈ Tryd.f9.params.toList, Tryd.prog.readableRec t = true ∧ t < Tryd.prog.types.size := by
    rw [Tryd.params9]
    intro t ht
    simp at ht
    rcases ht with rfl | rfl <;> exact ⟨by kernel_rfl, of_decide_eq_true (by kernel_rfl)⟩
  rw [Tryd.params9] at hA hval
  obtain ⟨v0, vs0, d0, ds0, p0, q0, hargs, rfl, rfl, t0, r0⟩ := trodAll_cons hA
  obtain ⟨v1, vs1, d1, ds1, p1, q1, rfl, rfl, rfl, t1, r1⟩ := trodAll_cons r0
  obtain ⟨rfl, rfl, rfl⟩ := trodAll_nil r1
  obtain rfl : args = #[v0, v1] := by cases args; simp_all
  obtain ⟨g, _, _, _, dg, pg, rfl, _⟩ := trodVars_one hV
  obtain ⟨x0, rfl, hx0⟩ := in_int (hval 0 _ v0 rfl rfl) t0
  obtain ⟨l1, hl1, hg1⟩ := in_Term (hval 1 _ v1 rfl rfl) t1
  refine (lawDimensionOf_any x0 v1 l1 W hl1 hg1 (tab_of_laid hL)).mono fun e W' ⟨he, hb⟩ => ?_
  subst he
  exact ⟨_, rfl, post_true laidOut hW' hb hr vars_ok rfl rfl Tryd.underlying4⟩
set_option maxRecDepth 100000 in
theorem liftedDimensionOf (os : Os) (started : os.Started) (H : Type) (enc : TypeId × Value → H) (F : Stop.Interp) :
    ReturnsInHanded {} Tryd.checked os 9 .any ((OpenSpec.ofChange Rows.fnExactDimensionOfSpec).preRow enc Tryd.prog Tryd.f9 Rows.fnExactDimensionOfRow.domain false Rows.fnExactDimensionOfRow.laid) (((OpenSpec.ofChange Rows.fnExactDimensionOfSpec).at F).post enc Tryd.prog Tryd.f9 false true false false) := by
  obtain ⟨ds, gs, places, hx⟩ : ∃ ds gs places, DataW.whole enc Tryd.prog ((laidWorld os).forCall (fun _ _ => 0) ⟨#[], #[.int .i64 0, .agg #[.slice none 0 0]], []⟩).memory Tryd.f9.params.toList Rows.fnExactDimensionOfSpec.vars false #[Value.int .i64 0, .agg #[.slice none 0 0]].toList 8 = some (ds, gs, places) :=
    ⟨[.lit (.int .i64 0), .agg [.nil]], [Rows.laid_loop_example_g01073_impl_smallPrimes], MemPlace.row ⟨0, 0, none⟩ 4, by kernel_rfl⟩
  refine returnsInHanded_of_row (C := Tryd.checked) (s := OpenSpec.ofChange Rows.fnExactDimensionOfSpec) own started (by kernel_rfl) Tryd.func9
    (witness_row_at (enc := enc) (C := Tryd.checked) false (laidWorld os) #[.int .i64 0, .agg #[.slice none 0 0]] rfl (by kernel_rfl) (by kernel_rfl) (by kernel_rfl)
      (OpenSpec.preRow_of_cond 8 hx (by kernel_rfl) (fun k hk => by cases hk) (by kernel_rfl) (laid_met os _))) ?_
  intro W base args ds gs before hval hW _ _ _ hL _ _
  exact contractDimensionOf H enc W args ds gs before hval hW hL
theorem saidDimensionOf : Rows.FnExactDimensionOfSaid :=
  OpenClaim.holds_of_cond 9 Tryd.f9 rfl rfl rfl rfl rfl rfl rfl ⟨rfl, rfl, rfl, rfl, rfl⟩ rfl rfl rfl rfl rfl (by kernel_rfl) Tryd.func9 (by kernel_rfl)
    (of_decide_eq_true (by kernel_rfl)) (by unfold Func.isWrapper; first | (rw [if_pos (by decide +kernel)]; kernel_rfl) | (rw [if_neg (by decide +kernel)]; exact ⟨rfl, rfl⟩))
    (fun os started H enc _ F => by rw [OpenClaim.pre_eq_preRow]; exact liftedDimensionOf os started H enc F)
theorem plainDimensionOf (f : FuncId) (fn : Func) (hf : Tryd.pinned.checked.prog.funcNamed "loop.example/g01073/laws.FnExactDimensionOf" = some f) (hfn : Tryd.pinned.checked.prog.funcs[f]? = some fn) :
    false = Tryd.pinned.checked.prog.looks [] ∧ ∀ (j : Nat) t, fn.params[j]? = some t → Tryd.pinned.checked.prog.wantsStandIn t = false := by
  obtain rfl : f = 9 := Option.some.inj ((show Tryd.prog.funcNamed "loop.example/g01073/laws.FnExactDimensionOf" = some 9 by kernel_rfl).symm.trans hf) |>.symm
  obtain rfl : fn = Tryd.f9 := (Option.some.inj (Tryd.func9.symm.trans hfn)).symm
  refine ⟨by kernel_rfl, fun j t ht => ?_⟩
  rw [Tryd.params9] at ht
  have := Array.mem_of_getElem? ht
  simp at this
  rcases this with rfl | rfl
  · exact (show Tryd.prog.wantsStandIn 3 = false by kernel_rfl)
  · exact (show Tryd.prog.wantsStandIn 74 = false by kernel_rfl)
theorem cardDimensionOf : Rows.FnExactDimensionOfCardSaid :=
  Claim7.holds_tied_plain_at .later [] _ _ _ _ saidDimensionOf (fun _ h => by cases h) (by kernel_rfl) (fun _ h => by cases h) fnExactDimensionOf_row_tie rfl ⟨rfl, rfl⟩ (by kernel_rfl) rfl plainDimensionOf (by kernel_rfl)
#print axioms cardDimensionOf
end Go.Proofs.YtahnhblodfdfhaaDoor
