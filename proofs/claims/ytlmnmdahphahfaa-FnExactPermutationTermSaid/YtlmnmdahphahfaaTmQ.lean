/-
  THE LAW's HELPERS OVER []Node AND Term: eq; Term.
-/
import Derived.Test.YtlmnmdahphahfaaTmI
namespace Go.Proofs.Ytlmnmdahphahfaa
open Go.RowKit

set_option maxRecDepth 8000 in
set_option maxHeartbeats 1000000 in
theorem eqNodeS_any (A B : Option Addr) (c d : Nat) (l l' : List Nd) (w : World) (ha : RdN w A l) (hb : RdN w B l') (hl : l.length ≤ 1048576) :
    Calls Try.prog 46 #[.slice A l.length c, .slice B l'.length d] w fun e w' => ∃ b, e = .returned (.bool b) ∧ (b = true ↔ l = l') ∧ Below w.heap.size w w' := by
  obtain ⟨m, hm⟩ : ∃ m, m = l.length := ⟨_, rfl⟩
  obtain ⟨n, hn⟩ : ∃ n, n = l'.length := ⟨_, rfl⟩
  rw [← hm] at hl ⊢
  rw [← hn]
  by_cases hmn : m = n
  · subst hmn
    have hm_h := Lib.hid hm
    have hn_h := Lib.hid hn
    clear hm hn
    go_enter Try.func46, Try.ntmps46
    go_wp2_with (fail)
    go_loopw [5] (fun i wr => ∃ k : Nat, k ≤ m ∧ i = .int .i64 k ∧ l.take k = l'.take k ∧ Below w.heap.size w wr) (fun i _ => m - (intOf i).toNat)
    case atStart => exact ⟨0, Nat.zero_le _, rfl, rfl, Below.refl _ _⟩
    case round =>
      obtain ⟨k, hk, rfl, htk, hbl⟩ := hrel
      by_cases hlt : k < m
      · have hkI : (k : Int) < (m : Int) := by omega
        obtain ⟨ad, κ, v, s, rfl, hn1, -⟩ := (ha.below hbl).at_ (j := k) (by rw [← hm_h.out]; exact hlt)
        obtain ⟨bd, κ', v', s', rfl, hn2, -⟩ := (hb.below hbl).at_ (j := k) (by rw [← hn_h.out]; exact hlt)
        have hk0 : (0 : Int) ≤ (k : Int) := by omega
        have hAB : ∀ W', Below wr.heap.size wr W' → (W'.cell? (ad.add (k * 3)) = some (.int .i64 κ) ∧ W'.cell? ⟨(ad.add (k * 3)).block, (ad.add (k * 3)).off + 1, none⟩ = some (.int .i64 v) ∧ W'.cell? ⟨(ad.add (k * 3)).block, (ad.add (k * 3)).off + 2, none⟩ = some (.string s)) ∧ (W'.cell? (bd.add (k * 3)) = some (.int .i64 κ') ∧ W'.cell? ⟨(bd.add (k * 3)).block, (bd.add (k * 3)).off + 1, none⟩ = some (.int .i64 v') ∧ W'.cell? ⟨(bd.add (k * 3)).block, (bd.add (k * 3)).off + 2, none⟩ = some (.string s')) := by
          intro W' hW'
          obtain ⟨x1, _, _, _, e1, e2, q⟩ := ((ha.below hbl).below hW').at_ (j := k) (by rw [← hm_h.out]; exact hlt)
          obtain ⟨y1, _, _, _, f1, f2, r⟩ := ((hb.below hbl).below hW').at_ (j := k) (by rw [← hn_h.out]; exact hlt)
          rw [hn1] at e2
          rw [hn2] at f2
          cases e1; cases e2; cases f1; cases f2
          exact ⟨q, r⟩
        have htk_h := Lib.hid htk
        have hn1_h := Lib.hid hn1
        have hn2_h := Lib.hid hn2
        have hAB_h := Lib.hid hAB
        clear htk hn1 hn2 hAB
        clear ha hb
        go_wp2_with (fail)
        refine beginB (by kernel_rfl) (fun W1 hW1 => ?_)
        have hbw : Below wr.heap.size wr W1 := by rw [hW1]; exact below_drew (Below.refl _ _)
        clear hW1
        refine takeH 0 (v := ?_) rfl (by kernel_rfl) (by kernel_rfl) (by kernel_rfl) (fun _ _ _ h => h) (Below.refl _ _) (by rfl) (fun W' hW' => ?_) ?_; rotate_left; · (obtain ⟨⟨a0, a1, a2⟩, b0, b1, b2⟩ := hAB_h.out W' (hbw.trans (hW'.mono hbw.size)); clear hW'; go_simp; first | done | with_reducible rfl)
        simp only [Act.put, List.setIfInBounds_toArray, List.set_cons_zero, List.set_cons_succ]
        refine takeH 1 (v := ?_) rfl (by kernel_rfl) (by kernel_rfl) (by kernel_rfl) (fun _ _ _ h => h) (Below.refl _ _) (by rfl) (fun W' hW' => ?_) ?_; rotate_left; · (obtain ⟨⟨a0, a1, a2⟩, b0, b1, b2⟩ := hAB_h.out W' (hbw.trans (hW'.mono hbw.size)); clear hW'; go_simp; first | done | with_reducible rfl)
        simp only [Act.put, List.setIfInBounds_toArray, List.set_cons_zero, List.set_cons_succ]
        refine takeH 2 (v := ?_) rfl (by kernel_rfl) (by kernel_rfl) (by kernel_rfl) (fun _ _ _ h => h) (Below.refl _ _) (by rfl) (fun W' hW' => ?_) ?_; rotate_left; · (obtain ⟨⟨a0, a1, a2⟩, b0, b1, b2⟩ := hAB_h.out W' (hbw.trans (hW'.mono hbw.size)); clear hW'; go_simp; first | done | with_reducible rfl)
        simp only [Act.put, List.setIfInBounds_toArray, List.set_cons_zero, List.set_cons_succ]
        refine takeH 3 (v := ?_) rfl (by kernel_rfl) (by kernel_rfl) (by kernel_rfl) (fun _ _ _ h => h) (Below.refl _ _) (by rfl) (fun W' hW' => ?_) ?_; rotate_left; · (obtain ⟨⟨a0, a1, a2⟩, b0, b1, b2⟩ := hAB_h.out W' (hbw.trans (hW'.mono hbw.size)); clear hW'; go_simp; first | done | with_reducible rfl)
        simp only [Act.put, List.setIfInBounds_toArray, List.set_cons_zero, List.set_cons_succ]
        refine takeH 4 (v := ?_) rfl (by kernel_rfl) (by kernel_rfl) (by kernel_rfl) (fun _ _ _ h => h) (Below.refl _ _) (by rfl) (fun W' hW' => ?_) ?_; rotate_left; · (obtain ⟨⟨a0, a1, a2⟩, b0, b1, b2⟩ := hAB_h.out W' (hbw.trans (hW'.mono hbw.size)); clear hW'; go_simp; first | done | with_reducible rfl)
        simp only [Act.put, List.setIfInBounds_toArray, List.set_cons_zero, List.set_cons_succ]
        refine takeH 5 (v := ?_) rfl (by kernel_rfl) (by kernel_rfl) (by kernel_rfl) (fun _ _ _ h => h) (Below.refl _ _) (by rfl) (fun W' hW' => ?_) ?_; rotate_left; · (obtain ⟨⟨a0, a1, a2⟩, b0, b1, b2⟩ := hAB_h.out W' (hbw.trans (hW'.mono hbw.size)); clear hW'; go_simp; first | done | with_reducible rfl)
        simp only [Act.put, List.setIfInBounds_toArray, List.set_cons_zero, List.set_cons_succ]
        refine takeH 6 (v := ?_) rfl (by kernel_rfl) (by kernel_rfl) (by kernel_rfl) (fun _ _ _ h => h) (Below.refl _ _) (by rfl) (fun W' hW' => ?_) ?_; rotate_left; · (obtain ⟨⟨a0, a1, a2⟩, b0, b1, b2⟩ := hAB_h.out W' (hbw.trans (hW'.mono hbw.size)); clear hW'; go_simp; first | done | with_reducible rfl)
        simp only [Act.put, List.setIfInBounds_toArray, List.set_cons_zero, List.set_cons_succ]
        refine takeH 7 (v := ?_) rfl (by kernel_rfl) (by kernel_rfl) (by kernel_rfl) (fun _ _ _ h => h) (Below.refl _ _) (by rfl) (fun W' hW' => ?_) ?_; rotate_left; · (obtain ⟨⟨a0, a1, a2⟩, b0, b1, b2⟩ := hAB_h.out W' (hbw.trans (hW'.mono hbw.size)); clear hW'; go_simp; first | done | with_reducible rfl)
        simp only [Act.put, List.setIfInBounds_toArray, List.set_cons_zero, List.set_cons_succ]
        refine' callH 8 (f := _) (args := _) rfl (by kernel_rfl) (by rfl) ?_ ?_; rotate_left 2; · (go_simp; first | done | with_reducible rfl | (constructor <;> with_reducible rfl))
        refine (eqNode_any _ _ _ _ _ _ _).mono ?_
        rintro e w2 ⟨b, rfl, hbq, hb2⟩
        refine ⟨_, rfl, hb2, ?_⟩
        have hb3 := below_trans (below_trans hbl hbw hbl.size) hb2 (Nat.le_trans hbl.size hbw.size)
        have hbq_h := Lib.hid hbq
        have hb3_h := Lib.hid hb3
        clear hbq hb3
        simp only [Act.put, List.setIfInBounds_toArray, List.set_cons_zero, List.set_cons_succ]
        refine takeH 9 (v := ?_) rfl (by kernel_rfl) (by kernel_rfl) (by kernel_rfl) (fun _ _ _ h => h) hb2 (by rfl) (fun W' hW' => ?_) ?_; rotate_left; · (skip; clear hW'; go_simp; first | done | with_reducible rfl)
        simp only [Act.put, List.setIfInBounds_toArray, List.set_cons_zero, List.set_cons_succ]
        refine doneH (by kernel_rfl) ?_
        cases b
        · go_wp2_with (fail)
          go_ret
          refine ⟨false, rfl, ?_, hb3_h.out⟩
          refine ⟨fun h => (by cases h), fun h => ?_⟩
          have h1 := hn1_h.out
          rw [h, hn2_h.out] at h1
          exact hbq_h.out.2 (Option.some.inj h1).symm
        · go_wp2_with (fail)
          go_roundw
          case rel => exact ⟨k + 1, by omega, by go_num, by rw [List.take_add_one, List.take_add_one, htk_h.out, hn1_h.out, hn2_h.out, hbq_h.out.1 rfl], hb3_h.out⟩
          case measure => simp [intOf]; omega
      · obtain rfl : k = m := by omega
        have htk_h := Lib.hid htk
        clear htk
        clear ha hb
        go_wp2_with (fail)
        go_ret
        refine ⟨true, rfl, ⟨fun _ => ?_, fun _ => rfl⟩, hbl⟩
        have := htk_h.out
        rwa [List.take_of_length_le (by rw [← hm_h.out]; omega), List.take_of_length_le (by rw [← hn_h.out]; omega)] at this
  · have h0 : ((m : Int) != (n : Int)) = true := by simp; omega
    have hm_h := Lib.hid hm
    have hn_h := Lib.hid hn
    have hmn_h := Lib.hid hmn
    clear hm hn hmn
    go_enter Try.func46, Try.ntmps46
    go_wp2_with (fail)
    go_ret
    refine ⟨false, rfl, ⟨fun h => (by cases h), fun h => ?_⟩, Below.refl _ _⟩
    exact absurd (by rw [hm_h.out, hn_h.out, h]) hmn_h.out

/-! ### Terms -/
theorem szTerm_any {v : Value} {l : List Nd} (left : Int) {w : World} (h : RdTm w v l) (hB : BigTm l) (h0 : 0 ≤ left) (h1 : left ≤ 1048576) :
    Calls Try.prog 13 #[v, .int .i64 left] w fun e w' => e = .returned (.int .i64 (szNS l left)) ∧ Below w.heap.size w w' := by
  obtain ⟨A, c, rfl, h⟩ := h
  have hb := below_alloc w (.cells #[.slice A l.length c] 24)
  have hC := szNodeS_any A c l left _ (h.below hb) hB h0 h1
  obtain ⟨S, hS⟩ : ∃ S, S = szNS l left := ⟨_, rfl⟩
  obtain ⟨m, hm⟩ : ∃ m, m = l.length := ⟨_, rfl⟩
  rw [← hS] at hC ⊢
  rw [← hm] at hC hb ⊢
  by_cases hneg : S < 0
  · have hS1 : S = -1 := by rw [hS]; exact szNS_neg (by rw [← hS]; exact hneg)
    subst hS1
    have hC_h := Lib.hid hC
    have hS_h := Lib.hid hS
    have hm_h := Lib.hid hm
    have hb_h := Lib.hid hb
    clear hC hS hm hb
    clear h
    go_enter Try.func13, Try.ntmps13
    go_wp2_with (fail)
    refine (hC_h.out).mono ?_
    rintro e w1 ⟨rfl, hb1⟩
    go_wp2_with (fail)
    go_ret
    exact ⟨rfl, below_trans hb_h.out hb1 hb_h.out.size⟩
  · have hC_h := Lib.hid hC
    have hS_h := Lib.hid hS
    have hm_h := Lib.hid hm
    have hb_h := Lib.hid hb
    clear hC hS hm hb
    clear h
    go_enter Try.func13, Try.ntmps13
    go_wp2_with (fail)
    refine (hC_h.out).mono ?_
    rintro e w1 ⟨rfl, hb1⟩
    go_wp2_with (fail)
    go_ret
    exact ⟨rfl, below_trans hb_h.out hb1 hb_h.out.size⟩
theorem eqTerm_any {v v' : Value} {l l' : List Nd} {w : World} (h : RdTm w v l) (h' : RdTm w v' l') (hl : l.length ≤ 1048576) :
    Calls Try.prog 17 #[v, v'] w fun e w' => ∃ b, e = .returned (.bool b) ∧ (b = true ↔ l = l') ∧ Below w.heap.size w w' := by
  obtain ⟨A, c, rfl, h⟩ := h
  obtain ⟨B, d, rfl, h'⟩ := h'
  obtain ⟨b0, -, -, -⟩ := two_boxes w (.cells #[.slice A l.length c] 30) (.cells #[.slice B l'.length d] 30)
  have hC := eqNodeS_any A B c d l l' _ (h.below b0) (h'.below b0) hl
  obtain ⟨m, hm⟩ : ∃ m, m = l.length := ⟨_, rfl⟩
  obtain ⟨n, hn⟩ : ∃ n, n = l'.length := ⟨_, rfl⟩
  rw [← hm, ← hn] at hC b0 ⊢
  have hC_h := Lib.hid hC
  have hm_h := Lib.hid hm
  have hn_h := Lib.hid hn
  have b0_h := Lib.hid b0
  clear hC hm hn b0
  clear h h'
  go_enter Try.func17, Try.ntmps17
  go_wp2_with (fail)
  refine (hC_h.out).mono ?_
  rintro e w1 ⟨b, rfl, hb, hb1⟩
  have hb_h := Lib.hid hb
  clear hb
  cases b
  · go_wp2_with (fail)
    go_ret
    exact ⟨false, rfl, by simpa using hb_h.out, below_trans b0_h.out hb1 b0_h.out.size⟩
  · go_wp2_with (fail)
    go_ret
    exact ⟨true, rfl, by simpa using hb_h.out, below_trans b0_h.out hb1 b0_h.out.size⟩
theorem bx1 {w : World} {B : Nat} {x : Value} {t : TypeId} (h : w.heap[B]? = some (.cells #[x] t)) : w.cell? ⟨B, 0, none⟩ = some x ∧ w.frozen? ⟨B, 0, none⟩ = false := by simp [World.cell?, World.frozen?, h]
set_option maxHeartbeats 1000000 in
theorem toTerm_any {v : Value} {l : List Nd} {w : World} (h : RdTm w v l) (hl : l.length ≤ 1048576) :
    Calls Try.prog 15 #[v] w fun e w' => ∃ v' fp, e = .returned v' ∧ OwTm w' v' l fp ∧ FreshL w.heap.size fp ∧ Below w.heap.size w w' := by
  obtain ⟨A, c, rfl, h⟩ := h
  obtain ⟨W, hW⟩ : ∃ W, W = ((w.alloc (.cells #[.slice A l.length c] 24)).alloc (.cells #[.slice none 0 0] 30)).alloc (.cells #[.slice none 0 0] 30) := ⟨_, rfl⟩
  have hbW : Below w.heap.size w W := by rw [hW]; exact (((Below.refl _ _).alloc (Nat.le_refl _) _).alloc (by simp) _).alloc (by simp; omega) _
  have k2 : W.heap[w.heap.size + 1 + 1]? = some (.cells #[.slice none 0 0] 30) := by
    have := heap_alloc_new ((w.alloc (.cells #[.slice A l.length c] 24)).alloc (.cells #[.slice none 0 0] 30)) (.cells #[.slice none 0 0] 30)
    rw [World.size_alloc, World.size_alloc, ← hW] at this; exact this
  have k1 : W.heap[w.heap.size + 1]? = some (.cells #[.slice none 0 0] 30) := by
    have := heap_alloc_new (w.alloc (.cells #[.slice A l.length c] 24)) (.cells #[.slice none 0 0] 30)
    rw [World.size_alloc] at this
    rw [hW]; exact box_below this (below_alloc _ _)
  have hC := toNodeS_any A c l W (h.below hbW) hl
  obtain ⟨m, hm⟩ : ∃ m, m = l.length := ⟨_, rfl⟩
  rw [← hm] at hC hW ⊢
  have hC_h := Lib.hid hC
  have hm_h := Lib.hid hm
  have hbW_h := Lib.hid hbW
  have k1_h := Lib.hid k1
  have k2_h := Lib.hid k2
  clear hC hm hbW k1 k2
  clear h
  go_enter Try.func15, Try.ntmps15
  go_wp2_with (fail)
  rw [← hW]
  clear hW
  refine (hC_h.out).mono ?_
  rintro e w1 ⟨A1, c1, rfl, hN, hf, hb1⟩
  rw [← hm_h.out]
  have k1' := box_below k1_h.out hb1
  have k2' := box_below k2_h.out hb1
  have hBW := box_lt k2_h.out
  obtain ⟨c10, f10⟩ := bx1 k1'
  obtain ⟨c20, f20⟩ := bx1 k2'
  have hBb := below_trans hbW_h.out hb1 hbW_h.out.size
  have hkp : Keeps (fun k => k = w.heap.size + 1 ∨ k = w.heap.size + 1 + 1) w1 ((w1.setCell ⟨w.heap.size + 1 + 1, 0, none⟩ (.slice A1 m c1)).setCell ⟨w.heap.size + 1, 0, none⟩ (.slice A1 m c1)) :=
    ((Keeps.refl _ w1).setCell (p := ⟨w.heap.size + 1 + 1, 0, none⟩) (.inr rfl) _).setCell (p := ⟨w.heap.size + 1, 0, none⟩) (.inl rfl) _
  have hx : ((w1.setCell ⟨w.heap.size + 1 + 1, 0, none⟩ (.slice A1 m c1)).setCell ⟨w.heap.size + 1, 0, none⟩ (.slice A1 m c1)).heap[w.heap.size + 1]? = some (.cells #[.slice A1 m c1] 30) := by simp [World.setCell, Array.getElem?_modify, k1']
  have hN2 := hN.keeps hkp (fun b hb e => by have := hf b hb; omega)
  have hB3 := below_keeps hBb hkp (by have := hBb.size; omega) (fun k hk => by omega)
  have hf2 : FreshL w.heap.size (fpA A1) := fun b hb => by have := hf b hb; have := hbW_h.out.size; omega
  have hN_h := Lib.hid hN
  have hf_h := Lib.hid hf
  have k1'_h := Lib.hid k1'
  have k2'_h := Lib.hid k2'
  have hBb_h := Lib.hid hBb
  have hkp_h := Lib.hid hkp
  have hx_h := Lib.hid hx
  have hN2_h := Lib.hid hN2
  have hB3_h := Lib.hid hB3
  have hf2_h := Lib.hid hf2
  clear hN hf k1' k2' hBb hkp hx hN2 hB3 hf2
  clear hb1
  go_wp2_with (fail)
  refine bodyPost_ret (results_cell_row rfl _ _ (w.heap.size + 1) _ _ (0, 0) _ rfl hx_h.out Try.underlying30 rfl (by kernel_rfl)) rfl ?_
  exact ⟨_, fpA A1, rfl, ⟨A1, c1, by rw [hm_h.out], hN2_h.out, rfl⟩, hf2_h.out, hB3_h.out⟩
end Go.Proofs.Ytlmnmdahphahfaa
