/-
  THE WALKS: is it a relation: fits, isRelation, spGood, rlGood.
-/
import Derived.Test.YtahnhblodfdfhaaDoorRlQ
import Derived.Test.YtahnhblodfdfhaaDoorSame
import Derived.Test.YtahnhblodfdfhaaDoorRegH
import Derived.Test.YtahnhblodfdfhaaDoorKRows
namespace Go.Proofs.YtahnhblodfdfhaaDoor
open Go.RowKit

theorem within_r (n lo hi : Int) (w : World) :
    Calls Tryd.prog 102 #[.int .i64 n, .int .i64 lo, .int .i64 hi] w fun e w' => e = .returned (.bool (decide (lo ≤ n) && decide (n ≤ hi))) ∧ w = w' := by
  by_cases h : lo ≤ n
  · have h1 : decide (lo ≤ n) = true := decide_eq_true h
    rw [h1]
    clear h1
    go_enter Tryd.func102, Tryd.ntmps102
    go_wp2_with (fail)
    go_ret
    exact ⟨rfl, rfl⟩
  · have h1 : decide (lo ≤ n) = false := decide_eq_false h
    rw [h1]
    clear h1
    go_enter Tryd.func102, Tryd.ntmps102
    go_wp2_with (fail)
    go_ret
    exact ⟨rfl, rfl⟩
/-- The numbers of a relation. -/
def fitB (a b : Int) : Bool := (decide (0 ≤ a) && decide (a ≤ 24)) && ((decide (0 ≤ b) && decide (b ≤ 24)) && decide (a + b ≤ 24))
theorem fits_any (a b : Int) (w : World) :
    Calls Tryd.prog 72 #[.int .i64 a, .int .i64 b] w fun e w' => e = .returned (.bool (fitB a b)) ∧ w = w' := by
  have hA := within_r a 0 24
  have hB := within_r b 0 24
  obtain ⟨F, hF⟩ : ∃ F, F = fitB a b := ⟨_, rfl⟩
  rw [← hF]
  unfold fitB at hF
  by_cases h1 : 0 ≤ a ∧ a ≤ 24
  · have e1 : (decide (0 ≤ a) && decide (a ≤ 24)) = true := by simp [h1.1, h1.2]
    rw [e1] at hF
    simp only [e1] at hA
    by_cases h2 : 0 ≤ b ∧ b ≤ 24
    · have e2 : (decide (0 ≤ b) && decide (b ≤ 24)) = true := by simp [h2.1, h2.2]
      rw [e2, Bool.true_and, Bool.true_and] at hF
      simp only [e2] at hB
      have hw : IntKind.i64.wrap (a + b) = a + b := IntWalk.i64_in _ (by omega)
      clear e1 e2
      have hF_h := Lib.hid hF
      have hA_h := Lib.hid hA
      have hB_h := Lib.hid hB
      clear hF hA hB
      go_enter Tryd.func72, Tryd.ntmps72
      go_wp2_with (fail)
      refine (hA_h.out w).mono ?_
      rintro e w1 ⟨rfl, rfl⟩
      go_wp2_with (fail)
      refine (hB_h.out w).mono ?_
      rintro e w2 ⟨rfl, rfl⟩
      go_wp2_with (fail)
      go_ret
      exact ⟨ret_bool hF_h.out.symm, rfl⟩
    · have e2 : (decide (0 ≤ b) && decide (b ≤ 24)) = false := by simp; omega
      rw [e2, Bool.false_and, Bool.and_false] at hF
      simp only [e2] at hB
      clear e1 e2 h2
      have hF_h := Lib.hid hF
      have hA_h := Lib.hid hA
      have hB_h := Lib.hid hB
      clear hF hA hB
      go_enter Tryd.func72, Tryd.ntmps72
      go_wp2_with (fail)
      refine (hA_h.out w).mono ?_
      rintro e w1 ⟨rfl, rfl⟩
      go_wp2_with (fail)
      refine (hB_h.out w).mono ?_
      rintro e w2 ⟨rfl, rfl⟩
      go_wp2_with (fail)
      go_ret
      exact ⟨ret_bool hF_h.out.symm, rfl⟩
  · have e1 : (decide (0 ≤ a) && decide (a ≤ 24)) = false := by simp; omega
    rw [e1, Bool.false_and] at hF
    simp only [e1] at hA
    clear e1 h1
    have hF_h := Lib.hid hF
    have hA_h := Lib.hid hA
    have hB_h := Lib.hid hB
    clear hF hA hB
    go_enter Tryd.func72, Tryd.ntmps72
    go_wp2_with (fail)
    refine (hA_h.out w).mono ?_
    rintro e w1 ⟨rfl, rfl⟩
    go_wp2_with (fail)
    go_ret
    exact ⟨ret_bool hF_h.out.symm, rfl⟩
theorem relB_fit (p : Int) (s : Sys) : relB p s = (fieldB p && (fitB s.1 s.2.1 && redB p (s.1 + s.2.1) s.2.2)) := by
  unfold relB fitB
  rw [Bool.eq_iff_iff]
  simp only [Bool.and_eq_true, decide_eq_true_eq]
  constructor
  · rintro ⟨⟨h1, h2⟩, ⟨h3, h4⟩, h5, h6⟩; exact ⟨h5, ⟨⟨h1, h2⟩, ⟨h3, by omega⟩, by omega⟩, h6⟩
  · rintro ⟨h5, ⟨⟨h1, h2⟩, ⟨h3, h4⟩, h7⟩, h6⟩; exact ⟨⟨h1, h2⟩, ⟨h3, by omega⟩, h5, h6⟩
abbrev tRel : TypeId := 43
abbrev tSpc : TypeId := 139
theorem alloc_box (w : World) (o : Obj) : ∃ W, W = w.alloc o ∧ Below w.heap.size w W ∧ W.heap[w.heap.size]? = some o := ⟨_, rfl, (Below.refl _ _).alloc (Nat.le_refl _) _, heap_alloc_new w o⟩
set_option maxRecDepth 8000 in
set_option maxHeartbeats 1000000 in
theorem isRelation_any (p : Int) {v : Value} {s : Sys} (w : World) (h : RdSysV w v s) (hT : Tab w) (hn : s.2.2.length ≤ 1048576) (hr : ∀ x, x ∈ s.2.2 → x.length ≤ 1048576) :
    Calls Tryd.prog 71 #[.int .i64 p, v] w fun e w' => e = .returned (.bool (relB p s)) ∧ Below w.heap.size w w' := by
  obtain ⟨A, c, hs, rfl, hL, hR⟩ := h
  obtain ⟨a, b, L⟩ := s
  have hL' : L = hs.map (fun h : Hd => h.2.2) := hL
  subst hL'
  clear hL
  have hrr : ∀ x, x ∈ hs → x.2.2.length ≤ 1048576 := fun x hx => hr _ (List.mem_map_of_mem hx)
  have hnn : hs.length ≤ 1048576 := by simpa using hn
  obtain ⟨F, hF⟩ : ∃ F, F = relB p (a, b, hs.map fun h : Hd => h.2.2) := ⟨_, rfl⟩
  rw [← hF]
  rw [relB_fit] at hF
  obtain ⟨W, hW, b0, k0⟩ := alloc_box w (.cells #[.int .i64 a, .int .i64 b, .slice A hs.length c] tRel)
  have hG := isField_any p W (hT.below b0 hT.lt)
  have hH := fits_any a b W
  obtain ⟨m, hm⟩ : ∃ m, m = hs.length := ⟨_, rfl⟩
  by_cases h1 : fieldB p = true
  · rw [h1, Bool.true_and] at hF
    rw [h1] at hG
    by_cases h2 : fitB a b = true
    · have hF2 : F = redB p (a + b) (hs.map fun h : Hd => h.2.2) := by rw [hF]; show (fitB a b && _) = _; rw [h2, Bool.true_and]
      rw [h2] at hH
      have hab : 0 ≤ a ∧ 0 ≤ b ∧ a + b ≤ 24 := by unfold fitB at h2; simp only [Bool.and_eq_true, decide_eq_true_eq] at h2; omega
      obtain ⟨n, hn⟩ : ∃ n : Nat, a + b = (n : Int) := ⟨(a + b).toNat, by omega⟩
      have hw : IntKind.i64.wrap (a + b) = (n : Int) := by rw [hn]; exact IntWalk.i64_in _ (by omega)
      have hD := isReduced_any p n A c hs W (hR.below b0) h1 (by omega) hnn hrr
      rw [hn, ← hn] at hF2
      rw [← hn, ← hF2, hn] at hD
      rw [← hm] at hD hW k0 ⊢
      clear hF
      have b0_h := Lib.hid b0
      have k0_h := Lib.hid k0
      have hG_h := Lib.hid hG
      have hH_h := Lib.hid hH
      have hD_h := Lib.hid hD
      have hm_h := Lib.hid hm
      have hF2_h := Lib.hid hF2
      have hab_h := Lib.hid hab
      have hn_h := Lib.hid hn
      have h1_h := Lib.hid h1
      have h2_h := Lib.hid h2
      have hT_h := Lib.hid hT
      have hR_h := Lib.hid hR
      have hrr_h := Lib.hid hrr
      have hr_h := Lib.hid hr
      clear b0 k0 hG hH hD hm hF2 hab hn h1 h2 hT hR hrr hr
      obtain ⟨⟨c0, c1, c2⟩, f0, f1, f2⟩ := box3 k0_h.out
      go_enter Tryd.func71, Tryd.ntmps71
      go_upto_region 1 with (fail)
      rw [← hW]
      clear hW
      go_wp2_with (fail)
      refine (hG_h.out).mono ?_
      rintro e w1 ⟨rfl, rfl⟩
      go_wp2_with (fail)
      refine (hH_h.out).mono ?_
      rintro e w2 ⟨rfl, rfl⟩
      go_wp2_with (fail)
      refine (hD_h.out).mono ?_
      rintro e w3 ⟨rfl, hb3⟩
      go_wp2_with (fail)
      go_ret
      exact ⟨rfl, below_trans b0_h.out hb3 b0_h.out.size⟩
    · have h2' : fitB a b = false := by simpa using h2
      have hF2 : F = false := by rw [hF]; show (fitB a b && _) = _; rw [h2', Bool.false_and]
      rw [h2'] at hH
      rw [← hm] at hW k0 ⊢
      clear hF h2
      have b0_h := Lib.hid b0
      have k0_h := Lib.hid k0
      have hG_h := Lib.hid hG
      have hH_h := Lib.hid hH
      have hm_h := Lib.hid hm
      have hF2_h := Lib.hid hF2
      have h1_h := Lib.hid h1
      have h2'_h := Lib.hid h2'
      have hT_h := Lib.hid hT
      have hR_h := Lib.hid hR
      have hrr_h := Lib.hid hrr
      have hr_h := Lib.hid hr
      clear b0 k0 hG hH hm hF2 h1 h2' hT hR hrr hr
      obtain ⟨⟨c0, c1, c2⟩, f0, f1, f2⟩ := box3 k0_h.out
      go_enter Tryd.func71, Tryd.ntmps71
      go_upto_region 1 with (fail)
      rw [← hW]
      clear hW
      go_wp2_with (fail)
      refine (hG_h.out).mono ?_
      rintro e w1 ⟨rfl, rfl⟩
      go_wp2_with (fail)
      refine (hH_h.out).mono ?_
      rintro e w2 ⟨rfl, rfl⟩
      go_wp2_with (fail)
      go_ret
      exact ⟨ret_bool hF2_h.out.symm, b0_h.out⟩
  · have h1' : fieldB p = false := by simpa using h1
    have hF2 : F = false := by rw [hF, h1', Bool.false_and]
    rw [h1'] at hG
    rw [← hm] at hW k0 ⊢
    clear hF h1
    have b0_h := Lib.hid b0
    have k0_h := Lib.hid k0
    have hG_h := Lib.hid hG
    have hH_h := Lib.hid hH
    have hm_h := Lib.hid hm
    have hF2_h := Lib.hid hF2
    have h1'_h := Lib.hid h1'
    have hT_h := Lib.hid hT
    have hR_h := Lib.hid hR
    have hrr_h := Lib.hid hrr
    have hr_h := Lib.hid hr
    clear b0 k0 hG hH hm hF2 h1' hT hR hrr hr
    obtain ⟨⟨c0, c1, c2⟩, f0, f1, f2⟩ := box3 k0_h.out
    go_enter Tryd.func71, Tryd.ntmps71
    go_upto_region 1 with (fail)
    rw [← hW]
    clear hW
    go_wp2_with (fail)
    refine (hG_h.out).mono ?_
    rintro e w1 ⟨rfl, rfl⟩
    go_wp2_with (fail)
    go_ret
    exact ⟨ret_bool hF2_h.out.symm, b0_h.out⟩
set_option maxRecDepth 8000 in
set_option maxHeartbeats 2000000 in
theorem spGood_any (p : Int) (n : Nat) (A : Option Addr) (c : Nat) (hs : List Hd) (w : World) (h : RdR w A hs) (hn : n ≤ 24) (hl : hs.length ≤ 1048576) (hr : ∀ x, x ∈ hs → x.2.2.length ≤ 1048576) :
    Calls Tryd.prog 120 #[.int .i64 p, .agg #[.int .i64 n, .slice A hs.length c]] w fun e w' => e = .returned (.bool (fieldB p && redB p n (hs.map fun h : Hd => h.2.2))) ∧ Below w.heap.size w w' := by
  obtain ⟨L, hL⟩ : ∃ L, L = hs.map fun h : Hd => h.2.2 := ⟨_, rfl⟩
  obtain ⟨m, hm⟩ : ∃ m, m = hs.length := ⟨_, rfl⟩
  obtain ⟨F, hF⟩ : ∃ F, F = (fieldB p && redB p n L) := ⟨_, rfl⟩
  have hLm : L.length = m := by rw [hL, hm, List.length_map]
  obtain ⟨W, hW, b0, k0⟩ := alloc_box w (.cells #[.int .i64 (n : Int), .slice A m c] tSpc)
  have hG := fun W => fdGood_any p W
  have hI : ∀ W, Calls Tryd.prog 96 #[.int .i64 (n : Int), .int .i64 0, .int .i64 24] W fun e w' => e = .returned (.bool true) ∧ W = w' := fun W => by
    have := l1In_any (n : Int) 0 24 W
    rwa [show (decide ((0 : Int) ≤ (n : Int)) && decide ((n : Int) ≤ 24)) = true by simp; omega] at this
  have hR := h.below b0
  rw [← hL, ← hm, ← hF]
  unfold redB at hF
  rw [hLm, Int.toNat_natCast] at hF
  clear h
  by_cases h1 : fieldB p = true
  case neg =>
    have h1' : fieldB p = false := by simpa using h1
    rw [h1', Bool.false_and] at hF
    simp only [h1'] at hG
    clear h1 h1'
    have hL_h := Lib.hid hL
    have hm_h := Lib.hid hm
    have hF_h := Lib.hid hF
    have hLm_h := Lib.hid hLm
    have b0_h := Lib.hid b0
    have k0_h := Lib.hid k0
    have hG_h := Lib.hid hG
    have hI_h := Lib.hid hI
    have hR_h := Lib.hid hR
    have hr_h := Lib.hid hr
    clear hL hm hF hLm b0 k0 hG hI hR hr
    go_enter Tryd.func120, Tryd.ntmps120
    go_upto_region 1 with (fail)
    rw [← hW]
    clear hW
    go_wp2_with (fail)
    refine beginH (fun w' => w'.heap[w.heap.size]? = some (.cells #[.int .i64 (n : Int), .slice A m c] tSpc)) (by kernel_rfl) ?_
    have hbd : Below W.heap.size W W.drew := below_drewN (Below.refl _ _) 1
    generalize W.drew = W1 at hbd ⊢
    have hB := below_trans b0_h.out hbd b0_h.out.size
    replace k0_h := Lib.hid (box_below k0_h.out hbd)
    have hbd_h := Lib.hid hbd
    have hB_h := Lib.hid hB
    clear hbd hB
    refine takeH 0 (v := ?_) rfl (by kernel_rfl) (by kernel_rfl) (by kernel_rfl) (fun _ _ _ h => h) k0_h.out (by rfl) (fun W' hW' => ?_) ?_; rotate_left; · (obtain ⟨⟨y0, y1⟩, y2, y3⟩ := box2 hW'; clear hW'; go_simp; first | done | with_reducible rfl)
    simp only [Act.put, List.setIfInBounds_toArray, List.set_cons_zero, List.set_cons_succ]
    refine' callH 1 (f := _) (args := _) rfl (by kernel_rfl) (by rfl) ?_ ?_; rotate_left 2; · (go_simp; first | done | with_reducible rfl | (constructor <;> with_reducible rfl))
    refine (hG_h.out W1).mono ?_
    rintro e w1 ⟨rfl, rfl⟩
    refine ⟨_, rfl, k0_h.out, ?_⟩
    simp only [Act.put, List.setIfInBounds_toArray, List.set_cons_zero, List.set_cons_succ]
    refine takeH 2 (v := ?_) rfl (by kernel_rfl) (by kernel_rfl) (by kernel_rfl) (fun _ _ _ h => h) k0_h.out (by rfl) (fun W' hW' => ?_) ?_; rotate_left; · (obtain ⟨⟨y0, y1⟩, y2, y3⟩ := box2 hW'; clear hW'; go_simp; first | done | with_reducible rfl)
    simp only [Act.put, List.setIfInBounds_toArray, List.set_cons_zero, List.set_cons_succ]
    refine offH 3 rfl (by kernel_rfl) (by kernel_rfl) (by kernel_rfl) (fun _ _ _ h => h) k0_h.out (by rfl) ?_
    simp only [Act.put, List.setIfInBounds_toArray, List.set_cons_zero, List.set_cons_succ]
    refine offH 4 rfl (by kernel_rfl) (by kernel_rfl) (by kernel_rfl) (fun _ _ _ h => h) k0_h.out (by rfl) ?_
    simp only [Act.put, List.setIfInBounds_toArray, List.set_cons_zero, List.set_cons_succ]
    refine offOneH 5 rfl (by kernel_rfl) (by rfl) k0_h.out ?_
    simp only [Act.put, List.setIfInBounds_toArray, List.set_cons_zero, List.set_cons_succ]
    refine takeH 6 (v := ?_) rfl (by kernel_rfl) (by kernel_rfl) (by kernel_rfl) (fun _ _ _ h => h) k0_h.out (by rfl) (fun W' hW' => ?_) ?_; rotate_left; · (obtain ⟨⟨y0, y1⟩, y2, y3⟩ := box2 hW'; clear hW'; go_simp; first | done | with_reducible rfl)
    simp only [Act.put, List.setIfInBounds_toArray, List.set_cons_zero, List.set_cons_succ]
    refine takeH 7 (v := ?_) rfl (by kernel_rfl) (by kernel_rfl) (by kernel_rfl) (fun _ _ _ h => h) k0_h.out (by rfl) (fun W' hW' => ?_) ?_; rotate_left; · (obtain ⟨⟨y0, y1⟩, y2, y3⟩ := box2 hW'; clear hW'; go_simp; first | done | with_reducible rfl)
    simp only [Act.put, List.setIfInBounds_toArray, List.set_cons_zero, List.set_cons_succ]
    refine offH 8 rfl (by kernel_rfl) (by kernel_rfl) (by kernel_rfl) (fun _ _ _ h => h) k0_h.out (by rfl) ?_
    simp only [Act.put, List.setIfInBounds_toArray, List.set_cons_zero, List.set_cons_succ]
    refine offH 9 rfl (by kernel_rfl) (by kernel_rfl) (by kernel_rfl) (fun _ _ _ h => h) k0_h.out (by rfl) ?_
    simp only [Act.put, List.setIfInBounds_toArray, List.set_cons_zero, List.set_cons_succ]
    refine offH 10 rfl (by kernel_rfl) (by kernel_rfl) (by kernel_rfl) (fun _ _ _ h => h) k0_h.out (by rfl) ?_
    simp only [Act.put, List.setIfInBounds_toArray, List.set_cons_zero, List.set_cons_succ]
    refine offH 11 rfl (by kernel_rfl) (by kernel_rfl) (by kernel_rfl) (fun _ _ _ h => h) k0_h.out (by rfl) ?_
    simp only [Act.put, List.setIfInBounds_toArray, List.set_cons_zero, List.set_cons_succ]
    refine offH 12 rfl (by kernel_rfl) (by kernel_rfl) (by kernel_rfl) (fun _ _ _ h => h) k0_h.out (by rfl) ?_
    simp only [Act.put, List.setIfInBounds_toArray, List.set_cons_zero, List.set_cons_succ]
    refine offH 13 rfl (by kernel_rfl) (by kernel_rfl) (by kernel_rfl) (fun _ _ _ h => h) k0_h.out (by rfl) ?_
    simp only [Act.put, List.setIfInBounds_toArray, List.set_cons_zero, List.set_cons_succ]
    refine takeH 14 (v := ?_) rfl (by kernel_rfl) (by kernel_rfl) (by kernel_rfl) (fun _ _ _ h => h) k0_h.out (by rfl) (fun W' hW' => ?_) ?_; rotate_left; · (obtain ⟨⟨y0, y1⟩, y2, y3⟩ := box2 hW'; clear hW'; go_simp; first | done | with_reducible rfl)
    simp only [Act.put, List.setIfInBounds_toArray, List.set_cons_zero, List.set_cons_succ]
    refine takeH 15 (v := ?_) rfl (by kernel_rfl) (by kernel_rfl) (by kernel_rfl) (fun _ _ _ h => h) k0_h.out (by rfl) (fun W' hW' => ?_) ?_; rotate_left; · (obtain ⟨⟨y0, y1⟩, y2, y3⟩ := box2 hW'; clear hW'; go_simp; first | done | with_reducible rfl)
    simp only [Act.put, List.setIfInBounds_toArray, List.set_cons_zero, List.set_cons_succ]
    refine offH 16 rfl (by kernel_rfl) (by kernel_rfl) (by kernel_rfl) (fun _ _ _ h => h) k0_h.out (by rfl) ?_
    simp only [Act.put, List.setIfInBounds_toArray, List.set_cons_zero, List.set_cons_succ]
    refine offH 17 rfl (by kernel_rfl) (by kernel_rfl) (by kernel_rfl) (fun _ _ _ h => h) k0_h.out (by rfl) ?_
    simp only [Act.put, List.setIfInBounds_toArray, List.set_cons_zero, List.set_cons_succ]
    refine offH 18 rfl (by kernel_rfl) (by kernel_rfl) (by kernel_rfl) (fun _ _ _ h => h) k0_h.out (by rfl) ?_
    simp only [Act.put, List.setIfInBounds_toArray, List.set_cons_zero, List.set_cons_succ]
    refine offH 19 rfl (by kernel_rfl) (by kernel_rfl) (by kernel_rfl) (fun _ _ _ h => h) k0_h.out (by rfl) ?_
    simp only [Act.put, List.setIfInBounds_toArray, List.set_cons_zero, List.set_cons_succ]
    refine offH 20 rfl (by kernel_rfl) (by kernel_rfl) (by kernel_rfl) (fun _ _ _ h => h) k0_h.out (by rfl) ?_
    simp only [Act.put, List.setIfInBounds_toArray, List.set_cons_zero, List.set_cons_succ]
    refine offOneH 21 rfl (by kernel_rfl) (by rfl) k0_h.out ?_
    simp only [Act.put, List.setIfInBounds_toArray, List.set_cons_zero, List.set_cons_succ]
    refine takeH 22 (v := ?_) rfl (by kernel_rfl) (by kernel_rfl) (by kernel_rfl) (fun _ _ _ h => h) k0_h.out (by rfl) (fun W' hW' => ?_) ?_; rotate_left; · (obtain ⟨⟨y0, y1⟩, y2, y3⟩ := box2 hW'; clear hW'; go_simp; first | done | with_reducible rfl)
    simp only [Act.put, List.setIfInBounds_toArray, List.set_cons_zero, List.set_cons_succ]
    refine takeH 23 (v := ?_) rfl (by kernel_rfl) (by kernel_rfl) (by kernel_rfl) (fun _ _ _ h => h) k0_h.out (by rfl) (fun W' hW' => ?_) ?_; rotate_left; · (obtain ⟨⟨y0, y1⟩, y2, y3⟩ := box2 hW'; clear hW'; go_simp; first | done | with_reducible rfl)
    simp only [Act.put, List.setIfInBounds_toArray, List.set_cons_zero, List.set_cons_succ]
    refine offH 24 rfl (by kernel_rfl) (by kernel_rfl) (by kernel_rfl) (fun _ _ _ h => h) k0_h.out (by rfl) ?_
    simp only [Act.put, List.setIfInBounds_toArray, List.set_cons_zero, List.set_cons_succ]
    refine offH 25 rfl (by kernel_rfl) (by kernel_rfl) (by kernel_rfl) (fun _ _ _ h => h) k0_h.out (by rfl) ?_
    simp only [Act.put, List.setIfInBounds_toArray, List.set_cons_zero, List.set_cons_succ]
    refine offH 26 rfl (by kernel_rfl) (by kernel_rfl) (by kernel_rfl) (fun _ _ _ h => h) k0_h.out (by rfl) ?_
    simp only [Act.put, List.setIfInBounds_toArray, List.set_cons_zero, List.set_cons_succ]
    refine offH 27 rfl (by kernel_rfl) (by kernel_rfl) (by kernel_rfl) (fun _ _ _ h => h) k0_h.out (by rfl) ?_
    simp only [Act.put, List.setIfInBounds_toArray, List.set_cons_zero, List.set_cons_succ]
    refine offH 28 rfl (by kernel_rfl) (by kernel_rfl) (by kernel_rfl) (fun _ _ _ h => h) k0_h.out (by rfl) ?_
    simp only [Act.put, List.setIfInBounds_toArray, List.set_cons_zero, List.set_cons_succ]
    refine offH 30 rfl (by kernel_rfl) (by kernel_rfl) (by kernel_rfl) (fun _ _ _ h => h) k0_h.out (by rfl) ?_
    simp only [Act.put, List.setIfInBounds_toArray, List.set_cons_zero, List.set_cons_succ]
    refine offH 31 rfl (by kernel_rfl) (by kernel_rfl) (by kernel_rfl) (fun _ _ _ h => h) k0_h.out (by rfl) ?_
    simp only [Act.put, List.setIfInBounds_toArray, List.set_cons_zero, List.set_cons_succ]
    refine offOneH 29 rfl (by kernel_rfl) (by rfl) k0_h.out ?_
    simp only [Act.put, List.setIfInBounds_toArray, List.set_cons_zero, List.set_cons_succ]
    refine offOneH 32 rfl (by kernel_rfl) (by rfl) k0_h.out ?_
    simp only [Act.put, List.setIfInBounds_toArray, List.set_cons_zero, List.set_cons_succ]
    refine takeH 33 (v := ?_) rfl (by kernel_rfl) (by kernel_rfl) (by kernel_rfl) (fun _ _ _ h => h) k0_h.out (by rfl) (fun W' hW' => ?_) ?_; rotate_left; · (obtain ⟨⟨y0, y1⟩, y2, y3⟩ := box2 hW'; clear hW'; go_simp; first | done | with_reducible rfl)
    simp only [Act.put, List.setIfInBounds_toArray, List.set_cons_zero, List.set_cons_succ]
    refine takeH 34 (v := ?_) rfl (by kernel_rfl) (by kernel_rfl) (by kernel_rfl) (fun _ _ _ h => h) k0_h.out (by rfl) (fun W' hW' => ?_) ?_; rotate_left; · (obtain ⟨⟨y0, y1⟩, y2, y3⟩ := box2 hW'; clear hW'; go_simp; first | done | with_reducible rfl)
    simp only [Act.put, List.setIfInBounds_toArray, List.set_cons_zero, List.set_cons_succ]
    refine doneH (by kernel_rfl) ?_
    go_wp2_with (fail)
    go_ret
    exact ⟨ret_bool hF_h.out.symm, hB_h.out⟩
  case pos =>
  have hpb := fieldB_bounds h1
  rw [h1, Bool.true_and] at hF
  simp only [h1] at hG
  by_cases h2 : m ≤ n
  case neg =>
    have d2 : decide ((m : Int) ≤ (n : Int)) = false := decide_eq_false (by omega)
    rw [d2, Bool.false_and] at hF
    have d3 : decide (m ≤ n) = false := decide_eq_false h2
    clear h2
    have hL_h := Lib.hid hL
    have hm_h := Lib.hid hm
    have hF_h := Lib.hid hF
    have hLm_h := Lib.hid hLm
    have b0_h := Lib.hid b0
    have k0_h := Lib.hid k0
    have hG_h := Lib.hid hG
    have hI_h := Lib.hid hI
    have hR_h := Lib.hid hR
    have hr_h := Lib.hid hr
    have h1_h := Lib.hid h1
    have hpb_h := Lib.hid hpb
    clear hL hm hF hLm b0 k0 hG hI hR hr h1 hpb
    go_enter Tryd.func120, Tryd.ntmps120
    go_upto_region 1 with (fail)
    rw [← hW]
    clear hW
    go_wp2_with (fail)
    refine beginH (fun w' => w'.heap[w.heap.size]? = some (.cells #[.int .i64 (n : Int), .slice A m c] tSpc)) (by kernel_rfl) ?_
    have hbd : Below W.heap.size W W.drew := below_drewN (Below.refl _ _) 1
    generalize W.drew = W1 at hbd ⊢
    have hB := below_trans b0_h.out hbd b0_h.out.size
    replace k0_h := Lib.hid (box_below k0_h.out hbd)
    have hbd_h := Lib.hid hbd
    have hB_h := Lib.hid hB
    clear hbd hB
    refine takeH 0 (v := ?_) rfl (by kernel_rfl) (by kernel_rfl) (by kernel_rfl) (fun _ _ _ h => h) k0_h.out (by rfl) (fun W' hW' => ?_) ?_; rotate_left; · (obtain ⟨⟨y0, y1⟩, y2, y3⟩ := box2 hW'; clear hW'; go_simp; first | done | with_reducible rfl)
    simp only [Act.put, List.setIfInBounds_toArray, List.set_cons_zero, List.set_cons_succ]
    refine' callH 1 (f := _) (args := _) rfl (by kernel_rfl) (by rfl) ?_ ?_; rotate_left 2; · (go_simp; first | done | with_reducible rfl | (constructor <;> with_reducible rfl))
    refine (hG_h.out W1).mono ?_
    rintro e w1 ⟨rfl, rfl⟩
    refine ⟨_, rfl, k0_h.out, ?_⟩
    simp only [Act.put, List.setIfInBounds_toArray, List.set_cons_zero, List.set_cons_succ]
    refine takeH 2 (v := ?_) rfl (by kernel_rfl) (by kernel_rfl) (by kernel_rfl) (fun _ _ _ h => h) k0_h.out (by rfl) (fun W' hW' => ?_) ?_; rotate_left; · (obtain ⟨⟨y0, y1⟩, y2, y3⟩ := box2 hW'; clear hW'; go_simp; first | done | with_reducible rfl)
    simp only [Act.put, List.setIfInBounds_toArray, List.set_cons_zero, List.set_cons_succ]
    refine takeH 3 (v := ?_) rfl (by kernel_rfl) (by kernel_rfl) (by kernel_rfl) (fun _ _ _ h => h) k0_h.out (by rfl) (fun W' hW' => ?_) ?_; rotate_left; · (obtain ⟨⟨y0, y1⟩, y2, y3⟩ := box2 hW'; clear hW'; go_simp; first | done | with_reducible rfl)
    simp only [Act.put, List.setIfInBounds_toArray, List.set_cons_zero, List.set_cons_succ]
    refine takeH 4 (v := ?_) rfl (by kernel_rfl) (by kernel_rfl) (by kernel_rfl) (fun _ _ _ h => h) k0_h.out (by rfl) (fun W' hW' => ?_) ?_; rotate_left; · (obtain ⟨⟨y0, y1⟩, y2, y3⟩ := box2 hW'; clear hW'; go_simp; first | done | with_reducible rfl)
    simp only [Act.put, List.setIfInBounds_toArray, List.set_cons_zero, List.set_cons_succ]
    refine' callH 5 (f := _) (args := _) rfl (by kernel_rfl) (by rfl) ?_ ?_; rotate_left 2; · (go_simp; first | done | with_reducible rfl | (constructor <;> with_reducible rfl))
    refine (hI_h.out W1).mono ?_
    rintro e w1 ⟨rfl, rfl⟩
    refine ⟨_, rfl, k0_h.out, ?_⟩
    simp only [Act.put, List.setIfInBounds_toArray, List.set_cons_zero, List.set_cons_succ]
    refine takeH 6 (v := ?_) rfl (by kernel_rfl) (by kernel_rfl) (by kernel_rfl) (fun _ _ _ h => h) k0_h.out (by rfl) (fun W' hW' => ?_) ?_; rotate_left; · (obtain ⟨⟨y0, y1⟩, y2, y3⟩ := box2 hW'; clear hW'; go_simp; first | done | with_reducible rfl)
    simp only [Act.put, List.setIfInBounds_toArray, List.set_cons_zero, List.set_cons_succ]
    refine takeH 7 (v := ?_) rfl (by kernel_rfl) (by kernel_rfl) (by kernel_rfl) (fun _ _ _ h => h) k0_h.out (by rfl) (fun W' hW' => ?_) ?_; rotate_left; · (obtain ⟨⟨y0, y1⟩, y2, y3⟩ := box2 hW'; clear hW'; go_simp; first | done | with_reducible rfl)
    simp only [Act.put, List.setIfInBounds_toArray, List.set_cons_zero, List.set_cons_succ]
    refine takeH 8 (v := ?_) rfl (by kernel_rfl) (by kernel_rfl) (by kernel_rfl) (fun _ _ _ h => h) k0_h.out (by rfl) (fun W' hW' => ?_) ?_; rotate_left; · (obtain ⟨⟨y0, y1⟩, y2, y3⟩ := box2 hW'; clear hW'; go_simp; first | done | with_reducible rfl)
    simp only [Act.put, List.setIfInBounds_toArray, List.set_cons_zero, List.set_cons_succ]
    refine takeH 9 (v := ?_) rfl (by kernel_rfl) (by kernel_rfl) (by kernel_rfl) (fun _ _ _ h => h) k0_h.out (by rfl) (fun W' hW' => ?_) ?_; rotate_left; · (obtain ⟨⟨y0, y1⟩, y2, y3⟩ := box2 hW'; clear hW'; go_simp; first | done | with_reducible rfl)
    simp only [Act.put, List.setIfInBounds_toArray, List.set_cons_zero, List.set_cons_succ]
    refine takeH 10 (v := ?_) rfl (by kernel_rfl) (by kernel_rfl) (by kernel_rfl) (fun _ _ _ h => h) k0_h.out (by rfl) (fun W' hW' => ?_) ?_; rotate_left; · (obtain ⟨⟨y0, y1⟩, y2, y3⟩ := box2 hW'; clear hW'; go_simp; first | done | with_reducible rfl)
    simp only [Act.put, List.setIfInBounds_toArray, List.set_cons_zero, List.set_cons_succ]
    refine takeH 11 (v := ?_) rfl (by kernel_rfl) (by kernel_rfl) (by kernel_rfl) (fun _ _ _ h => h) k0_h.out (by rfl) (fun W' hW' => ?_) ?_; rotate_left; · (obtain ⟨⟨y0, y1⟩, y2, y3⟩ := box2 hW'; clear hW'; go_simp; first | done | with_reducible rfl)
    simp only [Act.put, List.setIfInBounds_toArray, List.set_cons_zero, List.set_cons_succ]
    refine takeH 12 (v := ?_) rfl (by kernel_rfl) (by kernel_rfl) (by kernel_rfl) (fun _ _ _ h => h) k0_h.out (by rfl) (fun W' hW' => ?_) ?_; rotate_left; · (obtain ⟨⟨y0, y1⟩, y2, y3⟩ := box2 hW'; clear hW'; go_simp; first | done | with_reducible rfl)
    simp only [Act.put, List.setIfInBounds_toArray, List.set_cons_zero, List.set_cons_succ]
    refine takeH 13 (v := ?_) rfl (by kernel_rfl) (by kernel_rfl) (by kernel_rfl) (fun _ _ _ h => h) k0_h.out (by rfl) (fun W' hW' => ?_) ?_; rotate_left; · (obtain ⟨⟨y0, y1⟩, y2, y3⟩ := box2 hW'; clear hW'; go_simp; first | done | with_reducible rfl)
    simp only [Act.put, List.setIfInBounds_toArray, List.set_cons_zero, List.set_cons_succ]
    refine takeH 14 (v := ?_) rfl (by kernel_rfl) (by kernel_rfl) (by kernel_rfl) (fun _ _ _ h => h) k0_h.out (by rfl) (fun W' hW' => ?_) ?_; rotate_left; · (obtain ⟨⟨y0, y1⟩, y2, y3⟩ := box2 hW'; clear hW'; go_simp; first | done | with_reducible rfl)
    simp only [Act.put, List.setIfInBounds_toArray, List.set_cons_zero, List.set_cons_succ]
    refine takeH 15 (v := ?_) rfl (by kernel_rfl) (by kernel_rfl) (by kernel_rfl) (fun _ _ _ h => h) k0_h.out (by rfl) (fun W' hW' => ?_) ?_; rotate_left; · (obtain ⟨⟨y0, y1⟩, y2, y3⟩ := box2 hW'; clear hW'; go_simp; first | done | with_reducible rfl)
    simp only [Act.put, List.setIfInBounds_toArray, List.set_cons_zero, List.set_cons_succ]
    refine offH 16 rfl (by kernel_rfl) (by kernel_rfl) (by kernel_rfl) (fun _ _ _ h => h) k0_h.out (by rfl) ?_
    simp only [Act.put, List.setIfInBounds_toArray, List.set_cons_zero, List.set_cons_succ]
    refine offH 17 rfl (by kernel_rfl) (by kernel_rfl) (by kernel_rfl) (fun _ _ _ h => h) k0_h.out (by rfl) ?_
    simp only [Act.put, List.setIfInBounds_toArray, List.set_cons_zero, List.set_cons_succ]
    refine offH 18 rfl (by kernel_rfl) (by kernel_rfl) (by kernel_rfl) (fun _ _ _ h => h) k0_h.out (by rfl) ?_
    simp only [Act.put, List.setIfInBounds_toArray, List.set_cons_zero, List.set_cons_succ]
    refine offH 19 rfl (by kernel_rfl) (by kernel_rfl) (by kernel_rfl) (fun _ _ _ h => h) k0_h.out (by rfl) ?_
    simp only [Act.put, List.setIfInBounds_toArray, List.set_cons_zero, List.set_cons_succ]
    refine offH 20 rfl (by kernel_rfl) (by kernel_rfl) (by kernel_rfl) (fun _ _ _ h => h) k0_h.out (by rfl) ?_
    simp only [Act.put, List.setIfInBounds_toArray, List.set_cons_zero, List.set_cons_succ]
    refine offOneH 21 rfl (by kernel_rfl) (by rfl) k0_h.out ?_
    simp only [Act.put, List.setIfInBounds_toArray, List.set_cons_zero, List.set_cons_succ]
    refine takeH 22 (v := ?_) rfl (by kernel_rfl) (by kernel_rfl) (by kernel_rfl) (fun _ _ _ h => h) k0_h.out (by rfl) (fun W' hW' => ?_) ?_; rotate_left; · (obtain ⟨⟨y0, y1⟩, y2, y3⟩ := box2 hW'; clear hW'; go_simp; first | done | with_reducible rfl)
    simp only [Act.put, List.setIfInBounds_toArray, List.set_cons_zero, List.set_cons_succ]
    refine takeH 23 (v := ?_) rfl (by kernel_rfl) (by kernel_rfl) (by kernel_rfl) (fun _ _ _ h => h) k0_h.out (by rfl) (fun W' hW' => ?_) ?_; rotate_left; · (obtain ⟨⟨y0, y1⟩, y2, y3⟩ := box2 hW'; clear hW'; go_simp; first | done | with_reducible rfl)
    simp only [Act.put, List.setIfInBounds_toArray, List.set_cons_zero, List.set_cons_succ]
    refine offH 24 rfl (by kernel_rfl) (by kernel_rfl) (by kernel_rfl) (fun _ _ _ h => h) k0_h.out (by rfl) ?_
    simp only [Act.put, List.setIfInBounds_toArray, List.set_cons_zero, List.set_cons_succ]
    refine offH 25 rfl (by kernel_rfl) (by kernel_rfl) (by kernel_rfl) (fun _ _ _ h => h) k0_h.out (by rfl) ?_
    simp only [Act.put, List.setIfInBounds_toArray, List.set_cons_zero, List.set_cons_succ]
    refine offH 26 rfl (by kernel_rfl) (by kernel_rfl) (by kernel_rfl) (fun _ _ _ h => h) k0_h.out (by rfl) ?_
    simp only [Act.put, List.setIfInBounds_toArray, List.set_cons_zero, List.set_cons_succ]
    refine offH 27 rfl (by kernel_rfl) (by kernel_rfl) (by kernel_rfl) (fun _ _ _ h => h) k0_h.out (by rfl) ?_
    simp only [Act.put, List.setIfInBounds_toArray, List.set_cons_zero, List.set_cons_succ]
    refine offH 28 rfl (by kernel_rfl) (by kernel_rfl) (by kernel_rfl) (fun _ _ _ h => h) k0_h.out (by rfl) ?_
    simp only [Act.put, List.setIfInBounds_toArray, List.set_cons_zero, List.set_cons_succ]
    refine offH 30 rfl (by kernel_rfl) (by kernel_rfl) (by kernel_rfl) (fun _ _ _ h => h) k0_h.out (by rfl) ?_
    simp only [Act.put, List.setIfInBounds_toArray, List.set_cons_zero, List.set_cons_succ]
    refine offH 31 rfl (by kernel_rfl) (by kernel_rfl) (by kernel_rfl) (fun _ _ _ h => h) k0_h.out (by rfl) ?_
    simp only [Act.put, List.setIfInBounds_toArray, List.set_cons_zero, List.set_cons_succ]
    refine offOneH 29 rfl (by kernel_rfl) (by rfl) k0_h.out ?_
    simp only [Act.put, List.setIfInBounds_toArray, List.set_cons_zero, List.set_cons_succ]
    refine offOneH 32 rfl (by kernel_rfl) (by rfl) k0_h.out ?_
    simp only [Act.put, List.setIfInBounds_toArray, List.set_cons_zero, List.set_cons_succ]
    refine takeH 33 (v := ?_) rfl (by kernel_rfl) (by kernel_rfl) (by kernel_rfl) (fun _ _ _ h => h) k0_h.out (by rfl) (fun W' hW' => ?_) ?_; rotate_left; · (obtain ⟨⟨y0, y1⟩, y2, y3⟩ := box2 hW'; clear hW'; go_simp; first | done | with_reducible rfl)
    simp only [Act.put, List.setIfInBounds_toArray, List.set_cons_zero, List.set_cons_succ]
    refine takeH 34 (v := ?_) rfl (by kernel_rfl) (by kernel_rfl) (by kernel_rfl) (fun _ _ _ h => h) k0_h.out (by rfl) (fun W' hW' => ?_) ?_; rotate_left; · (obtain ⟨⟨y0, y1⟩, y2, y3⟩ := box2 hW'; clear hW'; go_simp; first | done | with_reducible rfl)
    simp only [Act.put, List.setIfInBounds_toArray, List.set_cons_zero, List.set_cons_succ]
    refine doneH (by kernel_rfl) ?_
    go_wp2_with (fail)
    go_ret
    exact ⟨ret_bool hF_h.out.symm, hB_h.out⟩
  case pos =>
  have d2 : decide ((m : Int) ≤ (n : Int)) = true := decide_eq_true (by omega)
  rw [d2, Bool.true_and] at hF
  have d3 : decide (m ≤ n) = true := decide_eq_true h2
  have hV : ∀ W', Below W.heap.size W W' → Calls Tryd.prog 97 #[.int .i64 p, .int .i64 n, .slice A m c] W' fun e w' => e = .returned (.bool (rowsB p n L)) ∧ W' = w' := fun W' hb => by
    have := spRows_any p n A c hs W' (hR.below hb) (by omega) (fun x hx => by have := hr x hx; omega) (by omega) (by omega)
    rwa [← hL, ← hm] at this
  by_cases h3 : rowsB p n L = true
  case neg =>
    have h3' : rowsB p n L = false := by simpa using h3
    rw [h3', Bool.false_and] at hF
    simp only [h3'] at hV
    clear h2 h3 h3'
    have hL_h := Lib.hid hL
    have hm_h := Lib.hid hm
    have hF_h := Lib.hid hF
    have hLm_h := Lib.hid hLm
    have b0_h := Lib.hid b0
    have k0_h := Lib.hid k0
    have hG_h := Lib.hid hG
    have hI_h := Lib.hid hI
    have hR_h := Lib.hid hR
    have hr_h := Lib.hid hr
    have h1_h := Lib.hid h1
    have hV_h := Lib.hid hV
    have hpb_h := Lib.hid hpb
    clear hL hm hF hLm b0 k0 hG hI hR hr h1 hV hpb
    go_enter Tryd.func120, Tryd.ntmps120
    go_upto_region 1 with (fail)
    rw [← hW]
    clear hW
    go_wp2_with (fail)
    refine beginH (fun w' => w'.heap[w.heap.size]? = some (.cells #[.int .i64 (n : Int), .slice A m c] tSpc)) (by kernel_rfl) ?_
    have hbd : Below W.heap.size W W.drew := below_drewN (Below.refl _ _) 1
    generalize W.drew = W1 at hbd ⊢
    have hB := below_trans b0_h.out hbd b0_h.out.size
    replace k0_h := Lib.hid (box_below k0_h.out hbd)
    have hbd_h := Lib.hid hbd
    have hB_h := Lib.hid hB
    clear hbd hB
    refine takeH 0 (v := ?_) rfl (by kernel_rfl) (by kernel_rfl) (by kernel_rfl) (fun _ _ _ h => h) k0_h.out (by rfl) (fun W' hW' => ?_) ?_; rotate_left; · (obtain ⟨⟨y0, y1⟩, y2, y3⟩ := box2 hW'; clear hW'; go_simp; first | done | with_reducible rfl)
    simp only [Act.put, List.setIfInBounds_toArray, List.set_cons_zero, List.set_cons_succ]
    refine' callH 1 (f := _) (args := _) rfl (by kernel_rfl) (by rfl) ?_ ?_; rotate_left 2; · (go_simp; first | done | with_reducible rfl | (constructor <;> with_reducible rfl))
    refine (hG_h.out W1).mono ?_
    rintro e w1 ⟨rfl, rfl⟩
    refine ⟨_, rfl, k0_h.out, ?_⟩
    simp only [Act.put, List.setIfInBounds_toArray, List.set_cons_zero, List.set_cons_succ]
    refine takeH 2 (v := ?_) rfl (by kernel_rfl) (by kernel_rfl) (by kernel_rfl) (fun _ _ _ h => h) k0_h.out (by rfl) (fun W' hW' => ?_) ?_; rotate_left; · (obtain ⟨⟨y0, y1⟩, y2, y3⟩ := box2 hW'; clear hW'; go_simp; first | done | with_reducible rfl)
    simp only [Act.put, List.setIfInBounds_toArray, List.set_cons_zero, List.set_cons_succ]
    refine takeH 3 (v := ?_) rfl (by kernel_rfl) (by kernel_rfl) (by kernel_rfl) (fun _ _ _ h => h) k0_h.out (by rfl) (fun W' hW' => ?_) ?_; rotate_left; · (obtain ⟨⟨y0, y1⟩, y2, y3⟩ := box2 hW'; clear hW'; go_simp; first | done | with_reducible rfl)
    simp only [Act.put, List.setIfInBounds_toArray, List.set_cons_zero, List.set_cons_succ]
    refine takeH 4 (v := ?_) rfl (by kernel_rfl) (by kernel_rfl) (by kernel_rfl) (fun _ _ _ h => h) k0_h.out (by rfl) (fun W' hW' => ?_) ?_; rotate_left; · (obtain ⟨⟨y0, y1⟩, y2, y3⟩ := box2 hW'; clear hW'; go_simp; first | done | with_reducible rfl)
    simp only [Act.put, List.setIfInBounds_toArray, List.set_cons_zero, List.set_cons_succ]
    refine' callH 5 (f := _) (args := _) rfl (by kernel_rfl) (by rfl) ?_ ?_; rotate_left 2; · (go_simp; first | done | with_reducible rfl | (constructor <;> with_reducible rfl))
    refine (hI_h.out W1).mono ?_
    rintro e w1 ⟨rfl, rfl⟩
    refine ⟨_, rfl, k0_h.out, ?_⟩
    simp only [Act.put, List.setIfInBounds_toArray, List.set_cons_zero, List.set_cons_succ]
    refine takeH 6 (v := ?_) rfl (by kernel_rfl) (by kernel_rfl) (by kernel_rfl) (fun _ _ _ h => h) k0_h.out (by rfl) (fun W' hW' => ?_) ?_; rotate_left; · (obtain ⟨⟨y0, y1⟩, y2, y3⟩ := box2 hW'; clear hW'; go_simp; first | done | with_reducible rfl)
    simp only [Act.put, List.setIfInBounds_toArray, List.set_cons_zero, List.set_cons_succ]
    refine takeH 7 (v := ?_) rfl (by kernel_rfl) (by kernel_rfl) (by kernel_rfl) (fun _ _ _ h => h) k0_h.out (by rfl) (fun W' hW' => ?_) ?_; rotate_left; · (obtain ⟨⟨y0, y1⟩, y2, y3⟩ := box2 hW'; clear hW'; go_simp; first | done | with_reducible rfl)
    simp only [Act.put, List.setIfInBounds_toArray, List.set_cons_zero, List.set_cons_succ]
    refine takeH 8 (v := ?_) rfl (by kernel_rfl) (by kernel_rfl) (by kernel_rfl) (fun _ _ _ h => h) k0_h.out (by rfl) (fun W' hW' => ?_) ?_; rotate_left; · (obtain ⟨⟨y0, y1⟩, y2, y3⟩ := box2 hW'; clear hW'; go_simp; first | done | with_reducible rfl)
    simp only [Act.put, List.setIfInBounds_toArray, List.set_cons_zero, List.set_cons_succ]
    refine takeH 9 (v := ?_) rfl (by kernel_rfl) (by kernel_rfl) (by kernel_rfl) (fun _ _ _ h => h) k0_h.out (by rfl) (fun W' hW' => ?_) ?_; rotate_left; · (obtain ⟨⟨y0, y1⟩, y2, y3⟩ := box2 hW'; clear hW'; go_simp; first | done | with_reducible rfl)
    simp only [Act.put, List.setIfInBounds_toArray, List.set_cons_zero, List.set_cons_succ]
    refine takeH 10 (v := ?_) rfl (by kernel_rfl) (by kernel_rfl) (by kernel_rfl) (fun _ _ _ h => h) k0_h.out (by rfl) (fun W' hW' => ?_) ?_; rotate_left; · (obtain ⟨⟨y0, y1⟩, y2, y3⟩ := box2 hW'; clear hW'; go_simp; first | done | with_reducible rfl)
    simp only [Act.put, List.setIfInBounds_toArray, List.set_cons_zero, List.set_cons_succ]
    refine takeH 11 (v := ?_) rfl (by kernel_rfl) (by kernel_rfl) (by kernel_rfl) (fun _ _ _ h => h) k0_h.out (by rfl) (fun W' hW' => ?_) ?_; rotate_left; · (obtain ⟨⟨y0, y1⟩, y2, y3⟩ := box2 hW'; clear hW'; go_simp; first | done | with_reducible rfl)
    simp only [Act.put, List.setIfInBounds_toArray, List.set_cons_zero, List.set_cons_succ]
    refine takeH 12 (v := ?_) rfl (by kernel_rfl) (by kernel_rfl) (by kernel_rfl) (fun _ _ _ h => h) k0_h.out (by rfl) (fun W' hW' => ?_) ?_; rotate_left; · (obtain ⟨⟨y0, y1⟩, y2, y3⟩ := box2 hW'; clear hW'; go_simp; first | done | with_reducible rfl)
    simp only [Act.put, List.setIfInBounds_toArray, List.set_cons_zero, List.set_cons_succ]
    refine takeH 13 (v := ?_) rfl (by kernel_rfl) (by kernel_rfl) (by kernel_rfl) (fun _ _ _ h => h) k0_h.out (by rfl) (fun W' hW' => ?_) ?_; rotate_left; · (obtain ⟨⟨y0, y1⟩, y2, y3⟩ := box2 hW'; clear hW'; go_simp; first | done | with_reducible rfl)
    simp only [Act.put, List.setIfInBounds_toArray, List.set_cons_zero, List.set_cons_succ]
    refine takeH 14 (v := ?_) rfl (by kernel_rfl) (by kernel_rfl) (by kernel_rfl) (fun _ _ _ h => h) k0_h.out (by rfl) (fun W' hW' => ?_) ?_; rotate_left; · (obtain ⟨⟨y0, y1⟩, y2, y3⟩ := box2 hW'; clear hW'; go_simp; first | done | with_reducible rfl)
    simp only [Act.put, List.setIfInBounds_toArray, List.set_cons_zero, List.set_cons_succ]
    refine takeH 15 (v := ?_) rfl (by kernel_rfl) (by kernel_rfl) (by kernel_rfl) (fun _ _ _ h => h) k0_h.out (by rfl) (fun W' hW' => ?_) ?_; rotate_left; · (obtain ⟨⟨y0, y1⟩, y2, y3⟩ := box2 hW'; clear hW'; go_simp; first | done | with_reducible rfl)
    simp only [Act.put, List.setIfInBounds_toArray, List.set_cons_zero, List.set_cons_succ]
    refine takeH 16 (v := ?_) rfl (by kernel_rfl) (by kernel_rfl) (by kernel_rfl) (fun _ _ _ h => h) k0_h.out (by rfl) (fun W' hW' => ?_) ?_; rotate_left; · (obtain ⟨⟨y0, y1⟩, y2, y3⟩ := box2 hW'; clear hW'; go_simp; first | done | with_reducible rfl)
    simp only [Act.put, List.setIfInBounds_toArray, List.set_cons_zero, List.set_cons_succ]
    refine takeH 17 (v := ?_) rfl (by kernel_rfl) (by kernel_rfl) (by kernel_rfl) (fun _ _ _ h => h) k0_h.out (by rfl) (fun W' hW' => ?_) ?_; rotate_left; · (obtain ⟨⟨y0, y1⟩, y2, y3⟩ := box2 hW'; clear hW'; go_simp; first | done | with_reducible rfl)
    simp only [Act.put, List.setIfInBounds_toArray, List.set_cons_zero, List.set_cons_succ]
    refine takeH 18 (v := ?_) rfl (by kernel_rfl) (by kernel_rfl) (by kernel_rfl) (fun _ _ _ h => h) k0_h.out (by rfl) (fun W' hW' => ?_) ?_; rotate_left; · (obtain ⟨⟨y0, y1⟩, y2, y3⟩ := box2 hW'; clear hW'; go_simp; first | done | with_reducible rfl)
    simp only [Act.put, List.setIfInBounds_toArray, List.set_cons_zero, List.set_cons_succ]
    refine takeH 19 (v := ?_) rfl (by kernel_rfl) (by kernel_rfl) (by kernel_rfl) (fun _ _ _ h => h) k0_h.out (by rfl) (fun W' hW' => ?_) ?_; rotate_left; · (obtain ⟨⟨y0, y1⟩, y2, y3⟩ := box2 hW'; clear hW'; go_simp; first | done | with_reducible rfl)
    simp only [Act.put, List.setIfInBounds_toArray, List.set_cons_zero, List.set_cons_succ]
    refine takeH 20 (v := ?_) rfl (by kernel_rfl) (by kernel_rfl) (by kernel_rfl) (fun _ _ _ h => h) k0_h.out (by rfl) (fun W' hW' => ?_) ?_; rotate_left; · (obtain ⟨⟨y0, y1⟩, y2, y3⟩ := box2 hW'; clear hW'; go_simp; first | done | with_reducible rfl)
    simp only [Act.put, List.setIfInBounds_toArray, List.set_cons_zero, List.set_cons_succ]
    refine' callH 21 (f := _) (args := _) rfl (by kernel_rfl) (by rfl) ?_ ?_; rotate_left 2; · (go_simp; first | done | with_reducible rfl | (constructor <;> with_reducible rfl))
    refine (hV_h.out W1 hbd_h.out).mono ?_
    rintro e w1 ⟨rfl, rfl⟩
    refine ⟨_, rfl, k0_h.out, ?_⟩
    simp only [Act.put, List.setIfInBounds_toArray, List.set_cons_zero, List.set_cons_succ]
    refine takeH 22 (v := ?_) rfl (by kernel_rfl) (by kernel_rfl) (by kernel_rfl) (fun _ _ _ h => h) k0_h.out (by rfl) (fun W' hW' => ?_) ?_; rotate_left; · (obtain ⟨⟨y0, y1⟩, y2, y3⟩ := box2 hW'; clear hW'; go_simp; first | done | with_reducible rfl)
    simp only [Act.put, List.setIfInBounds_toArray, List.set_cons_zero, List.set_cons_succ]
    refine takeH 23 (v := ?_) rfl (by kernel_rfl) (by kernel_rfl) (by kernel_rfl) (fun _ _ _ h => h) k0_h.out (by rfl) (fun W' hW' => ?_) ?_; rotate_left; · (obtain ⟨⟨y0, y1⟩, y2, y3⟩ := box2 hW'; clear hW'; go_simp; first | done | with_reducible rfl)
    simp only [Act.put, List.setIfInBounds_toArray, List.set_cons_zero, List.set_cons_succ]
    refine offH 24 rfl (by kernel_rfl) (by kernel_rfl) (by kernel_rfl) (fun _ _ _ h => h) k0_h.out (by rfl) ?_
    simp only [Act.put, List.setIfInBounds_toArray, List.set_cons_zero, List.set_cons_succ]
    refine offH 25 rfl (by kernel_rfl) (by kernel_rfl) (by kernel_rfl) (fun _ _ _ h => h) k0_h.out (by rfl) ?_
    simp only [Act.put, List.setIfInBounds_toArray, List.set_cons_zero, List.set_cons_succ]
    refine offH 26 rfl (by kernel_rfl) (by kernel_rfl) (by kernel_rfl) (fun _ _ _ h => h) k0_h.out (by rfl) ?_
    simp only [Act.put, List.setIfInBounds_toArray, List.set_cons_zero, List.set_cons_succ]
    refine offH 27 rfl (by kernel_rfl) (by kernel_rfl) (by kernel_rfl) (fun _ _ _ h => h) k0_h.out (by rfl) ?_
    simp only [Act.put, List.setIfInBounds_toArray, List.set_cons_zero, List.set_cons_succ]
    refine offH 28 rfl (by kernel_rfl) (by kernel_rfl) (by kernel_rfl) (fun _ _ _ h => h) k0_h.out (by rfl) ?_
    simp only [Act.put, List.setIfInBounds_toArray, List.set_cons_zero, List.set_cons_succ]
    refine offH 30 rfl (by kernel_rfl) (by kernel_rfl) (by kernel_rfl) (fun _ _ _ h => h) k0_h.out (by rfl) ?_
    simp only [Act.put, List.setIfInBounds_toArray, List.set_cons_zero, List.set_cons_succ]
    refine offH 31 rfl (by kernel_rfl) (by kernel_rfl) (by kernel_rfl) (fun _ _ _ h => h) k0_h.out (by rfl) ?_
    simp only [Act.put, List.setIfInBounds_toArray, List.set_cons_zero, List.set_cons_succ]
    refine offOneH 29 rfl (by kernel_rfl) (by rfl) k0_h.out ?_
    simp only [Act.put, List.setIfInBounds_toArray, List.set_cons_zero, List.set_cons_succ]
    refine offOneH 32 rfl (by kernel_rfl) (by rfl) k0_h.out ?_
    simp only [Act.put, List.setIfInBounds_toArray, List.set_cons_zero, List.set_cons_succ]
    refine takeH 33 (v := ?_) rfl (by kernel_rfl) (by kernel_rfl) (by kernel_rfl) (fun _ _ _ h => h) k0_h.out (by rfl) (fun W' hW' => ?_) ?_; rotate_left; · (obtain ⟨⟨y0, y1⟩, y2, y3⟩ := box2 hW'; clear hW'; go_simp; first | done | with_reducible rfl)
    simp only [Act.put, List.setIfInBounds_toArray, List.set_cons_zero, List.set_cons_succ]
    refine takeH 34 (v := ?_) rfl (by kernel_rfl) (by kernel_rfl) (by kernel_rfl) (fun _ _ _ h => h) k0_h.out (by rfl) (fun W' hW' => ?_) ?_; rotate_left; · (obtain ⟨⟨y0, y1⟩, y2, y3⟩ := box2 hW'; clear hW'; go_simp; first | done | with_reducible rfl)
    simp only [Act.put, List.setIfInBounds_toArray, List.set_cons_zero, List.set_cons_succ]
    refine doneH (by kernel_rfl) ?_
    go_wp2_with (fail)
    go_ret
    exact ⟨ret_bool hF_h.out.symm, hB_h.out⟩
  case pos =>
  rw [h3, Bool.true_and] at hF
  simp only [h3] at hV
  have hM : Mat p hs.length n (hs.map fun h : Hd => h.2.2) := by
    have := rowsB_mat (p := p) (n := (n : Int)) (L := L) (k := n) h3 rfl
    rw [hLm, hm, hL] at this; exact this
  have hRd := fun W' (hb : Below W.heap.size W W') => spReduce_any p n A c hs W' (hR.below hb) h1 hM hl (by omega)
  obtain ⟨R, hRR⟩ : ∃ R, R = redM p n L := ⟨_, rfl⟩
  rw [← hL, ← hm, ← hRR] at hRd
  have hspec := redM_spec h1 (n := n) (L := L) (by rw [hLm, hm, hL]; exact hM)
  rw [← hRR, hLm] at hspec
  rw [← hRR] at hF
  have hRl := hspec.2.2
  have hRm : ∀ x, x ∈ R → x.length = n := fun x hx => (hspec.1.1.row x hx).1
  clear hspec
  have hL_h := Lib.hid hL
  have hm_h := Lib.hid hm
  have hF_h := Lib.hid hF
  have hLm_h := Lib.hid hLm
  have b0_h := Lib.hid b0
  have k0_h := Lib.hid k0
  have hG_h := Lib.hid hG
  have hI_h := Lib.hid hI
  have hR_h := Lib.hid hR
  have hr_h := Lib.hid hr
  have h1_h := Lib.hid h1
  have h3_h := Lib.hid h3
  have hV_h := Lib.hid hV
  have hpb_h := Lib.hid hpb
  have hM_h := Lib.hid hM
  have hRd_h := Lib.hid hRd
  have hRR_h := Lib.hid hRR
  have hRl_h := Lib.hid hRl
  have hRm_h := Lib.hid hRm
  clear hL hm hF hLm b0 k0 hG hI hR hr h1 h3 hV hpb hM hRd hRR hRl hRm
  go_enter Tryd.func120, Tryd.ntmps120
  go_upto_region 1 with (fail)
  rw [← hW]
  clear hW
  go_wp2_with (fail)
  refine beginH (fun w' => w'.heap[w.heap.size]? = some (.cells #[.int .i64 (n : Int), .slice A m c] tSpc)) (by kernel_rfl) ?_
  have hbd : Below W.heap.size W W.drew := below_drewN (Below.refl _ _) 1
  generalize W.drew = W1 at hbd ⊢
  have hB := below_trans b0_h.out hbd b0_h.out.size
  replace k0_h := Lib.hid (box_below k0_h.out hbd)
  have hbd_h := Lib.hid hbd
  have hB_h := Lib.hid hB
  clear hbd hB
  refine takeH 0 (v := ?_) rfl (by kernel_rfl) (by kernel_rfl) (by kernel_rfl) (fun _ _ _ h => h) k0_h.out (by rfl) (fun W' hW' => ?_) ?_; rotate_left; · (obtain ⟨⟨y0, y1⟩, y2, y3⟩ := box2 hW'; clear hW'; go_simp; first | done | with_reducible rfl)
  simp only [Act.put, List.setIfInBounds_toArray, List.set_cons_zero, List.set_cons_succ]
  refine' callH 1 (f := _) (args := _) rfl (by kernel_rfl) (by rfl) ?_ ?_; rotate_left 2; · (go_simp; first | done | with_reducible rfl | (constructor <;> with_reducible rfl))
  refine (hG_h.out W1).mono ?_
  rintro e w1 ⟨rfl, rfl⟩
  refine ⟨_, rfl, k0_h.out, ?_⟩
  simp only [Act.put, List.setIfInBounds_toArray, List.set_cons_zero, List.set_cons_succ]
  refine takeH 2 (v := ?_) rfl (by kernel_rfl) (by kernel_rfl) (by kernel_rfl) (fun _ _ _ h => h) k0_h.out (by rfl) (fun W' hW' => ?_) ?_; rotate_left; · (obtain ⟨⟨y0, y1⟩, y2, y3⟩ := box2 hW'; clear hW'; go_simp; first | done | with_reducible rfl)
  simp only [Act.put, List.setIfInBounds_toArray, List.set_cons_zero, List.set_cons_succ]
  refine takeH 3 (v := ?_) rfl (by kernel_rfl) (by kernel_rfl) (by kernel_rfl) (fun _ _ _ h => h) k0_h.out (by rfl) (fun W' hW' => ?_) ?_; rotate_left; · (obtain ⟨⟨y0, y1⟩, y2, y3⟩ := box2 hW'; clear hW'; go_simp; first | done | with_reducible rfl)
  simp only [Act.put, List.setIfInBounds_toArray, List.set_cons_zero, List.set_cons_succ]
  refine takeH 4 (v := ?_) rfl (by kernel_rfl) (by kernel_rfl) (by kernel_rfl) (fun _ _ _ h => h) k0_h.out (by rfl) (fun W' hW' => ?_) ?_; rotate_left; · (obtain ⟨⟨y0, y1⟩, y2, y3⟩ := box2 hW'; clear hW'; go_simp; first | done | with_reducible rfl)
  simp only [Act.put, List.setIfInBounds_toArray, List.set_cons_zero, List.set_cons_succ]
  refine' callH 5 (f := _) (args := _) rfl (by kernel_rfl) (by rfl) ?_ ?_; rotate_left 2; · (go_simp; first | done | with_reducible rfl | (constructor <;> with_reducible rfl))
  refine (hI_h.out W1).mono ?_
  rintro e w1 ⟨rfl, rfl⟩
  refine ⟨_, rfl, k0_h.out, ?_⟩
  simp only [Act.put, List.setIfInBounds_toArray, List.set_cons_zero, List.set_cons_succ]
  refine takeH 6 (v := ?_) rfl (by kernel_rfl) (by kernel_rfl) (by kernel_rfl) (fun _ _ _ h => h) k0_h.out (by rfl) (fun W' hW' => ?_) ?_; rotate_left; · (obtain ⟨⟨y0, y1⟩, y2, y3⟩ := box2 hW'; clear hW'; go_simp; first | done | with_reducible rfl)
  simp only [Act.put, List.setIfInBounds_toArray, List.set_cons_zero, List.set_cons_succ]
  refine takeH 7 (v := ?_) rfl (by kernel_rfl) (by kernel_rfl) (by kernel_rfl) (fun _ _ _ h => h) k0_h.out (by rfl) (fun W' hW' => ?_) ?_; rotate_left; · (obtain ⟨⟨y0, y1⟩, y2, y3⟩ := box2 hW'; clear hW'; go_simp; first | done | with_reducible rfl)
  simp only [Act.put, List.setIfInBounds_toArray, List.set_cons_zero, List.set_cons_succ]
  refine takeH 8 (v := ?_) rfl (by kernel_rfl) (by kernel_rfl) (by kernel_rfl) (fun _ _ _ h => h) k0_h.out (by rfl) (fun W' hW' => ?_) ?_; rotate_left; · (obtain ⟨⟨y0, y1⟩, y2, y3⟩ := box2 hW'; clear hW'; go_simp; first | done | with_reducible rfl)
  simp only [Act.put, List.setIfInBounds_toArray, List.set_cons_zero, List.set_cons_succ]
  refine takeH 9 (v := ?_) rfl (by kernel_rfl) (by kernel_rfl) (by kernel_rfl) (fun _ _ _ h => h) k0_h.out (by rfl) (fun W' hW' => ?_) ?_; rotate_left; · (obtain ⟨⟨y0, y1⟩, y2, y3⟩ := box2 hW'; clear hW'; go_simp; first | done | with_reducible rfl)
  simp only [Act.put, List.setIfInBounds_toArray, List.set_cons_zero, List.set_cons_succ]
  refine takeH 10 (v := ?_) rfl (by kernel_rfl) (by kernel_rfl) (by kernel_rfl) (fun _ _ _ h => h) k0_h.out (by rfl) (fun W' hW' => ?_) ?_; rotate_left; · (obtain ⟨⟨y0, y1⟩, y2, y3⟩ := box2 hW'; clear hW'; go_simp; first | done | with_reducible rfl)
  simp only [Act.put, List.setIfInBounds_toArray, List.set_cons_zero, List.set_cons_succ]
  refine takeH 11 (v := ?_) rfl (by kernel_rfl) (by kernel_rfl) (by kernel_rfl) (fun _ _ _ h => h) k0_h.out (by rfl) (fun W' hW' => ?_) ?_; rotate_left; · (obtain ⟨⟨y0, y1⟩, y2, y3⟩ := box2 hW'; clear hW'; go_simp; first | done | with_reducible rfl)
  simp only [Act.put, List.setIfInBounds_toArray, List.set_cons_zero, List.set_cons_succ]
  refine takeH 12 (v := ?_) rfl (by kernel_rfl) (by kernel_rfl) (by kernel_rfl) (fun _ _ _ h => h) k0_h.out (by rfl) (fun W' hW' => ?_) ?_; rotate_left; · (obtain ⟨⟨y0, y1⟩, y2, y3⟩ := box2 hW'; clear hW'; go_simp; first | done | with_reducible rfl)
  simp only [Act.put, List.setIfInBounds_toArray, List.set_cons_zero, List.set_cons_succ]
  refine takeH 13 (v := ?_) rfl (by kernel_rfl) (by kernel_rfl) (by kernel_rfl) (fun _ _ _ h => h) k0_h.out (by rfl) (fun W' hW' => ?_) ?_; rotate_left; · (obtain ⟨⟨y0, y1⟩, y2, y3⟩ := box2 hW'; clear hW'; go_simp; first | done | with_reducible rfl)
  simp only [Act.put, List.setIfInBounds_toArray, List.set_cons_zero, List.set_cons_succ]
  refine takeH 14 (v := ?_) rfl (by kernel_rfl) (by kernel_rfl) (by kernel_rfl) (fun _ _ _ h => h) k0_h.out (by rfl) (fun W' hW' => ?_) ?_; rotate_left; · (obtain ⟨⟨y0, y1⟩, y2, y3⟩ := box2 hW'; clear hW'; go_simp; first | done | with_reducible rfl)
  simp only [Act.put, List.setIfInBounds_toArray, List.set_cons_zero, List.set_cons_succ]
  refine takeH 15 (v := ?_) rfl (by kernel_rfl) (by kernel_rfl) (by kernel_rfl) (fun _ _ _ h => h) k0_h.out (by rfl) (fun W' hW' => ?_) ?_; rotate_left; · (obtain ⟨⟨y0, y1⟩, y2, y3⟩ := box2 hW'; clear hW'; go_simp; first | done | with_reducible rfl)
  simp only [Act.put, List.setIfInBounds_toArray, List.set_cons_zero, List.set_cons_succ]
  refine takeH 16 (v := ?_) rfl (by kernel_rfl) (by kernel_rfl) (by kernel_rfl) (fun _ _ _ h => h) k0_h.out (by rfl) (fun W' hW' => ?_) ?_; rotate_left; · (obtain ⟨⟨y0, y1⟩, y2, y3⟩ := box2 hW'; clear hW'; go_simp; first | done | with_reducible rfl)
  simp only [Act.put, List.setIfInBounds_toArray, List.set_cons_zero, List.set_cons_succ]
  refine takeH 17 (v := ?_) rfl (by kernel_rfl) (by kernel_rfl) (by kernel_rfl) (fun _ _ _ h => h) k0_h.out (by rfl) (fun W' hW' => ?_) ?_; rotate_left; · (obtain ⟨⟨y0, y1⟩, y2, y3⟩ := box2 hW'; clear hW'; go_simp; first | done | with_reducible rfl)
  simp only [Act.put, List.setIfInBounds_toArray, List.set_cons_zero, List.set_cons_succ]
  refine takeH 18 (v := ?_) rfl (by kernel_rfl) (by kernel_rfl) (by kernel_rfl) (fun _ _ _ h => h) k0_h.out (by rfl) (fun W' hW' => ?_) ?_; rotate_left; · (obtain ⟨⟨y0, y1⟩, y2, y3⟩ := box2 hW'; clear hW'; go_simp; first | done | with_reducible rfl)
  simp only [Act.put, List.setIfInBounds_toArray, List.set_cons_zero, List.set_cons_succ]
  refine takeH 19 (v := ?_) rfl (by kernel_rfl) (by kernel_rfl) (by kernel_rfl) (fun _ _ _ h => h) k0_h.out (by rfl) (fun W' hW' => ?_) ?_; rotate_left; · (obtain ⟨⟨y0, y1⟩, y2, y3⟩ := box2 hW'; clear hW'; go_simp; first | done | with_reducible rfl)
  simp only [Act.put, List.setIfInBounds_toArray, List.set_cons_zero, List.set_cons_succ]
  refine takeH 20 (v := ?_) rfl (by kernel_rfl) (by kernel_rfl) (by kernel_rfl) (fun _ _ _ h => h) k0_h.out (by rfl) (fun W' hW' => ?_) ?_; rotate_left; · (obtain ⟨⟨y0, y1⟩, y2, y3⟩ := box2 hW'; clear hW'; go_simp; first | done | with_reducible rfl)
  simp only [Act.put, List.setIfInBounds_toArray, List.set_cons_zero, List.set_cons_succ]
  refine' callH 21 (f := _) (args := _) rfl (by kernel_rfl) (by rfl) ?_ ?_; rotate_left 2; · (go_simp; first | done | with_reducible rfl | (constructor <;> with_reducible rfl))
  refine (hV_h.out W1 hbd_h.out).mono ?_
  rintro e w1 ⟨rfl, rfl⟩
  refine ⟨_, rfl, k0_h.out, ?_⟩
  simp only [Act.put, List.setIfInBounds_toArray, List.set_cons_zero, List.set_cons_succ]
  refine takeH 22 (v := ?_) rfl (by kernel_rfl) (by kernel_rfl) (by kernel_rfl) (fun _ _ _ h => h) k0_h.out (by rfl) (fun W' hW' => ?_) ?_; rotate_left; · (obtain ⟨⟨y0, y1⟩, y2, y3⟩ := box2 hW'; clear hW'; go_simp; first | done | with_reducible rfl)
  simp only [Act.put, List.setIfInBounds_toArray, List.set_cons_zero, List.set_cons_succ]
  refine takeH 23 (v := ?_) rfl (by kernel_rfl) (by kernel_rfl) (by kernel_rfl) (fun _ _ _ h => h) k0_h.out (by rfl) (fun W' hW' => ?_) ?_; rotate_left; · (obtain ⟨⟨y0, y1⟩, y2, y3⟩ := box2 hW'; clear hW'; go_simp; first | done | with_reducible rfl)
  simp only [Act.put, List.setIfInBounds_toArray, List.set_cons_zero, List.set_cons_succ]
  refine takeH 24 (v := ?_) rfl (by kernel_rfl) (by kernel_rfl) (by kernel_rfl) (fun _ _ _ h => h) k0_h.out (by rfl) (fun W' hW' => ?_) ?_; rotate_left; · (obtain ⟨⟨y0, y1⟩, y2, y3⟩ := box2 hW'; clear hW'; go_simp; first | done | with_reducible rfl)
  simp only [Act.put, List.setIfInBounds_toArray, List.set_cons_zero, List.set_cons_succ]
  refine takeH 25 (v := ?_) rfl (by kernel_rfl) (by kernel_rfl) (by kernel_rfl) (fun _ _ _ h => h) k0_h.out (by rfl) (fun W' hW' => ?_) ?_; rotate_left; · (obtain ⟨⟨y0, y1⟩, y2, y3⟩ := box2 hW'; clear hW'; go_simp; first | done | with_reducible rfl)
  simp only [Act.put, List.setIfInBounds_toArray, List.set_cons_zero, List.set_cons_succ]
  refine takeH 26 (v := ?_) rfl (by kernel_rfl) (by kernel_rfl) (by kernel_rfl) (fun _ _ _ h => h) k0_h.out (by rfl) (fun W' hW' => ?_) ?_; rotate_left; · (obtain ⟨⟨y0, y1⟩, y2, y3⟩ := box2 hW'; clear hW'; go_simp; first | done | with_reducible rfl)
  simp only [Act.put, List.setIfInBounds_toArray, List.set_cons_zero, List.set_cons_succ]
  refine takeH 27 (v := ?_) rfl (by kernel_rfl) (by kernel_rfl) (by kernel_rfl) (fun _ _ _ h => h) k0_h.out (by rfl) (fun W' hW' => ?_) ?_; rotate_left; · (obtain ⟨⟨y0, y1⟩, y2, y3⟩ := box2 hW'; clear hW'; go_simp; first | done | with_reducible rfl)
  simp only [Act.put, List.setIfInBounds_toArray, List.set_cons_zero, List.set_cons_succ]
  refine takeH 28 (v := ?_) rfl (by kernel_rfl) (by kernel_rfl) (by kernel_rfl) (fun _ _ _ h => h) k0_h.out (by rfl) (fun W' hW' => ?_) ?_; rotate_left; · (obtain ⟨⟨y0, y1⟩, y2, y3⟩ := box2 hW'; clear hW'; go_simp; first | done | with_reducible rfl)
  simp only [Act.put, List.setIfInBounds_toArray, List.set_cons_zero, List.set_cons_succ]
  refine takeH 30 (v := ?_) rfl (by kernel_rfl) (by kernel_rfl) (by kernel_rfl) (fun _ _ _ h => h) k0_h.out (by rfl) (fun W' hW' => ?_) ?_; rotate_left; · (obtain ⟨⟨y0, y1⟩, y2, y3⟩ := box2 hW'; clear hW'; go_simp; first | done | with_reducible rfl)
  simp only [Act.put, List.setIfInBounds_toArray, List.set_cons_zero, List.set_cons_succ]
  refine takeH 31 (v := ?_) rfl (by kernel_rfl) (by kernel_rfl) (by kernel_rfl) (fun _ _ _ h => h) k0_h.out (by rfl) (fun W' hW' => ?_) ?_; rotate_left; · (obtain ⟨⟨y0, y1⟩, y2, y3⟩ := box2 hW'; clear hW'; go_simp; first | done | with_reducible rfl)
  simp only [Act.put, List.setIfInBounds_toArray, List.set_cons_zero, List.set_cons_succ]
  refine' callH 29 (f := _) (args := _) rfl (by kernel_rfl) (by rfl) ?_ ?_; rotate_left 2; · (go_simp; first | done | with_reducible rfl | (constructor <;> with_reducible rfl))
  refine ((hRd_h.out W1 hbd_h.out)).mono ?_
  rintro e w4 hret
  obtain ⟨A2, c2, rfl, hO2⟩ := hret.om
  have hb2 := hO2.below_
  obtain ⟨gs, hg, hrd2⟩ := hO2.rdr
  obtain ⟨q, hq⟩ : ∃ q, q = R.length := ⟨_, rfl⟩
  rw [← hq]
  have hqg : gs.length = q := by rw [hq, hg, List.length_map]
  clear hret hO2
  replace k0_h := Lib.hid (box_below k0_h.out hb2)
  have hS := spSame_any A2 A c2 c gs hs w4 hrd2 ((hR_h.out.below hbd_h.out).below hb2) (by have := hRl_h.out; omega) (fun x hx => by have := hRm_h.out _ (by rw [hg]; exact List.mem_map_of_mem hx); omega)
  rw [hqg, ← hm_h.out, ← hg, ← hL_h.out, ← hF_h.out] at hS
  have hB4 := below_trans hB_h.out hb2 hB_h.out.size
  refine ⟨_, rfl, k0_h.out, ?_⟩
  have hb2_h := Lib.hid hb2
  have hg_h := Lib.hid hg
  have hrd2_h := Lib.hid hrd2
  have hq_h := Lib.hid hq
  have hqg_h := Lib.hid hqg
  have hS_h := Lib.hid hS
  have hB4_h := Lib.hid hB4
  clear hb2 hg hrd2 hq hqg hS hB4
  simp only [Act.put, List.setIfInBounds_toArray, List.set_cons_zero, List.set_cons_succ]
  refine' callH 32 (f := _) (args := _) rfl (by kernel_rfl) (by rfl) ?_ ?_; rotate_left 2; · (go_simp; first | done | with_reducible rfl | (constructor <;> with_reducible rfl))
  refine (hS_h.out).mono ?_
  rintro e w5 ⟨rfl, nq, rfl⟩
  have hb5 : Below w4.heap.size w4 (w4.drewN nq) := below_drewN (Below.refl _ _) _
  replace k0_h := Lib.hid (box_below k0_h.out hb5)
  have hB5 := below_trans hB4_h.out hb5 hB4_h.out.size
  refine ⟨_, rfl, k0_h.out, ?_⟩
  have hb5_h := Lib.hid hb5
  have hB5_h := Lib.hid hB5
  clear hb5 hB5
  simp only [Act.put, List.setIfInBounds_toArray, List.set_cons_zero, List.set_cons_succ]
  refine takeH 33 (v := ?_) rfl (by kernel_rfl) (by kernel_rfl) (by kernel_rfl) (fun _ _ _ h => h) k0_h.out (by rfl) (fun W' hW' => ?_) ?_; rotate_left; · (obtain ⟨⟨y0, y1⟩, y2, y3⟩ := box2 hW'; clear hW'; go_simp; first | done | with_reducible rfl)
  simp only [Act.put, List.setIfInBounds_toArray, List.set_cons_zero, List.set_cons_succ]
  refine takeH 34 (v := ?_) rfl (by kernel_rfl) (by kernel_rfl) (by kernel_rfl) (fun _ _ _ h => h) k0_h.out (by rfl) (fun W' hW' => ?_) ?_; rotate_left; · (obtain ⟨⟨y0, y1⟩, y2, y3⟩ := box2 hW'; clear hW'; go_simp; first | done | with_reducible rfl)
  simp only [Act.put, List.setIfInBounds_toArray, List.set_cons_zero, List.set_cons_succ]
  refine doneH (by kernel_rfl) ?_
  go_wp2_with (fail)
  go_ret
  exact ⟨rfl, hB5_h.out⟩
set_option maxRecDepth 8000 in
set_option maxHeartbeats 1000000 in
theorem rlGood_any (p : Int) {v : Value} {s : Sys} (w : World) (h : RdSysV w v s) (hn : s.2.2.length ≤ 1048576) (hr : ∀ x, x ∈ s.2.2 → x.length ≤ 1048576) :
    Calls Tryd.prog 69 #[.int .i64 p, v] w fun e w' => e = .returned (.bool (relB p s)) ∧ Below w.heap.size w w' := by
  obtain ⟨A, c, hs, rfl, hL, hR⟩ := h
  obtain ⟨a, b, L⟩ := s
  have hL' : L = hs.map (fun h : Hd => h.2.2) := hL
  subst hL'
  clear hL
  have hrr : ∀ x, x ∈ hs → x.2.2.length ≤ 1048576 := fun x hx => hr _ (List.mem_map_of_mem hx)
  have hnn : hs.length ≤ 1048576 := by simpa using hn
  obtain ⟨F, hF⟩ : ∃ F, F = relB p (a, b, hs.map fun h : Hd => h.2.2) := ⟨_, rfl⟩
  rw [← hF]
  unfold relB at hF
  simp only at hF
  obtain ⟨W, hW, b0, k0⟩ := alloc_box w (.cells #[.int .i64 a, .int .i64 b, .slice A hs.length c] tRel)
  have hG := l1In_any a 0 24 W
  have hH := l1In_any b 0 (24 - a) W
  obtain ⟨m, hm⟩ : ∃ m, m = hs.length := ⟨_, rfl⟩
  by_cases h1 : 0 ≤ a ∧ a ≤ 24
  · have e1 : (decide (0 ≤ a) && decide (a ≤ 24)) = true := by simp [h1.1, h1.2]
    rw [e1, Bool.true_and] at hF
    rw [e1] at hG
    have hw0 : IntKind.i64.wrap (24 - a) = 24 - a := IntWalk.i64_in _ (by omega)
    by_cases h2 : 0 ≤ b ∧ b ≤ 24 - a
    · have e2 : (decide (0 ≤ b) && decide (b ≤ 24 - a)) = true := by simp [h2.1, h2.2]
      rw [e2, Bool.true_and] at hF
      rw [e2] at hH
      obtain ⟨n, hn⟩ : ∃ n : Nat, a + b = (n : Int) := ⟨(a + b).toNat, by omega⟩
      have hw : IntKind.i64.wrap (a + b) = (n : Int) := by rw [hn]; exact IntWalk.i64_in _ (by omega)
      have hD := spGood_any p n A c hs W (hR.below b0) (by omega) hnn hrr
      rw [← hn, ← hF, hn] at hD
      rw [← hm] at hD hW k0 ⊢
      clear e1 e2
      have b0_h := Lib.hid b0
      have k0_h := Lib.hid k0
      have hG_h := Lib.hid hG
      have hH_h := Lib.hid hH
      have hD_h := Lib.hid hD
      have hm_h := Lib.hid hm
      have hF_h := Lib.hid hF
      have hn_h := Lib.hid hn
      have h1_h := Lib.hid h1
      have h2_h := Lib.hid h2
      have hR_h := Lib.hid hR
      have hrr_h := Lib.hid hrr
      have hr_h := Lib.hid hr
      clear b0 k0 hG hH hD hm hF hn h1 h2 hR hrr hr
      obtain ⟨⟨c0, c1, c2⟩, f0, f1, f2⟩ := box3 k0_h.out
      go_enter Tryd.func69, Tryd.ntmps69
      go_upto_region 1 with (fail)
      rw [← hW]
      clear hW
      go_wp2_with (fail)
      refine (hG_h.out).mono ?_
      rintro e w1 ⟨rfl, rfl⟩
      go_wp2_with (fail)
      refine (hH_h.out).mono ?_
      rintro e w2 ⟨rfl, rfl⟩
      go_wp2_with (fail)
      refine (hD_h.out).mono ?_
      rintro e w3 ⟨rfl, hb3⟩
      go_wp2_with (fail)
      go_ret
      exact ⟨rfl, below_trans b0_h.out hb3 b0_h.out.size⟩
    · have e2 : (decide (0 ≤ b) && decide (b ≤ 24 - a)) = false := by simp; omega
      rw [e2, Bool.false_and] at hF
      rw [e2] at hH
      rw [← hm] at hW k0 ⊢
      clear e1 e2 h2
      have b0_h := Lib.hid b0
      have k0_h := Lib.hid k0
      have hG_h := Lib.hid hG
      have hH_h := Lib.hid hH
      have hm_h := Lib.hid hm
      have hF_h := Lib.hid hF
      have h1_h := Lib.hid h1
      have hR_h := Lib.hid hR
      have hrr_h := Lib.hid hrr
      have hr_h := Lib.hid hr
      clear b0 k0 hG hH hm hF h1 hR hrr hr
      obtain ⟨⟨c0, c1, c2⟩, f0, f1, f2⟩ := box3 k0_h.out
      go_enter Tryd.func69, Tryd.ntmps69
      go_upto_region 1 with (fail)
      rw [← hW]
      clear hW
      go_wp2_with (fail)
      refine (hG_h.out).mono ?_
      rintro e w1 ⟨rfl, rfl⟩
      go_wp2_with (fail)
      refine (hH_h.out).mono ?_
      rintro e w2 ⟨rfl, rfl⟩
      go_wp2_with (fail)
      go_ret
      exact ⟨ret_bool hF_h.out.symm, b0_h.out⟩
  · have e1 : (decide (0 ≤ a) && decide (a ≤ 24)) = false := by simp; omega
    rw [e1, Bool.false_and] at hF
    rw [e1] at hG
    rw [← hm] at hW k0 ⊢
    clear e1 h1
    have b0_h := Lib.hid b0
    have k0_h := Lib.hid k0
    have hG_h := Lib.hid hG
    have hH_h := Lib.hid hH
    have hm_h := Lib.hid hm
    have hF_h := Lib.hid hF
    have hR_h := Lib.hid hR
    have hrr_h := Lib.hid hrr
    have hr_h := Lib.hid hr
    clear b0 k0 hG hH hm hF hR hrr hr
    obtain ⟨⟨c0, c1, c2⟩, f0, f1, f2⟩ := box3 k0_h.out
    go_enter Tryd.func69, Tryd.ntmps69
    go_upto_region 1 with (fail)
    rw [← hW]
    clear hW
    go_wp2_with (fail)
    refine (hG_h.out).mono ?_
    rintro e w1 ⟨rfl, rfl⟩
    go_wp2_with (fail)
    go_ret
    exact ⟨ret_bool hF_h.out.symm, b0_h.out⟩
end Go.Proofs.YtahnhblodfdfhaaDoor
