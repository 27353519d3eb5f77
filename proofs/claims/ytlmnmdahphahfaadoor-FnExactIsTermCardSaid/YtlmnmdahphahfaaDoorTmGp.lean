/-
  THE WALKS: tmGood of the reference; IsTerm on both sides.
-/
import Derived.Test.YtlmnmdahphahfaaDoorTmGo
namespace Go.Proofs.YtlmnmdahphahfaaDoor
open Go.RowKit

set_option maxRecDepth 8000 in
set_option maxHeartbeats 4000000 in
theorem tmGood_any (p : Int) {v : Value} {l : List Nd} {w : World} (h : RdTm w v l) :
    Calls Tryd.prog 10 #[.int .i64 p, v] w fun e w' => e = .returned (.bool (goodM p l)) ∧ Below w.heap.size w w' := by
  obtain ⟨A, c, rfl, h⟩ := h
  obtain ⟨m, hm⟩ : ∃ m, m = l.length := ⟨_, rfl⟩
  obtain ⟨W, hW⟩ : ∃ W, W = w.alloc (.cells #[.slice A m c] tTerm) := ⟨_, rfl⟩
  have b0 := below_alloc w (.cells #[.slice A m c] tTerm)
  have k0 := heap_alloc_new w (.cells #[.slice A m c] tTerm)
  rw [← hW] at b0 k0
  have hr := h.below b0
  have hI := fun W => fdGood_any p W
  have hC := tmScan_any (v := .agg #[.slice A m c]) (l := l) (w := W) ⟨A, c, by rw [hm], hr⟩
  rw [← hm]
  obtain ⟨F, hF⟩ : ∃ F, F = fieldB p := ⟨_, rfl⟩
  obtain ⟨G, hG⟩ : ∃ G, G = goodM p l := ⟨_, rfl⟩
  rw [← hF] at hI
  rw [← hG]
  clear h
  have b0_h := Lib.hid b0
  have k0_h := Lib.hid k0
  have hr_h := Lib.hid hr
  have hI_h := Lib.hid hI
  have hC_h := Lib.hid hC
  have hF_h := Lib.hid hF
  have hG_h := Lib.hid hG
  have hm_h := Lib.hid hm
  clear b0 k0 hr hI hC hF hG hm
  obtain ⟨k0_c, k0_f⟩ := bx1 k0_h.out
  go_enter Tryd.func10, Tryd.ntmps10
  go_wp2_with (fail)
  rw [← hW]
  clear hW
  refine (hC_h.out).mono ?_
  rintro e w1 ⟨A0, A1, A2, d0, d1, d2, n0, n1, n2, b, rfl, hb, ht, hb1⟩
  clear k0_c k0_f
  obtain ⟨W2, hW2⟩ : ∃ W2, W2 = w1.alloc (.cells #[.slice A0 n0 d0, .slice A1 n1 d1, .slice A2 n2 d2] tInfo) := ⟨_, rfl⟩
  have hb2 : Below w1.heap.size w1 W2 := by rw [hW2]; exact below_alloc _ _
  have hB1 := below_trans (below_trans b0_h.out hb1 b0_h.out.size) hb2 (Nat.le_trans b0_h.out.size hb1.size)
  replace k0_h := Lib.hid (box_below k0_h.out hb1)
  replace k0_h := Lib.hid (box_below k0_h.out hb2)
  have hr1 := (hr_h.out.below hb1).below hb2
  clear ht
  cases b
  · have hN : treeM l = none := by cases h : treeM l with | none => rfl | some t => rw [h] at hb; cases hb
    obtain rfl : G = false := by rw [hG_h.out]; exact goodM_nt hN
    have hb_h := Lib.hid hb
    have hN_h := Lib.hid hN
    have hB1_h := Lib.hid hB1
    have hb1_h := Lib.hid hb1
    have hb2_h := Lib.hid hb2
    have hr1_h := Lib.hid hr1
    clear hb hN hB1 hb1 hb2 hr1
    go_upto_region 2 with (fail)
    rw [← hW2]
    clear hW2
    go_wp2_with (fail)
    go_ret
    exact ⟨rfl, hB1_h.out⟩
  · obtain ⟨t, hN⟩ : ∃ t, treeM l = some t := by cases h : treeM l with | none => rw [h] at hb; cases hb | some t => exact ⟨t, rfl⟩
    have hm4 : m ≤ 400 := by rw [hm_h.out, (treeM_some hN).1]; exact (treeM_some hN).2.2
    cases F
    case false =>
      obtain rfl : G = false := by rw [hG_h.out]; exact goodM_nf hF_h.out.symm
      have hb_h := Lib.hid hb
      have hN_h := Lib.hid hN
      have hB1_h := Lib.hid hB1
      have hb1_h := Lib.hid hb1
      have hb2_h := Lib.hid hb2
      have hr1_h := Lib.hid hr1
      clear hb hN hB1 hb1 hb2 hr1
      go_upto_region 2 with (fail)
      rw [← hW2]
      clear hW2
      go_wp2_with (fail)
      refine (hI_h.out _).mono ?_
      rintro e w' ⟨rfl, rfl⟩
      go_wp2_with (fail)
      go_ret
      exact ⟨rfl, hB1_h.out⟩
    case true =>
    have hGe : G = l.all (overB p) := by rw [hG_h.out]; exact goodM_all hF_h.out.symm hN
    obtain ⟨k0_c, k0_f⟩ := bx1 k0_h.out
    have hb_h := Lib.hid hb
    have hN_h := Lib.hid hN
    have hB1_h := Lib.hid hB1
    have hb1_h := Lib.hid hb1
    have hb2_h := Lib.hid hb2
    have hr1_h := Lib.hid hr1
    have hGe_h := Lib.hid hGe
    clear hb hN hB1 hb1 hb2 hr1 hGe
    go_upto_region 2 with (fail)
    rw [← hW2]
    clear hW2
    go_wp2_with (fail)
    refine (hI_h.out _).mono ?_
    rintro e w' ⟨rfl, rfl⟩
    go_wp2_with (fail)
    go_loopw [24] (fun iv wr => ∃ k : Nat, k ≤ m ∧ iv = .int .i64 k ∧ (∀ j n, l[j]? = some n → j < k → overB p n = true) ∧ Below w.heap.size w wr ∧ Below W2.heap.size W2 wr) (fun iv _ => m - (intOf iv).toNat)
    case atStart => exact ⟨0, Nat.zero_le _, rfl, fun _ _ _ h => absurd h (Nat.not_lt_zero _), hB1_h.out, Below.refl _ _⟩
    case round =>
      obtain ⟨k, hk, rfl, hall, hB, hb2⟩ := hrel
      clear k0_c k0_f
      by_cases hlt : k < m
      · obtain ⟨ad, κ, v, s, rfl, hn, d0, d1, d2⟩ := (hr1_h.out.below hb2).at_ (j := k) (by rw [← hm_h.out]; exact hlt)
        have hkI : (k : Int) < (m : Int) := by omega
        have hba := below_alloc wr (.cells #[.int .i64 κ, .int .i64 v, .string s] tNd)
        have hB2 := below_trans hB hba hB.size
        have hb3 := below_trans hb2 hba hb2.size
        have hn_h := Lib.hid hn
        have hall_h := Lib.hid hall
        have hB_h := Lib.hid hB
        have hb2_h := Lib.hid hb2
        have hba_h := Lib.hid hba
        have hB2_h := Lib.hid hB2
        have hb3_h := Lib.hid hb3
        clear hn hall hB hb2 hba hB2 hb3
        by_cases ho : overB p (κ, v, s) = true
        · have hall2 : ∀ j n, l[j]? = some n → j < k + 1 → overB p n = true := fun j n hj hlt' => by
            by_cases e : j = k
            · subst e
              rw [hn_h.out] at hj
              rw [← Option.some.inj hj]; exact ho
            · exact hall_h.out j n hj (by omega)
          by_cases h7 : κ = 7
          · have e7 : (κ == 7) = true := by simp [h7]
            have hlt3 : v < p := by
              simp [overB, hvB, h7] at ho; omega
            have ho_h := Lib.hid ho
            have hall2_h := Lib.hid hall2
            have h7_h := Lib.hid h7
            clear ho hall2 h7
            go_wp2_with (fail)
            go_roundw
            case rel => exact ⟨k + 1, by omega, by go_num, hall2_h.out, hB2_h.out, hb3_h.out⟩
            case measure => simp [intOf]; omega
          · have e7 : (κ == 7) = false := by simp [h7]
            by_cases h13 : κ = 13
            · have e13 : (κ == 13) = true := by simp [h13]
              have hlt3 : v < p := by
                simp [overB, hvB, h13] at ho; omega
              have ho_h := Lib.hid ho
              have hall2_h := Lib.hid hall2
              have h7_h := Lib.hid h7
              have h13_h := Lib.hid h13
              clear ho hall2 h7 h13
              go_wp2_with (fail)
              go_roundw
              case rel => exact ⟨k + 1, by omega, by go_num, hall2_h.out, hB2_h.out, hb3_h.out⟩
              case measure => simp [intOf]; omega
            · have e13 : (κ == 13) = false := by simp [h13]
              have ho_h := Lib.hid ho
              have hall2_h := Lib.hid hall2
              have h7_h := Lib.hid h7
              have h13_h := Lib.hid h13
              clear ho hall2 h7 h13
              go_wp2_with (fail)
              go_roundw
              case rel => exact ⟨k + 1, by omega, by go_num, hall2_h.out, hB2_h.out, hb3_h.out⟩
              case measure => simp [intOf]; omega
        · have ho2 : overB p (κ, v, s) = false := by simpa using ho
          have hge : p ≤ v := by
            simp [overB] at ho2; exact ho2.2
          have hv : κ = 7 ∨ κ = 13 := by
            simp [overB, hvB] at ho2; have := ho2.1; omega
          obtain rfl : G = false := by rw [hGe_h.out]; exact all_no hn_h.out ho2
          by_cases h7 : κ = 7
          · have e7 : (κ == 7) = true := by simp [h7]
            have ho_h := Lib.hid ho
            have ho2_h := Lib.hid ho2
            have h7_h := Lib.hid h7
            have hv_h := Lib.hid hv
            clear ho ho2 h7 hv
            go_wp2_with (fail)
            go_ret
            exact ⟨rfl, hB2_h.out⟩
          · have e7 : (κ == 7) = false := by simp [h7]
            have h13 : κ = 13 := by omega
            have e13 : (κ == 13) = true := by simp [h13]
            have ho_h := Lib.hid ho
            have ho2_h := Lib.hid ho2
            have h7_h := Lib.hid h7
            have hv_h := Lib.hid hv
            have h13_h := Lib.hid h13
            clear ho ho2 h7 hv h13
            go_wp2_with (fail)
            go_ret
            exact ⟨rfl, hB2_h.out⟩
      · obtain rfl : k = m := by omega
        obtain rfl : G = true := by rw [hGe_h.out]; exact all_yes (fun j n hj hl => hall j n hj (by rw [hm_h.out]; exact hl))
        have hall_h := Lib.hid hall
        have hB_h := Lib.hid hB
        have hb2_h := Lib.hid hb2
        clear hall hB hb2
        go_wp2_with (fail)
        go_ret
        exact ⟨rfl, hB_h.out⟩
theorem sIsTerm_any (p : Int) {v : Value} {l : List Nd} {w : World} (h : RdTm w v l) :
    Calls Tryd.prog 5 #[.int .i64 p, v] w fun e w' => e = .returned (.bool (goodM p l)) ∧ Below w.heap.size w w' := by
  obtain ⟨A, c, rfl, h⟩ := h
  obtain ⟨m, hm⟩ : ∃ m, m = l.length := ⟨_, rfl⟩
  have b0 := below_alloc w (.cells #[.slice A m c] tTerm)
  have hC := tmGood_any p (v := .agg #[.slice A m c]) (l := l) (w := w.alloc (.cells #[.slice A m c] tTerm)) ⟨A, c, by rw [hm], h.below b0⟩
  rw [← hm]
  obtain ⟨G, hG⟩ : ∃ G, G = goodM p l := ⟨_, rfl⟩
  rw [← hG] at hC ⊢
  clear h
  have b0_h := Lib.hid b0
  have hC_h := Lib.hid hC
  have hG_h := Lib.hid hG
  have hm_h := Lib.hid hm
  clear b0 hC hG hm
  go_enter Tryd.func5, Tryd.ntmps5
  go_wp2_with (fail)
  refine (hC_h.out).mono ?_
  rintro e w1 ⟨rfl, hb1⟩
  have hB1 := below_trans b0_h.out hb1 b0_h.out.size
  have hb1_h := Lib.hid hb1
  have hB1_h := Lib.hid hB1
  clear hb1 hB1
  go_wp2_with (fail)
  go_ret
  exact ⟨rfl, hB1_h.out⟩
theorem iIsTerm_any (p : Int) {v : Value} {l : List Nd} {w : World} (h : RdTm w v l) (hT : Tab w) :
    Calls Tryd.prog 7 #[.int .i64 p, v] w fun e w' => e = .returned (.bool (goodM p l)) ∧ Below w.heap.size w w' := by
  obtain ⟨A, c, rfl, h⟩ := h
  obtain ⟨m, hm⟩ : ∃ m, m = l.length := ⟨_, rfl⟩
  have b0 := below_alloc w (.cells #[.slice A m c] tTerm)
  have hC := isOver_any p (v := .agg #[.slice A m c]) (l := l) (w := w.alloc (.cells #[.slice A m c] tTerm)) ⟨A, c, by rw [hm], h.below b0⟩ (hT.below b0 hT.lt)
  rw [← hm]
  obtain ⟨G, hG⟩ : ∃ G, G = goodM p l := ⟨_, rfl⟩
  rw [← hG] at hC ⊢
  clear h
  have b0_h := Lib.hid b0
  have hC_h := Lib.hid hC
  have hG_h := Lib.hid hG
  have hm_h := Lib.hid hm
  have hT_h := Lib.hid hT
  clear b0 hC hG hm hT
  go_enter Tryd.func7, Tryd.ntmps7
  go_wp2_with (fail)
  refine (hC_h.out).mono ?_
  rintro e w1 ⟨rfl, hb1⟩
  have hB1 := below_trans b0_h.out hb1 b0_h.out.size
  have hb1_h := Lib.hid hb1
  have hB1_h := Lib.hid hB1
  clear hb1 hB1
  go_wp2_with (fail)
  go_ret
  exact ⟨rfl, hB1_h.out⟩
end Go.Proofs.YtlmnmdahphahfaaDoor
