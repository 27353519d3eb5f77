/-
  THE WALKS: IsTerm on both sides.
-/
import Derived.Test.YtlmnmdahphahfaaDoorTmV
import Derived.Test.YtlmnmdahphahfaaDoorTmQ
import Derived.Test.YtlmnmdahphahfaaDoorFieldT
namespace Go.Proofs.YtlmnmdahphahfaaDoor
open Go.RowKit

/-- Is a node's factor below p? -/
def overB (p : Int) (n : Nd) : Bool := !(hvB n.1 && decide (p ≤ n.2.1))
def goodM (p : Int) (l : List Nd) : Bool := fieldB p && ((treeM l).isSome && l.all (overB p))
theorem goodM_nf {p : Int} {l : List Nd} (h : fieldB p = false) : goodM p l = false := by simp [goodM, h]
theorem goodM_nt {p : Int} {l : List Nd} (h : treeM l = none) : goodM p l = false := by simp [goodM, h]
theorem goodM_all {p : Int} {l : List Nd} {t : Tr} (h : fieldB p = true) (h' : treeM l = some t) : goodM p l = l.all (overB p) := by simp [goodM, h, h']
theorem all_no {p : Int} {l : List Nd} {k : Nat} {n : Nd} (h : l[k]? = some n) (hn : overB p n = false) : l.all (overB p) = false := by
  rw [List.all_eq_false]
  exact ⟨n, List.mem_of_getElem? h, by simp [hn]⟩
theorem all_yes {p : Int} {l : List Nd} (h : ∀ j n, l[j]? = some n → j < l.length → overB p n = true) : l.all (overB p) = true := by
  rw [List.all_eq_true]
  intro n hn
  obtain ⟨j, hj⟩ := List.mem_iff_getElem?.1 hn
  exact h j n hj (List.getElem?_eq_some_iff.1 hj).1
set_option maxRecDepth 8000 in
set_option maxHeartbeats 2000000 in
theorem isOver_any (p : Int) {v : Value} {l : List Nd} {w : World} (h : RdTm w v l) (hT : Tab w) :
    Calls Tryd.prog 12 #[v, .int .i64 p] w fun e w' => e = .returned (.bool (goodM p l)) ∧ Below w.heap.size w w' := by
  obtain ⟨A, c, rfl, h⟩ := h
  obtain ⟨m, hm⟩ : ∃ m, m = l.length := ⟨_, rfl⟩
  obtain ⟨W, hW⟩ : ∃ W, W = w.alloc (.cells #[.slice A m c] tTerm) := ⟨_, rfl⟩
  have b0 := below_alloc w (.cells #[.slice A m c] tTerm)
  have k0 := heap_alloc_new w (.cells #[.slice A m c] tTerm)
  rw [← hW] at b0 k0
  have hr := h.below b0
  have hI := isField_any p W (hT.below b0 hT.lt)
  have hC := isValid_any (v := .agg #[.slice A m c]) (l := l) (w := W) ⟨A, c, by rw [hm], hr⟩
  rw [← hm]
  obtain ⟨F, hF⟩ : ∃ F, F = fieldB p := ⟨_, rfl⟩
  obtain ⟨G, hG⟩ : ∃ G, G = goodM p l := ⟨_, rfl⟩
  rw [← hF] at hI
  rw [← hG]
  clear h
  have b0_h := Lib.hid b0
  have k0_h := Lib.hid k0
  have hr_h := Lib.hid hr
  have hI_h := Lib.hid hI
  have hC_h := Lib.hid hC
  have hF_h := Lib.hid hF
  have hG_h := Lib.hid hG
  have hm_h := Lib.hid hm
  have hT_h := Lib.hid hT
  clear b0 k0 hr hI hC hF hG hm hT
  obtain ⟨k0_c, k0_f⟩ := bx1 k0_h.out
  cases F
  case false =>
    obtain rfl : G = false := by rw [hG_h.out]; exact goodM_nf hF_h.out.symm
    go_enter Tryd.func12, Tryd.ntmps12
    go_wp2_with (fail)
    rw [← hW]
    clear hW
    refine (hI_h.out).mono ?_
    rintro e w' ⟨rfl, rfl⟩
    go_wp2_with (fail)
    go_ret
    exact ⟨rfl, b0_h.out⟩
  case true =>
  go_enter Tryd.func12, Tryd.ntmps12
  go_wp2_with (fail)
  rw [← hW]
  clear hW
  refine (hI_h.out).mono ?_
  rintro e w' ⟨rfl, rfl⟩
  go_wp2_with (fail)
  refine (hC_h.out).mono ?_
  rintro e w1 ⟨b, rfl, hb, hb1⟩
  clear k0_c k0_f
  have hB1 := below_trans b0_h.out hb1 b0_h.out.size
  replace k0_h := Lib.hid (box_below k0_h.out hb1)
  have hr1 := hr_h.out.below hb1
  cases b
  · have hN : treeM l = none := by cases h : treeM l with | none => rfl | some t => rw [h] at hb; cases hb
    obtain rfl : G = false := by rw [hG_h.out]; exact goodM_nt hN
    have hb_h := Lib.hid hb
    have hN_h := Lib.hid hN
    have hB1_h := Lib.hid hB1
    have hb1_h := Lib.hid hb1
    have hr1_h := Lib.hid hr1
    clear hb hN hB1 hb1 hr1
    go_wp2_with (fail)
    go_ret
    exact ⟨rfl, hB1_h.out⟩
  · obtain ⟨t, hN⟩ : ∃ t, treeM l = some t := by cases h : treeM l with | none => rw [h] at hb; cases hb | some t => exact ⟨t, rfl⟩
    have hGe : G = l.all (overB p) := by rw [hG_h.out]; exact goodM_all hF_h.out.symm hN
    have hm4 : m ≤ 400 := by rw [hm_h.out, (treeM_some hN).1]; exact (treeM_some hN).2.2
    obtain ⟨k0_c, k0_f⟩ := bx1 k0_h.out
    have hb_h := Lib.hid hb
    have hN_h := Lib.hid hN
    have hB1_h := Lib.hid hB1
    have hb1_h := Lib.hid hb1
    have hr1_h := Lib.hid hr1
    have hGe_h := Lib.hid hGe
    clear hb hN hB1 hb1 hr1 hGe
    go_wp2_with (fail)
    go_loopw [18] (fun iv wr => ∃ k : Nat, k ≤ m ∧ iv = .int .i64 k ∧ (∀ j n, l[j]? = some n → j < k → overB p n = true) ∧ Below w.heap.size w wr ∧ Below w1.heap.size w1 wr) (fun iv _ => m - (intOf iv).toNat)
    case atStart => exact ⟨0, Nat.zero_le _, rfl, fun _ _ _ h => absurd h (Nat.not_lt_zero _), hB1_h.out, Below.refl _ _⟩
    case round =>
      obtain ⟨k, hk, rfl, hall, hB, hb2⟩ := hrel
      clear k0_c k0_f
      by_cases hlt : k < m
      · obtain ⟨ad, κ, v, s, rfl, hn, d0, d1, d2⟩ := (hr1_h.out.below hb2).at_ (j := k) (by rw [← hm_h.out]; exact hlt)
        have hkI : (k : Int) < (m : Int) := by omega
        obtain ⟨H, hH⟩ : ∃ H, H = hvB κ := ⟨_, rfl⟩
        have hV := fun W => hasValue_any κ W
        rw [← hH] at hV
        have hba := below_alloc wr (.cells #[.int .i64 κ, .int .i64 v, .string s] tNd)
        have hB2 := below_trans hB hba hB.size
        have hb3 := below_trans hb2 hba hb2.size
        have hn_h := Lib.hid hn
        have hH_h := Lib.hid hH
        have hV_h := Lib.hid hV
        have hall_h := Lib.hid hall
        have hB_h := Lib.hid hB
        have hb2_h := Lib.hid hb2
        have hba_h := Lib.hid hba
        have hB2_h := Lib.hid hB2
        have hb3_h := Lib.hid hb3
        clear hn hH hV hall hB hb2 hba hB2 hb3
        by_cases ho : overB p (κ, v, s) = true
        · have hall2 : ∀ j n, l[j]? = some n → j < k + 1 → overB p n = true := fun j n hj hlt' => by
            by_cases e : j = k
            · subst e
              rw [hn_h.out] at hj
              rw [← Option.some.inj hj]; exact ho
            · exact hall_h.out j n hj (by omega)
          cases H
          · have ho_h := Lib.hid ho
            have hall2_h := Lib.hid hall2
            clear ho hall2
            go_wp2_with (fail)
            refine (hV_h.out _).mono ?_
            rintro e w' ⟨rfl, rfl⟩
            go_wp2_with (fail)
            go_roundw
            case rel => exact ⟨k + 1, by omega, by go_num, hall2_h.out, hB2_h.out, hb3_h.out⟩
            case measure => simp [intOf]; omega
          · have hlt2 : ¬ p ≤ v := fun h => by
              simp [overB, ← hH_h.out, h] at ho
            have hlt3 : v < p := by omega
            have ho_h := Lib.hid ho
            have hall2_h := Lib.hid hall2
            clear ho hall2
            go_wp2_with (fail)
            refine (hV_h.out _).mono ?_
            rintro e w' ⟨rfl, rfl⟩
            go_wp2_with (fail)
            go_roundw
            case rel => exact ⟨k + 1, by omega, by go_num, hall2_h.out, hB2_h.out, hb3_h.out⟩
            case measure => simp [intOf]; omega
        · have ho2 : overB p (κ, v, s) = false := by simpa using ho
          obtain rfl : H = true := by
            cases H
            · simp [overB, ← hH_h.out] at ho2
            · rfl
          have hge : p ≤ v := by
            simp [overB, ← hH_h.out] at ho2; exact ho2
          obtain rfl : G = false := by rw [hGe_h.out]; exact all_no hn_h.out ho2
          have ho_h := Lib.hid ho
          have ho2_h := Lib.hid ho2
          clear ho ho2
          go_wp2_with (fail)
          refine (hV_h.out _).mono ?_
          rintro e w' ⟨rfl, rfl⟩
          go_wp2_with (fail)
          go_ret
          exact ⟨rfl, hB2_h.out⟩
      · obtain rfl : k = m := by omega
        obtain rfl : G = true := by rw [hGe_h.out]; exact all_yes (fun j n hj hl => hall j n hj (by rw [hm_h.out]; exact hl))
        have hall_h := Lib.hid hall
        have hB_h := Lib.hid hB
        have hb2_h := Lib.hid hb2
        clear hall hB hb2
        go_wp2_with (fail)
        go_ret
        exact ⟨rfl, hB_h.out⟩
end Go.Proofs.YtlmnmdahphahfaaDoor
