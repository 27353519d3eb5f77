/-
  THE WALKS: partStart.
-/
import Derived.Test.YtlmnmdahphahfaaTmD
import Derived.Test.YtlmnmdahphahfaaTmDM
namespace Go.Proofs.Ytlmnmdahphahfaa
open Go.RowKit

set_option maxRecDepth 8000 in
set_option maxHeartbeats 1000000 in
theorem partStart_any (A : Option Addr) (n c : Nat) (l : List Nd) (k : Nat) (w : World) (h : RdN w A l) (hn : n = l.length) (hl : l.length ≤ 1048576) (hk : k < l.length) (hr : reach 1 (l.take (k + 1)).reverse) :
    Calls Try.prog 59 #[.slice A n c, .int .i64 k] w fun e w' => e = .returned (.int .i64 (subS l k)) ∧ Below w.heap.size w w' := by
  obtain ⟨s, hs⟩ : ∃ s, s = subS l k := ⟨_, rfl⟩
  rw [← hs]
  have hinv : k + 1 = s + backM 1 (l.take (k + 1)).reverse := by
    have := backM_le 1 (l.take (k + 1)).reverse
    rw [List.length_reverse, List.length_take] at this
    have e : s = k + 1 - backM 1 (l.take (k + 1)).reverse := hs
    omega
  clear hs
  have hn_h := Lib.hid hn
  have hinv_h := Lib.hid hinv
  have hr_h := Lib.hid hr
  clear hn hinv hr
  go_enter Try.func59, Try.ntmps59
  go_wp2_with (fail)
  go_loopw [1, 5] (fun i o wr => ∃ j p : Nat, i = .int .i64 j ∧ o = .int .i64 p ∧ j ≤ k ∧ 1 ≤ p ∧ p + j ≤ k + 1 ∧ reach p (l.take (j + 1)).reverse ∧ j + 1 = s + backM p (l.take (j + 1)).reverse ∧ Below w.heap.size w wr) (fun i _ _ => (intOf i).toNat)
  case atStart => exact ⟨k, 1, rfl, rfl, Nat.le_refl _, Nat.le_refl _, by omega, hr_h.out, hinv_h.out, Below.refl _ _⟩
  case round =>
    obtain ⟨j, p, rfl, rfl, hj, hp, hpj, hrj, hbj, hb⟩ := hrel
    have hjl : j < l.length := by omega
    obtain ⟨ad, κ, v, sx, rfl, hnj, d0, d1, d2⟩ := (h.below hb).at_ (j := j) hjl
    rw [take_rev hnj] at hrj hbj
    have hjI : (j : Int) < (n : Int) := by rw [hn_h.out]; omega
    have hj0 : (0 : Int) ≤ (j : Int) := by omega
    have hw1 : IntKind.i64.wrap ((p : Int) - 1) = (p : Int) - 1 := IntWalk.i64_in _ (by omega)
    have hw2 : IntKind.i64.wrap ((p : Int) - 1 + 2) = (p : Int) - 1 + 2 := IntWalk.i64_in _ (by omega)
    have hw3 : IntKind.i64.wrap ((j : Int) - 1) = (j : Int) - 1 := IntWalk.i64_in _ (by omega)
    by_cases hJ : isJoin (κ, v, sx)
    · have hrj' : p + 1 = 0 ∨ reach (p + 1) (l.take j).reverse := by simpa only [reach, hJ, if_true] using hrj
      have hbj' : j + 1 = s + (1 + backM (p + 1) (l.take j).reverse) := by
        simp only [backM, hJ, if_true] at hbj
        rwa [if_neg (by omega)] at hbj
      have hr2 : reach (p + 1) (l.take j).reverse := hrj'.resolve_left (by omega)
      obtain ⟨j', rfl⟩ : ∃ j', j = j' + 1 := by
        cases j with
        | zero => simp [reach] at hr2
        | succ j' => exact ⟨j', rfl⟩
      have hz : ((p : Int) - 1 + 2 == 0) = false := beq_eq_false_iff_ne.2 (by omega)
      have hκ : κ = 15 ∨ κ = 16 := hJ
      clear hrj hbj hrj' hJ
      have hnj_h := Lib.hid hnj
      have hr2_h := Lib.hid hr2
      have hbj'_h := Lib.hid hbj'
      clear hnj hr2 hbj'
      rcases hκ with rfl | rfl
      all_goals
        go_wp2_with (fail)
        go_roundw
        case rel => exact ⟨j', p + 1, by go_num, by go_num, by omega, by omega, by omega, hr2_h.out, by have := hbj'_h.out; omega, hb⟩
        case measure => simp [intOf]
    · have hrj' : p - 1 = 0 ∨ reach (p - 1) (l.take j).reverse := by simpa only [reach, hJ, if_false] using hrj
      have hκ : ¬ κ = 15 ∧ ¬ κ = 16 := ⟨fun e => hJ (.inl e), fun e => hJ (.inr e)⟩
      have κ1 : (κ == 15) = false := beq_eq_false_iff_ne.2 hκ.1
      have κ2 : (κ == 16) = false := beq_eq_false_iff_ne.2 hκ.2
      clear hκ
      by_cases h1 : p = 1
      · subst h1
        have hbj' : j + 1 = s + 1 := by
          simp only [backM, hJ, if_false] at hbj
          simpa using hbj
        obtain rfl : s = j := by omega
        clear hrj hbj hrj' hJ hbj'
        have hnj_h := Lib.hid hnj
        clear hnj
        go_wp2_with (fail)
        go_ret
        exact ⟨by go_num, hb⟩
      · have hr2 : reach (p - 1) (l.take j).reverse := hrj'.resolve_left (by omega)
        have hbj' : j + 1 = s + (1 + backM (p - 1) (l.take j).reverse) := by
          simp only [backM, hJ, if_false] at hbj
          rwa [if_neg (by omega)] at hbj
        obtain ⟨j', rfl⟩ : ∃ j', j = j' + 1 := by
          cases j with
          | zero => simp [reach] at hr2
          | succ j' => exact ⟨j', rfl⟩
        have hz : ((p : Int) - 1 == 0) = false := beq_eq_false_iff_ne.2 (by omega)
        clear hrj hbj hrj' hJ
        have hnj_h := Lib.hid hnj
        have hr2_h := Lib.hid hr2
        have hbj'_h := Lib.hid hbj'
        clear hnj hr2 hbj'
        go_wp2_with (fail)
        go_roundw
        case rel => exact ⟨j', p - 1, by go_num, by go_num, by omega, by omega, by omega, hr2_h.out, by have := hbj'_h.out; omega, hb⟩
        case measure => simp [intOf]
end Go.Proofs.Ytlmnmdahphahfaa
