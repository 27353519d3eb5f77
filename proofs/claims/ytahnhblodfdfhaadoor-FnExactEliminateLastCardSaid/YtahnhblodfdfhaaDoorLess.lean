/-
  THE WALK: spec.mxLess.
-/
import Derived.Test.YtahnhblodfdfhaaDoorNull
namespace Go.Proofs.YtahnhblodfdfhaaDoor
open Go.RowKit

set_option maxRecDepth 100000 in
set_option maxHeartbeats 1000000 in
theorem mxLess_any (p q : Int) (A B : Option Addr) (ca cb n : Nat) (v f : List Int) (w : World) (hA : IS w A ca v) (hB : RdI w B f) (hd : ∀ b, b ∈ fpA B → b ∉ fpA A) (hvn : v.length = n) (hfn : f.length = n) (hn : n ≤ 1048576)
    (h0 : 0 < p) (h97 : p ≤ 97) (hv : ∀ x, x ∈ v → 0 ≤ x ∧ x < p) (hf : ∀ x, x ∈ f → 0 ≤ x ∧ x < p) (hq : 0 ≤ q ∧ q < p) :
    Calls Tryd.prog 62 #[.int .i64 p, .slice A n ca, .slice B n cb, .int .i64 q] w fun e w' => e = .returned (.tuple #[]) ∧ Wr w w' A (ints (addT p v (-q) f)) := by
  have hal : (addT p v (-q) f).length = n := by rw [addT_length, hvn]
  have hst : Wr w w A (ints ((addT p v (-q) f).take 0 ++ v.drop 0)) := by simpa using Wr.start hA
  have HAL := Lib.hid hal
  have HVN := Lib.hid hvn
  have HFN := Lib.hid hfn
  have HST := Lib.hid hst
  have HV := Lib.hid hv
  have HF := Lib.hid hf
  have HD := Lib.hid hd
  clear hal hvn hfn hst hv hf hd
  go_enter Tryd.func62, Tryd.ntmps62
  go_wp2_with (fail)
  go_loopw [11] (fun i wr => ∃ k : Nat, k ≤ n ∧ i = .int .i64 k ∧ Wr w wr A (ints ((addT p v (-q) f).take k ++ v.drop k))) (fun i _ => n - (intOf i).toNat)
  case atStart => exact ⟨0, Nat.zero_le _, rfl, HST.out⟩
  case round =>
    clear HST
    obtain ⟨k, hk, rfl, hw⟩ := hrel
    have hll : ((addT p v (-q) f).take k ++ v.drop k).length = n := by rw [List.length_append, List.length_take, List.length_drop, HAL.out, HVN.out]; omega
    by_cases hlt : k < n
    · obtain ⟨bd, y, hB', hy, hcb⟩ := (hB.keeps hw.1 HD.out).at_ (j := k) (by rw [HFN.out]; exact hlt)
      have his : IS wr A ca ((addT p v (-q) f).take k ++ v.drop k) := by
        have := hw.sl hA (by rw [ints_length, hll, HVN.out, Nat.mul_one])
        unfold IS; rw [hll]; rwa [HVN.out] at this
      obtain ⟨ad, x, hA', hx, hbl, hca, hf'⟩ := his.at_ (j := k) (by rw [hll]; exact hlt)
      rw [get_take_drop (by simp) (by rw [HVN.out]; omega)] at hx
      have hfz := hf' k
      have hxb := HV.out x (List.mem_of_getElem? hx)
      have hyb := HF.out y (List.mem_of_getElem? hy)
      have hw2 := hw.set hA' (j := k) (by rw [ints_length, hll]; exact hlt) (.int .i64 ((x - q * y % p) % p))
      have e1 : (x - q * y % p) % p = (x + -q * y) % p := sub_mod_mul p x q y
      rw [show ints (((addT p v (-q) f).take k ++ v.drop k)) = ints (((addT p v (-q) f).take k ++ v.drop k)) from rfl, ints_set, e1, take_append_step (by simp) (addT_get hx hy), ← e1] at hw2
      have hw3 : Wr w (wr.drew.setCell (ad.add k) (.int .i64 ((x - q * y % p) % p))) A (ints ((addT p v (-q) f).take (k + 1) ++ v.drop (k + 1))) := hw2.drew
      have HW := Lib.hid hw3
      have hz0 : 0 ≤ q * y % p := Int.emod_nonneg _ (by omega)
      have hz1 : q * y % p < p := Int.emod_lt_of_pos _ h0
      obtain ⟨z, hz⟩ : ∃ z, z = q * y % p := ⟨_, rfl⟩
      have C1 := Lib.hid (stillC2 (fdMul_any p q y wr.drew h0 hq.1 (by omega) hyb.1 (by omega)))
      have C2 := fdSub_any p x z wr.drew h0 h97 hxb.1 (by omega) (by omega) (by omega)
      rw [← hz] at C1 HW
      have C2' := Lib.hid (stillC2 C2)
      have hkn : (k : Int) < (n : Int) := by omega
      subst hA'
      subst hB'
      clear hw2 hw3 hx hy hw his hA hB hll hf' hz hz0 hz1 e1 C2
      go_wp2_with (fail)
      refine wp_region_still_tail 16 (by kernel_rfl) (by kernel_rfl) ?_
      simp only [List.take_succ_cons, List.take_zero, List.drop_succ_cons, List.drop_zero]
      change wpStill _ _ wr.drew (fun a' => wpList _ _ _ _ a' wr.drew) _ _
      have d1 : wr.drew.cell? (bd.add k) = some (.int .i64 y) := hcb
      have d2 : wr.drew.cell? (ad.add k) = some (.int .i64 x) := hca
      repeat still_step
      still_call C1.out
      repeat still_step
      still_call C2'.out
      repeat still_step
      refine wpStill_nil ?_
      go_wp2_with (fail)
      go_roundw
      case rel => exact ⟨k + 1, by omega, by go_num, HW.out⟩
      case measure => simp [intOf]; omega
    · obtain rfl : n = k := by omega
      have hw2 : Wr w wr A (ints (addT p v (-q) f)) := by
        have := hw
        rwa [List.take_of_length_le (by rw [HAL.out]; omega), List.drop_of_length_le (by rw [HVN.out]; omega), List.append_nil] at this
      have HW := Lib.hid hw2
      clear hw hll hA hB hw2
      go_wp2_with (fail)
      go_end0
      exact ⟨rfl, HW.out⟩
end Go.Proofs.YtahnhblodfdfhaaDoor
