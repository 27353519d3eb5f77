/-
  THE WALKS: inverses on both sides (a power; a search).
-/
import Derived.Test.YtbgofkalanigfaaDoorPolyN
import Derived.Test.YtbgofkalanigfaaDoorPolyC
namespace Go.Proofs.YtbgofkalanigfaaDoor
open Go.RowKit

theorem powM_step (p : Int) (fuel : Nat) (a : Int) (n : Nat) (out : Int) (h : n ≠ 0) : powM p (fuel + 1) a n out = powM p fuel (a * a % p) (n / 2) (if n % 2 = 1 then out * a % p else out) := by rw [powM, if_neg h]
theorem powM_zero (p : Int) (fuel : Nat) (a out : Int) : powM p fuel a 0 out = out := by cases fuel <;> simp [powM]

set_option maxHeartbeats 400000 in
theorem power_any (p a : Int) (n : Nat) (w : World) (h2 : 2 ≤ p) (h97 : p ≤ 97) (ha : 0 ≤ a) (ha' : a < p) (hn : n < 256) :
    Calls Tryd.prog 68 #[.int .i64 p, .int .i64 a, .int .i64 n] w fun e w' => e = .returned (.int .i64 (powM p 8 a n (1 % p))) ∧ w = w' := by
  have hz : (p == 0) = false := by rw [beq_eq_false_iff_ne]; omega
  have h1p : 1 % p = 1 := Int.emod_eq_of_lt (by omega) (by omega)
  rw [h1p]
  have H1 := Lib.hid h1p
  go_enter Tryd.func68, Tryd.ntmps68
  go_wp2_with (fail)
  go_loop [1, 2, 7] (fun va vn vo => ∃ (fuel m : Nat) (b o : Int), fuel ≤ 8 ∧ m < 2 ^ fuel ∧ va = .int .i64 b ∧ vn = .int .i64 m ∧ vo = .int .i64 o ∧ 0 ≤ b ∧ b < p ∧ 0 ≤ o ∧ o < p ∧ powM p fuel b m o = powM p 8 a n 1) (fun _ vn _ => (intOf vn).toNat)
  case atStart => exact ⟨8, n, a, 1, by omega, by simpa using hn, rfl, rfl, by first | rfl | simp [h1p], ha, ha', by omega, by omega, rfl⟩
  case round =>
    obtain ⟨fuel, m, b, o, hfu, hm, rfl, rfl, rfl, hb0, hb1, ho0, ho1, hp⟩ := hrel
    by_cases h0 : m = 0
    · subst h0
      rw [powM_zero] at hp
      have HP := Lib.hid hp
      clear hp
      go_wp2_with (fail)
      go_ret
      exact ⟨ret_int HP.out, rfl⟩
    · obtain ⟨f, rfl⟩ : ∃ f, fuel = f + 1 := by
        rcases fuel with _ | f
        · simp at hm; omega
        · exact ⟨f, rfl⟩
      rw [powM_step _ _ _ _ _ h0] at hp
      have hm2 : m < 256 := Nat.lt_of_lt_of_le hm (Nat.pow_le_pow_right (by omega) hfu)
      have hmf : m / 2 < 2 ^ f := by rw [Nat.pow_succ] at hm; omega
      have hpos : (0 : Int) < (m : Int) := by omega
      obtain ⟨x1, x2⟩ := mul_bound (a := b) (b := b) hb0 (by omega) hb0 (by omega)
      obtain ⟨y1, y2⟩ := mul_bound (a := o) (b := b) ho0 (by omega) hb0 (by omega)
      have z1 := Int.emod_nonneg (b * b) (show p ≠ 0 by omega)
      have z2 := Int.emod_lt_of_pos (b * b) (show 0 < p by omega)
      have z3 := Int.emod_nonneg (o * b) (show p ≠ 0 by omega)
      have z4 := Int.emod_lt_of_pos (o * b) (show 0 < p by omega)
      by_cases hodd : m % 2 = 1
      · rw [if_pos hodd] at hp
        have ho : ((m : Int) % 2 == 1) = true := by rw [beq_iff_eq]; omega
        have HP := Lib.hid hp
        have HO := Lib.hid hodd
        clear hp hodd
        go_wp2_with (fail)
        go_round
        case rel => exact ⟨f, m / 2, b * b % p, o * b % p, by omega, hmf, rfl, by go_num, rfl, z1, z2, z3, z4, HP.out⟩
        case measure => simp [intOf]; omega
      · rw [if_neg hodd] at hp
        have ho : ((m : Int) % 2 == 1) = false := by rw [beq_eq_false_iff_ne]; omega
        have HP := Lib.hid hp
        clear hp hodd
        go_wp2_with (fail)
        go_round
        case rel => exact ⟨f, m / 2, b * b % p, o, by omega, hmf, rfl, by go_num, rfl, z1, z2, ho0, ho1, HP.out⟩
        case measure => simp [intOf]; omega

set_option maxHeartbeats 400000 in
theorem inverse_any (p a : Int) (w : World) (h2 : 2 ≤ p) (h97 : p ≤ 97) (ha : 0 ≤ a) (ha' : a < p) :
    Calls Tryd.prog 62 #[.int .i64 p, .int .i64 a] w fun e w' => e = .returned (.int .i64 (invM p a)) ∧ w = w' := by
  by_cases hp2 : p = 2
  · have hb : (p == 2) = true := by rw [beq_iff_eq]; exact hp2
    have H := power_any p a 1 w h2 h97 ha ha' (by omega)
    have e : powM p 8 a 1 (1 % p) = invM p a := by unfold invM; rw [hp2]; rfl
    rw [e] at H
    have H' : Calls Tryd.prog 68 #[.int .i64 p, .int .i64 a, .int .i64 (p - 2 + 1)] w fun e w' => e = .returned (.int .i64 (invM p a)) ∧ w = w' := by
      have e2 : p - 2 + 1 = ((1 : Nat) : Int) := by omega
      rw [e2]; exact H
    have HH := Lib.hid H'
    have HP := Lib.hid hp2
    clear H H' e hp2
    go_enter Tryd.func62, Tryd.ntmps62
    go_wp2_with (go_at_call 69; go_in)
    refine HH.out.mono ?_
    rintro e w' ⟨rfl, rfl⟩
    go_wp2_with (fail)
    go_ret
    exact ⟨rfl, rfl⟩
  · have hb : (p == 2) = false := by rw [beq_eq_false_iff_ne]; exact hp2
    have H := power_any p a (p - 2).toNat w h2 h97 ha ha' (by omega)
    have e : powM p 8 a (p - 2).toNat (1 % p) = invM p a := by unfold invM; rw [if_neg hp2, Nat.add_zero]
    rw [e] at H
    have H' : Calls Tryd.prog 68 #[.int .i64 p, .int .i64 a, .int .i64 (p - 2)] w fun e w' => e = .returned (.int .i64 (invM p a)) ∧ w = w' := by
      have e2 : p - 2 = (((p - 2).toNat : Nat) : Int) := by omega
      rw [e2]; exact H
    have HH := Lib.hid H'
    clear H H' e hp2
    go_enter Tryd.func62, Tryd.ntmps62
    go_wp2_with (go_at_call 69; go_in)
    refine HH.out.mono ?_
    rintro e w' ⟨rfl, rfl⟩
    go_wp2_with (fail)
    go_ret
    exact ⟨rfl, rfl⟩

set_option maxHeartbeats 400000 in
theorem fdInv_any (p a : Int) (w : World) (hp : fieldB p = true) (ha : 1 ≤ a) (ha' : a < p) :
    Calls Tryd.prog 60 #[.int .i64 p, .int .i64 a] w fun e w' => e = .returned (.int .i64 (invM p a)) ∧ w = w' := by
  have hpb := fieldB_bounds hp
  have hz : (p == 0) = false := by rw [beq_eq_false_iff_ne]; omega
  obtain ⟨i1, i2, i3⟩ := invM_spec hp ha ha'
  obtain ⟨v, hv⟩ : ∃ v, v = invM p a := ⟨_, rfl⟩
  rw [← hv] at i1 i2 i3
  rw [← hv]
  have HI := Lib.hid i1
  clear i1 hv
  go_enter Tryd.func60, Tryd.ntmps60
  go_wp2_with (fail)
  go_loop [5] (fun vx => ∃ x : Int, 1 ≤ x ∧ x ≤ v ∧ vx = .int .i64 x) (fun vx => (p - intOf vx).toNat)
  case atStart => exact ⟨1, by omega, by omega, rfl⟩
  case round =>
    obtain ⟨x, hx1, hx2, rfl⟩ := hrel
    obtain ⟨x1, x2⟩ := mul_bound (a := a) (b := x) (by omega) (by omega) (by omega) (by omega)
    by_cases hd : a * x % p = 1
    · have hxv : x = v := inv_unique (p := p) (a := a) (by omega) ⟨by omega, by omega⟩ ⟨by omega, by omega⟩ (by rw [hd, Int.emod_eq_of_lt (by omega) (by omega)]) (by rw [HI.out, Int.emod_eq_of_lt (by omega) (by omega)])
      have ht : (a * x % p == 1) = true := by rw [beq_iff_eq]; exact hd
      have HX := Lib.hid hxv
      clear hd hxv
      go_wp2_with (fail)
      go_ret
      exact ⟨ret_int HX.out, rfl⟩
    · have ht : (a * x % p == 1) = false := by rw [beq_eq_false_iff_ne]; exact hd
      have hne : x ≠ v := by intro e; subst e; exact hd HI.out
      have hlt : x < v := by omega
      clear hd hne
      go_wp2_with (fail)
      go_round
      case rel => exact ⟨x + 1, by omega, by omega, rfl⟩
      case measure => simp [intOf]; omega

set_option maxHeartbeats 400000 in
theorem fdSub_any (p a b : Int) (w : World) (h0 : 0 < p) (h97 : p ≤ 97) (ha : 0 ≤ a) (ha' : a ≤ 10000) (hb : 0 ≤ b) (hb' : b ≤ p) :
    Calls Tryd.prog 61 #[.int .i64 p, .int .i64 a, .int .i64 b] w fun e w' => e = .returned (.int .i64 ((a - b) % p)) ∧ w = w' := by
  have hz : (p == 0) = false := by rw [beq_eq_false_iff_ne]; omega
  go_enter Tryd.func61, Tryd.ntmps61
  go_wp2_with (fail)
  go_ret
  refine ⟨ret_int ?_, rfl⟩
  rw [show a + p - b = (a - b) + p by omega, Int.add_emod_right]
end Go.Proofs.YtbgofkalanigfaaDoor
