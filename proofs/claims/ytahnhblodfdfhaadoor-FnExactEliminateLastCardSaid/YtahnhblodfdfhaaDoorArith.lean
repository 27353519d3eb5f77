/-
  THE WALKS: arithmetic of the fields and lists of residues: mod, zeros, l1Own, clone, addTimes, fdMul, power, inverse, fdInv, fdSub.
-/
import Derived.Test.YtahnhblodfdfhaaDoorPolyM
import Derived.Test.YtahnhblodfdfhaaDoorPolyN
import Derived.Test.YtahnhblodfdfhaaDoorField
namespace Go.Proofs.YtahnhblodfdfhaaDoor
open Go.RowKit

theorem tmod_neg {a p : Int} (ha : a < 0) (hp : 0 < p) : (a.tmod p = 0 ∧ a % p = 0) ∨ (a.tmod p < 0 ∧ a.tmod p + p = a % p) := by
  have e : a.tmod p = -((-a) % p) := by
    have h1 : (-a).tmod p = (-a) % p := Int.tmod_eq_emod_of_nonneg (by omega)
    rw [← h1, Int.neg_tmod, Int.neg_neg]
  have h2 := Int.emod_nonneg (-a) (show p ≠ 0 by omega)
  have h3 := Int.emod_lt_of_pos (-a) hp
  have h4 := Int.emod_nonneg a (show p ≠ 0 by omega)
  have h5 := Int.emod_lt_of_pos a hp
  have h6 : (a % p + (-a) % p) % p = 0 := by rw [← Int.add_emod, show a + -a = 0 by omega]; simp
  rw [e]
  by_cases h0 : (-a) % p = 0
  · left; refine ⟨by omega, ?_⟩
    rw [h0, Int.add_zero, Int.emod_eq_of_lt h4 h5] at h6; exact h6
  · right; refine ⟨by omega, ?_⟩
    by_cases h7 : a % p + (-a) % p < p
    · rw [Int.emod_eq_of_lt (by omega) h7] at h6; omega
    · have h8 : (a % p + (-a) % p) % p = a % p + (-a) % p - p := by
        rw [← Int.sub_emod_right, Int.emod_eq_of_lt (by omega) (by omega)]
      omega

set_option maxHeartbeats 400000 in
theorem mod_any (p a : Int) (w : World) (h0 : 0 < p) (h97 : p ≤ 97) (ha : -1000000000 ≤ a) (ha' : a ≤ 1000000000) :
    Calls Tryd.prog 65 #[.int .i64 p, .int .i64 a] w fun e w' => e = .returned (.int .i64 (a % p)) ∧ w = w' := by
  have hz : (p == 0) = false := by rw [beq_eq_false_iff_ne]; omega
  have h1 := Int.emod_nonneg a (show p ≠ 0 by omega)
  have h2 := Int.emod_lt_of_pos a h0
  by_cases hneg : 0 ≤ a
  · go_enter Tryd.func65, Tryd.ntmps65
    go_wp2_with (fail)
    go_ret
    exact ⟨ret_int rfl, rfl⟩
  · obtain ⟨t, ht⟩ : ∃ t, a.tmod p = t := ⟨_, rfl⟩
    have hcase := tmod_neg (a := a) (p := p) (by omega) h0
    rw [ht] at hcase
    rcases hcase with ⟨rfl, he⟩ | ⟨hlt, he⟩
    · have HE := Lib.hid he
      clear he
      go_enter Tryd.func65, Tryd.ntmps65
      go_wp2_with (fail)
      go_ret
      exact ⟨ret_int HE.out.symm, rfl⟩
    · have HE := Lib.hid he
      have hgt : -97 ≤ t := by omega
      clear he
      go_enter Tryd.func65, Tryd.ntmps65
      go_wp2_with (fail)
      go_ret
      exact ⟨ret_int HE.out, rfl⟩

set_option maxHeartbeats 400000 in
theorem zeros_any (n : Nat) (w : World) (hn : n ≤ 17592186044416) :
    Calls Tryd.prog 117 #[.int .i64 n] w (RetI w (List.replicate n 0)) := by
  go_enter Tryd.func117, Tryd.ntmps117
  go_wp2_with (at_make; refine wpList_make_Sl _ rfl _ _ _ rfl 3 Tryd.underlying33 info_int n n rfl rfl rfl rfl (Nat.le_refl _) (by omega) (by unfold maxLen; omega) ?_; intro G w1 hs hG hb1)
  go_ret
  refine ⟨some G, n, by simp, ?_, fun b hb => by simp at hb; subst hb; exact hG, hb1⟩
  unfold IS; rw [← madeZeros]; simpa using hs

set_option maxHeartbeats 400000 in
theorem l1Own_any (A : Option Addr) (c : Nat) (l : List Int) (w : World) (h : RdI w A l) (hl : l.length ≤ 17592186044416) :
    Calls Tryd.prog 98 #[.slice A l.length c] w (RetI w l) := by
  go_enter Tryd.func98, Tryd.ntmps98
  have hs0 := Sl.laid w 3 1 0 #[] (Nat.zero_le _) rfl
  go_wp2_with (at_builtin; refine wpList_append_Sl _ rfl _ _ _ rfl 3 Tryd.underlying33 info_int rfl (by omega) rfl hs0 rfl (by simp) (h.rdc.alloc _) (ints_one l) (by unfold maxLen; omega) (by omega) ?_; intro A1 cap1 w1 hs hA hk)
  go_ret
  refine ⟨A1, cap1, by simp, ?_, ?_, ?_⟩
  · simpa [IS] using hs
  · intro b hb
    rcases hA b hb with h1 | h1
    · simp at h1; omega
    · simp at h1; omega
  · exact ((Below.refl w.heap.size w).alloc (Nat.le_refl _) _).trans (hk.below (by simp) (by simp))

set_option maxHeartbeats 400000 in
theorem clone_any (A : Option Addr) (c : Nat) (l : List Int) (w : World) (h : RdI w A l) (hl : l.length ≤ 17592186044416) :
    Calls Tryd.prog 67 #[.slice A l.length c] w (RetI w l) := by
  go_enter Tryd.func67, Tryd.ntmps67
  have hs0 := Sl.laid w 3 1 0 #[] (Nat.zero_le _) rfl
  go_wp2_with (at_builtin; refine wpList_append_Sl _ rfl _ _ _ rfl 3 Tryd.underlying33 info_int rfl (by omega) rfl hs0 rfl (by simp) (h.rdc.alloc _) (ints_one l) (by unfold maxLen; omega) (by omega) ?_; intro A1 cap1 w1 hs hA hk)
  go_ret
  refine ⟨A1, cap1, by simp, ?_, ?_, ?_⟩
  · simpa [IS] using hs
  · intro b hb
    rcases hA b hb with h1 | h1
    · simp at h1; omega
    · simp at h1; omega
  · exact ((Below.refl w.heap.size w).alloc (Nat.le_refl _) _).trans (hk.below (by simp) (by simp))

theorem get_take_drop {α : Type} {l m : List α} {k : Nat} (hl : l.length = m.length) (hk : k < m.length) : (l.take k ++ m.drop k)[k]? = m[k]? := by
  rw [List.getElem?_append_right (by simp; omega)]
  simp [show min k l.length = k by omega]
theorem len_take_drop {α : Type} {l m : List α} {k : Nat} (hl : l.length = m.length) (hk : k ≤ m.length) : (l.take k ++ m.drop k).length = m.length := by simp; omega

set_option maxHeartbeats 400000 in
theorem addTimes_any (p c : Int) (A B : Option Addr) (ca cb : Nat) (v m : List Int) (w : World) (hA : IS w A ca v) (hB : RdI w B m) (hd : 0 < m.length → ∀ b, b ∈ fpA B → b ∉ fpA A) (hlen : m.length ≤ v.length) (hvl : v.length ≤ 17592186044416)
    (h0 : 0 < p) (h97 : p ≤ 97) (hv : ∀ x, x ∈ v → 0 ≤ x ∧ x < p) (hm : ∀ x, x ∈ m → 0 ≤ x ∧ x < p) (hc : -10000 ≤ c) (hc' : c ≤ 10000) :
    Calls Tryd.prog 108 #[.int .i64 p, .slice A v.length ca, .int .i64 c, .slice B m.length cb] w fun e w' => e = .returned (.tuple #[]) ∧ Wr w w' A (ints (addT p v c m)) := by
  go_enter Tryd.func108, Tryd.ntmps108
  go_wp2_with (fail)
  go_loopw [12] (fun i wr => ∃ k : Nat, k ≤ m.length ∧ i = .int .i64 k ∧ Wr w wr A (ints ((addT p v c m).take k ++ v.drop k))) (fun i _ => m.length - (intOf i).toNat)
  case atStart => exact ⟨0, Nat.zero_le _, rfl, by simpa using Wr.start hA⟩
  case round =>
    obtain ⟨k, hk, rfl, hw⟩ := hrel
    have hll : ((addT p v c m).take k ++ v.drop k).length = v.length := len_take_drop (by simp) (by omega)
    by_cases hlt : k < m.length
    · obtain ⟨bd, y, hB', hy, hcb⟩ := (hB.keeps hw.1 (hd (by omega))).at_ hlt
      have his : IS wr A ca ((addT p v c m).take k ++ v.drop k) := by
        have := hw.sl hA (by simp; omega)
        unfold IS; rw [hll]; exact this
      obtain ⟨ad, x, hA', hx, hbl, hca, hf'⟩ := his.at_ (j := k) (by omega)
      rw [get_take_drop (by simp) (by omega)] at hx
      have hf := hf' k
      have hxb := hv x (List.mem_of_getElem? hx)
      have hyb := hm y (List.mem_of_getElem? hy)
      have hw2 := hw.set hA' (j := k) (by rw [ints_length, hll]; omega) (.int .i64 ((x + c * y) % p))
      rw [ints_set, take_append_step (by simp) (addT_get hx hy)] at hw2
      have HW := Lib.hid hw2
      have hkv : (k : Int) < (v.length : Int) := by omega
      have hp1 : -1000000 ≤ c * y ∧ c * y ≤ 1000000 := by
        have h1 : c * y ≤ 10000 * y := Int.mul_le_mul_of_nonneg_right hc' hyb.1
        have h2 : (-10000) * y ≤ c * y := Int.mul_le_mul_of_nonneg_right hc hyb.1
        omega
      obtain ⟨hp1a, hp1b⟩ := hp1
      subst hA'
      subst hB'
      clear hw2 hx hy hw his hA hB hd hll hf' hv hm
      go_wp2_with (go_at_call 65; refine (mod_any _ _ _ h0 h97 (by omega) (by omega)).mono ?_; rintro e w' ⟨rfl, rfl⟩)
      go_roundw
      case rel => exact ⟨k + 1, by omega, by go_num, HW.out⟩
      case measure => simp [intOf]; omega
    · obtain rfl : k = m.length := by omega
      rw [addT_take_end hlen] at hw
      clear hll hA hB hd hv hm
      go_wp2_with (fail)
      go_end0
      exact ⟨rfl, hw⟩

theorem mul_bound {a b : Int} (ha : 0 ≤ a) (ha' : a ≤ 10000) (hb : 0 ≤ b) (hb' : b ≤ 10000) : 0 ≤ a * b ∧ a * b ≤ 100000000 := by
  refine ⟨Int.mul_nonneg ha hb, ?_⟩
  have h1 : a * b ≤ 10000 * b := Int.mul_le_mul_of_nonneg_right ha' hb
  omega

set_option maxHeartbeats 400000 in
theorem fdMul_any (p a b : Int) (w : World) (h0 : 0 < p) (ha : 0 ≤ a) (ha' : a ≤ 10000) (hb : 0 ≤ b) (hb' : b ≤ 10000) :
    Calls Tryd.prog 99 #[.int .i64 p, .int .i64 a, .int .i64 b] w fun e w' => e = .returned (.int .i64 (a * b % p)) ∧ w = w' := by
  have hz : (p == 0) = false := by rw [beq_eq_false_iff_ne]; omega
  obtain ⟨h1, h2⟩ := mul_bound ha ha' hb hb'
  go_enter Tryd.func99, Tryd.ntmps99
  go_wp2_with (fail)
  go_ret
  exact ⟨rfl, rfl⟩

theorem powM_step (p : Int) (fuel : Nat) (a : Int) (n : Nat) (out : Int) (h : n ≠ 0) : powM p (fuel + 1) a n out = powM p fuel (a * a % p) (n / 2) (if n % 2 = 1 then out * a % p else out) := by rw [powM, if_neg h]
theorem powM_zero (p : Int) (fuel : Nat) (a out : Int) : powM p fuel a 0 out = out := by cases fuel <;> simp [powM]

set_option maxHeartbeats 400000 in
theorem power_any (p a : Int) (n : Nat) (w : World) (h2 : 2 ≤ p) (h97 : p ≤ 97) (ha : 0 ≤ a) (ha' : a < p) (hn : n < 256) :
    Calls Tryd.prog 153 #[.int .i64 p, .int .i64 a, .int .i64 n] w fun e w' => e = .returned (.int .i64 (powM p 8 a n (1 % p))) ∧ w = w' := by
  have hz : (p == 0) = false := by rw [beq_eq_false_iff_ne]; omega
  have h1p : 1 % p = 1 := Int.emod_eq_of_lt (by omega) (by omega)
  rw [h1p]
  have H1 := Lib.hid h1p
  go_enter Tryd.func153, Tryd.ntmps153
  go_wp2_with (fail)
  go_loop [1, 2, 7] (fun va vn vo => ∃ (fuel m : Nat) (b o : Int), fuel ≤ 8 ∧ m < 2 ^ fuel ∧ va = .int .i64 b ∧ vn = .int .i64 m ∧ vo = .int .i64 o ∧ 0 ≤ b ∧ b < p ∧ 0 ≤ o ∧ o < p ∧ powM p fuel b m o = powM p 8 a n 1) (fun _ vn _ => (intOf vn).toNat)
  case atStart => exact ⟨8, n, a, 1, by omega, by simpa using hn, rfl, rfl, by first | rfl | simp [h1p], ha, ha', by omega, by omega, rfl⟩
  case round =>
    obtain ⟨fuel, m, b, o, hfu, hm, rfl, rfl, rfl, hb0, hb1, ho0, ho1, hp⟩ := hrel
    by_cases h0 : m = 0
    · subst h0
      rw [powM_zero] at hp
      have HP := Lib.hid hp
      clear hp
      go_wp2_with (fail)
      go_ret
      exact ⟨ret_int HP.out, rfl⟩
    · obtain ⟨f, rfl⟩ : ∃ f, fuel = f + 1 := by
        rcases fuel with _ | f
        · simp at hm; omega
        · exact ⟨f, rfl⟩
      rw [powM_step _ _ _ _ _ h0] at hp
      have hm2 : m < 256 := Nat.lt_of_lt_of_le hm (Nat.pow_le_pow_right (by omega) hfu)
      have hmf : m / 2 < 2 ^ f := by rw [Nat.pow_succ] at hm; omega
      have hpos : (0 : Int) < (m : Int) := by omega
      obtain ⟨x1, x2⟩ := mul_bound (a := b) (b := b) hb0 (by omega) hb0 (by omega)
      obtain ⟨y1, y2⟩ := mul_bound (a := o) (b := b) ho0 (by omega) hb0 (by omega)
      have z1 := Int.emod_nonneg (b * b) (show p ≠ 0 by omega)
      have z2 := Int.emod_lt_of_pos (b * b) (show 0 < p by omega)
      have z3 := Int.emod_nonneg (o * b) (show p ≠ 0 by omega)
      have z4 := Int.emod_lt_of_pos (o * b) (show 0 < p by omega)
      by_cases hodd : m % 2 = 1
      · rw [if_pos hodd] at hp
        have ho : ((m : Int) % 2 == 1) = true := by rw [beq_iff_eq]; omega
        have HP := Lib.hid hp
        have HO := Lib.hid hodd
        clear hp hodd
        go_wp2_with (fail)
        go_round
        case rel => exact ⟨f, m / 2, b * b % p, o * b % p, by omega, hmf, rfl, by go_num, rfl, z1, z2, z3, z4, HP.out⟩
        case measure => simp [intOf]; omega
      · rw [if_neg hodd] at hp
        have ho : ((m : Int) % 2 == 1) = false := by rw [beq_eq_false_iff_ne]; omega
        have HP := Lib.hid hp
        clear hp hodd
        go_wp2_with (fail)
        go_round
        case rel => exact ⟨f, m / 2, b * b % p, o, by omega, hmf, rfl, by go_num, rfl, z1, z2, ho0, ho1, HP.out⟩
        case measure => simp [intOf]; omega

set_option maxHeartbeats 400000 in
theorem inverse_any (p a : Int) (w : World) (h2 : 2 ≤ p) (h97 : p ≤ 97) (ha : 0 ≤ a) (ha' : a < p) :
    Calls Tryd.prog 109 #[.int .i64 p, .int .i64 a] w fun e w' => e = .returned (.int .i64 (invM p a)) ∧ w = w' := by
  by_cases hp2 : p = 2
  · have hb : (p == 2) = true := by rw [beq_iff_eq]; exact hp2
    have H := power_any p a 1 w h2 h97 ha ha' (by omega)
    have e : powM p 8 a 1 (1 % p) = invM p a := by unfold invM; rw [hp2]; rfl
    rw [e] at H
    have H' : Calls Tryd.prog 153 #[.int .i64 p, .int .i64 a, .int .i64 (p - 2 + 1)] w fun e w' => e = .returned (.int .i64 (invM p a)) ∧ w = w' := by
      have e2 : p - 2 + 1 = ((1 : Nat) : Int) := by omega
      rw [e2]; exact H
    have HH := Lib.hid H'
    have HP := Lib.hid hp2
    clear H H' e hp2
    go_enter Tryd.func109, Tryd.ntmps109
    go_wp2_with (go_at_call 154; go_in)
    refine HH.out.mono ?_
    rintro e w' ⟨rfl, rfl⟩
    go_wp2_with (fail)
    go_ret
    exact ⟨rfl, rfl⟩
  · have hb : (p == 2) = false := by rw [beq_eq_false_iff_ne]; exact hp2
    have H := power_any p a (p - 2).toNat w h2 h97 ha ha' (by omega)
    have e : powM p 8 a (p - 2).toNat (1 % p) = invM p a := by unfold invM; rw [if_neg hp2, Nat.add_zero]
    rw [e] at H
    have H' : Calls Tryd.prog 153 #[.int .i64 p, .int .i64 a, .int .i64 (p - 2)] w fun e w' => e = .returned (.int .i64 (invM p a)) ∧ w = w' := by
      have e2 : p - 2 = (((p - 2).toNat : Nat) : Int) := by omega
      rw [e2]; exact H
    have HH := Lib.hid H'
    clear H H' e hp2
    go_enter Tryd.func109, Tryd.ntmps109
    go_wp2_with (go_at_call 154; go_in)
    refine HH.out.mono ?_
    rintro e w' ⟨rfl, rfl⟩
    go_wp2_with (fail)
    go_ret
    exact ⟨rfl, rfl⟩

set_option maxHeartbeats 400000 in
theorem fdInv_any (p a : Int) (w : World) (hp : fieldB p = true) (ha : 1 ≤ a) (ha' : a < p) :
    Calls Tryd.prog 100 #[.int .i64 p, .int .i64 a] w fun e w' => e = .returned (.int .i64 (invM p a)) ∧ w = w' := by
  have hpb := fieldB_bounds hp
  have hz : (p == 0) = false := by rw [beq_eq_false_iff_ne]; omega
  obtain ⟨i1, i2, i3⟩ := invM_spec hp ha ha'
  obtain ⟨v, hv⟩ : ∃ v, v = invM p a := ⟨_, rfl⟩
  rw [← hv] at i1 i2 i3
  rw [← hv]
  have HI := Lib.hid i1
  clear i1 hv
  go_enter Tryd.func100, Tryd.ntmps100
  go_wp2_with (fail)
  go_loop [5] (fun vx => ∃ x : Int, 1 ≤ x ∧ x ≤ v ∧ vx = .int .i64 x) (fun vx => (p - intOf vx).toNat)
  case atStart => exact ⟨1, by omega, by omega, rfl⟩
  case round =>
    obtain ⟨x, hx1, hx2, rfl⟩ := hrel
    obtain ⟨x1, x2⟩ := mul_bound (a := a) (b := x) (by omega) (by omega) (by omega) (by omega)
    by_cases hd : a * x % p = 1
    · have hxv : x = v := inv_unique (p := p) (a := a) (by omega) ⟨by omega, by omega⟩ ⟨by omega, by omega⟩ (by rw [hd, Int.emod_eq_of_lt (by omega) (by omega)]) (by rw [HI.out, Int.emod_eq_of_lt (by omega) (by omega)])
      have ht : (a * x % p == 1) = true := by rw [beq_iff_eq]; exact hd
      have HX := Lib.hid hxv
      clear hd hxv
      go_wp2_with (fail)
      go_ret
      exact ⟨ret_int HX.out, rfl⟩
    · have ht : (a * x % p == 1) = false := by rw [beq_eq_false_iff_ne]; exact hd
      have hne : x ≠ v := by intro e; subst e; exact hd HI.out
      have hlt : x < v := by omega
      clear hd hne
      go_wp2_with (fail)
      go_round
      case rel => exact ⟨x + 1, by omega, by omega, rfl⟩
      case measure => simp [intOf]; omega

set_option maxHeartbeats 400000 in
theorem fdSub_any (p a b : Int) (w : World) (h0 : 0 < p) (h97 : p ≤ 97) (ha : 0 ≤ a) (ha' : a ≤ 10000) (hb : 0 ≤ b) (hb' : b ≤ p) :
    Calls Tryd.prog 115 #[.int .i64 p, .int .i64 a, .int .i64 b] w fun e w' => e = .returned (.int .i64 ((a - b) % p)) ∧ w = w' := by
  have hz : (p == 0) = false := by rw [beq_eq_false_iff_ne]; omega
  go_enter Tryd.func115, Tryd.ntmps115
  go_wp2_with (fail)
  go_ret
  refine ⟨ret_int ?_, rfl⟩
  rw [show a + p - b = (a - b) + p by omega, Int.add_emod_right]
end Go.Proofs.YtahnhblodfdfhaaDoor
