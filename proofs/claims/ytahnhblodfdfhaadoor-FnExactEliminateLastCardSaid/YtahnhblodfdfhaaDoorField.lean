/-
  THE WALKS OF THE FIELD TESTS: l1In, fdGood, l1All, fdIn (the reference); isField, isElement, isVector (the program).
-/
import Derived.Test.YtahnhblodfdfhaaDoorFieldM
import Derived.Test.YtahnhblodfdfhaaDoorHelpI
namespace Go.Proofs.YtahnhblodfdfhaaDoor
open Go.RowKit

/-- The program's table of small primes, in the world w. -/
def Tab (w : World) : Prop := w.cell? ⟨0, 0, none⟩ = some (.int .i64 2) ∧ w.cell? ⟨0, 1, none⟩ = some (.int .i64 3) ∧ w.cell? ⟨0, 2, none⟩ = some (.int .i64 5) ∧ w.cell? ⟨0, 3, none⟩ = some (.int .i64 7)
theorem Tab.lt {w : World} (h : Tab w) : 0 < w.heap.size := World.block_lt_of_cell? w _ h.1
theorem Tab.below {w w' : World} {B : Nat} (h : Tab w) (hb : Below B w w') (hB : 0 < B) : Tab w' := by
  unfold Tab
  have hc : ∀ k, w'.cell? ⟨0, k, none⟩ = w.cell? ⟨0, k, none⟩ := fun k => hb.cell hB
  simp only [hc]; exact h
theorem Tab.drewN {w : World} (h : Tab w) (n : Nat) : Tab (w.drewN n) := h

set_option maxHeartbeats 400000 in
theorem l1In_any (n lo hi : Int) (w : World) :
    Calls Tryd.prog 96 #[.int .i64 n, .int .i64 lo, .int .i64 hi] w fun e w' => e = .returned (.bool (decide (lo ≤ n) && decide (n ≤ hi))) ∧ w = w' := by
  go_enter Tryd.func96, Tryd.ntmps96
  go_wp2
  all_goals go_ret
  all_goals (refine ⟨ret_bool ?_, rfl⟩; simp; try omega)

set_option maxHeartbeats 400000 in
theorem isElement_any (p a : Int) (w : World) :
    Calls Tryd.prog 116 #[.int .i64 p, .int .i64 a] w fun e w' => e = .returned (.bool (decide (0 ≤ a) && decide (a ≤ p - 1))) ∧ w = w' := by
  go_enter Tryd.func116, Tryd.ntmps116
  go_wp2
  all_goals go_ret
  all_goals (refine ⟨ret_bool ?_, rfl⟩; rw [Bool.eq_iff_iff]; simp; try omega)

theorem mod_of_nonneg {a b : Int} (ha : 0 ≤ a) : a.tmod b = a % b := Int.tmod_eq_emod_of_nonneg ha

set_option maxHeartbeats 400000 in
theorem fdGood_any (p : Int) (w : World) :
    Calls Tryd.prog 95 #[.int .i64 p] w fun e w' => e = .returned (.bool (fieldB p)) ∧ w = w' := by
  by_cases hp : 2 ≤ p ∧ p ≤ 97
  · obtain ⟨h2, h97⟩ := hp
    have hin : (decide (2 ≤ p) && decide (p ≤ 97)) = true := by simp [h2, h97]
    go_enter Tryd.func95, Tryd.ntmps95
    go_wp2_with (go_at_call 96; refine (l1In_any _ _ _ _).mono ?_; rintro e w' ⟨rfl, rfl⟩)
    clear hin
    go_loop [3] (fun i => ∃ k : Nat, 2 ≤ k ∧ k ≤ 11 ∧ i = .int .i64 k ∧ fdTest p k = true ∧ (((k : Int) - 1) * ((k : Int) - 1) ≤ p ∨ k = 2)) (fun i => 12 - (intOf i).toNat)
    case atStart => exact ⟨2, by omega, by omega, rfl, by simp [fdTest, List.range_succ], .inr rfl⟩
    case round =>
      obtain ⟨k, h2k, hk, rfl, ht, hlast⟩ := hrel
      have HT := Lib.hid ht
      have HL := Lib.hid hlast
      clear ht hlast
      have hkk : (k : Int) * k ≤ 121 := by
        have := Nat.mul_le_mul hk hk
        exact_mod_cast this
      have hkk0 : (0 : Int) ≤ (k : Int) * k := Int.mul_nonneg (by omega) (by omega)
      by_cases hlt : (k : Int) * k ≤ p
      · have hk9 : k ≤ 9 := by
          by_cases h : k ≤ 9
          · exact h
          · exfalso
            have h1 : (10 : Int) * 10 ≤ (k : Int) * k := Int.mul_le_mul (by omega) (by omega) (by omega) (by omega)
            omega
        go_wp2
        · have hd : (p % (k : Int) == 0) = true := by assumption
          go_ret
          refine ⟨ret_bool ?_, rfl⟩
          exact (fdTest_stop h2 h97 h2k hlt (by simpa using hd)).symm
        · have hd : (p % (k : Int) == 0) = false := by assumption
          go_round
          case rel =>
            refine ⟨k + 1, by omega, by omega, by go_num, ?_, .inl ?_⟩
            · rw [fdTest_succ, HT.out]
              have : ¬ p % (k : Int) = 0 := by simpa using hd
              simp [this]
            · have e : (((k + 1 : Nat) : Int) - 1) = (k : Int) := by omega
              rw [e]; exact hlt
          case measure => simp [intOf]; omega
      · go_wp2
        go_ret
        refine ⟨ret_bool ?_, rfl⟩
        rw [← fdTest_end h2 h97 (by omega) HL.out hk h2k]; exact HT.out.symm
  · have hin : (decide (2 ≤ p) && decide (p ≤ 97)) = false := by simp; omega
    go_enter Tryd.func95, Tryd.ntmps95
    go_wp2_with (go_at_call 96; refine (l1In_any _ _ _ _).mono ?_; rintro e w' ⟨rfl, rfl⟩)
    go_ret
    exact ⟨ret_bool (by simp [fieldB]; omega), rfl⟩

set_option maxHeartbeats 400000 in
theorem isField_any (p : Int) (w : World) (hT : Tab w) :
    Calls Tryd.prog 101 #[.int .i64 p] w fun e w' => e = .returned (.bool (fieldB p)) ∧ w = w' := by
  obtain ⟨h0, h1, h2, h3⟩ := hT
  have i0 : ∀ w, (Instr.index 167 (.agg #[.int .i64 2, .int .i64 3, .int .i64 5, .int .i64 7]) (.int .i64 0)).run Tryd.prog w = .ok (.int .i64 2) w := fun _ => by kernel_rfl
  have i1 : ∀ w, (Instr.index 167 (.agg #[.int .i64 2, .int .i64 3, .int .i64 5, .int .i64 7]) (.int .i64 1)).run Tryd.prog w = .ok (.int .i64 3) w := fun _ => by kernel_rfl
  have i2 : ∀ w, (Instr.index 167 (.agg #[.int .i64 2, .int .i64 3, .int .i64 5, .int .i64 7]) (.int .i64 2)).run Tryd.prog w = .ok (.int .i64 5) w := fun _ => by kernel_rfl
  have i3 : ∀ w, (Instr.index 167 (.agg #[.int .i64 2, .int .i64 3, .int .i64 5, .int .i64 7]) (.int .i64 3)).run Tryd.prog w = .ok (.int .i64 7) w := fun _ => by kernel_rfl
  by_cases hp : 2 ≤ p ∧ p ≤ 97
  · obtain ⟨h2, h97⟩ := hp
    go_enter Tryd.func101, Tryd.ntmps101
    go_wp2_with (fail)
    go_loop [12] (fun i => (i = .int .i64 0) ∨ (i = .int .i64 1 ∧ (p % 2 = 0 → p = 2)) ∨ (i = .int .i64 2 ∧ (p % 2 = 0 → p = 2) ∧ (p % 3 = 0 → p = 3)) ∨ (i = .int .i64 3 ∧ (p % 2 = 0 → p = 2) ∧ (p % 3 = 0 → p = 3) ∧ (p % 5 = 0 → p = 5)) ∨ (i = .int .i64 4 ∧ (p % 2 = 0 → p = 2) ∧ (p % 3 = 0 → p = 3) ∧ (p % 5 = 0 → p = 5) ∧ (p % 7 = 0 → p = 7)))
      (fun i => 4 - (intOf i).toNat)
    case atStart => exact .inl rfl
    case round =>
      rcases hrel with rfl | ⟨rfl, HH⟩ | ⟨rfl, HH⟩ | ⟨rfl, HH⟩ | ⟨rfl, HH⟩
      · by_cases ha : p % 2 = 0
        · by_cases hb : p = 2
          · subst hb
            have ht : (2 : Int) % 2 = 0 → (2 : Int) = 2 := fun _ => rfl
            have HX := Lib.hid ht
            clear ht ha
            go_wp2_with (fail)
            go_round
            case rel => have ht := HX.out; exact .inr (.inl ⟨by go_num, (by first | exact ht | (intro _; trivial))⟩)
            case measure => simp [intOf]
          · have hn : (p == 2) = false := by simpa using hb
            have hn' : (p != 2) = true := by simpa using hb
            have hz : (p % 2 == 0) = true := by simpa using ha
            have HA := Lib.hid ha
            have HB := Lib.hid hb
            clear ha hb
            go_wp2_with (fail)
            go_ret
            exact ⟨ret_bool (by have h1 := HA.out; have h2 := HB.out; simp [fieldB, h1, h2]), rfl⟩
        · have hz : (p % 2 == 0) = false := by simpa using ha
          have ht : p % 2 = 0 → p = 2 := fun h => absurd h ha
          have HX := Lib.hid ht
          clear ht ha
          go_wp2_with (fail)
          go_round
          case rel => have ht := HX.out; exact .inr (.inl ⟨by go_num, (by first | exact ht | (intro _; trivial))⟩)
          case measure => simp [intOf]
      · have HI := Lib.hid HH
        clear HH
        by_cases ha : p % 3 = 0
        · by_cases hb : p = 3
          · subst hb
            have ht : (3 : Int) % 3 = 0 → (3 : Int) = 3 := fun _ => rfl
            have HX := Lib.hid ht
            clear ht ha
            go_wp2_with (fail)
            go_round
            case rel => have ht := HX.out; exact .inr (.inr (.inl ⟨by go_num, HI.out, (by first | exact ht | (intro _; trivial))⟩))
            case measure => simp [intOf]
          · have hn : (p == 3) = false := by simpa using hb
            have hn' : (p != 3) = true := by simpa using hb
            have hz : (p % 3 == 0) = true := by simpa using ha
            have HA := Lib.hid ha
            have HB := Lib.hid hb
            clear ha hb
            go_wp2_with (fail)
            go_ret
            exact ⟨ret_bool (by have h1 := HA.out; have h2 := HB.out; simp [fieldB, h1, h2]), rfl⟩
        · have hz : (p % 3 == 0) = false := by simpa using ha
          have ht : p % 3 = 0 → p = 3 := fun h => absurd h ha
          have HX := Lib.hid ht
          clear ht ha
          go_wp2_with (fail)
          go_round
          case rel => have ht := HX.out; exact .inr (.inr (.inl ⟨by go_num, HI.out, (by first | exact ht | (intro _; trivial))⟩))
          case measure => simp [intOf]
      · have HI := Lib.hid HH
        clear HH
        by_cases ha : p % 5 = 0
        · by_cases hb : p = 5
          · subst hb
            have ht : (5 : Int) % 5 = 0 → (5 : Int) = 5 := fun _ => rfl
            have HX := Lib.hid ht
            clear ht ha
            go_wp2_with (fail)
            go_round
            case rel => have ht := HX.out; exact .inr (.inr (.inr (.inl ⟨by go_num, HI.out.1, HI.out.2, (by first | exact ht | (intro _; trivial))⟩)))
            case measure => simp [intOf]
          · have hn : (p == 5) = false := by simpa using hb
            have hn' : (p != 5) = true := by simpa using hb
            have hz : (p % 5 == 0) = true := by simpa using ha
            have HA := Lib.hid ha
            have HB := Lib.hid hb
            clear ha hb
            go_wp2_with (fail)
            go_ret
            exact ⟨ret_bool (by have h1 := HA.out; have h2 := HB.out; simp [fieldB, h1, h2]), rfl⟩
        · have hz : (p % 5 == 0) = false := by simpa using ha
          have ht : p % 5 = 0 → p = 5 := fun h => absurd h ha
          have HX := Lib.hid ht
          clear ht ha
          go_wp2_with (fail)
          go_round
          case rel => have ht := HX.out; exact .inr (.inr (.inr (.inl ⟨by go_num, HI.out.1, HI.out.2, (by first | exact ht | (intro _; trivial))⟩)))
          case measure => simp [intOf]
      · have HI := Lib.hid HH
        clear HH
        by_cases ha : p % 7 = 0
        · by_cases hb : p = 7
          · subst hb
            have ht : (7 : Int) % 7 = 0 → (7 : Int) = 7 := fun _ => rfl
            have HX := Lib.hid ht
            clear ht ha
            go_wp2_with (fail)
            go_round
            case rel => have ht := HX.out; exact .inr (.inr (.inr (.inr (⟨by go_num, HI.out.1, HI.out.2.1, HI.out.2.2, (by first | exact ht | (intro _; trivial))⟩))))
            case measure => simp [intOf]
          · have hn : (p == 7) = false := by simpa using hb
            have hn' : (p != 7) = true := by simpa using hb
            have hz : (p % 7 == 0) = true := by simpa using ha
            have HA := Lib.hid ha
            have HB := Lib.hid hb
            clear ha hb
            go_wp2_with (fail)
            go_ret
            exact ⟨ret_bool (by have h1 := HA.out; have h2 := HB.out; simp [fieldB, h1, h2]), rfl⟩
        · have hz : (p % 7 == 0) = false := by simpa using ha
          have ht : p % 7 = 0 → p = 7 := fun h => absurd h ha
          have HX := Lib.hid ht
          clear ht ha
          go_wp2_with (fail)
          go_round
          case rel => have ht := HX.out; exact .inr (.inr (.inr (.inr (⟨by go_num, HI.out.1, HI.out.2.1, HI.out.2.2, (by first | exact ht | (intro _; trivial))⟩))))
          case measure => simp [intOf]
      · have HI := Lib.hid HH
        clear HH
        go_wp2_with (fail)
        go_ret
        exact ⟨ret_bool (by have h : fieldB p = true := by (simp only [fieldB, decide_eq_true_eq]; exact ⟨h2, h97, HI.out⟩)
                            exact h.symm), rfl⟩
  · go_enter Tryd.func101, Tryd.ntmps101
    by_cases hlt : p < 2
    · go_wp2_with (fail)
      go_ret
      exact ⟨ret_bool (by simp [fieldB]; omega), rfl⟩
    · have hgt : 97 < p := by omega
      go_wp2_with (fail)
      go_ret
      exact ⟨ret_bool (by simp [fieldB]; omega), rfl⟩

set_option maxHeartbeats 400000 in
theorem isVector_any (p : Int) (A : Option Addr) (c : Nat) (l : List Int) (n : Int) (w : World) (h : RdI w A l) (hl : l.length ≤ 17592186044416) :
    Calls Tryd.prog 64 #[.int .i64 p, .slice A l.length c, .int .i64 n] w fun e w' => e = .returned (.bool (decide ((l.length : Int) = n) && inB 0 (p - 1) l)) ∧ w = w' := by
  by_cases hlen : (l.length : Int) = n
  · have h0 : ((l.length : Int) != n) = false := by simp [hlen]
    have HN := Lib.hid hlen
    clear hlen
    go_enter Tryd.func64, Tryd.ntmps64
    go_wp2_with (fail)
    go_loop [15] (fun i => ∃ k : Nat, k ≤ l.length ∧ i = .int .i64 k ∧ inB 0 (p - 1) (l.take k) = true) (fun i => l.length - (intOf i).toNat)
    case atStart => exact ⟨0, Nat.zero_le _, rfl, rfl⟩
    case round =>
      obtain ⟨k, hk, rfl, ht⟩ := hrel
      have HT := Lib.hid ht
      clear ht h0
      by_cases hlt : k < l.length
      · obtain ⟨ad, x, rfl, hx, hc⟩ := h.at_ hlt
        have HX := Lib.hid hx
        clear hx h
        by_cases hin : 0 ≤ x ∧ x ≤ p - 1
        · have hd : (decide (0 ≤ x) && decide (x ≤ p - 1)) = true := by simp [hin.1, hin.2]
          go_wp2_with (go_at_call 116; refine (isElement_any _ _ _).mono ?_; rintro e w' ⟨rfl, rfl⟩)
          go_round
          case rel => exact ⟨k + 1, by omega, by go_num, by rw [inB_take_succ HX.out, HT.out]; simp [hin.1, hin.2]⟩
          case measure => simp [intOf]; omega
        · have hd : (decide (0 ≤ x) && decide (x ≤ p - 1)) = false := by rw [Bool.eq_false_iff]; intro h; apply hin; simpa using h
          clear hin
          go_wp2_with (go_at_call 116; refine (isElement_any _ _ _).mono ?_; rintro e w' ⟨rfl, rfl⟩)
          go_ret
          exact ⟨ret_bool (by rw [inB_false_of HX.out (fun h => by simp [h.1, h.2] at hd)]; simp), rfl⟩
      · obtain rfl : k = l.length := by omega
        clear h
        go_wp2_with (fail)
        go_ret
        exact ⟨ret_bool (by have := HT.out; rw [List.take_of_length_le (Nat.le_refl _)] at this; simp [this, HN.out]), rfl⟩
  · have h0 : ((l.length : Int) != n) = true := by simp [hlen]
    go_enter Tryd.func64, Tryd.ntmps64
    go_wp2_with (fail)
    go_ret
    exact ⟨ret_bool (by simp [hlen]), rfl⟩

set_option maxHeartbeats 400000 in
theorem l1All_any (A : Option Addr) (c : Nat) (l : List Int) (lo hi : Int) (w : World) (h : RdI w A l) (hl : l.length ≤ 17592186044416) :
    Calls Tryd.prog 111 #[.slice A l.length c, .int .i64 lo, .int .i64 hi] w fun e w' => e = .returned (.bool (inB lo hi l)) ∧ w = w' := by
  go_enter Tryd.func111, Tryd.ntmps111
  go_wp2_with (fail)
  go_loop [11] (fun i => ∃ k : Nat, k ≤ l.length ∧ i = .int .i64 k ∧ inB lo hi (l.take k) = true) (fun i => l.length - (intOf i).toNat)
  case atStart => exact ⟨0, Nat.zero_le _, rfl, rfl⟩
  case round =>
    obtain ⟨k, hk, rfl, ht⟩ := hrel
    have HT := Lib.hid ht
    clear ht
    by_cases hlt : k < l.length
    · obtain ⟨ad, x, rfl, hx, hc⟩ := h.at_ hlt
      have HX := Lib.hid hx
      clear hx h
      by_cases hin : lo ≤ x ∧ x ≤ hi
      · have hd : (decide (lo ≤ x) && decide (x ≤ hi)) = true := by simp [hin.1, hin.2]
        go_wp2_with (go_at_call 96; refine (l1In_any _ _ _ _).mono ?_; rintro e w' ⟨rfl, rfl⟩)
        go_round
        case rel => exact ⟨k + 1, by omega, by go_num, by rw [inB_take_succ HX.out, HT.out]; simp [hin.1, hin.2]⟩
        case measure => simp [intOf]; omega
      · have hd : (decide (lo ≤ x) && decide (x ≤ hi)) = false := by rw [Bool.eq_false_iff]; intro h; apply hin; simpa using h
        clear hin
        go_wp2_with (go_at_call 96; refine (l1In_any _ _ _ _).mono ?_; rintro e w' ⟨rfl, rfl⟩)
        go_ret
        exact ⟨ret_bool (by rw [inB_false_of HX.out (fun h => by simp [h.1, h.2] at hd)]), rfl⟩
    · obtain rfl : k = l.length := by omega
      clear h
      go_wp2_with (fail)
      go_ret
      exact ⟨ret_bool (by have := HT.out; rw [List.take_of_length_le (Nat.le_refl _)] at this; simp [this]), rfl⟩

set_option maxHeartbeats 400000 in
theorem fdIn_any (p : Int) (A : Option Addr) (c : Nat) (l : List Int) (w : World) (h : RdI w A l) (hl : l.length ≤ 17592186044416) (hp : 0 ≤ p) (hp' : p ≤ 97) :
    Calls Tryd.prog 56 #[.int .i64 p, .slice A l.length c] w fun e w' => e = .returned (.bool (inB 0 (p - 1) l)) ∧ w = w' := by
  go_enter Tryd.func56, Tryd.ntmps56
  go_wp2_with (go_at_call 111; refine (l1All_any _ _ _ _ _ _ h hl).mono ?_; rintro e w' ⟨rfl, rfl⟩)
  go_ret
  exact ⟨rfl, rfl⟩
end Go.Proofs.YtahnhblodfdfhaaDoor
