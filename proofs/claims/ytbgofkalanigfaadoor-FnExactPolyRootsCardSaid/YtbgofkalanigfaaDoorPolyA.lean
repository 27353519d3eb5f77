/-
  poGood (the reference), isPoly, arePolys (the program): all three test 'a polynomial over the field p'.
-/
import Derived.Test.YtbgofkalanigfaaDoorField
namespace Go.Proofs.YtbgofkalanigfaaDoor
open Go.RowKit

/-- p is a field and l the coefficients of a polynomial over it. -/
def polyB (p : Int) (l : List Int) : Bool := fieldB p && (decide (l.length ≤ 41) && (inB 0 (p - 1) l && !decide (l.getLast? = some 0)))

theorem getLast?_eq_get {l : List Int} : l.getLast? = l[l.length - 1]? := List.getLast?_eq_getElem?

/-- What the last test needs. -/
theorem RdI.last {w : World} {A : Option Addr} {l : List Int} (h : RdI w A l) (hl : 0 < l.length) : ∃ ad x, A = some ad ∧ l.getLast? = some x ∧ w.cell? (ad.add (l.length - 1)) = some (.int .i64 x) := by
  obtain ⟨ad, x, hA, hx, hc⟩ := h.at_ (j := l.length - 1) (by omega)
  exact ⟨ad, x, hA, by rw [getLast?_eq_get]; exact hx, hc⟩

set_option maxHeartbeats 400000 in
theorem poGood_any (p : Int) (A : Option Addr) (c : Nat) (l : List Int) (w : World) (h : RdI w A l) (hl : l.length ≤ 17592186044416) :
    Calls Tryd.prog 28 #[.int .i64 p, .slice A l.length c] w fun e w' => e = .returned (.bool (polyB p l)) ∧ w = w' := by
  by_cases hf : fieldB p = true
  · have hp := fieldB_bounds hf
    by_cases h41 : l.length ≤ 41
    · have h41' : (decide ((l.length : Int) ≤ 41)) = true := by simp; omega
      by_cases hin : inB 0 (p - 1) l = true
      · by_cases h0 : l.length = 0
        · have hl0 : ((l.length : Int) == 0) = true := by simp [h0]
          have H0 := Lib.hid h0
          clear h0
          go_enter Tryd.func28, Tryd.ntmps28
          go_wp2_with (first | (go_at_call 46; refine (fdGood_any _ _).mono ?_; rintro e w' ⟨rfl, rfl⟩) | (go_at_call 47; refine (fdIn_any _ _ _ _ _ h hl (by omega) (by omega)).mono ?_; rintro e w' ⟨rfl, rfl⟩))
          go_ret
          exact ⟨ret_bool (by have : l = [] := List.eq_nil_of_length_eq_zero H0.out
                              simp [polyB, hf, this, inB]), rfl⟩
        · have hl0 : ((l.length : Int) == 0) = false := by rw [beq_eq_false_iff_ne]; omega
          obtain ⟨ad, x, rfl, hx, hc⟩ := h.last (by omega)
          have hpos : 0 < l.length := by omega
          have HX := Lib.hid hx
          clear hx
          by_cases hx0 : x = 0
          · have hx0' : (x != 0) = false := by simp [hx0]
            have HX0 := Lib.hid hx0
            clear hx0
            go_enter Tryd.func28, Tryd.ntmps28
            go_wp2_with (first | (go_at_call 46; refine (fdGood_any _ _).mono ?_; rintro e w' ⟨rfl, rfl⟩) | (go_at_call 47; refine (fdIn_any _ _ _ _ _ h hl (by omega) (by omega)).mono ?_; rintro e w' ⟨rfl, rfl⟩))
            go_ret
            exact ⟨ret_bool (by have h1 := HX.out; have h2 := HX0.out; simp [polyB, h1, h2]), rfl⟩
          · have hx0' : (x != 0) = true := by simp [hx0]
            go_enter Tryd.func28, Tryd.ntmps28
            go_wp2_with (first | (go_at_call 46; refine (fdGood_any _ _).mono ?_; rintro e w' ⟨rfl, rfl⟩) | (go_at_call 47; refine (fdIn_any _ _ _ _ _ h hl (by omega) (by omega)).mono ?_; rintro e w' ⟨rfl, rfl⟩))
            go_ret
            exact ⟨ret_bool (by have h1 := HX.out; simp [polyB, h1, hx0, hf, hin, h41]), rfl⟩
      · have hin' : inB 0 (p - 1) l = false := by simpa using hin
        go_enter Tryd.func28, Tryd.ntmps28
        go_wp2_with (first | (go_at_call 46; refine (fdGood_any _ _).mono ?_; rintro e w' ⟨rfl, rfl⟩) | (go_at_call 47; refine (fdIn_any _ _ _ _ _ h hl (by omega) (by omega)).mono ?_; rintro e w' ⟨rfl, rfl⟩))
        go_ret
        exact ⟨ret_bool (by simp [polyB, hin']), rfl⟩
    · have h41' : (decide ((l.length : Int) ≤ 41)) = false := by simp; omega
      go_enter Tryd.func28, Tryd.ntmps28
      go_wp2_with (first | (go_at_call 46; refine (fdGood_any _ _).mono ?_; rintro e w' ⟨rfl, rfl⟩))
      go_ret
      exact ⟨ret_bool (by simp [polyB, h41]), rfl⟩
  · have hf' : fieldB p = false := by simpa using hf
    go_enter Tryd.func28, Tryd.ntmps28
    go_wp2_with (first | (go_at_call 46; refine (fdGood_any _ _).mono ?_; rintro e w' ⟨rfl, rfl⟩))
    go_ret
    exact ⟨ret_bool (by simp [polyB, hf']), rfl⟩
set_option maxHeartbeats 400000 in
theorem isPoly_any (p : Int) (A : Option Addr) (c : Nat) (l : List Int) (w : World) (h : RdI w A l) (hl : l.length ≤ 17592186044416) (hT : Tab w) :
    Calls Tryd.prog 29 #[.int .i64 p, .slice A l.length c] w fun e w' => e = .returned (.bool (polyB p l)) ∧ w = w' := by
  by_cases hf : fieldB p = true
  · by_cases h41 : l.length ≤ 41
    · have h41' : (decide ((l.length : Int) ≤ 41)) = true := by simp; omega
      by_cases hin : inB 0 (p - 1) l = true
      · by_cases h0 : l.length = 0
        · have hl0 : ((l.length : Int) == 0) = true := by simp [h0]
          have H0 := Lib.hid h0
          clear h0
          go_enter Tryd.func29, Tryd.ntmps29
          go_wp2_with (first | (go_at_call 48; refine (isField_any _ _ hT).mono ?_; rintro e w' ⟨rfl, rfl⟩) | (go_at_call 49; refine (isVector_any _ _ _ _ _ _ h hl).mono ?_; rintro e w' ⟨rfl, rfl⟩))
          go_ret
          exact ⟨ret_bool (by have : l = [] := List.eq_nil_of_length_eq_zero H0.out
                              simp [polyB, hf, this, inB]), rfl⟩
        · have hl0 : ((l.length : Int) == 0) = false := by rw [beq_eq_false_iff_ne]; omega
          obtain ⟨ad, x, rfl, hx, hc⟩ := h.last (by omega)
          have hpos : 0 < l.length := by omega
          have HX := Lib.hid hx
          clear hx
          by_cases hx0 : x = 0
          · have hx0' : (x != 0) = false := by simp [hx0]
            have HX0 := Lib.hid hx0
            clear hx0
            go_enter Tryd.func29, Tryd.ntmps29
            go_wp2_with (first | (go_at_call 48; refine (isField_any _ _ hT).mono ?_; rintro e w' ⟨rfl, rfl⟩) | (go_at_call 49; refine (isVector_any _ _ _ _ _ _ h hl).mono ?_; rintro e w' ⟨rfl, rfl⟩))
            go_ret
            exact ⟨ret_bool (by have h1 := HX.out; have h2 := HX0.out; simp [polyB, h1, h2]), rfl⟩
          · have hx0' : (x != 0) = true := by simp [hx0]
            go_enter Tryd.func29, Tryd.ntmps29
            go_wp2_with (first | (go_at_call 48; refine (isField_any _ _ hT).mono ?_; rintro e w' ⟨rfl, rfl⟩) | (go_at_call 49; refine (isVector_any _ _ _ _ _ _ h hl).mono ?_; rintro e w' ⟨rfl, rfl⟩))
            go_ret
            exact ⟨ret_bool (by have h1 := HX.out; simp [polyB, h1, hx0, hf, hin, h41]), rfl⟩
      · have hin' : inB 0 (p - 1) l = false := by simpa using hin
        go_enter Tryd.func29, Tryd.ntmps29
        go_wp2_with (first | (go_at_call 48; refine (isField_any _ _ hT).mono ?_; rintro e w' ⟨rfl, rfl⟩) | (go_at_call 49; refine (isVector_any _ _ _ _ _ _ h hl).mono ?_; rintro e w' ⟨rfl, rfl⟩))
        go_ret
        exact ⟨ret_bool (by simp [polyB, hin']), rfl⟩
    · have h41' : (decide ((l.length : Int) ≤ 41)) = false := by simp; omega
      go_enter Tryd.func29, Tryd.ntmps29
      go_wp2_with (first | (go_at_call 48; refine (isField_any _ _ hT).mono ?_; rintro e w' ⟨rfl, rfl⟩))
      go_ret
      exact ⟨ret_bool (by simp [polyB, h41]), rfl⟩
  · have hf' : fieldB p = false := by simpa using hf
    go_enter Tryd.func29, Tryd.ntmps29
    go_wp2_with (first | (go_at_call 48; refine (isField_any _ _ hT).mono ?_; rintro e w' ⟨rfl, rfl⟩))
    go_ret
    exact ⟨ret_bool (by simp [polyB, hf']), rfl⟩
end Go.Proofs.YtbgofkalanigfaaDoor
