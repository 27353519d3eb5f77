/-
  PolyEval on both sides.
-/
import Derived.Test.YtbgofkalanigfaaDoorPolyL
import Derived.Test.YtbgofkalanigfaaDoorPolyK
namespace Go.Proofs.YtbgofkalanigfaaDoor
open Go.RowKit

theorem are1_any (p : Int) (A : Option Addr) (ca : Nat) (f : List Int) (w : World) (h1 : RdI w A f) (hl1 : f.length ≤ 17592186044416) (hT : Tab w) :
    Calls Tryd.prog 32 #[.int .i64 p, .slice (some ⟨w.heap.size, 0, none⟩) 1 1] (w.alloc (.cells #[.slice A f.length ca] 22)) fun e w' => e = .returned (.bool (polyB p f)) ∧ Below w.heap.size w w' := by
  have hb : Below w.heap.size w (w.alloc (.cells #[.slice A f.length ca] 22)) := (Below.refl _ _).alloc (Nat.le_refl _) _
  refine (arePolys_any p (some ⟨w.heap.size, 0, none⟩) 1 [(A, ca, f)] _ (Sl.laid w 22 1 1 #[.slice A f.length ca] (by unfold maxLen; omega) rfl) ?_ (by simp) (hT.below hb hT.lt)).mono ?_
  · intro h hh
    simp at hh
    subst hh
    exact ⟨h1.below hb, hl1⟩
  · rintro e w' ⟨rfl, rfl⟩
    refine ⟨ret_bool ?_, hb⟩
    simp only [List.all_cons, List.all_nil, Bool.and_true]
    by_cases hf : polyB p f = true
    · simp [hf, (polyB_spec hf).1]
    · have : polyB p f = false := by simpa using hf
      simp [this]

theorem drop_rev {f : List Int} {m : Nat} {a : Int} (h : f[m]? = some a) : (f.drop m).reverse = (f.drop (m + 1)).reverse ++ [a] := by
  have hl : m < f.length := (List.getElem?_eq_some_iff.1 h).1
  rw [List.drop_eq_getElem_cons hl, List.reverse_cons]
  congr 2
  rw [List.getElem?_eq_getElem hl] at h
  exact Option.some.inj h

set_option maxHeartbeats 1000000 in
theorem poEval_any (p x : Int) (A : Option Addr) (ca : Nat) (f : List Int) (w : World) (hA : RdI w A f) (hl : f.length ≤ 1048576) (h0 : 0 < p) (h97 : p ≤ 97) (hf : Res p f) (hx0 : 0 ≤ x) (hx1 : x < p) :
    Calls Tryd.prog 31 #[.int .i64 p, .slice A f.length ca, .int .i64 x] w fun e w' => e = .returned (.int .i64 (evM p x f)) ∧ Below w.heap.size w w' := by
  go_enter Tryd.func31, Tryd.ntmps31
  go_wp2_with (fail)
  go_loopw [7, 8] (fun o i wr => ∃ (m : Nat) (z : Int), m ≤ f.length ∧ i = .int .i64 ((m : Int) - 1) ∧ o = .int .i64 z ∧ z = evS p x (f.drop m).reverse ∧ Below w.heap.size w wr) (fun _ i _ => (intOf i + 1).toNat)
  case atStart => exact ⟨f.length, 0, Nat.le_refl _, rfl, rfl, by rw [List.drop_length]; rfl, Below.refl _ _⟩
  case round =>
    obtain ⟨m, z, hm, rfl, rfl, hz, hb⟩ := hrel
    rcases m with _ | m
    · have hz' : z = evM p x f := hz
      subst hz'
      clear hz
      go_wp2_with (fail)
      go_ret
      exact ⟨rfl, hb⟩
    · obtain ⟨ad, a, rfl, ha, hc⟩ := (hA.below hb).at_ (j := m) (by omega)
      have hab := hf a (List.mem_of_getElem? ha)
      have hzb := evS_bounds (x := x) h0 (f.drop (m + 1)).reverse
      rw [← hz] at hzb
      have hnew : (z * x + a) % p = evS p x (f.drop m).reverse := by rw [drop_rev ha, evS_snoc, ← hz]
      have hmb := mul_bound (a := z) (b := x) hzb.1 (by omega) hx0 (by omega)
      have c1 := stillC (fdMul_any p z x wr.drew h0 hzb.1 (by omega) hx0 (by omega))
      have q1 := Int.emod_nonneg (z * x) (show p ≠ 0 by omega)
      have q2 := Int.emod_lt_of_pos (z * x) h0
      have c2 := stillC (fdAdd_any p (z * x % p) a wr.drew h0 (by omega) (by omega) (by omega) (by omega))
      have HN := Lib.hid hnew
      have C1 := Lib.hid c1
      have C2 := Lib.hid c2
      have b4 : (m : Int) < (f.length : Int) := by omega
      have b1 : (0 : Int) ≤ (m : Int) := by omega
      have b3 : ((m : Int)).toNat = m := by omega
      clear hz hnew c1 c2 ha hmb q1 q2
      have e1 : (((m + 1 : Nat) : Int) - 1) = (m : Int) := by omega
      rw [e1]
      clear e1
      go_wp2_with (fail)
      refine wp_region_still_tail 10 (by kernel_rfl) (by kernel_rfl) ?_
      simp only [List.take_succ_cons, List.take_zero, List.drop_succ_cons, List.drop_zero]
      change wpStill _ _ wr.drew (fun a' => wpList _ _ _ _ a' wr.drew) _ _
      repeat still_step
      still_call C1.out
      repeat still_step
      still_call C2.out
      repeat still_step
      refine wpStill_nil ?_
      go_wp2_with (fail)
      go_roundw
      case rel => exact ⟨m, (z * x + a) % p, by omega, by go_num, by simp, HN.out, hb.trans (below_drewN (Below.refl _ _) 1)⟩
      case measure => simp [intOf]

theorem polyEval_any (p x : Int) (A : Option Addr) (ca : Nat) (f : List Int) (w : World) (hA : RdI w A f) (hl : f.length ≤ 1048576) (h0 : 0 < p) (h97 : p ≤ 97) (hf : Res p f) (hx0 : 0 ≤ x) (hx1 : x < p) :
    Calls Tryd.prog 34 #[.int .i64 p, .slice A f.length ca, .int .i64 x] w fun e w' => e = .returned (.int .i64 (evM p x f)) ∧ Below w.heap.size w w' :=
  (callsIn_wide (n := 3)).1 (polyEval_in Fence.wide 3 trivial trivial trivial rfl (Nat.le_refl _) p x A ca f w hA hl h0 h97 (fun a ha => by have := hf a ha; omega) hx0 hx1)

/-- What PolyEval returns. -/
def mPolyEval (p x : Int) (f : List Int) : Int × Bool := if polyB p f && (decide (0 ≤ x) && decide (x ≤ p - 1)) then (evM p x f, true) else (0, false)

set_option maxHeartbeats 400000 in
theorem sPolyEval_law (p x : Int) {v1 : Value} {f : List Int} {w : World} (h1 : RdIV w v1 f) (hl1 : f.length ≤ 1048576) :
    Calls Tryd.prog 14 #[.int .i64 p, v1, .int .i64 x] w fun e w' => e = .returned (.tuple #[.int .i64 (mPolyEval p x f).1, .bool (mPolyEval p x f).2]) ∧ Below w.heap.size w w' := by
  obtain ⟨A, ca, rfl, h1⟩ := h1
  by_cases hf : polyB p f = true
  · obtain ⟨hp, _, hfb, hfl⟩ := polyB_spec hf
    have hpb := fieldB_bounds hp
    by_cases hx : (decide (0 ≤ x) && decide (x ≤ p - 1)) = true
    · have em : mPolyEval p x f = (evM p x f, true) := by unfold mPolyEval; rw [hf, hx]; rfl
      have hx' : 0 ≤ x ∧ x ≤ p - 1 := by simpa using hx
      rw [em]
      clear em hfl
      go_enter Tryd.func14, Tryd.ntmps14
      go_wp2_with (fail)
      refine (poGood_any _ _ _ _ _ h1 (by omega)).mono ?_; rintro e w' ⟨rfl, rfl⟩
      go_wp2_with (fail)
      refine (l1In_any _ _ _ _).mono ?_; rw [hx]; rintro e w' ⟨rfl, rfl⟩
      go_wp2_with (fail)
      refine (poEval_any p x A ca f w h1 hl1 (by omega) (by omega) hfb (by omega) (by omega)).mono ?_
      rintro e w2 ⟨rfl, hb⟩
      go_wp2_with (fail)
      go_ret2
      exact ⟨rfl, hb⟩
    · have hx' : (decide (0 ≤ x) && decide (x ≤ p - 1)) = false := by simpa using hx
      have em : mPolyEval p x f = (0, false) := by unfold mPolyEval; rw [hx']; simp
      rw [em]
      clear em hfl hx
      go_enter Tryd.func14, Tryd.ntmps14
      go_wp2_with (fail)
      refine (poGood_any _ _ _ _ _ h1 (by omega)).mono ?_; rintro e w' ⟨rfl, rfl⟩
      go_wp2_with (fail)
      refine (l1In_any _ _ _ _).mono ?_; rw [hx']; rintro e w' ⟨rfl, rfl⟩
      clear hx'
      go_wp2_with (fail)
      go_ret2
      exact ⟨rfl, Below.refl _ _⟩
  · have hf' : polyB p f = false := by simpa using hf
    have em : mPolyEval p x f = (0, false) := by unfold mPolyEval; rw [hf']; rfl
    rw [em]
    clear em hf
    go_enter Tryd.func14, Tryd.ntmps14
    go_wp2_with (fail)
    refine (poGood_any _ _ _ _ _ h1 (by omega)).mono ?_; rintro e w' ⟨rfl, rfl⟩
    go_wp2_with (fail)
    go_ret2
    exact ⟨rfl, Below.refl _ _⟩

set_option maxHeartbeats 400000 in
theorem iPolyEval_law (p x : Int) {v1 : Value} {f : List Int} {w : World} (h1 : RdIV w v1 f) (hl1 : f.length ≤ 1048576) (hT : Tab w) :
    Calls Tryd.prog 15 #[.int .i64 p, v1, .int .i64 x] w fun e w' => e = .returned (.tuple #[.int .i64 (mPolyEval p x f).1, .bool (mPolyEval p x f).2]) ∧ Below w.heap.size w w' := by
  obtain ⟨A, ca, rfl, h1⟩ := h1
  by_cases hf : polyB p f = true
  · obtain ⟨hp, _, hfb, hfl⟩ := polyB_spec hf
    have hpb := fieldB_bounds hp
    by_cases hx : (decide (0 ≤ x) && decide (x ≤ p - 1)) = true
    · have em : mPolyEval p x f = (evM p x f, true) := by unfold mPolyEval; rw [hf, hx]; rfl
      have hx' : 0 ≤ x ∧ x ≤ p - 1 := by simpa using hx
      rw [em]
      clear em hfl
      go_enter Tryd.func15, Tryd.ntmps15
      go_wp2_with (fail)
      refine (are1_any p A ca f w h1 (by omega) hT).mono ?_
      rintro e w1 ⟨rfl, hb1⟩
      go_wp2_with (fail)
      refine (isElement_any _ _ _).mono ?_; rw [hx]; rintro e w' ⟨rfl, rfl⟩
      go_wp2_with (fail)
      refine (polyEval_any p x A ca f w1 (h1.below hb1) hl1 (by omega) (by omega) hfb (by omega) (by omega)).mono ?_
      rintro e w2 ⟨rfl, hb⟩
      go_wp2_with (fail)
      go_ret2
      exact ⟨rfl, below_trans hb1 hb hb1.size⟩
    · have hx' : (decide (0 ≤ x) && decide (x ≤ p - 1)) = false := by simpa using hx
      have em : mPolyEval p x f = (0, false) := by unfold mPolyEval; rw [hx']; simp
      rw [em]
      clear em hfl hx
      go_enter Tryd.func15, Tryd.ntmps15
      go_wp2_with (fail)
      refine (are1_any p A ca f w h1 (by omega) hT).mono ?_
      rintro e w1 ⟨rfl, hb1⟩
      go_wp2_with (fail)
      refine (isElement_any _ _ _).mono ?_; rw [hx']; rintro e w' ⟨rfl, rfl⟩
      clear hx'
      go_wp2_with (fail)
      go_ret2
      exact ⟨rfl, hb1⟩
  · have hf' : polyB p f = false := by simpa using hf
    have em : mPolyEval p x f = (0, false) := by unfold mPolyEval; rw [hf']; rfl
    rw [em]
    clear em hf
    go_enter Tryd.func15, Tryd.ntmps15
    go_wp2_with (fail)
    refine (are1_any p A ca f w h1 (by omega) hT).mono ?_
    rintro e w1 ⟨rfl, hb1⟩
    go_wp2_with (fail)
    go_ret2
    exact ⟨rfl, hb1⟩
end Go.Proofs.YtbgofkalanigfaaDoor
