/-
  PolyMul on both sides.
-/
import Derived.Test.YtbgofkalanigfaaDoorPolyF
namespace Go.Proofs.YtbgofkalanigfaaDoor
open Go.RowKit

set_option maxHeartbeats 400000 in
theorem poIf_any (A : Option Addr) (c : Nat) (l : List Int) (w : World) :
    Calls Tryd.prog 37 #[.slice A l.length c] w fun e w' => e = .returned (if l.length ≤ 41 then .tuple #[.slice A l.length c, .bool true] else .tuple #[.slice none 0 0, .bool false]) ∧ w = w' := by
  by_cases h : l.length ≤ 41
  · have h' : ¬ (41 < (l.length : Int)) := by omega
    rw [if_pos h]
    go_enter Tryd.func37, Tryd.ntmps37
    go_wp2_with (fail)
    go_ret2
    exact ⟨rfl, rfl⟩
  · have h' : 41 < (l.length : Int) := by omega
    rw [if_neg h]
    go_enter Tryd.func37, Tryd.ntmps37
    go_wp2_with (fail)
    go_ret2
    exact ⟨rfl, rfl⟩
set_option maxHeartbeats 400000 in
theorem degree_any (A : Option Addr) (c : Nat) (n : Nat) (w : World) (hn : n ≤ 17592186044416) :
    Calls Tryd.prog 58 #[.slice A n c] w fun e w' => e = .returned (.int .i64 ((n : Int) - 1)) ∧ w = w' := by
  go_enter Tryd.func58, Tryd.ntmps58
  go_wp2_with (fail)
  go_ret
  exact ⟨rfl, rfl⟩
set_option maxHeartbeats 400000 in
theorem validPoly_any (A : Option Addr) (c : Nat) (l : List Int) (w : World) (hl : l.length ≤ 17592186044416) :
    Calls Tryd.prog 39 #[.slice A l.length c] w fun e w' => e = .returned (if l.length ≤ 41 then .tuple #[.slice A l.length c, .bool true] else .tuple #[.slice none 0 0, .bool false]) ∧ w = w' := by
  by_cases h : l.length ≤ 41
  · have h' : ¬ (40 < (l.length : Int) - 1) := by omega
    rw [if_pos h]
    go_enter Tryd.func39, Tryd.ntmps39
    go_wp2_with (go_at_call 58; refine (degree_any _ _ _ _ hl).mono ?_; rintro e w' ⟨rfl, rfl⟩)
    go_ret2
    exact ⟨rfl, rfl⟩
  · have h' : 40 < (l.length : Int) - 1 := by omega
    rw [if_neg h]
    go_enter Tryd.func39, Tryd.ntmps39
    go_wp2_with (go_at_call 58; refine (degree_any _ _ _ _ hl).mono ?_; rintro e w' ⟨rfl, rfl⟩)
    go_ret2
    exact ⟨rfl, rfl⟩

/-- What PolyMul returns. -/
def mPolyMul (p : Int) (f g : List Int) : List Int × Bool := if polyB p f && polyB p g then (if (mulM p f g).length ≤ 41 then (mulM p f g, true) else ([], false)) else ([], false)
theorem mPolyMul_len (p : Int) (f g : List Int) : (mPolyMul p f g).1.length ≤ 100 := by
  unfold mPolyMul
  split
  · split
    · rename_i h; show (mulM p f g).length ≤ 100; omega
    · simp
  · simp
theorem mulM_le (p : Int) (f g : List Int) (hf : f.length ≤ 1048576 := by omega) (hg : g.length ≤ 1048576 := by omega) : (mulM p f g).length ≤ 2097152 := by
  unfold mulM
  split
  · simp
  · rename_i h
    rw [mulTo_length p f g (by omega) _ (Nat.le_refl _)]; omega

set_option maxHeartbeats 400000 in
theorem sPolyMul_law (p : Int) {v1 v2 : Value} {f g : List Int} {w : World} (h1 : RdIV w v1 f) (h2 : RdIV w v2 g) (hl1 : f.length ≤ 1048576) (hl2 : g.length ≤ 1048576) :
    Calls Tryd.prog 22 #[.int .i64 p, v1, v2] w fun e w' => ∃ v fp, e = .returned (.tuple #[v, .bool (mPolyMul p f g).2]) ∧ OwI w' v (mPolyMul p f g).1 fp ∧ FreshL w.heap.size fp ∧ Below w.heap.size w w' := by
  obtain ⟨A, ca, rfl, h1⟩ := h1
  obtain ⟨B, cb, rfl, h2⟩ := h2
  by_cases hfg : (polyB p f && polyB p g) = true
  · have em : mPolyMul p f g = (if (mulM p f g).length ≤ 41 then (mulM p f g, true) else ([], false)) := by unfold mPolyMul; rw [if_pos hfg]
    have hf : polyB p f = true := by simp only [Bool.and_eq_true] at hfg; exact hfg.1
    have hg : polyB p g = true := by simp only [Bool.and_eq_true] at hfg; exact hfg.2
    obtain ⟨hp, _, hfb, hfl⟩ := polyB_spec hf
    obtain ⟨_, _, hgb, hgl⟩ := polyB_spec hg
    have hpb := fieldB_bounds hp
    have htr : 0 < f.length → 0 < g.length → trimZ (mulTo p f g f.length) = mulTo p f g f.length := fun a b => mulM_trim hp hfb hgb hfl hgl a b
    by_cases h41 : (mulM p f g).length ≤ 41
    · rw [em, if_pos h41]
      have HTR := Lib.hid htr
      clear em hfl hgl htr
      go_enter Tryd.func22, Tryd.ntmps22
      go_wp2_with (fail)
      refine (poGood_any _ _ _ _ _ h1 (by omega)).mono ?_; rintro e w' ⟨rfl, rfl⟩
      go_wp2_with (fail)
      refine (poGood_any _ _ _ _ _ h2 (by omega)).mono ?_; rintro e w' ⟨rfl, rfl⟩
      go_wp2_with (fail)
      refine (poMul_any p A B ca cb f g w h1 h2 hl1 hl2 (by omega) (by omega) hfb hgb).mono ?_
      rintro e w2 ⟨A1, c1, rfl, ho, hfr, hb⟩
      go_wp2_with (fail)
      refine (poIf_any A1 c1 (mulM p f g) w2).mono ?_
      rw [if_pos h41]
      rintro e w' ⟨rfl, rfl⟩
      go_wp2_with (fail)
      go_ret2
      exact ⟨_, _, rfl, ⟨A1, c1, rfl, ho, rfl⟩, hfr, hb⟩
    · rw [em, if_neg h41]
      have HTR := Lib.hid htr
      clear em hfl hgl htr
      go_enter Tryd.func22, Tryd.ntmps22
      go_wp2_with (fail)
      refine (poGood_any _ _ _ _ _ h1 (by omega)).mono ?_; rintro e w' ⟨rfl, rfl⟩
      go_wp2_with (fail)
      refine (poGood_any _ _ _ _ _ h2 (by omega)).mono ?_; rintro e w' ⟨rfl, rfl⟩
      go_wp2_with (fail)
      refine (poMul_any p A B ca cb f g w h1 h2 hl1 hl2 (by omega) (by omega) hfb hgb).mono ?_
      rintro e w2 ⟨A1, c1, rfl, ho, hfr, hb⟩
      go_wp2_with (fail)
      refine (poIf_any A1 c1 (mulM p f g) w2).mono ?_
      rw [if_neg h41]
      rintro e w' ⟨rfl, rfl⟩
      go_wp2_with (fail)
      go_ret2
      exact ⟨_, _, rfl, OwI.none_ _, FreshL.nil _, hb⟩
  · have hfg' : (polyB p f && polyB p g) = false := by simpa using hfg
    have em : mPolyMul p f g = ([], false) := by unfold mPolyMul; rw [hfg']; rfl
    rw [em]
    clear em hfg
    by_cases hf : polyB p f = true
    · have hg : polyB p g = false := by simpa [hf] using hfg'
      clear hfg'
      go_enter Tryd.func22, Tryd.ntmps22
      go_wp2_with (fail)
      refine (poGood_any _ _ _ _ _ h1 (by omega)).mono ?_; rintro e w' ⟨rfl, rfl⟩
      go_wp2_with (fail)
      refine (poGood_any _ _ _ _ _ h2 (by omega)).mono ?_; rintro e w' ⟨rfl, rfl⟩
      go_wp2_with (fail)
      go_ret2
      exact ⟨_, _, rfl, OwI.none_ _, FreshL.nil _, Below.refl _ _⟩
    · have hf' : polyB p f = false := by simpa using hf
      clear hfg'
      go_enter Tryd.func22, Tryd.ntmps22
      go_wp2_with (fail)
      refine (poGood_any _ _ _ _ _ h1 (by omega)).mono ?_; rintro e w' ⟨rfl, rfl⟩
      go_wp2_with (fail)
      go_ret2
      exact ⟨_, _, rfl, OwI.none_ _, FreshL.nil _, Below.refl _ _⟩

set_option maxHeartbeats 400000 in
theorem iPolyMul_law (p : Int) {v1 v2 : Value} {f g : List Int} {w : World} (h1 : RdIV w v1 f) (h2 : RdIV w v2 g) (hl1 : f.length ≤ 1048576) (hl2 : g.length ≤ 1048576) (hT : Tab w) :
    Calls Tryd.prog 23 #[.int .i64 p, v1, v2] w fun e w' => ∃ v fp, e = .returned (.tuple #[v, .bool (mPolyMul p f g).2]) ∧ OwI w' v (mPolyMul p f g).1 fp ∧ FreshL w.heap.size fp ∧ Below w.heap.size w w' := by
  obtain ⟨A, ca, rfl, h1⟩ := h1
  obtain ⟨B, cb, rfl, h2⟩ := h2
  by_cases hfg : (polyB p f && polyB p g) = true
  · have em : mPolyMul p f g = (if (mulM p f g).length ≤ 41 then (mulM p f g, true) else ([], false)) := by unfold mPolyMul; rw [if_pos hfg]
    have hf : polyB p f = true := by simp only [Bool.and_eq_true] at hfg; exact hfg.1
    have hg : polyB p g = true := by simp only [Bool.and_eq_true] at hfg; exact hfg.2
    obtain ⟨hp, _, hfb, hfl⟩ := polyB_spec hf
    obtain ⟨_, _, hgb, hgl⟩ := polyB_spec hg
    have hpb := fieldB_bounds hp
    have htr : 0 < f.length → 0 < g.length → trimZ (mulTo p f g f.length) = mulTo p f g f.length := fun a b => mulM_trim hp hfb hgb hfl hgl a b
    clear hf hg
    by_cases h41 : (mulM p f g).length ≤ 41
    · rw [em, if_pos h41]
      have HTR := Lib.hid htr
      clear em hfl hgl htr
      go_enter Tryd.func23, Tryd.ntmps23
      go_wp2_with (fail)
      refine (are2_any p A B ca cb f g w h1 h2 (by omega) (by omega) hT).mono ?_
      rintro e w1 ⟨rfl, hb1⟩
      go_wp2_with (fail)
      refine (polyMul_any p A B ca cb f g w1 (h1.below hb1) (h2.below hb1) hl1 hl2 (by omega) (by omega) hfb hgb HTR.out).mono ?_
      rintro e w2 ⟨A1, c1, rfl, ho, hfr, hb⟩
      go_wp2_with (fail)
      refine (validPoly_any A1 c1 (mulM p f g) w2 (by omega)).mono ?_
      rw [if_pos h41]
      rintro e w' ⟨rfl, rfl⟩
      go_wp2_with (fail)
      go_ret2
      exact ⟨_, _, rfl, ⟨A1, c1, rfl, ho, rfl⟩, FreshL.mono hfr hb1.size, below_trans hb1 hb hb1.size⟩
    · rw [em, if_neg h41]
      have HTR := Lib.hid htr
      clear em hfl hgl htr
      go_enter Tryd.func23, Tryd.ntmps23
      go_wp2_with (fail)
      refine (are2_any p A B ca cb f g w h1 h2 (by omega) (by omega) hT).mono ?_
      rintro e w1 ⟨rfl, hb1⟩
      go_wp2_with (fail)
      refine (polyMul_any p A B ca cb f g w1 (h1.below hb1) (h2.below hb1) hl1 hl2 (by omega) (by omega) hfb hgb HTR.out).mono ?_
      rintro e w2 ⟨A1, c1, rfl, ho, hfr, hb⟩
      go_wp2_with (fail)
      refine (validPoly_any A1 c1 (mulM p f g) w2 (by have := mulM_le p f g; omega)).mono ?_
      rw [if_neg h41]
      rintro e w' ⟨rfl, rfl⟩
      go_wp2_with (fail)
      go_ret2
      exact ⟨_, _, rfl, OwI.none_ _, FreshL.nil _, below_trans hb1 hb hb1.size⟩
  · have hfg' : (polyB p f && polyB p g) = false := by simpa using hfg
    have em : mPolyMul p f g = ([], false) := by unfold mPolyMul; rw [hfg']; rfl
    rw [em]
    clear em hfg
    go_enter Tryd.func23, Tryd.ntmps23
    go_wp2_with (fail)
    refine (are2_any p A B ca cb f g w h1 h2 (by omega) (by omega) hT).mono ?_
    rintro e w1 ⟨rfl, hb1⟩
    go_wp2_with (fail)
    go_ret2
    exact ⟨_, _, rfl, OwI.none_ _, FreshL.nil _, hb1⟩

end Go.Proofs.YtbgofkalanigfaaDoor
