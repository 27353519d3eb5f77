/-
  PolyDivide on both sides.
-/
import Derived.Test.YtbgofkalanigfaaDoorPolyH
namespace Go.Proofs.YtbgofkalanigfaaDoor
open Go.RowKit

theorem divFrom_length (p : Int) (g : List Int) (iv : Int) (hg : 0 < g.length) : ∀ (n : Nat) (q r : List Int), n ≤ q.length → n + g.length ≤ r.length + 1 → (divFrom p g iv n q r).1.length = q.length ∧ (divFrom p g iv n q r).2.length = r.length
  | 0, q, r, _, _ => ⟨rfl, rfl⟩
  | n + 1, q, r, hq, hr => by
    rw [divFrom]
    have hl := addAt_length p r n (-(r.getD (n + g.length - 1) 0 * iv % p)) g (by omega)
    have := divFrom_length p g iv hg n (q.set n (r.getD (n + g.length - 1) 0 * iv % p)) (addAt p r n (-(r.getD (n + g.length - 1) 0 * iv % p)) g) (by rw [List.length_set]; omega) (by omega)
    rw [List.length_set, hl] at this
    exact this

/-- What PolyDivide returns. -/
def mPolyDivide (p : Int) (f g : List Int) : List Int × List Int × Bool := if polyB p f && polyB p g && !decide (g.length = 0) then ((qrM p f g).1, (qrM p f g).2, true) else ([], [], false)
theorem qrM_le (p : Int) (f g : List Int) (hg : 0 < g.length) : (qrM p f g).1.length ≤ f.length ∧ (qrM p f g).2.length ≤ f.length := by
  by_cases h : f.length < g.length
  · rw [qrM_lt h]; exact ⟨by simp, Nat.le_refl _⟩
  · rw [qrM_ge h, divM_ge h]
    have := divFrom_length p g (invM p (g.getD (g.length - 1) 0)) hg (f.length - g.length + 1) (List.replicate (f.length - g.length + 1) 0) f (by simp) (by omega)
    rw [List.length_replicate] at this
    have h1 := trimZ_length (divFrom p g (invM p (g.getD (g.length - 1) 0)) (f.length - g.length + 1) (List.replicate (f.length - g.length + 1) 0) f).1
    have h2 := trimZ_length (divFrom p g (invM p (g.getD (g.length - 1) 0)) (f.length - g.length + 1) (List.replicate (f.length - g.length + 1) 0) f).2
    refine ⟨?_, ?_⟩ <;> dsimp only <;> omega
theorem mPolyDivide_len (p : Int) (f g : List Int) : (mPolyDivide p f g).1.length ≤ 100 ∧ (mPolyDivide p f g).2.1.length ≤ 100 := by
  unfold mPolyDivide
  split
  · rename_i h
    simp only [Bool.and_eq_true, Bool.not_eq_true', decide_eq_false_iff_not] at h
    obtain ⟨_, hl, _, _⟩ := polyB_spec h.1.1
    have := qrM_le p f g (by omega)
    refine ⟨?_, ?_⟩ <;> dsimp only <;> omega
  · simp

/-- What a law of PolyDivide's form says of a call. -/
def PostII (w : World) (q r : List Int) (b : Bool) (e : Ending) (w' : World) : Prop :=
  ∃ v1 fp1 v2 fp2, e = .returned (.tuple #[v1, v2, .bool b]) ∧ OwI w' v1 q fp1 ∧ FreshL w.heap.size fp1 ∧ OwI w' v2 r fp2 ∧ FreshL w.heap.size fp2 ∧ (∀ b, b ∈ fp1 → ¬ b ∈ fp2) ∧ Below w.heap.size w w'
theorem postII_none {w w' : World} (hb : Below w.heap.size w w') : PostII w [] [] false (.returned (.tuple #[.slice none 0 0, .slice none 0 0, .bool false])) w' :=
  ⟨_, _, _, _, rfl, OwI.none_ _, FreshL.nil _, OwI.none_ _, FreshL.nil _, (fun b hb => by cases hb), hb⟩

set_option maxHeartbeats 400000 in
theorem sPolyDivide_law (p : Int) {v1 v2 : Value} {f g : List Int} {w : World} (h1 : RdIV w v1 f) (h2 : RdIV w v2 g) (hl1 : f.length ≤ 1048576) (hl2 : g.length ≤ 1048576) :
    Calls Tryd.prog 24 #[.int .i64 p, v1, v2] w (PostII w (mPolyDivide p f g).1 (mPolyDivide p f g).2.1 (mPolyDivide p f g).2.2) := by
  obtain ⟨A, ca, rfl, h1⟩ := h1
  obtain ⟨B, cb, rfl, h2⟩ := h2
  by_cases hf : polyB p f = true
  · by_cases hg : polyB p g = true
    · by_cases hn : g.length = 0
      · have em : mPolyDivide p f g = ([], [], false) := by unfold mPolyDivide; rw [hn]; simp
        rw [em]
        have hnI : (g.length : Int) = 0 := by omega
        have HNI := Lib.hid hn
        clear em hn
        go_enter Tryd.func24, Tryd.ntmps24
        go_wp2_with (fail)
        refine (poGood_any _ _ _ _ _ h1 (by omega)).mono ?_; rintro e w' ⟨rfl, rfl⟩
        go_wp2_with (fail)
        refine (poGood_any _ _ _ _ _ h2 (by omega)).mono ?_; rintro e w' ⟨rfl, rfl⟩
        go_wp2_with (fail)
        go_ret3
        exact postII_none (Below.refl _ _)
      · have em : mPolyDivide p f g = ((qrM p f g).1, (qrM p f g).2, true) := by unfold mPolyDivide; rw [hf, hg]; simp [hn]
        rw [em]
        obtain ⟨hp, _, hfb, hfl⟩ := polyB_spec hf
        obtain ⟨_, _, hgb, hgl⟩ := polyB_spec hg
        have hnI : ¬ (g.length : Int) = 0 := by omega
        have HFL := Lib.hid hfl
        have HGL := Lib.hid hgl
        clear em hfl hgl
        go_enter Tryd.func24, Tryd.ntmps24
        go_wp2_with (fail)
        refine (poGood_any _ _ _ _ _ h1 (by omega)).mono ?_; rintro e w' ⟨rfl, rfl⟩
        go_wp2_with (fail)
        refine (poGood_any _ _ _ _ _ h2 (by omega)).mono ?_; rintro e w' ⟨rfl, rfl⟩
        go_wp2_with (fail)
        refine (poDiv_any p A B ca cb f g w h1 h2 hl1 hl2 hp hfb hgb HFL.out HGL.out (by omega)).mono ?_
        rintro e w2 ⟨A1, c1, A2, c2, rfl, ho1, ho2, hf1, hf2, hap, hb⟩
        go_wp2_with (fail)
        go_ret3
        exact ⟨_, _, _, _, rfl, ⟨A1, c1, rfl, ho1, rfl⟩, hf1, ⟨A2, c2, rfl, ho2, rfl⟩, hf2, fun b h1 h2 => hap b h1 h2, hb⟩
    · have hg' : polyB p g = false := by simpa using hg
      have em : mPolyDivide p f g = ([], [], false) := by unfold mPolyDivide; rw [hg']; simp
      rw [em]
      clear em hg
      go_enter Tryd.func24, Tryd.ntmps24
      go_wp2_with (fail)
      refine (poGood_any _ _ _ _ _ h1 (by omega)).mono ?_; rintro e w' ⟨rfl, rfl⟩
      go_wp2_with (fail)
      refine (poGood_any _ _ _ _ _ h2 (by omega)).mono ?_; rintro e w' ⟨rfl, rfl⟩
      go_wp2_with (fail)
      go_ret3
      exact postII_none (Below.refl _ _)
  · have hf' : polyB p f = false := by simpa using hf
    have em : mPolyDivide p f g = ([], [], false) := by unfold mPolyDivide; rw [hf']; rfl
    rw [em]
    clear em hf
    go_enter Tryd.func24, Tryd.ntmps24
    go_wp2_with (fail)
    refine (poGood_any _ _ _ _ _ h1 (by omega)).mono ?_; rintro e w' ⟨rfl, rfl⟩
    go_wp2_with (fail)
    go_ret3
    exact postII_none (Below.refl _ _)

set_option maxHeartbeats 400000 in
theorem iPolyDivide_law (p : Int) {v1 v2 : Value} {f g : List Int} {w : World} (h1 : RdIV w v1 f) (h2 : RdIV w v2 g) (hl1 : f.length ≤ 1048576) (hl2 : g.length ≤ 1048576) (hT : Tab w) :
    Calls Tryd.prog 25 #[.int .i64 p, v1, v2] w (PostII w (mPolyDivide p f g).1 (mPolyDivide p f g).2.1 (mPolyDivide p f g).2.2) := by
  obtain ⟨A, ca, rfl, h1⟩ := h1
  obtain ⟨B, cb, rfl, h2⟩ := h2
  by_cases hfg : (polyB p f && polyB p g) = true
  · by_cases hn : g.length = 0
    · have em : mPolyDivide p f g = ([], [], false) := by unfold mPolyDivide; rw [hn]; simp
      rw [em]
      have hnI : (g.length : Int) = 0 := by omega
      have HNI := Lib.hid hn
      clear em hn
      go_enter Tryd.func25, Tryd.ntmps25
      go_wp2_with (fail)
      refine (are2_any p A B ca cb f g w h1 h2 (by omega) (by omega) hT).mono ?_
      rintro e w1 ⟨rfl, hb1⟩
      go_wp2_with (fail)
      go_ret3
      exact postII_none hb1
    · have em : mPolyDivide p f g = ((qrM p f g).1, (qrM p f g).2, true) := by unfold mPolyDivide; rw [hfg]; simp [hn]
      rw [em]
      have hf : polyB p f = true := by simp only [Bool.and_eq_true] at hfg; exact hfg.1
      have hg : polyB p g = true := by simp only [Bool.and_eq_true] at hfg; exact hfg.2
      obtain ⟨hp, _, hfb, hfl⟩ := polyB_spec hf
      obtain ⟨_, _, hgb, hgl⟩ := polyB_spec hg
      have hnI : ¬ (g.length : Int) = 0 := by omega
      have HGL := Lib.hid hgl
      clear em hfl hgl hf hg
      go_enter Tryd.func25, Tryd.ntmps25
      go_wp2_with (fail)
      refine (are2_any p A B ca cb f g w h1 h2 (by omega) (by omega) hT).mono ?_
      rintro e w1 ⟨rfl, hb1⟩
      go_wp2_with (fail)
      refine (polyDivide_any p A B ca cb f g w1 (h1.below hb1) (h2.below hb1) hl1 hl2 hp hfb hgb HGL.out (by omega)).mono ?_
      rintro e w2 ⟨A1, c1, A2, c2, rfl, ho1, ho2, hf1, hf2, hap, hb⟩
      go_wp2_with (fail)
      go_ret3
      exact ⟨_, _, _, _, rfl, ⟨A1, c1, rfl, ho1, rfl⟩, FreshL.mono hf1 hb1.size, ⟨A2, c2, rfl, ho2, rfl⟩, FreshL.mono hf2 hb1.size, fun b h1 h2 => hap b h1 h2, below_trans hb1 hb hb1.size⟩
  · have hfg' : (polyB p f && polyB p g) = false := by simpa using hfg
    have em : mPolyDivide p f g = ([], [], false) := by unfold mPolyDivide; rw [hfg']; rfl
    rw [em]
    clear em hfg
    go_enter Tryd.func25, Tryd.ntmps25
    go_wp2_with (fail)
    refine (are2_any p A B ca cb f g w h1 h2 (by omega) (by omega) hT).mono ?_
    rintro e w1 ⟨rfl, hb1⟩
    go_wp2_with (fail)
    go_ret3
    exact postII_none hb1

end Go.Proofs.YtbgofkalanigfaaDoor
