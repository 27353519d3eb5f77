/-
  PolyGcd on both sides.
-/
import Derived.Test.YtbgofkalanigfaaDoorPolyJ
namespace Go.Proofs.YtbgofkalanigfaaDoor
open Go.RowKit

theorem qrM_rem {p : Int} {f g : List Int} (hfl : f.getLast? ≠ some 0) : (qrM p f g).2 = remM p f g := by
  unfold qrM remM divM
  split
  · show f = trimZ f
    rw [trimZ_of_last hfl]
  · rfl
/-- The length in a slot that holds a slice. -/
def lenOf : Value → Nat
  | .slice _ n _ => n
  | _ => 0
theorem gcdTo_spec {p : Int} (hp : fieldB p = true) : ∀ (n : Nat) (f g : List Int), Res p f → Res p g → f.getLast? ≠ some 0 → g.getLast? ≠ some 0 → (gcdTo p n f g).length ≤ max f.length g.length
  | 0, f, g, _, _, _, _ => by rw [gcdTo]; omega
  | n + 1, f, g, hf, hg, hfl, hgl => by
    rw [gcdTo]
    split
    · omega
    · obtain ⟨c1, c2, c3⟩ := remM_props hp hf hg hgl (by omega)
      have := gcdTo_spec hp n g _ hg c1 hgl c2
      omega

/-- What PolyGcd returns. -/
def mPolyGcd (p : Int) (f g : List Int) : List Int × Bool := if polyB p f && polyB p g && !decide (f.length + g.length = 0) then (monicM p (gcdM p f g), true) else ([], false)
theorem mPolyGcd_len (p : Int) (f g : List Int) : (mPolyGcd p f g).1.length ≤ 100 := by
  unfold mPolyGcd
  split
  · rename_i h
    simp only [Bool.and_eq_true, Bool.not_eq_true', decide_eq_false_iff_not] at h
    obtain ⟨hp, hl, hfb, hfl⟩ := polyB_spec h.1.1
    obtain ⟨_, hl', hgb, hgl⟩ := polyB_spec h.1.2
    have h1 := gcdTo_spec hp (g.length + 1) f g hfb hgb hfl hgl
    have h2 := timesM_length p (invM p ((gcdM p f g).getD ((gcdM p f g).length - 1) 0)) (gcdM p f g)
    show (monicM p (gcdM p f g)).length ≤ 100
    unfold monicM
    have h3 : (gcdM p f g).length ≤ max f.length g.length := h1
    omega
  · simp

/-- What stays from round to round. -/
def GcdRel (p : Int) (D : List Int) (w : World) (v1 v2 : Value) (wr : World) : Prop :=
  ∃ (F G : List Int) (A B : Option Addr) (ca cb : Nat), v1 = .slice A F.length ca ∧ v2 = .slice B G.length cb ∧ RdI wr A F ∧ RdI wr B G ∧ F.length ≤ 1048576 ∧ G.length ≤ 1048576 ∧ Res p F ∧ Res p G ∧ F.getLast? ≠ some 0 ∧ G.getLast? ≠ some 0 ∧ 0 < F.length + G.length ∧ gcdM p F G = D ∧ Below w.heap.size w wr

set_option maxHeartbeats 1000000 in
theorem poGcd_any (p : Int) (A B : Option Addr) (ca cb : Nat) (f g : List Int) (w : World) (hA : RdI w A f) (hB : RdI w B g) (hfl : f.length ≤ 1048576) (hgl : g.length ≤ 1048576)
    (hp : fieldB p = true) (hf : Res p f) (hg : Res p g) (hfl0 : f.getLast? ≠ some 0) (hgl0 : g.getLast? ≠ some 0) (hne : 0 < f.length + g.length) :
    Calls Tryd.prog 43 #[.int .i64 p, .slice A f.length ca, .slice B g.length cb] w (RetI w (monicM p (gcdM p f g))) := by
  obtain ⟨D, hD⟩ : ∃ D, D = gcdM p f g := ⟨_, rfl⟩
  rw [← hD]
  have H0 : GcdRel p D w (.slice A f.length ca) (.slice B g.length cb) w := ⟨f, g, A, B, ca, cb, rfl, rfl, hA, hB, hfl, hgl, hf, hg, hfl0, hgl0, hne, hD.symm, Below.refl _ _⟩
  clear hD hA hB hf hg hfl0 hgl0
  go_enter Tryd.func43, Tryd.ntmps43
  go_wp2_with (fail)
  go_loopw [1, 2] (fun v1 v2 wr => GcdRel p D w v1 v2 wr) (fun _ v2 _ => lenOf v2)
  case atStart => exact H0
  case round =>
    clear H0
    obtain ⟨F, G, A, B, ca, cb, rfl, rfl, hA, hB, hFl, hGl, hF, hG, hFl0, hGl0, hne', hd, hb⟩ := hrel
    by_cases hz : 0 < G.length
    · obtain ⟨c1, c2, c3⟩ := remM_props hp hF hG hGl0 hz
      have hst := gcdM_step hp hF hG hGl0 hz
      have hq := poDiv_any p A B ca cb F G wr hA hB hFl hGl hp hF hG hFl0 hGl0 hz
      rw [qrM_rem hFl0] at hq
      rw [hst] at hd
      have HQ := Lib.hid hq
      have HD := Lib.hid hd
      have HC := Lib.hid c2
      have HGL := Lib.hid hGl0
      clear hq hd hst c2 hGl0 hFl0
      have hzI : (0 : Int) < (G.length : Int) := by omega
      go_wp2_with (fail)
      refine HQ.out.mono ?_
      rintro e w3 ⟨A3, c3', A4, c4, rfl, h3, h4, hf3, hf4, hap, hb3⟩
      go_wp2_with (fail)
      go_roundw
      case rel => exact ⟨G, remM p F G, B, A4, cb, c4, rfl, rfl, hB.below hb3, h4.rd, hGl, by omega, hG, c1, HGL.out, HC.out, by omega, HD.out, below_trans hb hb3 hb.size⟩
      case measure => exact c3
    · have hz0 : G.length = 0 := by omega
      rw [gcdM_end hz0] at hd
      subst hd
      have hm := poMonic_any p A ca F wr hA hFl hp hF hFl0 (by omega)
      have HM := Lib.hid hm
      have hzI : ¬ (0 : Int) < (G.length : Int) := by omega
      clear hm hFl0 hGl0 hz0
      go_wp2_with (fail)
      refine HM.out.mono ?_
      rintro e w3 ⟨A3, c3', rfl, h3, hf3, hb3⟩
      go_wp2_with (fail)
      go_ret
      exact ⟨A3, c3', rfl, h3, hf3.mono hb.size, below_trans hb hb3 hb.size⟩

set_option maxHeartbeats 1000000 in
theorem polyGcd_any (p : Int) (A B : Option Addr) (ca cb : Nat) (f g : List Int) (w : World) (hA : RdI w A f) (hB : RdI w B g) (hfl : f.length ≤ 1048576) (hgl : g.length ≤ 1048576)
    (hp : fieldB p = true) (hf : Res p f) (hg : Res p g) (hfl0 : f.getLast? ≠ some 0) (hgl0 : g.getLast? ≠ some 0) (hne : 0 < f.length + g.length) :
    Calls Tryd.prog 45 #[.int .i64 p, .slice A f.length ca, .slice B g.length cb] w (RetI w (monicM p (gcdM p f g))) := by
  obtain ⟨D, hD⟩ : ∃ D, D = gcdM p f g := ⟨_, rfl⟩
  rw [← hD]
  have H0 : GcdRel p D w (.slice A f.length ca) (.slice B g.length cb) w := ⟨f, g, A, B, ca, cb, rfl, rfl, hA, hB, hfl, hgl, hf, hg, hfl0, hgl0, hne, hD.symm, Below.refl _ _⟩
  clear hD hA hB hf hg hfl0 hgl0
  go_enter Tryd.func45, Tryd.ntmps45
  go_wp2_with (fail)
  go_loopw [1, 2] (fun v1 v2 wr => GcdRel p D w v1 v2 wr) (fun _ v2 _ => lenOf v2)
  case atStart => exact H0
  case round =>
    clear H0
    obtain ⟨F, G, A, B, ca, cb, rfl, rfl, hA, hB, hFl, hGl, hF, hG, hFl0, hGl0, hne', hd, hb⟩ := hrel
    by_cases hz : 0 < G.length
    · obtain ⟨c1, c2, c3⟩ := remM_props hp hF hG hGl0 hz
      have hst := gcdM_step hp hF hG hGl0 hz
      have hq := polyDivide_any p A B ca cb F G wr hA hB hFl hGl hp hF hG hGl0 hz
      rw [qrM_rem hFl0] at hq
      rw [hst] at hd
      have HQ := Lib.hid hq
      have HD := Lib.hid hd
      have HC := Lib.hid c2
      have HGL := Lib.hid hGl0
      clear hq hd hst c2 hGl0 hFl0
      have hzI : (0 : Int) < (G.length : Int) := by omega
      go_wp2_with (fail)
      refine HQ.out.mono ?_
      rintro e w3 ⟨A3, c3', A4, c4, rfl, h3, h4, hf3, hf4, hap, hb3⟩
      go_wp2_with (fail)
      go_roundw
      case rel => exact ⟨G, remM p F G, B, A4, cb, c4, rfl, rfl, hB.below hb3, h4.rd, hGl, by omega, hG, c1, HGL.out, HC.out, by omega, HD.out, below_trans hb hb3 hb.size⟩
      case measure => exact c3
    · have hz0 : G.length = 0 := by omega
      rw [gcdM_end hz0] at hd
      subst hd
      have hm := monic_any p A ca F wr hA hFl hp hF hFl0 (by omega)
      have HM := Lib.hid hm
      have hzI : ¬ (0 : Int) < (G.length : Int) := by omega
      have hzF : ¬ (F.length : Int) = 0 := by omega
      clear hm hFl0 hGl0 hz0
      go_wp2_with (fail)
      refine HM.out.mono ?_
      rintro e w3 ⟨A3, c3', rfl, h3, hf3, hb3⟩
      go_wp2_with (fail)
      go_ret
      exact ⟨A3, c3', rfl, h3, hf3.mono hb.size, below_trans hb hb3 hb.size⟩

set_option maxHeartbeats 400000 in
theorem sPolyGcd_law (p : Int) {v1 v2 : Value} {f g : List Int} {w : World} (h1 : RdIV w v1 f) (h2 : RdIV w v2 g) (hl1 : f.length ≤ 1048576) (hl2 : g.length ≤ 1048576) :
    Calls Tryd.prog 26 #[.int .i64 p, v1, v2] w fun e w' => ∃ v fp, e = .returned (.tuple #[v, .bool (mPolyGcd p f g).2]) ∧ OwI w' v (mPolyGcd p f g).1 fp ∧ FreshL w.heap.size fp ∧ Below w.heap.size w w' := by
  obtain ⟨A, ca, rfl, h1⟩ := h1
  obtain ⟨B, cb, rfl, h2⟩ := h2
  by_cases hf : polyB p f = true
  · by_cases hg : polyB p g = true
    · by_cases hn : f.length + g.length = 0
      · have em : mPolyGcd p f g = ([], false) := by unfold mPolyGcd; rw [hn]; simp
        rw [em]
        have hnI : (f.length : Int) + (g.length : Int) = 0 := by omega
        have HNI := Lib.hid hn
        clear em hn
        go_enter Tryd.func26, Tryd.ntmps26
        go_wp2_with (fail)
        refine (poGood_any _ _ _ _ _ h1 (by omega)).mono ?_; rintro e w' ⟨rfl, rfl⟩
        go_wp2_with (fail)
        refine (poGood_any _ _ _ _ _ h2 (by omega)).mono ?_; rintro e w' ⟨rfl, rfl⟩
        go_wp2_with (fail)
        go_ret2
        exact ⟨_, _, rfl, OwI.none_ _, FreshL.nil _, Below.refl _ _⟩
      · have em : mPolyGcd p f g = (monicM p (gcdM p f g), true) := by unfold mPolyGcd; rw [hf, hg, decide_eq_false hn]; rfl
        rw [em]
        obtain ⟨hp, _, hfb, hfl⟩ := polyB_spec hf
        obtain ⟨_, _, hgb, hgl⟩ := polyB_spec hg
        have hnI : ¬ (f.length : Int) + (g.length : Int) = 0 := by omega
        have HFL := Lib.hid hfl
        have HGL := Lib.hid hgl
        clear em hfl hgl
        go_enter Tryd.func26, Tryd.ntmps26
        go_wp2_with (fail)
        refine (poGood_any _ _ _ _ _ h1 (by omega)).mono ?_; rintro e w' ⟨rfl, rfl⟩
        go_wp2_with (fail)
        refine (poGood_any _ _ _ _ _ h2 (by omega)).mono ?_; rintro e w' ⟨rfl, rfl⟩
        go_wp2_with (fail)
        refine (poGcd_any p A B ca cb f g w h1 h2 hl1 hl2 hp hfb hgb HFL.out HGL.out (by omega)).mono ?_
        rintro e w2 ⟨A1, c1, rfl, ho1, hf1, hb⟩
        go_wp2_with (fail)
        go_ret2
        exact ⟨_, _, rfl, ⟨A1, c1, rfl, ho1, rfl⟩, hf1, hb⟩
    · have hg' : polyB p g = false := by simpa using hg
      have em : mPolyGcd p f g = ([], false) := by unfold mPolyGcd; rw [hg']; simp
      rw [em]
      clear em hg
      go_enter Tryd.func26, Tryd.ntmps26
      go_wp2_with (fail)
      refine (poGood_any _ _ _ _ _ h1 (by omega)).mono ?_; rintro e w' ⟨rfl, rfl⟩
      go_wp2_with (fail)
      refine (poGood_any _ _ _ _ _ h2 (by omega)).mono ?_; rintro e w' ⟨rfl, rfl⟩
      go_wp2_with (fail)
      go_ret2
      exact ⟨_, _, rfl, OwI.none_ _, FreshL.nil _, Below.refl _ _⟩
  · have hf' : polyB p f = false := by simpa using hf
    have em : mPolyGcd p f g = ([], false) := by unfold mPolyGcd; rw [hf']; rfl
    rw [em]
    clear em hf
    go_enter Tryd.func26, Tryd.ntmps26
    go_wp2_with (fail)
    refine (poGood_any _ _ _ _ _ h1 (by omega)).mono ?_; rintro e w' ⟨rfl, rfl⟩
    go_wp2_with (fail)
    go_ret2
    exact ⟨_, _, rfl, OwI.none_ _, FreshL.nil _, Below.refl _ _⟩

set_option maxHeartbeats 400000 in
theorem iPolyGcd_law (p : Int) {v1 v2 : Value} {f g : List Int} {w : World} (h1 : RdIV w v1 f) (h2 : RdIV w v2 g) (hl1 : f.length ≤ 1048576) (hl2 : g.length ≤ 1048576) (hT : Tab w) :
    Calls Tryd.prog 27 #[.int .i64 p, v1, v2] w fun e w' => ∃ v fp, e = .returned (.tuple #[v, .bool (mPolyGcd p f g).2]) ∧ OwI w' v (mPolyGcd p f g).1 fp ∧ FreshL w.heap.size fp ∧ Below w.heap.size w w' := by
  obtain ⟨A, ca, rfl, h1⟩ := h1
  obtain ⟨B, cb, rfl, h2⟩ := h2
  by_cases hfg : (polyB p f && polyB p g) = true
  · by_cases hn : f.length + g.length = 0
    · have em : mPolyGcd p f g = ([], false) := by unfold mPolyGcd; rw [hn]; simp
      rw [em]
      have hnI : (f.length : Int) + (g.length : Int) = 0 := by omega
      have HNI := Lib.hid hn
      clear em hn
      go_enter Tryd.func27, Tryd.ntmps27
      go_wp2_with (fail)
      refine (are2_any p A B ca cb f g w h1 h2 (by omega) (by omega) hT).mono ?_
      rintro e w1 ⟨rfl, hb1⟩
      go_wp2_with (fail)
      go_ret2
      exact ⟨_, _, rfl, OwI.none_ _, FreshL.nil _, hb1⟩
    · have em : mPolyGcd p f g = (monicM p (gcdM p f g), true) := by unfold mPolyGcd; rw [hfg, decide_eq_false hn]; rfl
      have hml := mPolyGcd_len p f g
      rw [em] at hml
      rw [em]
      have hf : polyB p f = true := by simp only [Bool.and_eq_true] at hfg; exact hfg.1
      have hg : polyB p g = true := by simp only [Bool.and_eq_true] at hfg; exact hfg.2
      obtain ⟨hp, _, hfb, hfl⟩ := polyB_spec hf
      obtain ⟨_, _, hgb, hgl⟩ := polyB_spec hg
      have hnI : ¬ (f.length : Int) + (g.length : Int) = 0 := by omega
      have HFL := Lib.hid hfl
      have HGL := Lib.hid hgl
      have hml' : (monicM p (gcdM p f g)).length ≤ 100 := hml
      clear em hfl hgl hf hg hml
      go_enter Tryd.func27, Tryd.ntmps27
      go_wp2_with (fail)
      refine (are2_any p A B ca cb f g w h1 h2 (by omega) (by omega) hT).mono ?_
      rintro e w1 ⟨rfl, hb1⟩
      go_wp2_with (fail)
      refine (polyGcd_any p A B ca cb f g w1 (h1.below hb1) (h2.below hb1) hl1 hl2 hp hfb hgb HFL.out HGL.out (by omega)).mono ?_
      rintro e w2 ⟨A1, c1, rfl, ho1, hf1, hb2⟩
      go_wp2_with (fail)
      refine (clone_any A1 c1 _ w2 ho1.rd (by omega)).mono ?_
      rintro e w3 ⟨A2, c2, rfl, ho2, hf2, hb3⟩
      go_wp2_with (fail)
      go_ret2
      exact ⟨_, _, rfl, ⟨A2, c2, rfl, ho2, rfl⟩, FreshL.mono hf2 (Nat.le_trans hb1.size hb2.size), below_trans hb1 (below_trans hb2 hb3 hb2.size) hb1.size⟩
  · have hfg' : (polyB p f && polyB p g) = false := by simpa using hfg
    have em : mPolyGcd p f g = ([], false) := by unfold mPolyGcd; rw [hfg']; rfl
    rw [em]
    clear em hfg
    go_enter Tryd.func27, Tryd.ntmps27
    go_wp2_with (fail)
    refine (are2_any p A B ca cb f g w h1 h2 (by omega) (by omega) hT).mono ?_
    rintro e w1 ⟨rfl, hb1⟩
    go_wp2_with (fail)
    go_ret2
    exact ⟨_, _, rfl, OwI.none_ _, FreshL.nil _, hb1⟩

end Go.Proofs.YtbgofkalanigfaaDoor
