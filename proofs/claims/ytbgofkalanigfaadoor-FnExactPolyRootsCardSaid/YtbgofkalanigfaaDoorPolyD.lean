/-
  PolyAdd on both sides, with the test of its arguments.
-/
import Derived.Test.YtbgofkalanigfaaDoorPolyA
import Derived.Test.YtbgofkalanigfaaDoorPolyC
import Derived.Test.YtbgofkalanigfaaDoorLawI
namespace Go.Proofs.YtbgofkalanigfaaDoor
open Go.RowKit

/-- A slice of ints as the program passes it in a list of slices. -/
abbrev Hd := Option Addr × Nat × List Int
def Hd.val (h : Hd) : Value := .slice h.1 h.2.2.length h.2.1

set_option maxHeartbeats 400000 in
theorem arePolys_any (p : Int) (A : Option Addr) (c : Nat) (ls : List Hd) (w : World) (hA : Sl w 22 1 A ls.length c (ls.map Hd.val)) (hr : ∀ h, h ∈ ls → RdI w h.1 h.2.2 ∧ h.2.2.length ≤ 17592186044416) (hl : ls.length ≤ 1000) (hT : Tab w) :
    Calls Tryd.prog 32 #[.int .i64 p, .slice A ls.length c] w fun e w' => e = .returned (.bool (ls.all (fun h => polyB p h.2.2) && fieldB p)) ∧ w = w' := by
  go_enter Tryd.func32, Tryd.ntmps32
  go_wp2_with (fail)
  go_loop [9] (fun i => ∃ k : Nat, k ≤ ls.length ∧ i = .int .i64 k ∧ (ls.take k).all (fun h => polyB p h.2.2) = true) (fun i => ls.length - (intOf i).toNat)
  case atStart => exact ⟨0, Nat.zero_le _, rfl, rfl⟩
  case round =>
    obtain ⟨k, hk, rfl, ht⟩ := hrel
    have HT := Lib.hid ht
    clear ht
    by_cases hlt : k < ls.length
    · obtain ⟨⟨A1, c1, l1⟩, hx⟩ : ∃ h, ls[k]? = some h := ⟨_, List.getElem?_eq_getElem hlt⟩
      obtain ⟨ad, rfl, _, hc, _⟩ := hA.cell (j := k) (u := .slice A1 l1.length c1) (by simp [hx, Hd.val])
      obtain ⟨hr1, hl1⟩ := hr _ (List.mem_of_getElem? hx)
      have HX := Lib.hid hx
      clear hx hA hr
      by_cases hb : polyB p l1 = true
      · go_wp2_with (go_at_call 29; refine (isPoly_any _ _ _ _ _ hr1 hl1 hT).mono ?_; rintro e w' ⟨rfl, rfl⟩)
        go_round
        case rel => exact ⟨k + 1, by omega, by go_num, by rw [List.take_add_one, HX.out]; simp [HT.out, hb]⟩
        case measure => simp [intOf]; omega
      · have hb' : polyB p l1 = false := by simpa using hb
        go_wp2_with (go_at_call 29; refine (isPoly_any _ _ _ _ _ hr1 hl1 hT).mono ?_; rintro e w' ⟨rfl, rfl⟩)
        go_ret
        refine ⟨ret_bool ?_, rfl⟩
        have : ls.all (fun h => polyB p h.2.2) = false := by
          rw [Bool.eq_false_iff]; intro h
          have := List.all_eq_true.1 h _ (List.mem_of_getElem? HX.out)
          simp at this; rw [hb'] at this; cases this
        rw [this]; rfl
    · obtain rfl : k = ls.length := by omega
      clear hA hr
      go_wp2_with (go_at_call 48; refine (isField_any _ _ hT).mono ?_; rintro e w' ⟨rfl, rfl⟩)
      go_ret
      exact ⟨ret_bool (by have := HT.out; rw [List.take_length] at this; simp [this]), rfl⟩

theorem polyB_spec {p : Int} {l : List Int} (h : polyB p l = true) : fieldB p = true ∧ l.length ≤ 41 ∧ (∀ x, x ∈ l → 0 ≤ x ∧ x < p) ∧ l.getLast? ≠ some 0 := by
  simp only [polyB, Bool.and_eq_true, decide_eq_true_eq, Bool.not_eq_true', decide_eq_false_iff_not] at h
  refine ⟨h.1, h.2.1, fun x hx => ?_, h.2.2.2⟩
  have := inB_iff.1 h.2.2.1 x hx
  omega

/-- What PolyAdd returns. -/
def mPolyAdd (p : Int) (f g : List Int) : List Int × Bool := if polyB p f && polyB p g then (sumM p f 1 g, true) else ([], false)
theorem sumM_len (p c : Int) (f g : List Int) : (sumM p f c g).length ≤ max f.length g.length := by
  unfold sumM
  refine Nat.le_trans (trimZ_length _) ?_
  rw [addT_length, padZ_length (by omega)]; omega
theorem mPolyAdd_len (p : Int) (f g : List Int) : (mPolyAdd p f g).1.length ≤ 100 := by
  unfold mPolyAdd
  split
  · rename_i h
    simp only [Bool.and_eq_true] at h
    have h1 := (polyB_spec h.1).2.1
    have h2 := (polyB_spec h.2).2.1
    have := sumM_len p 1 f g
    show (sumM p f 1 g).length ≤ 100
    omega
  · simp

theorem OwI.none_ (w : World) : OwI w (.slice none 0 0) [] [] := ⟨none, 0, rfl, Sl.nil _ _ _, rfl⟩
theorem FreshL.nil (B : Nat) : FreshL B [] := fun b hb => by cases hb

set_option maxHeartbeats 400000 in
theorem sPolyAdd_law (p : Int) {v1 v2 : Value} {f g : List Int} {w : World} (h1 : RdIV w v1 f) (h2 : RdIV w v2 g) (hl1 : f.length ≤ 1048576) (hl2 : g.length ≤ 1048576) :
    Calls Tryd.prog 20 #[.int .i64 p, v1, v2] w fun e w' => ∃ v fp, e = .returned (.tuple #[v, .bool (mPolyAdd p f g).2]) ∧ OwI w' v (mPolyAdd p f g).1 fp ∧ FreshL w.heap.size fp ∧ Below w.heap.size w w' := by
  obtain ⟨A, ca, rfl, h1⟩ := h1
  obtain ⟨B, cb, rfl, h2⟩ := h2
  by_cases hf : polyB p f = true
  · by_cases hg : polyB p g = true
    · have em : mPolyAdd p f g = (sumM p f 1 g, true) := by simp [mPolyAdd, hf, hg]
      rw [em]
      obtain ⟨hp, _, hfb, _⟩ := polyB_spec hf
      obtain ⟨_, _, hgb, _⟩ := polyB_spec hg
      have hpb := fieldB_bounds hp
      clear em
      go_enter Tryd.func20, Tryd.ntmps20
      go_wp2_with (fail)
      refine (poGood_any _ _ _ _ _ h1 (by omega)).mono ?_; rintro e w' ⟨rfl, rfl⟩
      go_wp2_with (fail)
      refine (poGood_any _ _ _ _ _ h2 (by omega)).mono ?_; rintro e w' ⟨rfl, rfl⟩
      go_wp2_with (fail)
      refine (poAdd_any p A B ca cb f g w h1 h2 hl1 hl2 (by omega) (by omega) hfb hgb).mono ?_
      rintro e w1 ⟨A1, c1, rfl, ho, hfr, hb⟩
      go_wp2_with (fail)
      go_ret2
      exact ⟨_, _, rfl, ⟨A1, c1, rfl, ho, rfl⟩, hfr, hb⟩
    · have hg' : polyB p g = false := by simpa using hg
      have em : mPolyAdd p f g = ([], false) := by simp [mPolyAdd, hg']
      rw [em]
      clear em
      go_enter Tryd.func20, Tryd.ntmps20
      go_wp2_with (fail)
      refine (poGood_any _ _ _ _ _ h1 (by omega)).mono ?_; rintro e w' ⟨rfl, rfl⟩
      go_wp2_with (fail)
      refine (poGood_any _ _ _ _ _ h2 (by omega)).mono ?_; rintro e w' ⟨rfl, rfl⟩
      go_wp2_with (fail)
      go_ret2
      exact ⟨_, _, rfl, OwI.none_ _, FreshL.nil _, Below.refl _ _⟩
  · have hf' : polyB p f = false := by simpa using hf
    have em : mPolyAdd p f g = ([], false) := by simp [mPolyAdd, hf']
    rw [em]
    clear em
    go_enter Tryd.func20, Tryd.ntmps20
    go_wp2_with (fail)
    refine (poGood_any _ _ _ _ _ h1 (by omega)).mono ?_; rintro e w' ⟨rfl, rfl⟩
    go_wp2_with (fail)
    go_ret2
    exact ⟨_, _, rfl, OwI.none_ _, FreshL.nil _, Below.refl _ _⟩

/-- arePolys at a list of two that the caller has just laid. -/
theorem are2_any (p : Int) (A B : Option Addr) (ca cb : Nat) (f g : List Int) (w : World) (h1 : RdI w A f) (h2 : RdI w B g) (hl1 : f.length ≤ 17592186044416) (hl2 : g.length ≤ 17592186044416) (hT : Tab w) :
    Calls Tryd.prog 32 #[.int .i64 p, .slice (some ⟨w.heap.size, 0, none⟩) 2 2] (w.alloc (.cells #[.slice A f.length ca, .slice B g.length cb] 22)) fun e w' => e = .returned (.bool (polyB p f && polyB p g)) ∧ Below w.heap.size w w' := by
  have hb : Below w.heap.size w (w.alloc (.cells #[.slice A f.length ca, .slice B g.length cb] 22)) := (Below.refl _ _).alloc (Nat.le_refl _) _
  refine (arePolys_any p (some ⟨w.heap.size, 0, none⟩) 2 [(A, ca, f), (B, cb, g)] _ (Sl.laid w 22 1 2 #[.slice A f.length ca, .slice B g.length cb] (by unfold maxLen; omega) rfl) ?_ (by simp) (hT.below hb hT.lt)).mono ?_
  · intro h hh
    simp at hh
    rcases hh with rfl | rfl
    · exact ⟨h1.below hb, hl1⟩
    · exact ⟨h2.below hb, hl2⟩
  · rintro e w' ⟨rfl, rfl⟩
    refine ⟨ret_bool ?_, hb⟩
    simp only [List.all_cons, List.all_nil, Bool.and_true]
    by_cases hf : polyB p f = true
    · simp [hf, (polyB_spec hf).1]
    · have : polyB p f = false := by simpa using hf
      simp [this]

set_option maxHeartbeats 400000 in
theorem iPolyAdd_law (p : Int) {v1 v2 : Value} {f g : List Int} {w : World} (h1 : RdIV w v1 f) (h2 : RdIV w v2 g) (hl1 : f.length ≤ 1048576) (hl2 : g.length ≤ 1048576) (hT : Tab w) :
    Calls Tryd.prog 21 #[.int .i64 p, v1, v2] w fun e w' => ∃ v fp, e = .returned (.tuple #[v, .bool (mPolyAdd p f g).2]) ∧ OwI w' v (mPolyAdd p f g).1 fp ∧ FreshL w.heap.size fp ∧ Below w.heap.size w w' := by
  obtain ⟨A, ca, rfl, h1⟩ := h1
  obtain ⟨B, cb, rfl, h2⟩ := h2
  by_cases hfg : (polyB p f && polyB p g) = true
  · have em : mPolyAdd p f g = (sumM p f 1 g, true) := by simp [mPolyAdd, hfg]
    rw [em]
    clear em
    have hf : polyB p f = true := by simp only [Bool.and_eq_true] at hfg; exact hfg.1
    have hg : polyB p g = true := by simp only [Bool.and_eq_true] at hfg; exact hfg.2
    obtain ⟨hp, _, hfb, _⟩ := polyB_spec hf
    obtain ⟨_, _, hgb, _⟩ := polyB_spec hg
    have hpb := fieldB_bounds hp
    clear hf hg
    go_enter Tryd.func21, Tryd.ntmps21
    go_wp2_with (fail)
    refine (are2_any p A B ca cb f g w h1 h2 (by omega) (by omega) hT).mono ?_
    rintro e w1 ⟨rfl, hb1⟩
    go_wp2_with (fail)
    refine (polyAdd_any p 1 A B ca cb f g w1 (h1.below hb1) (h2.below hb1) hl1 hl2 (by omega) (by omega) hfb hgb (by omega) (by omega)).mono ?_
    rintro e w2 ⟨A1, c1, rfl, ho, hfr, hb⟩
    go_wp2_with (fail)
    go_ret2
    exact ⟨_, _, rfl, ⟨A1, c1, rfl, ho, rfl⟩, FreshL.mono hfr hb1.size, below_trans hb1 hb hb1.size⟩
  · have hfg' : (polyB p f && polyB p g) = false := by simpa using hfg
    have em : mPolyAdd p f g = ([], false) := by unfold mPolyAdd; rw [hfg']; rfl
    rw [em]
    clear em hfg
    go_enter Tryd.func21, Tryd.ntmps21
    go_wp2_with (fail)
    refine (are2_any p A B ca cb f g w h1 h2 (by omega) (by omega) hT).mono ?_
    rintro e w1 ⟨rfl, hb1⟩
    go_wp2_with (fail)
    go_ret2
    exact ⟨_, _, rfl, OwI.none_ _, FreshL.nil _, hb1⟩
end Go.Proofs.YtbgofkalanigfaaDoor
