/-
  PolyRoots on both sides.
-/
import Derived.Test.YtbgofkalanigfaaDoorPolyP
namespace Go.Proofs.YtbgofkalanigfaaDoor
open Go.RowKit

/-- The roots below k. -/
def rootsTo (p : Int) (f : List Int) : Nat → List Int
  | 0 => []
  | k + 1 => if evM p (k : Int) f = 0 then rootsTo p f k ++ [(k : Int)] else rootsTo p f k
theorem rootsTo_length (p : Int) (f : List Int) : ∀ k, (rootsTo p f k).length ≤ k
  | 0 => Nat.le_refl _
  | k + 1 => by
    have := rootsTo_length p f k
    rw [rootsTo]
    split
    · simp; omega
    · omega
/-- What PolyRoots returns. -/
def mPolyRoots (p : Int) (f : List Int) : List Int × Bool := if polyB p f && !decide (f.length = 0) then (rootsTo p f p.toNat, true) else ([], false)
theorem mPolyRoots_len (p : Int) (f : List Int) : (mPolyRoots p f).1.length ≤ 100 := by
  unfold mPolyRoots
  split
  · rename_i h
    simp only [Bool.and_eq_true] at h
    have hp := fieldB_bounds (polyB_spec h.1).1
    have := rootsTo_length p f p.toNat
    show (rootsTo p f p.toNat).length ≤ 100
    omega
  · simp

/-- What stays from round to round: so far the roots below k. -/
def RootsRel (p : Int) (f : List Int) (w : World) (k : Nat) (v : Value) (wr : World) : Prop :=
  ∃ (A : Option Addr) (c n : Nat) (l : List Int), v = .slice A n c ∧ n = l.length ∧ n ≤ k ∧ l = rootsTo p f k ∧ IS wr A c l ∧ Fresh w.heap.size A ∧ Below w.heap.size w wr

theorem RootsRel.skip {p : Int} {f : List Int} {w wr w' : World} {k : Nat} {v : Value} (h : RootsRel p f w k v wr) (hb : Below wr.heap.size wr w') (hn : evM p (k : Int) f ≠ 0) : RootsRel p f w (k + 1) v w' := by
  obtain ⟨A, c, n, l, rfl, hnl, hnk, hl, h1, h2, h3⟩ := h
  exact ⟨A, c, n, l, rfl, hnl, by omega, by rw [rootsTo, if_neg hn]; exact hl, h1.below hb, h2, below_trans h3 hb h3.size⟩

set_option maxHeartbeats 1000000 in
theorem sPolyRoots_law (p : Int) {v1 : Value} {f : List Int} {w : World} (h1 : RdIV w v1 f) (hl1 : f.length ≤ 1048576) :
    Calls Tryd.prog 16 #[.int .i64 p, v1] w fun e w' => ∃ v fp, e = .returned (.tuple #[v, .bool (mPolyRoots p f).2]) ∧ OwI w' v (mPolyRoots p f).1 fp ∧ FreshL w.heap.size fp ∧ Below w.heap.size w w' := by
  obtain ⟨A, ca, rfl, h1⟩ := h1
  by_cases hf : polyB p f = true
  · obtain ⟨hp, _, hfb, hfl⟩ := polyB_spec hf
    have hpb := fieldB_bounds hp
    by_cases hn : f.length = 0
    · have em : mPolyRoots p f = ([], false) := by unfold mPolyRoots; rw [hn]; simp
      rw [em]
      have hnI : (f.length : Int) = 0 := by omega
      have HNI := Lib.hid hn
      clear em hn hfl
      go_enter Tryd.func16, Tryd.ntmps16
      go_wp2_with (fail)
      refine (poGood_any _ _ _ _ _ h1 (by omega)).mono ?_; rintro e w' ⟨rfl, rfl⟩
      go_wp2_with (fail)
      go_ret2
      exact ⟨_, _, rfl, OwI.none_ _, FreshL.nil _, Below.refl _ _⟩
    · have em : mPolyRoots p f = (rootsTo p f p.toNat, true) := by unfold mPolyRoots; rw [hf, decide_eq_false hn]; rfl
      rw [em]
      have hnB : ((f.length : Int) == 0) = false := by rw [beq_eq_false_iff_ne]; omega
      have H0 : RootsRel p f w 0 (.slice none 0 0) w := ⟨none, 0, 0, [], rfl, rfl, Nat.le_refl _, rfl, Sl.nil _ _ _, fun b hb => (by simp at hb), Below.refl _ _⟩
      clear em hn hfl
      go_enter Tryd.func16, Tryd.ntmps16
      go_wp2_with (fail)
      refine (poGood_any _ _ _ _ _ h1 (by omega)).mono ?_; rintro e w' ⟨rfl, rfl⟩
      go_wp2_with (fail)
      go_loopw [6, 7] (fun v i wr => ∃ k : Nat, k ≤ p.toNat ∧ i = .int .i64 k ∧ RootsRel p f w k v wr) (fun _ i _ => p.toNat - (intOf i).toNat)
      case atStart => exact ⟨0, Nat.zero_le _, rfl, H0⟩
      case round =>
        clear H0
        obtain ⟨k, hk, rfl, hR⟩ := hrel
        by_cases hlt : k < p.toNat
        · obtain ⟨z, hz⟩ : ∃ z, z = evM p (k : Int) f := ⟨_, rfl⟩
          have hkp : (k : Int) < p := by omega
          have hbw : Below w.heap.size w wr := by obtain ⟨_, _, _, _, _, _, _, _, _, _, hb⟩ := hR; exact hb
          have hE := poEval_any p (k : Int) A ca f wr (h1.below hbw) hl1 (by omega) (by omega) hfb (by omega) hkp
          rw [← hz] at hE
          have HE := Lib.hid hE
          clear hE
          by_cases hz0 : z = 0
          · subst hz0
            obtain ⟨B, c, n, l, rfl, hnl, hnk, hl, h3, h4, h5⟩ := hR
            have HZ := Lib.hid hz
            have HL := Lib.hid hl
            have HN := Lib.hid hnl
            clear hz hl hnl
            go_wp2_with (fail)
            refine HE.out.mono ?_
            rintro e w3 ⟨rfl, hb3⟩
            have hs0 : Sl w3 3 1 B n c (ints l) := by have := h3.below hb3; unfold IS at this; rw [← HN.out] at this; exact this
            have hlit := Sl.laid w3 3 1 1 #[.int .i64 (k : Int)] (by unfold maxLen; omega) rfl
            have hb4 : Below w3.heap.size w3 (w3.alloc (.cells #[.int .i64 (k : Int)] 3)) := (Below.refl _ _).alloc (Nat.le_refl _) _
            go_wp2_with (at_builtin; refine wpList_append_Sl _ rfl _ _ _ rfl 3 Tryd.underlying22 info_int rfl (by omega) rfl (hs0.below hb4) rfl (by simp) hlit.rdc (by simp [Value.oneCell']) (by unfold maxLen; omega) (by omega) ?_; intro A1 cap1 w5 hs hA hk5)
            have hb34 := below_trans hb3 hb4 hb3.size
            have hb5 : Below w.heap.size w w5 := below_keeps (below_trans h5 hb34 h5.size) hk5 (Nat.le_trans h5.size hb34.size) (fun b hb => h4 b hb)
            have hRR : RootsRel p f w (k + 1) (.slice A1 (n + 1) cap1) w5 := by
              refine ⟨A1, cap1, n + 1, l ++ [(k : Int)], rfl, by rw [List.length_append, HN.out]; rfl, by omega, by rw [rootsTo, if_pos HZ.out.symm, HL.out], ?_, ?_, hb5⟩
              · unfold IS; rw [List.length_append, ← HN.out]; simpa [ints] using hs
              · intro b hb
                rcases hA b hb with h | h
                · exact h4 b h
                · exact Nat.le_trans (Nat.le_trans h5.size hb34.size) h
            go_roundw
            case rel => exact ⟨k + 1, by omega, by go_num, hRR⟩
            case measure => simp [intOf]; omega
          · have hzI : (z == 0) = false := by rw [beq_eq_false_iff_ne]; exact hz0
            have HZ := Lib.hid hz
            clear hz
            go_wp2_with (fail)
            refine HE.out.mono ?_
            rintro e w3 ⟨rfl, hb3⟩
            have hRR := hR.skip hb3 (by rw [← HZ.out]; exact hz0)
            go_wp2_with (fail)
            go_roundw
            case rel => exact ⟨k + 1, by omega, by go_num, hRR⟩
            case measure => simp [intOf]; omega
        · obtain rfl : k = p.toNat := by omega
          have hpp : ((p.toNat : Nat) : Int) = p := by omega
          obtain ⟨B, c, n, l, rfl, rfl, hnk, rfl, h3, h4, h5⟩ := hR
          go_wp2_with (fail)
          go_ret2
          exact ⟨_, _, rfl, ⟨B, c, rfl, h3, rfl⟩, h4, h5⟩
  · have hf' : polyB p f = false := by simpa using hf
    have em : mPolyRoots p f = ([], false) := by unfold mPolyRoots; rw [hf']; rfl
    rw [em]
    clear em hf
    go_enter Tryd.func16, Tryd.ntmps16
    go_wp2_with (fail)
    refine (poGood_any _ _ _ _ _ h1 (by omega)).mono ?_; rintro e w' ⟨rfl, rfl⟩
    go_wp2_with (fail)
    go_ret2
    exact ⟨_, _, rfl, OwI.none_ _, FreshL.nil _, Below.refl _ _⟩

set_option maxHeartbeats 1000000 in
theorem iPolyRoots_law (p : Int) {v1 : Value} {f : List Int} {w : World} (h1 : RdIV w v1 f) (hl1 : f.length ≤ 1048576) (hT : Tab w) :
    Calls Tryd.prog 17 #[.int .i64 p, v1] w fun e w' => ∃ v fp, e = .returned (.tuple #[v, .bool (mPolyRoots p f).2]) ∧ OwI w' v (mPolyRoots p f).1 fp ∧ FreshL w.heap.size fp ∧ Below w.heap.size w w' := by
  obtain ⟨A, ca, rfl, h1⟩ := h1
  by_cases hf : polyB p f = true
  · obtain ⟨hp, _, hfb, hfl⟩ := polyB_spec hf
    have hpb := fieldB_bounds hp
    by_cases hn : f.length = 0
    · have em : mPolyRoots p f = ([], false) := by unfold mPolyRoots; rw [hn]; simp
      rw [em]
      have hnI : (f.length : Int) = 0 := by omega
      have HNI := Lib.hid hn
      clear em hn hfl
      go_enter Tryd.func17, Tryd.ntmps17
      go_wp2_with (fail)
      refine (are1_any p A ca f w h1 (by omega) hT).mono ?_
      rintro e w1 ⟨rfl, hb1⟩
      go_wp2_with (fail)
      go_ret2
      exact ⟨_, _, rfl, OwI.none_ _, FreshL.nil _, hb1⟩
    · have em : mPolyRoots p f = (rootsTo p f p.toNat, true) := by unfold mPolyRoots; rw [hf, decide_eq_false hn]; rfl
      rw [em]
      have hnB : ((f.length : Int) == 0) = false := by rw [beq_eq_false_iff_ne]; omega
      clear em hn hfl
      go_enter Tryd.func17, Tryd.ntmps17
      go_wp2_with (fail)
      refine (are1_any p A ca f w h1 (by omega) hT).mono ?_
      rintro e w1 ⟨rfl, hb1⟩
      have hlit0 := Sl.laid w1 3 1 0 #[] (Nat.zero_le _) rfl
      have hb2 : Below w1.heap.size w1 (w1.alloc (.cells #[] 3)) := (Below.refl _ _).alloc (Nat.le_refl _) _
      have H0 : RootsRel p f w 0 (.slice (some ⟨w1.heap.size, 0, none⟩) 0 0) (w1.alloc (.cells #[] 3)) := ⟨some ⟨w1.heap.size, 0, none⟩, 0, 0, [], rfl, rfl, Nat.le_refl _, rfl, hlit0, fun b hb => (by simp at hb; have := hb1.size; omega), below_trans hb1 hb2 hb1.size⟩
      have HH := Lib.hid H0
      clear H0 hlit0 hb2
      go_wp2_with (fail)
      go_loopw [6, 20] (fun v i wr => ∃ k : Nat, k ≤ p.toNat ∧ i = .int .i64 k ∧ RootsRel p f w k v wr) (fun _ i _ => p.toNat - (intOf i).toNat)
      case atStart => exact ⟨0, Nat.zero_le _, rfl, HH.out⟩
      case round =>
        clear HH
        obtain ⟨k, hk, rfl, hR⟩ := hrel
        by_cases hlt : k < p.toNat
        · obtain ⟨z, hz⟩ : ∃ z, z = evM p (k : Int) f := ⟨_, rfl⟩
          have hkp : (k : Int) < p := by omega
          have hbw : Below w.heap.size w wr := by obtain ⟨_, _, _, _, _, _, _, _, _, _, hb⟩ := hR; exact hb
          have hE := polyEval_any p (k : Int) A ca f wr (h1.below hbw) hl1 (by omega) (by omega) hfb (by omega) hkp
          rw [← hz] at hE
          have HE := Lib.hid hE
          clear hE
          by_cases hz0 : z = 0
          · subst hz0
            obtain ⟨B, c, n, l, rfl, hnl, hnk, hl, h3, h4, h5⟩ := hR
            have HZ := Lib.hid hz
            have HL := Lib.hid hl
            have HN := Lib.hid hnl
            clear hz hl hnl
            go_wp2_with (fail)
            refine HE.out.mono ?_
            rintro e w3 ⟨rfl, hb3⟩
            have hs0 : Sl w3 3 1 B n c (ints l) := by have := h3.below hb3; unfold IS at this; rw [← HN.out] at this; exact this
            have hlit := Sl.laid w3 3 1 1 #[.int .i64 (k : Int)] (by unfold maxLen; omega) rfl
            have hb4 : Below w3.heap.size w3 (w3.alloc (.cells #[.int .i64 (k : Int)] 3)) := (Below.refl _ _).alloc (Nat.le_refl _) _
            go_wp2_with (at_builtin; refine wpList_append_Sl _ rfl _ _ _ rfl 3 Tryd.underlying22 info_int rfl (by omega) rfl (hs0.below hb4) rfl (by simp) hlit.rdc (by simp [Value.oneCell']) (by unfold maxLen; omega) (by omega) ?_; intro A1 cap1 w5 hs hA hk5)
            have hb34 := below_trans hb3 hb4 hb3.size
            have hb5 : Below w.heap.size w w5 := below_keeps (below_trans h5 hb34 h5.size) hk5 (Nat.le_trans h5.size hb34.size) (fun b hb => h4 b hb)
            have hRR : RootsRel p f w (k + 1) (.slice A1 (n + 1) cap1) w5 := by
              refine ⟨A1, cap1, n + 1, l ++ [(k : Int)], rfl, by rw [List.length_append, HN.out]; rfl, by omega, by rw [rootsTo, if_pos HZ.out.symm, HL.out], ?_, ?_, hb5⟩
              · unfold IS; rw [List.length_append, ← HN.out]; simpa [ints] using hs
              · intro b hb
                rcases hA b hb with h | h
                · exact h4 b h
                · exact Nat.le_trans (Nat.le_trans h5.size hb34.size) h
            go_roundw
            case rel => exact ⟨k + 1, by omega, by go_num, hRR⟩
            case measure => simp [intOf]; omega
          · have hzI : (z == 0) = false := by rw [beq_eq_false_iff_ne]; exact hz0
            have HZ := Lib.hid hz
            clear hz
            go_wp2_with (fail)
            refine HE.out.mono ?_
            rintro e w3 ⟨rfl, hb3⟩
            have hRR := hR.skip hb3 (by rw [← HZ.out]; exact hz0)
            go_wp2_with (fail)
            go_roundw
            case rel => exact ⟨k + 1, by omega, by go_num, hRR⟩
            case measure => simp [intOf]; omega
        · obtain rfl : k = p.toNat := by omega
          have hpp : ((p.toNat : Nat) : Int) = p := by omega
          obtain ⟨B, c, n, l, rfl, rfl, hnk, rfl, h3, h4, h5⟩ := hR
          go_wp2_with (fail)
          go_ret2
          exact ⟨_, _, rfl, ⟨B, c, rfl, h3, rfl⟩, h4, h5⟩
  · have hf' : polyB p f = false := by simpa using hf
    have em : mPolyRoots p f = ([], false) := by unfold mPolyRoots; rw [hf']; rfl
    rw [em]
    clear em hf
    go_enter Tryd.func17, Tryd.ntmps17
    go_wp2_with (fail)
    refine (are1_any p A ca f w h1 (by omega) hT).mono ?_
    rintro e w1 ⟨rfl, hb1⟩
    go_wp2_with (fail)
    go_ret2
    exact ⟨_, _, rfl, OwI.none_ _, FreshL.nil _, hb1⟩
end Go.Proofs.YtbgofkalanigfaaDoor
