/-
  THE WALKS: products of polynomials on both sides.
-/
import Derived.Test.YtbgofkalanigfaaDoorPolyE
import Derived.Test.YtbgofkalanigfaaDoorPolyD
import Derived.StillTailTactics
namespace Go.Proofs.YtbgofkalanigfaaDoor
open Go.RowKit

theorem stillC {P : Program} {f : FuncId} {args : Array Value} {w : World} {v : Value} (h : Calls P f args w fun e w' => e = .returned v ∧ w = w') : Calls P f args w fun e w'' => e = .returned v ∧ w'' = w :=
  h.mono fun _ _ ⟨h1, h2⟩ => ⟨h1, h2.symm⟩

theorem set_append_mid {α : Type} {a b : List α} {k j : Nat} (h : a.length = k) (x : α) : (a ++ b).set (k + j) x = a ++ b.set j x := by
  rw [List.set_append_right _ _ (by omega), h, Nat.add_sub_cancel_left]

set_option maxHeartbeats 1000000 in
theorem poMul_any (p : Int) (A B : Option Addr) (ca cb : Nat) (f g : List Int) (w : World) (hA : RdI w A f) (hB : RdI w B g) (hfl : f.length ≤ 1048576) (hgl : g.length ≤ 1048576)
    (h0 : 0 < p) (h97 : p ≤ 97) (hf : Res p f) (hg : Res p g) :
    Calls Tryd.prog 38 #[.int .i64 p, .slice A f.length ca, .slice B g.length cb] w (RetI w (mulM p f g)) := by
  by_cases hf0 : f.length = 0
  · have e0 : ((f.length : Int) == 0) = true := by rw [beq_iff_eq]; omega
    have em : mulM p f g = [] := by unfold mulM; rw [if_pos (.inl hf0)]
    rw [em]
    clear em hf0
    go_enter Tryd.func38, Tryd.ntmps38
    go_wp2_with (fail)
    go_ret
    exact ⟨none, 0, rfl, Sl.nil _ _ _, Fresh.none_ _, Below.refl _ _⟩
  · by_cases hg0 : g.length = 0
    · have e0 : ((f.length : Int) == 0) = false := by rw [beq_eq_false_iff_ne]; omega
      have e1 : ((g.length : Int) == 0) = true := by rw [beq_iff_eq]; omega
      have em : mulM p f g = [] := by unfold mulM; rw [if_pos (.inr hg0)]
      rw [em]
      clear em hf0 hg0
      go_enter Tryd.func38, Tryd.ntmps38
      go_wp2_with (fail)
      go_ret
      exact ⟨none, 0, rfl, Sl.nil _ _ _, Fresh.none_ _, Below.refl _ _⟩
    · have e0 : ((f.length : Int) == 0) = false := by rw [beq_eq_false_iff_ne]; omega
      have e1 : ((g.length : Int) == 0) = false := by rw [beq_eq_false_iff_ne]; omega
      have em : mulM p f g = mulTo p f g f.length := by unfold mulM; rw [if_neg (by omega)]
      rw [em]
      obtain ⟨n, hn⟩ : ∃ n, n = f.length + g.length - 1 := ⟨_, rfl⟩
      have hn1 : n + 1 = f.length + g.length := by omega
      have HN := Lib.hid hn
      have HN1 := Lib.hid hn1
      have hnl : n ≤ 2097152 := by omega
      have hfp : 0 < f.length := by omega
      have hgp : 0 < g.length := by omega
      have hnge : f.length ≤ n := by omega
      have hnge2 : g.length ≤ n := by omega
      clear em hf0 hg0 hn hn1
      go_enter Tryd.func38, Tryd.ntmps38
      go_wp2_with (at_make; refine wpList_make_Sl _ rfl _ _ _ rfl 3 Tryd.underlying22 info_int n n rfl rfl (by have := HN1.out; omega) (by have := HN1.out; omega) (Nat.le_refl _) (by omega) (by unfold maxLen; omega) ?_; intro G w1 hs hG hb1)
      have his0 : IS w1 (some G) n (mulTo p f g 0) := by unfold IS mulTo; rw [← HN.out, ← madeZeros]; simpa using hs
      clear hs
      have hA1 := hA.below hb1
      have hB1 := hB.below hb1
      have hGA : ∀ b, b ∈ fpA A → b ≠ G.block := by
        intro b hb e
        obtain ⟨ad, x, rfl, hx, hc⟩ := hA.at_ hfp
        have := (hA.block_lt hx) b hb
        omega
      have hGB : ∀ b, b ∈ fpA B → b ≠ G.block := by
        intro b hb e
        obtain ⟨ad, x, rfl, hx, hc⟩ := hB.at_ hgp
        have := (hB.block_lt hx) b hb
        omega
      go_wp2_with (fail)
      go_loopw [29] (fun i wr => ∃ k : Nat, k ≤ f.length ∧ i = .int .i64 k ∧ Wr w1 wr (some G) (ints (mulTo p f g k))) (fun i _ => f.length - (intOf i).toNat)
      case atStart => exact ⟨0, Nat.zero_le _, rfl, Wr.start his0⟩
      case round =>
        obtain ⟨k, hk, rfl, hw⟩ := hrel
        by_cases hlt : k < f.length
        · obtain ⟨ad, x, hA', hx, hca⟩ := (hA1.keeps hw.1 (fun b hb => by simp; exact hGA b hb)).at_ hlt
          have hxb := hf x (List.mem_of_getElem? hx)
          have hOl := mulTo_length p f g hgp k hk
          have hOr := mulTo_res h0 f g k
          have hnext : mulTo p f g (k + 1) = addAt p (mulTo p f g k) k x g := by rw [mulTo, getD_of_some hx]
          rw [← HN.out] at hOl
          generalize mulTo p f g k = O at hw hOl hOr hnext
          subst hA'
          have HX := Lib.hid hx
          have HNX := Lib.hid hnext
          have HOL := Lib.hid hOl
          clear hx hnext hOl
          have hDl : (O.drop k).length = n - k := by rw [List.length_drop, HOL.out]
          have hTl : (O.take k).length = k := by rw [List.length_take, HOL.out]; omega
          have HDL := Lib.hid hDl
          have HTL := Lib.hid hTl
          clear hDl hTl
          have hkn : k + g.length ≤ n := by have := HN1.out; omega
          obtain ⟨wo, hwo⟩ : ∃ wo : World, wo = wr := ⟨_, rfl⟩
          subst hwo
          clear hA hB
          go_wp2_with (fail)
          go_loopw [36] (fun i wr => ∃ j : Nat, j ≤ g.length ∧ i = .int .i64 j ∧ Wr w1 wr (some G) (ints (O.take k ++ ((addT p (O.drop k) x g).take j ++ (O.drop k).drop j)))) (fun i _ => g.length - (intOf i).toNat)
          case atStart => exact ⟨0, Nat.zero_le _, rfl, by simpa using hw⟩
          case round =>
            obtain ⟨j, hj, rfl, hw'⟩ := hrel
            have hll : (O.take k ++ ((addT p (O.drop k) x g).take j ++ (O.drop k).drop j)).length = n := by
              rw [List.length_append, len_take_drop (by simp) (by rw [HDL.out]; omega), HTL.out, HDL.out]; omega
            have his : IS wr (some G) n (O.take k ++ ((addT p (O.drop k) x g).take j ++ (O.drop k).drop j)) := by
              have hs0 := his0
              unfold IS at hs0 ⊢
              rw [mulTo_length p f g hgp 0 (Nat.zero_le _), ← HN.out] at hs0
              have := hw'.sl hs0 (by simpa using hll)
              rw [hll]; exact this
            by_cases hltj : j < g.length
            · obtain ⟨bd, y, hB', hy, hcb⟩ := (hB1.keeps hw'.1 (fun b hb => by simp; exact hGB b hb)).at_ hltj
              obtain ⟨ad', z, hG', hz, _, hcg, hf'⟩ := his.at_ (j := k + j) (by omega)
              obtain rfl := Option.some.inj hG'
              rw [List.getElem?_append_right (by rw [HTL.out]; omega), HTL.out, Nat.add_sub_cancel_left, get_take_drop (by simp) (by rw [HDL.out]; omega)] at hz
              have hfz := hf' (k + j)
              have hyb := hg y (List.mem_of_getElem? hy)
              have hzb := (hOr.drop k) z (List.mem_of_getElem? hz)
              have hw3 := hw'.set rfl (j := k + j) (by rw [ints_length, hll]; omega) (.int .i64 ((z + x * y) % p))
              rw [ints_set, set_append_mid HTL.out, take_append_step (by simp) (addT_get hz hy)] at hw3
              have HW := Lib.hid hw3
              have q1 := Int.emod_nonneg (x * y) (show p ≠ 0 by omega)
              have q2 := Int.emod_lt_of_pos (x * y) h0
              have b1 : (0 : Int) ≤ (k : Int) + (j : Int) := by omega
              have b2 : (k : Int) + (j : Int) < (n : Int) := by omega
              have b3 : ((k : Int) + (j : Int)).toNat = k + j := by omega
              subst hB'
              clear hw3 hw' his hll hf' hA1 hB1 hGA hGB hf hg his0 hG' hz hw hOr hy
              go_wp2_with (fail)
              refine wp_region_still_tail 17 (by kernel_rfl) (by kernel_rfl) ?_
              simp only [List.take_succ_cons, List.take_zero, List.drop_succ_cons, List.drop_zero]
              change wpStill _ _ wr.drew (fun a' => wpList _ _ _ _ a' wr.drew) _ _
              have c1 := stillC (fdMul_any p x y wr.drew h0 hxb.1 (by omega) hyb.1 (by omega))
              have c2 := stillC (fdAdd_any p z (x * y % p) wr.drew h0 (by omega) (by omega) (by omega) (by omega))
              have C1 := Lib.hid c1
              have C2 := Lib.hid c2
              clear c1 c2
              have ws : IntKind.i64.wrap ((k : Int) + (j : Int)) = (k : Int) + (j : Int) := IntWalk.i64_in _ (by omega)
              repeat still_step
              still_call C1.out
              repeat still_step
              still_call C2.out
              repeat still_step
              refine wpStill_nil ?_
              clear ws
              go_wp2_with (fail)
              go_roundw
              case rel => exact ⟨j + 1, by omega, by go_num, HW.out.drew⟩
              case measure => simp [intOf]; omega
            · obtain rfl : j = g.length := by omega
              rw [addT_take_end (by rw [HDL.out]; omega)] at hw'
              have hw4 : Wr w1 wr (some G) (ints (mulTo p f g (k + 1))) := by rw [HNX.out]; exact hw'
              clear hw' his hll
              go_wp2_with (fail)
              go_roundw
              case rel => exact ⟨k + 1, by omega, by go_num, hw4⟩
              case measure => simp [intOf]; omega
        · obtain rfl : k = f.length := by omega
          have hOl := mulTo_length p f g hgp f.length (Nat.le_refl _)
          rw [← HN.out] at hOl
          have hs0 := his0
          unfold IS at hs0
          rw [mulTo_length p f g hgp 0 (Nat.zero_le _), ← HN.out] at hs0
          have his := hw.sl hs0 (by simpa using hOl)
          have HOL := Lib.hid hOl
          clear hOl
          go_wp2_with (fail)
          go_ret
          refine ⟨some G, n, by rw [HOL.out]; rfl, ?_, fun b hb => by simp at hb; omega, below_keeps hb1 hw.1 hb1.size (fun b hb => by simp at hb; omega)⟩
          unfold IS; rw [HOL.out]; exact his

set_option maxHeartbeats 1000000 in
theorem polyMul_any (p : Int) (A B : Option Addr) (ca cb : Nat) (f g : List Int) (w : World) (hA : RdI w A f) (hB : RdI w B g) (hfl : f.length ≤ 1048576) (hgl : g.length ≤ 1048576)
    (h0 : 0 < p) (h97 : p ≤ 97) (hf : Res p f) (hg : Res p g) (htr : 0 < f.length → 0 < g.length → trimZ (mulTo p f g f.length) = mulTo p f g f.length) :
    Calls Tryd.prog 40 #[.int .i64 p, .slice A f.length ca, .slice B g.length cb] w (RetI w (mulM p f g)) := by
  by_cases hf0 : f.length = 0
  · have e0 : ((f.length : Int) == 0) = true := by rw [beq_iff_eq]; omega
    have em : mulM p f g = [] := by unfold mulM; rw [if_pos (.inl hf0)]
    rw [em]
    clear em hf0
    go_enter Tryd.func40, Tryd.ntmps40
    go_wp2_with (fail)
    go_ret
    exact ⟨some ⟨w.heap.size, 0, none⟩, 0, rfl, Sl.laid w 3 1 0 #[] (Nat.zero_le _) rfl, fun b hb => by simp at hb; omega, (Below.refl _ _).alloc (Nat.le_refl _) _⟩
  · by_cases hg0 : g.length = 0
    · have e0 : ((f.length : Int) == 0) = false := by rw [beq_eq_false_iff_ne]; omega
      have e1 : ((g.length : Int) == 0) = true := by rw [beq_iff_eq]; omega
      have em : mulM p f g = [] := by unfold mulM; rw [if_pos (.inr hg0)]
      rw [em]
      clear em hf0 hg0
      go_enter Tryd.func40, Tryd.ntmps40
      go_wp2_with (fail)
      go_ret
      exact ⟨some ⟨w.heap.size, 0, none⟩, 0, rfl, Sl.laid w 3 1 0 #[] (Nat.zero_le _) rfl, fun b hb => by simp at hb; omega, (Below.refl _ _).alloc (Nat.le_refl _) _⟩
    · have e0 : ((f.length : Int) == 0) = false := by rw [beq_eq_false_iff_ne]; omega
      have e1 : ((g.length : Int) == 0) = false := by rw [beq_eq_false_iff_ne]; omega
      have em : mulM p f g = mulTo p f g f.length := by unfold mulM; rw [if_neg (by omega)]
      rw [em]
      have htr' := Lib.hid (htr (by omega) (by omega))
      clear htr
      obtain ⟨n, hn⟩ : ∃ n, n = f.length + g.length - 1 := ⟨_, rfl⟩
      have hn1 : n + 1 = f.length + g.length := by omega
      have hz0 := zeros_any n w (by omega)
      have hz1 : Calls Tryd.prog 55 #[.int .i64 ((f.length : Int) + (g.length : Int) - 1)] w (RetI w (List.replicate n 0)) := by
        rw [show (f.length : Int) + (g.length : Int) - 1 = (n : Int) by omega]; exact hz0
      have HZ := Lib.hid hz1
      have HN := Lib.hid hn
      have HN1 := Lib.hid hn1
      have hnl : n ≤ 2097152 := by omega
      have hfp : 0 < f.length := by omega
      have hgp : 0 < g.length := by omega
      have hnge : f.length ≤ n := by omega
      have hnge2 : g.length ≤ n := by omega
      clear em hf0 hg0 hn hn1 hz0 hz1
      go_enter Tryd.func40, Tryd.ntmps40
      go_wp2_with (fail)
      refine HZ.out.mono ?_
      rintro e w1 ⟨A1, c1, rfl, hs1, hf1, hb1⟩
      rw [List.length_replicate]
      have his0 : Sl w1 3 1 A1 n c1 (ints (mulTo p f g 0)) := by
        have := hs1; unfold IS at this; rw [List.length_replicate] at this
        unfold mulTo; rw [← HN.out]; exact this
      have hA1 := hA.below hb1
      have hB1 := hB.below hb1
      have hGA : ∀ b, b ∈ fpA A → ¬ b ∈ fpA A1 := by
        intro b hb e
        obtain ⟨ad, x, rfl, hx, hc⟩ := hA.at_ hfp
        have := (hA.block_lt hx) b hb
        have := hf1 b e
        omega
      have hGB : ∀ b, b ∈ fpA B → ¬ b ∈ fpA A1 := by
        intro b hb e
        obtain ⟨ad, x, rfl, hx, hc⟩ := hB.at_ hgp
        have := (hB.block_lt hx) b hb
        have := hf1 b e
        omega
      clear hs1
      go_wp2_with (fail)
      go_loopw [28] (fun i wr => ∃ k : Nat, k ≤ f.length ∧ i = .int .i64 k ∧ Wr w1 wr A1 (ints (mulTo p f g k))) (fun i _ => f.length - (intOf i).toNat)
      case atStart => exact ⟨0, Nat.zero_le _, rfl, Wr.start his0⟩
      case round =>
        obtain ⟨k, hk, rfl, hw⟩ := hrel
        have hOl := mulTo_length p f g hgp k hk
        rw [← HN.out] at hOl
        have hsl := hw.sl his0 (by simpa using hOl)
        by_cases hlt : k < f.length
        · obtain ⟨ad, x, hA', hx, hca⟩ := (hA1.keeps hw.1 hGA).at_ hlt
          have hxb := hf x (List.mem_of_getElem? hx)
          have hOr := mulTo_res h0 f g k
          have hnext : mulTo p f g (k + 1) = addAt p (mulTo p f g k) k x g := by rw [mulTo, getD_of_some hx]
          generalize mulTo p f g k = O at hw hOl hOr hnext hsl
          subst hA'
          have hBr := hB1.keeps hw.1 hGB
          have HX := Lib.hid hx
          have HNX := Lib.hid hnext
          have HOL := Lib.hid hOl
          clear hx hnext hOl
          have hkn : k + g.length ≤ n := by have := HN1.out; omega
          have hkc : n ≤ c1 := hsl.2.1
          go_wp2_with (refine wpList_slice_Sl rfl (.tmp 34) (some (.tmp 35)) none none 22 rfl 3 Tryd.underlying22 info_int rfl hsl k n c1 (optSome (by omega)) (optNone ⟨rfl, rfl⟩) (optNone rfl) (by omega) (Nat.le_refl _) hkc (Nat.le_refl _) ?_; intro A2 hcut hfp2 hsub)
          have hcut' : IS wr A2 (c1 - k) (O.drop k) := by
            have e1 : (O.drop k).length = n - k := by rw [List.length_drop, HOL.out]
            unfold IS; rw [e1]
            have := hcut
            simp only [Nat.mul_one] at this
            rw [List.take_of_length_le (by simp [HOL.out])] at this
            simpa [ints, List.map_drop] using this
          have H := addTimes_any p x A2 B (c1 - k) cb (O.drop k) g wr hcut' hBr (fun _ b hb hb2 => hGB b hb (hfp2 b hb2)) (by rw [List.length_drop, HOL.out]; omega) (by rw [List.length_drop, HOL.out]; omega) h0 h97 (hOr.drop k) hg (by omega) (by omega)
          have hdl : (O.drop k).length = n - k := by rw [List.length_drop, HOL.out]
          rw [hdl] at H
          clear hcut
          go_wp2_with (fail)
          refine H.mono ?_
          rintro e w2 ⟨rfl, hw2⟩
          have hsup := Wr.super hsl hcut' (k := k) (new := ints (addT p (O.drop k) x g)) (by intro hp; have := hsub (by simp at hp; simp; omega); simpa using this) hfp2 hw2 (by rw [ints_length, addT_length, List.length_drop, HOL.out]; omega)
          have hnew : (ints O).take k ++ (ints (addT p (O.drop k) x g) ++ (ints O).drop (k + (ints (addT p (O.drop k) x g)).length)) = ints (mulTo p f g (k + 1)) := by
            rw [HNX.out]
            have e : (ints O).drop (k + (ints (addT p (O.drop k) x g)).length) = [] := List.drop_of_length_le (by simp [HOL.out]; omega)
            rw [e]; simp [addAt, ints, List.map_take]
          rw [hnew] at hsup
          have hw3 := Wr.trans hw hsup (by rw [HNX.out]; simp; rw [addAt_length _ _ _ _ _ (by rw [HOL.out]; omega)])
          clear hsup hnew hw2 H hdl hcut' hsl hw
          go_wp2_with (fail)
          go_roundw
          case rel => exact ⟨k + 1, by omega, by go_num, hw3⟩
          case measure => simp [intOf]; omega
        · obtain rfl : k = f.length := by omega
          have hIS : IS wr A1 c1 (mulTo p f g f.length) := by unfold IS; rw [hOl]; exact hsl
          have H := trimmed_any A1 c1 _ wr hIS (by rw [hOl]; omega)
          rw [htr'.out, hOl] at H
          have HOL := Lib.hid hOl
          clear hOl
          go_wp2_with (fail)
          refine H.mono ?_
          rintro e w2 ⟨⟨A4, c4, rfl, h4, hfp⟩, rfl⟩
          go_wp2_with (fail)
          go_ret
          exact ⟨A4, c4, rfl, h4, fun b hb => hf1 b (hfp b hb), below_keeps hb1 hw.1 hb1.size (fun b hb => hf1 b hb)⟩
end Go.Proofs.YtbgofkalanigfaaDoor
