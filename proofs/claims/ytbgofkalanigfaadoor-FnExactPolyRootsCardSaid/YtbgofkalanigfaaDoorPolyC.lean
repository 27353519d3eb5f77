/-
  THE WALKS: sums of polynomials on both sides.
-/
import Derived.Test.YtbgofkalanigfaaDoorPolyB
namespace Go.Proofs.YtbgofkalanigfaaDoor
open Go.RowKit

set_option maxHeartbeats 400000 in
theorem fdAdd_any (p a b : Int) (w : World) (h0 : 0 < p) (ha : 0 ≤ a) (ha' : a ≤ 1000000000) (hb : 0 ≤ b) (hb' : b ≤ 1000000000) :
    Calls Tryd.prog 50 #[.int .i64 p, .int .i64 a, .int .i64 b] w fun e w' => e = .returned (.int .i64 ((a + b) % p)) ∧ w = w' := by
  have hz : (p == 0) = false := by rw [beq_eq_false_iff_ne]; omega
  go_enter Tryd.func50, Tryd.ntmps50
  go_wp2_with (fail)
  go_ret
  exact ⟨rfl, rfl⟩

theorem mul_bound {a b : Int} (ha : 0 ≤ a) (ha' : a ≤ 10000) (hb : 0 ≤ b) (hb' : b ≤ 10000) : 0 ≤ a * b ∧ a * b ≤ 100000000 := by
  refine ⟨Int.mul_nonneg ha hb, ?_⟩
  have h1 : a * b ≤ 10000 * b := Int.mul_le_mul_of_nonneg_right ha' hb
  omega

set_option maxHeartbeats 400000 in
theorem fdMul_any (p a b : Int) (w : World) (h0 : 0 < p) (ha : 0 ≤ a) (ha' : a ≤ 10000) (hb : 0 ≤ b) (hb' : b ≤ 10000) :
    Calls Tryd.prog 51 #[.int .i64 p, .int .i64 a, .int .i64 b] w fun e w' => e = .returned (.int .i64 (a * b % p)) ∧ w = w' := by
  have hz : (p == 0) = false := by rw [beq_eq_false_iff_ne]; omega
  obtain ⟨h1, h2⟩ := mul_bound ha ha' hb hb'
  go_enter Tryd.func51, Tryd.ntmps51
  go_wp2_with (fail)
  go_ret
  exact ⟨rfl, rfl⟩

set_option maxHeartbeats 400000 in
theorem l1Most_any (n m : Nat) (w : World) :
    Calls Tryd.prog 53 #[.int .i64 n, .int .i64 m] w fun e w' => e = .returned (.int .i64 ((max n m : Nat) : Int)) ∧ w = w' := by
  by_cases h : m < n
  · have h' : (m : Int) < (n : Int) := by omega
    go_enter Tryd.func53, Tryd.ntmps53
    go_wp2_with (fail)
    go_ret
    exact ⟨ret_int (by omega), rfl⟩
  · have h' : ¬ (m : Int) < (n : Int) := by omega
    go_enter Tryd.func53, Tryd.ntmps53
    go_wp2_with (fail)
    go_ret
    exact ⟨ret_int (by omega), rfl⟩

/-- f, filled up with zeros to n places. -/
def padZ (n : Nat) (f : List Int) : List Int := f ++ List.replicate (n - f.length) 0
theorem padZ_length {n : Nat} {f : List Int} (h : f.length ≤ n) : (padZ n f).length = n := by simp [padZ]; omega
theorem padZ_get {n : Nat} {f : List Int} {k : Nat} {x : Int} (h : f[k]? = some x) : (padZ n f)[k]? = some x := by
  have := (List.getElem?_eq_some_iff.1 h).1
  rw [padZ, List.getElem?_append_left this]; exact h
theorem padZ_end {n : Nat} {f : List Int} : (padZ n f).take f.length ++ (List.replicate n (0 : Int)).drop f.length = padZ n f := by simp [padZ]
theorem padZ_bounds {p : Int} (hp : 0 < p) {n : Nat} {f : List Int} (h : ∀ x, x ∈ f → 0 ≤ x ∧ x < p) : ∀ x, x ∈ padZ n f → 0 ≤ x ∧ x < p := by
  intro x hx
  simp only [padZ, List.mem_append, List.mem_replicate] at hx
  rcases hx with hx | ⟨_, rfl⟩
  · exact h x hx
  · omega

/-- The sum f + c g of coefficient lists. -/
def sumM (p : Int) (f : List Int) (c : Int) (g : List Int) : List Int := trimZ (addT p (padZ (max f.length g.length) f) c g)

set_option maxHeartbeats 1000000 in
theorem poAdd_any (p : Int) (A B : Option Addr) (ca cb : Nat) (f g : List Int) (w : World) (hA : RdI w A f) (hB : RdI w B g) (hfl : f.length ≤ 1048576) (hgl : g.length ≤ 1048576)
    (h0 : 0 < p) (h97 : p ≤ 97) (hf : ∀ x, x ∈ f → 0 ≤ x ∧ x < p) (hg : ∀ x, x ∈ g → 0 ≤ x ∧ x < p) :
    Calls Tryd.prog 35 #[.int .i64 p, .slice A f.length ca, .slice B g.length cb] w (RetI w (sumM p f 1 g)) := by
  obtain ⟨n, hn⟩ : ∃ n, n = max f.length g.length := ⟨_, rfl⟩
  have hfn : f.length ≤ n := by omega
  have hgn : g.length ≤ n := by omega
  have hnl : n ≤ 1048576 := by omega
  have HN := Lib.hid hn
  clear hn
  go_enter Tryd.func35, Tryd.ntmps35
  go_wp2_with (first | (go_at_call 53; refine (l1Most_any _ _ _).mono ?_; rw [← HN.out]; rintro e w' ⟨rfl, rfl⟩) | (at_make; refine wpList_make_Sl _ rfl _ _ _ rfl 3 Tryd.underlying22 info_int n n rfl rfl rfl rfl (Nat.le_refl _) (by omega) (by unfold maxLen; omega) ?_; intro G w1 hs hG hb1))
  have his0 : IS w1 (some G) n (List.replicate n 0) := by unfold IS; rw [← madeZeros]; simpa using hs
  clear hs
  have hA1 := hA.below hb1
  have hB1 := hB.below hb1
  have hGA : ∀ b, b ∈ fpA A → 0 < f.length → b ≠ G.block := by
    intro b hb hp e
    obtain ⟨ad, x, rfl, hx, hc⟩ := hA.at_ hp
    have := (hA.block_lt hx) b hb
    omega
  have hGB : ∀ b, b ∈ fpA B → 0 < g.length → b ≠ G.block := by
    intro b hb hp e
    obtain ⟨ad, x, rfl, hx, hc⟩ := hB.at_ hp
    have := (hB.block_lt hx) b hb
    omega
  go_loopw [20] (fun i wr => ∃ k : Nat, k ≤ f.length ∧ i = .int .i64 k ∧ Wr w1 wr (some G) (ints ((padZ n f).take k ++ (List.replicate n 0).drop k))) (fun i _ => f.length - (intOf i).toNat)
  case atStart => exact ⟨0, Nat.zero_le _, rfl, by simpa using Wr.start his0⟩
  case round =>
    obtain ⟨k, hk, rfl, hw⟩ := hrel
    have hll : ((padZ n f).take k ++ (List.replicate n (0 : Int)).drop k).length = n := by rw [len_take_drop (by simp [padZ_length hfn]) (by simp; omega)]; simp
    have his : IS wr (some G) n ((padZ n f).take k ++ (List.replicate n 0).drop k) := by
      have := hw.sl his0 (by simpa using hll)
      unfold IS; rw [hll]; simpa using this
    by_cases hlt : k < f.length
    · obtain ⟨ad, x, hA', hx, hca⟩ := (hA1.keeps hw.1 (fun b hb => by simp; exact hGA b hb (by omega))).at_ hlt
      obtain ⟨ad', y, hG', _, _, hcg, hf'⟩ := his.at_ (j := k) (by omega)
      obtain rfl := Option.some.inj hG'
      have hfz := hf' k
      have hw2 := hw.set rfl (j := k) (by rw [ints_length, hll]; omega) (.int .i64 x)
      rw [ints_set, take_append_step (by simp [padZ_length hfn]) (padZ_get hx)] at hw2
      have HW := Lib.hid hw2
      have hkv : (k : Int) < (n : Int) := by omega
      subst hA'
      clear hw2 hw his hll hf' hA hB hA1 hB1 hGA hGB hf hg his0 hG' hx
      go_wp2_with (fail)
      go_roundw
      case rel => exact ⟨k + 1, by omega, by go_num, HW.out⟩
      case measure => simp [intOf]; omega
    · obtain rfl : k = f.length := by omega
      rw [padZ_end] at hw his
      clear hll
      have hFb := padZ_bounds (n := n) h0 hf
      have hFl := padZ_length hfn
      obtain ⟨F, hF⟩ : ∃ F, F = padZ n f := ⟨_, rfl⟩
      rw [← hF] at hw his hFb hFl
      have HF := Lib.hid hF
      clear hF
      have hB2 := hB1
      clear hB1 hA1
      obtain ⟨w2, hw2e⟩ : ∃ w2, w2 = wr := ⟨_, rfl⟩
      subst hw2e
      have HFL := Lib.hid hFl
      clear hFl
      go_wp2_with (fail)
      go_loopw [32] (fun i wr => ∃ k : Nat, k ≤ g.length ∧ i = .int .i64 k ∧ Wr w1 wr (some G) (ints ((addT p F 1 g).take k ++ F.drop k))) (fun i _ => g.length - (intOf i).toNat)
      case atStart => exact ⟨0, Nat.zero_le _, rfl, by simpa using hw⟩
      case round =>
        obtain ⟨k, hk, rfl, hw'⟩ := hrel
        have hll : ((addT p F 1 g).take k ++ F.drop k).length = n := by rw [len_take_drop (by simp) (by rw [HFL.out]; omega), HFL.out]
        have his' : IS wr (some G) n ((addT p F 1 g).take k ++ F.drop k) := by
          have := hw'.sl his0 (by simpa using hll)
          unfold IS; rw [hll]; simpa using this
        by_cases hlt : k < g.length
        · obtain ⟨ad, y, hB', hy, hca⟩ := (hB2.keeps hw'.1 (fun b hb => by simp; exact hGB b hb (by omega))).at_ hlt
          obtain ⟨ad', x, hG', hx, _, hcg, hf'⟩ := his'.at_ (j := k) (by omega)
          obtain rfl := Option.some.inj hG'
          rw [get_take_drop (by simp) (by rw [HFL.out]; omega)] at hx
          have hfz := hf' k
          have hxb := hFb x (List.mem_of_getElem? hx)
          have hyb := hg y (List.mem_of_getElem? hy)
          have hw3 := hw'.set rfl (j := k) (by rw [ints_length, hll]; omega) (.int .i64 ((x + y) % p))
          rw [ints_set, take_append_step (by simp) (by rw [addT_get hx hy, Int.one_mul])] at hw3
          have HW := Lib.hid hw3
          have hkv : (k : Int) < (n : Int) := by omega
          subst hB'
          clear hw3 hw' his' hll hf' hA hB hB2 hGA hGB hf hg his0 hG' hx hw his hFb hy
          go_wp2_with (go_at_call 50; refine (fdAdd_any _ _ _ _ h0 (by omega) (by omega) (by omega) (by omega)).mono ?_; rintro e w' ⟨rfl, rfl⟩)
          go_roundw
          case rel => exact ⟨k + 1, by omega, by go_num, HW.out⟩
          case measure => simp [intOf]; omega
        · obtain rfl : k = g.length := by omega
          rw [addT_take_end (by rw [HFL.out]; exact hgn)] at his' hw'
          clear hll
          have hlen : (addT p F 1 g).length = n := by rw [addT_length, HFL.out]
          have H := poTrim_any (some G) n (addT p F 1 g) wr his' (by omega)
          rw [hlen] at H
          go_wp2_with (fail)
          refine H.mono ?_
          rintro e w3 ⟨A3, c3, rfl, h3, hf3, hb3⟩
          go_wp2_with (fail)
          go_ret
          have he : trimZ (addT p F 1 g) = sumM p f 1 g := by rw [HF.out, HN.out]; rfl
          rw [he] at h3
          have hbw : Below w.heap.size w wr := below_keeps hb1 hw'.1 hb1.size (fun k hk => by simp at hk; omega)
          exact ⟨A3, c3, by rw [← he]; rfl, h3, hf3.mono hbw.size, below_trans hbw hb3 hbw.size⟩

set_option maxHeartbeats 1000000 in
theorem polyAdd_any (p c : Int) (A B : Option Addr) (ca cb : Nat) (f g : List Int) (w : World) (hA : RdI w A f) (hB : RdI w B g) (hfl : f.length ≤ 1048576) (hgl : g.length ≤ 1048576)
    (h0 : 0 < p) (h97 : p ≤ 97) (hf : ∀ x, x ∈ f → 0 ≤ x ∧ x < p) (hg : ∀ x, x ∈ g → 0 ≤ x ∧ x < p) (hc : -10000 ≤ c) (hc' : c ≤ 10000) :
    Calls Tryd.prog 36 #[.int .i64 p, .slice A f.length ca, .int .i64 c, .slice B g.length cb] w (RetI w (sumM p f c g)) := by
  obtain ⟨n, hn⟩ : ∃ n, n = max f.length g.length := ⟨_, rfl⟩
  have hfn : f.length ≤ n := by omega
  have hgn : g.length ≤ n := by omega
  have hnl : n ≤ 1048576 := by omega
  have HN := Lib.hid hn
  clear hn
  by_cases hord : f.length < g.length
  · obtain rfl : n = g.length := by have := HN.out; omega
    have hord' : (f.length : Int) ≤ (g.length : Int) := by omega
    go_enter Tryd.func36, Tryd.ntmps36
    go_wp2_with (fail)
    refine (zeros_any g.length _ (by omega)).mono ?_
    rintro e w1 ⟨A1, c1, rfl, h1, hf1, hb1⟩
    rw [List.length_replicate]
    have h1' : Sl w1 3 1 A1 g.length c1 (ints (List.replicate g.length 0)) := by have := h1; unfold IS at this; rw [List.length_replicate] at this; exact this
    have hA1 := hA.below hb1
    have hB1 := hB.below hb1
    have hdis : ∀ b, b ∈ fpA B → 0 < g.length → b ∉ fpA A1 := by
      intro b hb hp hb'
      obtain ⟨bd, x, rfl, hx, hcx⟩ := hB.at_ hp
      have := (hB.block_lt hx) b hb
      have := hf1 b hb'
      omega
    go_wp2_with (refine wpList_copy_Sl rfl (.tmp 16) (.tmp 17) 22 42 rfl 3 Tryd.underlying22 info_int (by omega) rfl h1' rfl (by simp) hA1.rdc (ints_one f) ?_; intro w2 hw2)
    have hmin : min f.length g.length = f.length := by omega
    have hF : (ints f).take (min f.length g.length * 1) ++ (ints (List.replicate g.length 0)).drop (min f.length g.length * 1) = ints (padZ g.length f) := by
      rw [hmin]; simp [padZ, ints, List.take_of_length_le]
    rw [hF] at hw2
    have hFl : (padZ g.length f).length = g.length := padZ_length (by omega)
    have h2 : IS w2 A1 c1 (padZ g.length f) := by
      have := hw2.sl h1' (by simpa using hFl)
      unfold IS; rw [hFl]; exact this
    have hB2 : RdI w2 B g := by
      by_cases hp : 0 < g.length
      · exact hB1.keeps hw2.1 (fun b hb => hdis b hb hp)
      · have : g = [] := List.eq_nil_of_length_eq_zero (by omega)
        subst this; intro j x hj; simp at hj
    clear hF hmin
    have H := addTimes_any p c A1 B c1 cb (padZ g.length f) g w2 h2 hB2
    have H := H (fun hp b hb => hdis b hb hp) (by omega) (by omega) h0 h97 (padZ_bounds h0 hf) hg hc hc'
    rw [hFl] at H
    have HF := Lib.hid hFl
    clear hFl
    go_wp2_with (fail)
    refine H.mono ?_
    rintro e w3 ⟨rfl, hw3⟩
    have h3 : IS w3 A1 c1 (addT p (padZ g.length f) c g) := by
      have := hw3.sl h2 (by simp)
      unfold IS; rw [addT_length]; exact this
    have H := trimmed_any A1 c1 _ w3 h3 (by rw [addT_length, HF.out]; omega)
    rw [addT_length, HF.out] at H
    go_wp2_with (fail)
    refine H.mono ?_
    rintro e w4 ⟨⟨A4, c4, rfl, h4, hfp⟩, rfl⟩
    go_wp2_with (fail)
    go_ret
    have hbw : Below w.heap.size w w3 := below_keeps (below_keeps hb1 hw2.1 hb1.size (fun k hk => hf1 k hk)) hw3.1 (Nat.le_trans hb1.size hw2.1.size) (fun k hk => hf1 k hk)
    refine ⟨A4, c4, ?_, ?_, fun b hb => hf1 b (hfp b hb), hbw⟩
    · unfold sumM; rw [← HN.out]; rfl
    · unfold sumM; rw [← HN.out]; exact h4
  · obtain rfl : n = f.length := by have := HN.out; omega
    have hord' : ¬ (f.length : Int) < (g.length : Int) := by omega
    have hord'' : (g.length : Int) ≤ (f.length : Int) := by omega
    go_enter Tryd.func36, Tryd.ntmps36
    go_wp2_with (fail)
    refine (zeros_any f.length _ (by omega)).mono ?_
    rintro e w1 ⟨A1, c1, rfl, h1, hf1, hb1⟩
    rw [List.length_replicate]
    have h1' : Sl w1 3 1 A1 f.length c1 (ints (List.replicate f.length 0)) := by have := h1; unfold IS at this; rw [List.length_replicate] at this; exact this
    have hA1 := hA.below hb1
    have hB1 := hB.below hb1
    have hdis : ∀ b, b ∈ fpA B → 0 < g.length → b ∉ fpA A1 := by
      intro b hb hp hb'
      obtain ⟨bd, x, rfl, hx, hcx⟩ := hB.at_ hp
      have := (hB.block_lt hx) b hb
      have := hf1 b hb'
      omega
    go_wp2_with (refine wpList_copy_Sl rfl (.tmp 16) (.tmp 17) 22 42 rfl 3 Tryd.underlying22 info_int (by omega) rfl h1' rfl (by simp) hA1.rdc (ints_one f) ?_; intro w2 hw2)
    have hmin : min f.length f.length = f.length := by omega
    have hF : (ints f).take (min f.length f.length * 1) ++ (ints (List.replicate f.length 0)).drop (min f.length f.length * 1) = ints (padZ f.length f) := by
      rw [hmin]; simp [padZ, ints, List.take_of_length_le]
    rw [hF] at hw2
    have hFl : (padZ f.length f).length = f.length := padZ_length (by omega)
    have h2 : IS w2 A1 c1 (padZ f.length f) := by
      have := hw2.sl h1' (by simpa using hFl)
      unfold IS; rw [hFl]; exact this
    have hB2 : RdI w2 B g := by
      by_cases hp : 0 < g.length
      · exact hB1.keeps hw2.1 (fun b hb => hdis b hb hp)
      · have : g = [] := List.eq_nil_of_length_eq_zero (by omega)
        subst this; intro j x hj; simp at hj
    clear hF hmin
    have H := addTimes_any p c A1 B c1 cb (padZ f.length f) g w2 h2 hB2
    have H := H (fun hp b hb => hdis b hb hp) (by omega) (by omega) h0 h97 (padZ_bounds h0 hf) hg hc hc'
    rw [hFl] at H
    have HF := Lib.hid hFl
    clear hFl
    go_wp2_with (fail)
    refine H.mono ?_
    rintro e w3 ⟨rfl, hw3⟩
    have h3 : IS w3 A1 c1 (addT p (padZ f.length f) c g) := by
      have := hw3.sl h2 (by simp)
      unfold IS; rw [addT_length]; exact this
    have H := trimmed_any A1 c1 _ w3 h3 (by rw [addT_length, HF.out]; omega)
    rw [addT_length, HF.out] at H
    go_wp2_with (fail)
    refine H.mono ?_
    rintro e w4 ⟨⟨A4, c4, rfl, h4, hfp⟩, rfl⟩
    go_wp2_with (fail)
    go_ret
    have hbw : Below w.heap.size w w3 := below_keeps (below_keeps hb1 hw2.1 hb1.size (fun k hk => hf1 k hk)) hw3.1 (Nat.le_trans hb1.size hw2.1.size) (fun k hk => hf1 k hk)
    refine ⟨A4, c4, ?_, ?_, fun b hb => hf1 b (hfp b hb), hbw⟩
    · unfold sumM; rw [← HN.out]; rfl
    · unfold sumM; rw [← HN.out]; exact h4
end Go.Proofs.YtbgofkalanigfaaDoor
