/-
  THE WALKS: mod, zeros, addTimes, trimmed, l1Own, clone, poTrim, l1Most, fdAdd .. (both sides' building blocks over lists of residues).
-/
import Derived.Test.YtbgofkalanigfaaDoorPolyM
import Derived.Test.YtbgofkalanigfaaDoorField
namespace Go.Proofs.YtbgofkalanigfaaDoor
open Go.RowKit

theorem tmod_neg {a p : Int} (ha : a < 0) (hp : 0 < p) : (a.tmod p = 0 ∧ a % p = 0) ∨ (a.tmod p < 0 ∧ a.tmod p + p = a % p) := by
  have e : a.tmod p = -((-a) % p) := by
    have h1 : (-a).tmod p = (-a) % p := Int.tmod_eq_emod_of_nonneg (by omega)
    rw [← h1, Int.neg_tmod, Int.neg_neg]
  have h2 := Int.emod_nonneg (-a) (show p ≠ 0 by omega)
  have h3 := Int.emod_lt_of_pos (-a) hp
  have h4 := Int.emod_nonneg a (show p ≠ 0 by omega)
  have h5 := Int.emod_lt_of_pos a hp
  have h6 : (a % p + (-a) % p) % p = 0 := by rw [← Int.add_emod, show a + -a = 0 by omega]; simp
  rw [e]
  by_cases h0 : (-a) % p = 0
  · left; refine ⟨by omega, ?_⟩
    rw [h0, Int.add_zero, Int.emod_eq_of_lt h4 h5] at h6; exact h6
  · right; refine ⟨by omega, ?_⟩
    by_cases h7 : a % p + (-a) % p < p
    · rw [Int.emod_eq_of_lt (by omega) h7] at h6; omega
    · have h8 : (a % p + (-a) % p) % p = a % p + (-a) % p - p := by
        rw [← Int.sub_emod_right, Int.emod_eq_of_lt (by omega) (by omega)]
      omega

set_option maxHeartbeats 400000 in
theorem mod_any (p a : Int) (w : World) (h0 : 0 < p) (h97 : p ≤ 97) (ha : -1000000000 ≤ a) (ha' : a ≤ 1000000000) :
    Calls Tryd.prog 67 #[.int .i64 p, .int .i64 a] w fun e w' => e = .returned (.int .i64 (a % p)) ∧ w = w' := by
  have hz : (p == 0) = false := by rw [beq_eq_false_iff_ne]; omega
  have h1 := Int.emod_nonneg a (show p ≠ 0 by omega)
  have h2 := Int.emod_lt_of_pos a h0
  by_cases hneg : 0 ≤ a
  · go_enter Tryd.func67, Tryd.ntmps67
    go_wp2_with (fail)
    go_ret
    exact ⟨ret_int rfl, rfl⟩
  · obtain ⟨t, ht⟩ : ∃ t, a.tmod p = t := ⟨_, rfl⟩
    have hcase := tmod_neg (a := a) (p := p) (by omega) h0
    rw [ht] at hcase
    rcases hcase with ⟨rfl, he⟩ | ⟨hlt, he⟩
    · have HE := Lib.hid he
      clear he
      go_enter Tryd.func67, Tryd.ntmps67
      go_wp2_with (fail)
      go_ret
      exact ⟨ret_int HE.out.symm, rfl⟩
    · have HE := Lib.hid he
      have hgt : -97 ≤ t := by omega
      clear he
      go_enter Tryd.func67, Tryd.ntmps67
      go_wp2_with (fail)
      go_ret
      exact ⟨ret_int HE.out, rfl⟩

set_option maxHeartbeats 400000 in
theorem zeros_any (n : Nat) (w : World) (hn : n ≤ 17592186044416) :
    Calls Tryd.prog 55 #[.int .i64 n] w (RetI w (List.replicate n 0)) := by
  go_enter Tryd.func55, Tryd.ntmps55
  go_wp2_with (at_make; refine wpList_make_Sl _ rfl _ _ _ rfl 3 Tryd.underlying22 info_int n n rfl rfl rfl rfl (Nat.le_refl _) (by omega) (by unfold maxLen; omega) ?_; intro G w1 hs hG hb1)
  go_ret
  refine ⟨some G, n, by simp, ?_, fun b hb => by simp at hb; subst hb; exact hG, hb1⟩
  unfold IS; rw [← madeZeros]; simpa using hs

set_option maxHeartbeats 400000 in
theorem l1Own_any (A : Option Addr) (c : Nat) (l : List Int) (w : World) (h : RdI w A l) (hl : l.length ≤ 17592186044416) :
    Calls Tryd.prog 59 #[.slice A l.length c] w (RetI w l) := by
  go_enter Tryd.func59, Tryd.ntmps59
  have hs0 := Sl.laid w 3 1 0 #[] (Nat.zero_le _) rfl
  go_wp2_with (at_builtin; refine wpList_append_Sl _ rfl _ _ _ rfl 3 Tryd.underlying22 info_int rfl (by omega) rfl hs0 rfl (by simp) (h.rdc.alloc _) (ints_one l) (by unfold maxLen; omega) (by omega) ?_; intro A1 cap1 w1 hs hA hk)
  go_ret
  refine ⟨A1, cap1, by simp, ?_, ?_, ?_⟩
  · simpa [IS] using hs
  · intro b hb
    rcases hA b hb with h1 | h1
    · simp at h1; omega
    · simp at h1; omega
  · exact ((Below.refl w.heap.size w).alloc (Nat.le_refl _) _).trans (hk.below (by simp) (by simp))

set_option maxHeartbeats 400000 in
theorem clone_any (A : Option Addr) (c : Nat) (l : List Int) (w : World) (h : RdI w A l) (hl : l.length ≤ 17592186044416) :
    Calls Tryd.prog 44 #[.slice A l.length c] w (RetI w l) := by
  go_enter Tryd.func44, Tryd.ntmps44
  have hs0 := Sl.laid w 3 1 0 #[] (Nat.zero_le _) rfl
  go_wp2_with (at_builtin; refine wpList_append_Sl _ rfl _ _ _ rfl 3 Tryd.underlying22 info_int rfl (by omega) rfl hs0 rfl (by simp) (h.rdc.alloc _) (ints_one l) (by unfold maxLen; omega) (by omega) ?_; intro A1 cap1 w1 hs hA hk)
  go_ret
  refine ⟨A1, cap1, by simp, ?_, ?_, ?_⟩
  · simpa [IS] using hs
  · intro b hb
    rcases hA b hb with h1 | h1
    · simp at h1; omega
    · simp at h1; omega
  · exact ((Below.refl w.heap.size w).alloc (Nat.le_refl _) _).trans (hk.below (by simp) (by simp))

theorem get_take_drop {α : Type} {l m : List α} {k : Nat} (hl : l.length = m.length) (hk : k < m.length) : (l.take k ++ m.drop k)[k]? = m[k]? := by
  rw [List.getElem?_append_right (by simp; omega)]
  simp [show min k l.length = k by omega]
theorem len_take_drop {α : Type} {l m : List α} {k : Nat} (hl : l.length = m.length) (hk : k ≤ m.length) : (l.take k ++ m.drop k).length = m.length := by simp; omega

set_option maxHeartbeats 400000 in
theorem addTimes_any (p c : Int) (A B : Option Addr) (ca cb : Nat) (v m : List Int) (w : World) (hA : IS w A ca v) (hB : RdI w B m) (hd : 0 < m.length → ∀ b, b ∈ fpA B → b ∉ fpA A) (hlen : m.length ≤ v.length) (hvl : v.length ≤ 17592186044416)
    (h0 : 0 < p) (h97 : p ≤ 97) (hv : ∀ x, x ∈ v → 0 ≤ x ∧ x < p) (hm : ∀ x, x ∈ m → 0 ≤ x ∧ x < p) (hc : -10000 ≤ c) (hc' : c ≤ 10000) :
    Calls Tryd.prog 56 #[.int .i64 p, .slice A v.length ca, .int .i64 c, .slice B m.length cb] w fun e w' => e = .returned (.tuple #[]) ∧ Wr w w' A (ints (addT p v c m)) := by
  go_enter Tryd.func56, Tryd.ntmps56
  go_wp2_with (fail)
  go_loopw [12] (fun i wr => ∃ k : Nat, k ≤ m.length ∧ i = .int .i64 k ∧ Wr w wr A (ints ((addT p v c m).take k ++ v.drop k))) (fun i _ => m.length - (intOf i).toNat)
  case atStart => exact ⟨0, Nat.zero_le _, rfl, by simpa using Wr.start hA⟩
  case round =>
    obtain ⟨k, hk, rfl, hw⟩ := hrel
    have hll : ((addT p v c m).take k ++ v.drop k).length = v.length := len_take_drop (by simp) (by omega)
    by_cases hlt : k < m.length
    · obtain ⟨bd, y, hB', hy, hcb⟩ := (hB.keeps hw.1 (hd (by omega))).at_ hlt
      have his : IS wr A ca ((addT p v c m).take k ++ v.drop k) := by
        have := hw.sl hA (by simp; omega)
        unfold IS; rw [hll]; exact this
      obtain ⟨ad, x, hA', hx, hbl, hca, hf'⟩ := his.at_ (j := k) (by omega)
      rw [get_take_drop (by simp) (by omega)] at hx
      have hf := hf' k
      have hxb := hv x (List.mem_of_getElem? hx)
      have hyb := hm y (List.mem_of_getElem? hy)
      have hw2 := hw.set hA' (j := k) (by rw [ints_length, hll]; omega) (.int .i64 ((x + c * y) % p))
      rw [ints_set, take_append_step (by simp) (addT_get hx hy)] at hw2
      have HW := Lib.hid hw2
      have hkv : (k : Int) < (v.length : Int) := by omega
      have hp1 : -1000000 ≤ c * y ∧ c * y ≤ 1000000 := by
        have h1 : c * y ≤ 10000 * y := Int.mul_le_mul_of_nonneg_right hc' hyb.1
        have h2 : (-10000) * y ≤ c * y := Int.mul_le_mul_of_nonneg_right hc hyb.1
        omega
      obtain ⟨hp1a, hp1b⟩ := hp1
      subst hA'
      subst hB'
      clear hw2 hx hy hw his hA hB hd hll hf' hv hm
      go_wp2_with (go_at_call 67; refine (mod_any _ _ _ h0 h97 (by omega) (by omega)).mono ?_; rintro e w' ⟨rfl, rfl⟩)
      go_roundw
      case rel => exact ⟨k + 1, by omega, by go_num, HW.out⟩
      case measure => simp [intOf]; omega
    · obtain rfl : k = m.length := by omega
      rw [addT_take_end hlen] at hw
      clear hll hA hB hd hv hm
      go_wp2_with (fail)
      go_end0
      exact ⟨rfl, hw⟩

/-- What a function leaves that returns a part of a slice that it was handed. -/
def RetSub (w : World) (A : Option Addr) (l : List Int) (e : Ending) (w' : World) : Prop := (∃ A' c', e = .returned (.slice A' l.length c') ∧ IS w A' c' l ∧ ∀ b, b ∈ fpA A' → b ∈ fpA A) ∧ w = w'

set_option maxHeartbeats 400000 in
theorem trimmed_any (A : Option Addr) (ca : Nat) (l : List Int) (w : World) (hA : IS w A ca l) (hl : l.length ≤ 17592186044416) :
    Calls Tryd.prog 57 #[.slice A l.length ca, .int .i64 0] w (RetSub w A (trimZ l)) := by
  go_enter Tryd.func57, Tryd.ntmps57
  go_wp2_with (fail)
  go_loop [5] (fun v => ∃ n : Nat, n ≤ l.length ∧ v = .int .i64 n ∧ ∀ x, x ∈ l.drop n → x = 0) (fun v => (intOf v).toNat)
  case atStart => exact ⟨l.length, Nat.le_refl _, rfl, by simp⟩
  case round =>
    obtain ⟨n, hn, rfl, hz⟩ := hrel
    have HZ := Lib.hid hz
    clear hz
    have hcase : n = 0 ∨ ∃ m, n = m + 1 ∧ m < l.length := by
      rcases n with _ | m
      · exact .inl rfl
      · exact .inr ⟨m, rfl, by omega⟩
    rcases hcase with rfl | ⟨m, rfl, hm⟩
    · have HT := Lib.hid (trimZ_eq_take (Nat.zero_le _) HZ.out (.inl rfl))
      clear hn
      go_wp2_with (refine wpList_slice_Sl rfl (.tmp 21) none (some (.tmp 22)) (some (.tmp 23)) 42 rfl 3 Tryd.underlying42 info_int rfl hA 0 (0) (0) (optNone rfl) (optSome (by omega)) (optSome (by omega)) (Nat.zero_le _) (by omega) (Nat.le_refl _) (by have := hA.2.1; omega) ?_; intro A' hcut hfp _)
      go_ret
      have e := HT.out
      exact ⟨⟨A', 0, by rw [e]; rfl, by rw [e]; unfold IS; simpa [ints] using hcut, hfp⟩, rfl⟩
    · obtain ⟨ad, x, hA', hx, _, hcell, _⟩ := hA.at_ hm
      have HA := Lib.hid hA'
      have HX := Lib.hid hx
      subst hA'
      clear hx
      have hpos : (0 : Int) < (m : Int) + 1 := by omega
      by_cases hx0 : x = 0
      · have hb : (x == 0) = true := by simpa using hx0
        have HX0 := Lib.hid hx0
        clear hx0
        go_wp2_with (fail)
        go_round
        case rel =>
          refine ⟨m, by omega, by go_num, ?_⟩
          intro y hy
          rw [List.drop_eq_getElem_cons hm] at hy
          rcases List.mem_cons.1 hy with rfl | hy
          · have h1 := HX.out
            rw [List.getElem?_eq_getElem hm] at h1
            rw [Option.some.inj h1, HX0.out]
          · exact HZ.out y hy
        case measure => simp [intOf]
      · have hb : (x == 0) = false := by simpa using hx0
        have HT := Lib.hid (trimZ_eq_take hn HZ.out (.inr (by rw [Nat.add_sub_cancel, getD_of_some HX.out]; exact hx0)))
        clear hx0
        go_wp2_with (refine wpList_slice_Sl rfl (.tmp 21) none (some (.tmp 22)) (some (.tmp 23)) 42 rfl 3 Tryd.underlying42 info_int rfl hA 0 (m + 1) (m + 1) (optNone rfl) (optSome (by omega)) (optSome (by omega)) (Nat.zero_le _) (by omega) (Nat.le_refl _) (by have := hA.2.1; omega) ?_; intro A' hcut hfp _)
        go_ret
        have e := HT.out
        have el : (trimZ l).length = m + 1 := by rw [e]; simp; omega
        exact ⟨⟨A', m + 1, by rw [el]; rfl, by unfold IS; rw [el, e]; simpa [ints, List.map_take] using hcut, hfp⟩, rfl⟩

set_option maxHeartbeats 400000 in
theorem poTrim_any (A : Option Addr) (ca : Nat) (l : List Int) (w : World) (hA : IS w A ca l) (hl : l.length ≤ 17592186044416) :
    Calls Tryd.prog 54 #[.slice A l.length ca] w (RetI w (trimZ l)) := by
  go_enter Tryd.func54, Tryd.ntmps54
  go_wp2_with (fail)
  go_loop [3] (fun v => ∃ n : Nat, n ≤ l.length ∧ v = .int .i64 n ∧ ∀ x, x ∈ l.drop n → x = 0) (fun v => (intOf v).toNat)
  case atStart => exact ⟨l.length, Nat.le_refl _, rfl, by simp⟩
  case round =>
    obtain ⟨n, hn, rfl, hz⟩ := hrel
    have HZ := Lib.hid hz
    clear hz
    have hcase : n = 0 ∨ ∃ m, n = m + 1 ∧ m < l.length := by
      rcases n with _ | m
      · exact .inl rfl
      · exact .inr ⟨m, rfl, by omega⟩
    rcases hcase with rfl | ⟨m, rfl, hm⟩
    · have HT := Lib.hid (trimZ_eq_take (Nat.zero_le _) HZ.out (.inl rfl))
      clear hn
      go_wp2_with (refine wpList_slice_Sl rfl (.tmp 18) none (some (.tmp 19)) none 22 rfl 3 Tryd.underlying22 info_int rfl hA 0 (0) ca (optNone rfl) (optSome (by omega)) (optNone rfl) (Nat.zero_le _) (by omega) (by have := hA.2.1; omega) (Nat.le_refl _) ?_; intro A' hcut _ _)
      have e := HT.out
      have hc : IS w A' ca (trimZ l) := by rw [e]; unfold IS; simpa [ints] using hcut
      have hlen : (trimZ l).length = 0 := by rw [e]; simp
      have H := l1Own_any A' ca (trimZ l) w hc.rd (by omega)
      rw [hlen] at H
      refine H.mono ?_
      rintro e' w' ⟨A2, c2, rfl, h2⟩
      rw [hlen]
      go_wp2_with (fail)
      go_ret
      exact ⟨A2, c2, by rw [hlen]; rfl, h2⟩
    · obtain ⟨ad, x, hA', hx, _, hcell, _⟩ := hA.at_ hm
      have HA := Lib.hid hA'
      have HX := Lib.hid hx
      subst hA'
      clear hx
      have hpos : (0 : Int) < (m : Int) + 1 := by omega
      by_cases hx0 : x = 0
      · have hb : (x == 0) = true := by simpa using hx0
        have HX0 := Lib.hid hx0
        clear hx0
        go_wp2_with (fail)
        go_round
        case rel =>
          refine ⟨m, by omega, by go_num, ?_⟩
          intro y hy
          rw [List.drop_eq_getElem_cons hm] at hy
          rcases List.mem_cons.1 hy with rfl | hy
          · have h1 := HX.out
            rw [List.getElem?_eq_getElem hm] at h1
            rw [Option.some.inj h1, HX0.out]
          · exact HZ.out y hy
        case measure => simp [intOf]
      · have hb : (x == 0) = false := by simpa using hx0
        have HT := Lib.hid (trimZ_eq_take hn HZ.out (.inr (by rw [Nat.add_sub_cancel, getD_of_some HX.out]; exact hx0)))
        clear hx0
        go_wp2_with (refine wpList_slice_Sl rfl (.tmp 18) none (some (.tmp 19)) none 22 rfl 3 Tryd.underlying22 info_int rfl hA 0 (m + 1) ca (optNone rfl) (optSome (by omega)) (optNone rfl) (Nat.zero_le _) (by omega) (by have := hA.2.1; omega) (Nat.le_refl _) ?_; intro A' hcut _ _)
        have e := HT.out
        have el : (trimZ l).length = m + 1 := by rw [e]; simp; omega
        have hc : IS w A' ca (trimZ l) := by unfold IS; rw [el, e]; simpa [ints, List.map_take] using hcut
        have H := l1Own_any A' ca (trimZ l) w hc.rd (by omega)
        rw [el] at H
        refine H.mono ?_
        rintro e' w' ⟨A2, c2, rfl, h2⟩
        rw [el]
        go_wp2_with (fail)
        go_ret
        exact ⟨A2, c2, by rw [el]; rfl, h2⟩
end Go.Proofs.YtbgofkalanigfaaDoor
