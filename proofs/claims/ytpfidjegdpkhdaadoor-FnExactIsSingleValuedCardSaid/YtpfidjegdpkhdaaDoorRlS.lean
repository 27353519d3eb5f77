/-
  THE WALKS: lead, isZero, the parts of a row, is it single-valued.
-/
import Derived.Test.YtpfidjegdpkhdaaDoorRlR
import Derived.Test.YtpfidjegdpkhdaaDoorNull
namespace Go.Proofs.YtpfidjegdpkhdaaDoor
open Go.RowKit

set_option maxHeartbeats 400000 in
theorem lead_any (A : Option Addr) (c n : Nat) (l : List Int) (w : World) (h : RdI w A l) (hn : l.length = n) (hl : n ≤ 1048576) :
    Calls Tryd.prog 133 #[.slice A n c] w fun e w' => e = .returned (.int .i64 (leadV l : Nat)) ∧ w = w' := by
  have hn_h := Lib.hid hn
  clear hn
  go_enter Tryd.func133, Tryd.ntmps133
  go_wp2_with (fail)
  go_loop [7, 3, 4] (fun v _s3 _s4 => ∃ k : Nat, k ≤ n ∧ v = .int .i64 k ∧ (l.take k).all (· == 0) = true) (fun v _ _ => n - (intOf v).toNat)
  case atStart => exact ⟨0, Nat.zero_le _, rfl, by simp⟩
  case round =>
    obtain ⟨k, hk, rfl, hz⟩ := hrel
    have hz_h := Lib.hid hz
    clear hz
    by_cases hlt : k < n
    · obtain ⟨ad, x, rfl, hx, hc⟩ := h.at_ (j := k) (by rw [hn_h.out]; exact hlt)
      have hkI : (k : Int) < (n : Int) := by omega
      clear h
      have hx_h := Lib.hid hx
      clear hx
      by_cases hx0 : x = 0
      · subst hx0
        have hs := leadV_step hx_h.out rfl hz_h.out
        have hs_h := Lib.hid hs
        clear hs
        go_wp2_with (fail)
        go_round
        case rel => exact ⟨k + 1, by omega, by go_num, hs_h.out⟩
        case measure => simp [intOf]; omega
      · have hx1 : (x != 0) = true := by simpa using hx0
        have he := leadV_at (l := l) (k := k) (by rw [hn_h.out]; omega) hz_h.out (fun _ => by rw [getD_of_some hx_h.out]; exact hx0)
        clear hx0
        have he_h := Lib.hid he
        clear he
        go_wp2_with (fail)
        go_ret
        exact ⟨ret_int (by rw [he_h.out]), rfl⟩
    · obtain rfl : n = k := by omega
      have he := leadV_at (l := l) (k := n) (by rw [hn_h.out]; omega) hz_h.out (fun h => absurd h (by rw [hn_h.out]; omega))
      clear h
      have he_h := Lib.hid he
      clear he
      go_wp2_with (fail)
      go_ret
      exact ⟨ret_int (by rw [he_h.out]), rfl⟩
theorem isZero_any (A : Option Addr) (c n : Nat) (l : List Int) (w : World) (h : RdI w A l) (hn : l.length = n) (hl : n ≤ 1048576) :
    Calls Tryd.prog 138 #[.slice A n c] w fun e w' => e = .returned (.bool (((leadV l : Nat) : Int) == (n : Int))) ∧ w = w' := by
  have hL := lead_any A c n l w h hn hl
  obtain ⟨k, hk⟩ : ∃ k, k = leadV l := ⟨_, rfl⟩
  rw [← hk] at hL ⊢
  have hL_h := Lib.hid hL
  have hk_h := Lib.hid hk
  have hn_h := Lib.hid hn
  clear hL hk hn
  go_enter Tryd.func138, Tryd.ntmps138
  go_wp2_with (fail)
  refine (hL_h.out).mono ?_
  rintro e w1 ⟨rfl, rfl⟩
  go_wp2_with (fail)
  go_ret
  exact ⟨rfl, rfl⟩
theorem first_any (na : Nat) (b : Int) (x : Value) (_hx : x.oneCell' = true) (B : Option Addr) (cc n : Nat) (u : List Int) (w : World) (h : Sl w 3 1 B n cc (ints u)) (hna : na ≤ n) :
    Calls Tryd.prog 137 #[.agg #[.int .i64 na, .int .i64 b, x], .slice B n cc] w fun e w' => ∃ B', e = .returned (.slice B' na cc) ∧ Sl w' 3 1 B' na cc (ints (u.take na)) ∧ (∀ y, y ∈ fpA B' → y ∈ fpA B) ∧ Below w.heap.size w w' := by
  obtain ⟨W, hW, b0, k0⟩ := alloc_box w (.cells #[.int .i64 na, .int .i64 b, x] tRel)
  obtain ⟨⟨c0, c1, c2⟩, f0, f1, f2⟩ := box3 k0
  have hS := h.below b0
  have hcap := hS.2.1
  have hmx := hS.2.2.1
  have k0_h := Lib.hid k0
  have b0_h := Lib.hid b0
  clear k0 b0
  go_enter Tryd.func137, Tryd.ntmps137
  go_upto_region 1 with (fail)
  rw [← hW]
  clear hW
  go_wp2_with (refine wpList_slice_Sl rfl (.tmp 5) none (some (.tmp 7)) none 37 rfl 3 Tryd.underlying37 info_int rfl hS 0 na cc (optNone rfl) (optSome rfl) (optNone rfl) (Nat.zero_le _) hna (by omega) (Nat.le_refl _) ?_; intro B' hS' hf' _)
  go_ret
  refine ⟨B', rfl, ?_, hf', b0_h.out⟩
  have e : ((ints u).drop (0 * 1)).take ((na - 0) * 1) = ints (u.take na) := by simp [ints, List.map_take]
  rw [e] at hS'
  exact hS'
theorem second_any (na : Nat) (b : Int) (x : Value) (_hx : x.oneCell' = true) (B : Option Addr) (cc n r : Nat) (u : List Int) (w : World) (h : Sl w 3 1 B n cc (ints u)) (hna : n = na + r) :
    Calls Tryd.prog 97 #[.agg #[.int .i64 na, .int .i64 b, x], .slice B n cc] w fun e w' => ∃ B' c', e = .returned (.slice B' r c') ∧ Sl w' 3 1 B' r c' (ints (u.drop na)) ∧ (∀ y, y ∈ fpA B' → y ∈ fpA B) ∧ Below w.heap.size w w' := by
  obtain ⟨W, hW, b0, k0⟩ := alloc_box w (.cells #[.int .i64 na, .int .i64 b, x] tRel)
  obtain ⟨⟨c0, c1, c2⟩, f0, f1, f2⟩ := box3 k0
  have hS := h.below b0
  have hcap := hS.2.1
  have hmx := hS.2.2.1
  have hul : (ints u).length = n := by rw [hS.1]; omega
  have hle : na ≤ n := by omega
  have k0_h := Lib.hid k0
  have b0_h := Lib.hid b0
  have hul_h := Lib.hid hul
  have hna_h := Lib.hid hna
  clear k0 b0 hul hna
  go_enter Tryd.func97, Tryd.ntmps97
  go_upto_region 1 with (fail)
  rw [← hW]
  clear hW
  go_wp2_with (refine wpList_slice_Sl rfl (.tmp 5) (some (.tmp 7)) none none 37 rfl 3 Tryd.underlying37 info_int rfl hS na n cc (optSome rfl) (optNone ⟨rfl, rfl⟩) (optNone rfl) hle (Nat.le_refl _) hcap (Nat.le_refl _) ?_; intro B' hS' hf' _)
  have er : n - na = r := by have := hna_h.out; omega
  rw [er] at hS' ⊢
  go_wp2_with (fail)
  go_ret
  refine ⟨B', cc - na, rfl, ?_, hf', b0_h.out⟩
  have e : ((ints u).drop (na * 1)).take (r * 1) = ints (u.drop na) := by
    rw [List.take_of_length_le (by rw [List.length_drop, hul_h.out]; omega)]
    simp [ints, List.map_drop]
  rw [e] at hS'
  exact hS'
end Go.Proofs.YtpfidjegdpkhdaaDoor
