/-
  THE WALKS: are rows rows of n elements, on both sides.
-/
import Derived.Test.YtpfidjegdpkhdaaDoorSys
import Derived.Test.YtpfidjegdpkhdaaDoorField
namespace Go.Proofs.YtpfidjegdpkhdaaDoor
open Go.RowKit

/-- Each row has n elements of the field. -/
def rowsB (p n : Int) (L : List (List Int)) : Bool := L.all fun l => decide ((l.length : Int) = n) && inB 0 (p - 1) l
theorem rowsB_take_succ {p n : Int} {hs : List Hd} {k : Nat} {B : Option Addr} {c : Nat} {l : List Int} (h : hs[k]? = some (B, c, l)) :
    rowsB p n ((hs.take (k + 1)).map fun h : Hd => h.2.2) = (rowsB p n ((hs.take k).map fun h : Hd => h.2.2) && (decide ((l.length : Int) = n) && inB 0 (p - 1) l)) := by
  rw [List.take_add_one, h]
  simp [rowsB]
theorem rowsB_false {p n : Int} {hs : List Hd} {k : Nat} {B : Option Addr} {c : Nat} {l : List Int} (h : hs[k]? = some (B, c, l)) (hl : (decide ((l.length : Int) = n) && inB 0 (p - 1) l) = false) : rowsB p n (hs.map fun h : Hd => h.2.2) = false := by
  rw [Bool.eq_false_iff]
  intro hh
  have := List.all_eq_true.1 hh l (List.mem_map.2 ⟨_, List.mem_of_getElem? h, rfl⟩)
  rw [hl] at this; cases this

set_option maxHeartbeats 400000 in
theorem spRows_any (p n : Int) (A : Option Addr) (c : Nat) (hs : List Hd) (w : World) (h : RdR w A hs) (hl : hs.length ≤ 17592186044416) (hr : ∀ x, x ∈ hs → x.2.2.length ≤ 17592186044416) (hp : 0 ≤ p) (hp' : p ≤ 97) :
    Calls Tryd.prog 114 #[.int .i64 p, .int .i64 n, .slice A hs.length c] w fun e w' => e = .returned (.bool (rowsB p n (hs.map fun h : Hd => h.2.2))) ∧ w = w' := by
  go_enter Tryd.func114, Tryd.ntmps114
  go_wp2_with (fail)
  go_loop [11] (fun i => ∃ k : Nat, k ≤ hs.length ∧ i = .int .i64 k ∧ rowsB p n ((hs.take k).map fun h : Hd => h.2.2) = true) (fun i => hs.length - (intOf i).toNat)
  case atStart => exact ⟨0, Nat.zero_le _, rfl, rfl⟩
  case round =>
    obtain ⟨k, hk, rfl, ht⟩ := hrel
    have HT := Lib.hid ht
    clear ht
    by_cases hlt : k < hs.length
    · obtain ⟨ad, B, d, l, rfl, hx, hc, hri⟩ := h.at_ hlt
      have hll : l.length ≤ 17592186044416 := hr _ (List.mem_of_getElem? hx)
      have HX := Lib.hid hx
      have hkI : (k : Int) < (hs.length : Int) := by omega
      clear hx h hr
      by_cases hn : (l.length : Int) = n
      · have h1 : ((l.length : Int) != n) = false := by simp [hn]
        have HN := Lib.hid hn
        have hF := fdIn_any p B d l w hri hll hp hp'
        clear hn
        by_cases hb : inB 0 (p - 1) l = true
        · rw [hb] at hF
          have HF := Lib.hid hF
          have HB := Lib.hid hb
          clear hF hb
          go_wp2_with (go_at_call 79; refine HF.out.mono ?_; rintro e w' ⟨rfl, rfl⟩)
          go_round
          case rel => exact ⟨k + 1, by omega, by go_num, by rw [rowsB_take_succ HX.out, HT.out, HB.out]; simp [HN.out]⟩
          case measure => simp [intOf]; omega
        · have hb' : inB 0 (p - 1) l = false := by simpa using hb
          rw [hb'] at hF
          have HF := Lib.hid hF
          have HB := Lib.hid hb'
          clear hF hb hb'
          go_wp2_with (go_at_call 79; refine HF.out.mono ?_; rintro e w' ⟨rfl, rfl⟩)
          go_ret
          exact ⟨ret_bool (rowsB_false HX.out (by rw [HB.out]; simp)).symm, rfl⟩
      · have h1 : ((l.length : Int) != n) = true := by simp [hn]
        have HN := Lib.hid hn
        clear hn
        go_wp2_with (fail)
        go_ret
        exact ⟨ret_bool (rowsB_false HX.out (by simp [HN.out])).symm, rfl⟩
    · obtain rfl : k = hs.length := by omega
      clear h hr
      go_wp2_with (fail)
      go_ret
      exact ⟨ret_bool (by have := HT.out; rw [List.take_length] at this; exact this.symm), rfl⟩

set_option maxHeartbeats 400000 in
theorem areVectors_any (p n : Int) (A : Option Addr) (c : Nat) (hs : List Hd) (w : World) (h : RdR w A hs) (hl : hs.length ≤ 17592186044416) (hr : ∀ x, x ∈ hs → x.2.2.length ≤ 17592186044416) :
    Calls Tryd.prog 118 #[.int .i64 p, .slice A hs.length c, .int .i64 n] w fun e w' => e = .returned (.bool (rowsB p n (hs.map fun h : Hd => h.2.2))) ∧ w = w' := by
  go_enter Tryd.func118, Tryd.ntmps118
  go_wp2_with (fail)
  go_loop [11] (fun i => ∃ k : Nat, k ≤ hs.length ∧ i = .int .i64 k ∧ rowsB p n ((hs.take k).map fun h : Hd => h.2.2) = true) (fun i => hs.length - (intOf i).toNat)
  case atStart => exact ⟨0, Nat.zero_le _, rfl, rfl⟩
  case round =>
    obtain ⟨k, hk, rfl, ht⟩ := hrel
    have HT := Lib.hid ht
    clear ht
    by_cases hlt : k < hs.length
    · obtain ⟨ad, B, d, l, rfl, hx, hc, hri⟩ := h.at_ hlt
      have hll : l.length ≤ 17592186044416 := hr _ (List.mem_of_getElem? hx)
      have HX := Lib.hid hx
      have hkI : (k : Int) < (hs.length : Int) := by omega
      have hF := isVector_any p B d l n w hri hll
      clear hx h hr
      by_cases hb : (decide ((l.length : Int) = n) && inB 0 (p - 1) l) = true
      · rw [hb] at hF
        have HF := Lib.hid hF
        have HB := Lib.hid hb
        clear hF hb
        go_wp2_with (go_at_call 87; refine HF.out.mono ?_; rintro e w' ⟨rfl, rfl⟩)
        go_round
        case rel => exact ⟨k + 1, by omega, by go_num, by rw [rowsB_take_succ HX.out, HT.out, HB.out]; rfl⟩
        case measure => simp [intOf]; omega
      · have hb' : (decide ((l.length : Int) = n) && inB 0 (p - 1) l) = false := by simpa using hb
        rw [hb'] at hF
        have HF := Lib.hid hF
        have HB := Lib.hid hb'
        clear hF hb hb'
        go_wp2_with (go_at_call 87; refine HF.out.mono ?_; rintro e w' ⟨rfl, rfl⟩)
        go_ret
        exact ⟨ret_bool (rowsB_false HX.out HB.out).symm, rfl⟩
    · obtain rfl : k = hs.length := by omega
      clear h hr
      go_wp2_with (fail)
      go_ret
      exact ⟨ret_bool (by have := HT.out; rw [List.take_length] at this; exact this.symm), rfl⟩
end Go.Proofs.YtpfidjegdpkhdaaDoor
