/-
  THE LAW's HELPERS OVER [][]int: szIntS, szIntSS: the guard on sizes.
-/
import Derived.Test.YtahnhblodfdfhaaDoorHelpSS
namespace Go.Proofs.YtahnhblodfdfhaaDoor
open Go.RowKit

/-- What szIntS returns. -/
def szV (left : Int) (n : Nat) : Int := if left - n < 0 then -1 else left - n
/-- What szIntSS returns of the rows from one on. -/
def szSS : List (List Int) → Int → Int
  | [], left => left
  | l :: L, left => if szV left l.length < 0 then -1 else szSS L (szV left l.length)
def szR (L : List (List Int)) (left : Int) : Int := if szV left L.length < 0 then -1 else szSS L (szV left L.length)
theorem szSS_spec : ∀ (L : List (List Int)) (left : Int), 0 ≤ szSS L left → (∀ l, l ∈ L → (l.length : Int) ≤ left) ∧ (cntR L : Int) ≤ left ∧ szSS L left ≤ left
  | [], left, h => ⟨fun l hl => (by cases hl), h, Int.le_refl _⟩
  | l :: L, left, h => by
    rw [szSS] at h ⊢
    split at h
    · omega
    · rename_i h0
      rw [if_neg h0]
      have e : szV left l.length = left - l.length := by unfold szV at h0 ⊢; split <;> simp_all
      rw [e] at h ⊢
      obtain ⟨h1, h2, h3⟩ := szSS_spec L _ h
      refine ⟨fun m hm => ?_, ?_, by omega⟩
      · rcases List.mem_cons.1 hm with rfl | hm
        · have : 0 ≤ left - (m.length : Int) := by omega
          omega
        · have := h1 m hm; omega
      · show ((l.length + cntR L : Nat) : Int) ≤ left
        omega
theorem szR_spec {L : List (List Int)} {left : Int} (h : 0 ≤ szR L left) : (L.length : Int) ≤ left ∧ (∀ l, l ∈ L → (l.length : Int) ≤ left) ∧ (cntR L : Int) + L.length ≤ left ∧ szR L left ≤ left := by
  unfold szR at h ⊢
  split at h
  · omega
  · rename_i h0
    rw [if_neg h0]
    have e : szV left L.length = left - L.length := by unfold szV at h0 ⊢; split <;> simp_all
    rw [e] at h ⊢
    obtain ⟨h1, h2, h3⟩ := szSS_spec L _ h
    refine ⟨by omega, fun l hl => ?_, by omega, by omega⟩
    have := h1 l hl; omega

set_option maxHeartbeats 400000 in
theorem szIntS_any (A : Option Addr) (c n : Nat) (left : Int) (w : World) (h0 : 0 ≤ left) (h1 : left ≤ 1048576) (hn : n ≤ 9223372036854775807) :
    Calls Tryd.prog 75 #[.slice A n c, .int .i64 left] w fun e w' => e = .returned (.int .i64 (szV left n)) ∧ w = w' := by
  have hw : (-9223372036854775808 : Int) ≤ left - (n : Int) ∧ left - (n : Int) ≤ 9223372036854775807 := by omega
  have ww : IntKind.i64.wrap (left - (n : Int)) = left - (n : Int) := IntWalk.i64_in _ (by omega)
  by_cases hlt : left - (n : Int) < 0
  · have e : szV left n = -1 := if_pos hlt
    rw [e]
    clear e
    go_enter Tryd.func75, Tryd.ntmps75
    go_wp2_with (fail)
    go_ret
    exact ⟨rfl, rfl⟩
  · have e : szV left n = left - (n : Int) := if_neg hlt
    rw [e]
    clear e
    go_enter Tryd.func75, Tryd.ntmps75
    go_wp2_with (fail)
    go_ret
    exact ⟨rfl, rfl⟩

set_option maxHeartbeats 1000000 in
theorem szIntSS_any (A : Option Addr) (c : Nat) (hs : List Hd) (left : Int) (w : World) (h : RdR w A hs) (h0 : 0 ≤ left) (h1 : left ≤ 1048576) (hn : hs.length ≤ 9223372036854775807) (hr : ∀ x, x ∈ hs → x.2.2.length ≤ 9223372036854775807) :
    Calls Tryd.prog 47 #[.slice A hs.length c, .int .i64 left] w fun e w' => e = .returned (.int .i64 (szR (hs.map fun h : Hd => h.2.2) left)) ∧ w = w' := by
  have ww : IntKind.i64.wrap (left - (hs.length : Int)) = left - (hs.length : Int) := IntWalk.i64_in _ (by omega)
  by_cases hlt : left - (hs.length : Int) < 0
  · have e : szR (hs.map fun h : Hd => h.2.2) left = -1 := by unfold szR szV; rw [List.length_map, if_pos hlt]; rfl
    rw [e]
    clear e h hr
    go_enter Tryd.func47, Tryd.ntmps47
    go_wp2_with (fail)
    go_ret
    exact ⟨rfl, rfl⟩
  · obtain ⟨S, hS⟩ : ∃ S, S = szR (hs.map fun h : Hd => h.2.2) left := ⟨_, rfl⟩
    have e : szSS ((hs.drop 0).map fun h : Hd => h.2.2) (left - (hs.length : Int)) = S := by
      rw [hS]; unfold szR szV; rw [List.length_map, if_neg hlt, if_neg hlt]; rfl
    rw [← hS]
    have HE := Lib.hid e
    clear e hS
    have hle : hs.length ≤ 1048576 := by omega
    go_enter Tryd.func47, Tryd.ntmps47
    go_wp2_with (fail)
    go_loop [1, 5] (fun v i => ∃ (k : Nat) (z : Int), k ≤ hs.length ∧ i = .int .i64 k ∧ v = .int .i64 z ∧ 0 ≤ z ∧ z ≤ 1048576 ∧ szSS ((hs.drop k).map fun h : Hd => h.2.2) z = S) (fun _ i => hs.length - (intOf i).toNat)
    case atStart => exact ⟨0, _, Nat.zero_le _, rfl, rfl, by omega, by omega, HE.out⟩
    case round =>
      obtain ⟨k, z, hk, rfl, rfl, hz0, hz1, he⟩ := hrel
      by_cases hltk : k < hs.length
      · obtain ⟨ad, B, d, l, rfl, hx, hc, hri⟩ := h.at_ hltk
        have hll : l.length ≤ 9223372036854775807 := hr _ (List.mem_of_getElem? hx)
        have hd : (hs.drop k).map (fun h : Hd => h.2.2) = l :: (hs.drop (k + 1)).map fun h : Hd => h.2.2 := by
          rw [List.drop_eq_getElem_cons hltk, List.map_cons]
          congr 1
          rw [List.getElem?_eq_getElem hltk] at hx
          rw [Option.some.inj hx]
        rw [hd, szSS] at he
        have hsz := szIntS_any B d l.length z w hz0 hz1 hll
        have hkI : (k : Int) < (hs.length : Int) := by omega
        clear hx hd h hr
        by_cases hneg : z - (l.length : Int) < 0
        · have e1 : szV z l.length = -1 := if_pos hneg
          rw [e1] at hsz he
          rw [if_pos (by decide)] at he
          subst he
          have HSZ := Lib.hid hsz
          clear hsz e1 HE
          go_wp2_with (go_at_call 75; refine HSZ.out.mono ?_; rintro e w' ⟨rfl, rfl⟩)
          go_ret
          exact ⟨rfl, rfl⟩
        · have e1 : szV z l.length = z - (l.length : Int) := if_neg hneg
          rw [e1] at hsz he
          rw [if_neg hneg] at he
          have HSZ := Lib.hid hsz
          have HEE := Lib.hid he
          clear hsz e1 he
          go_wp2_with (go_at_call 75; refine HSZ.out.mono ?_; rintro e w' ⟨rfl, rfl⟩)
          go_round
          case rel => exact ⟨k + 1, _, by omega, by go_num, rfl, by omega, by omega, HEE.out⟩
          case measure => simp [intOf]; omega
      · obtain rfl : k = hs.length := by omega
        rw [List.drop_length] at he
        have he' : z = S := he
        subst he'
        clear he h hr HE
        go_wp2_with (fail)
        go_ret
        exact ⟨rfl, rfl⟩
end Go.Proofs.YtahnhblodfdfhaaDoor
