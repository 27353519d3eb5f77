/-
  ROWS AS THE CODE COMPARES THEM: spec.l1Same, spSame; slices.Equal, slices.EqualFunc, impl.sameRows.
-/
import Derived.Test.YtahnhblodfdfhaaDoorHelpSS
namespace Go.Proofs.YtahnhblodfdfhaaDoor
open Go.RowKit

set_option maxHeartbeats 400000 in
theorem l1Same_any (A B : Option Addr) (c d : Nat) (l m : List Int) (w : World) (ha : RdI w A l) (hb : RdI w B m) (hl : l.length ≤ 17592186044416) :
    Calls Tryd.prog 183 #[.slice A l.length c, .slice B m.length d] w fun e w' => e = .returned (.bool (decide (l = m))) ∧ Qt w w' := by
  by_cases hlen : l.length = m.length
  · have h0 : ((l.length : Int) != (m.length : Int)) = false := by rw [hlen]; simp
    go_enter Tryd.func183, Tryd.ntmps183
    go_wp2
    go_loopw [13] (fun i wr => ∃ k n : Nat, k ≤ l.length ∧ i = .int .i64 k ∧ l.take k = m.take k ∧ wr = w.drewN n)
      (fun i _ => l.length - (intOf i).toNat)
    case atStart => exact ⟨0, 0, Nat.zero_le _, rfl, by simp, rfl⟩
    case round =>
      obtain ⟨k, n, hk, rfl, htk, rfl⟩ := hrel
      by_cases hlt : k < l.length
      · obtain ⟨ad, x, rfl, hx, hc⟩ := ha.at_ hlt
        obtain ⟨ad', y, rfl, hy, hc'⟩ := hb.at_ (j := k) (by omega)
        have hlt2 : (k : Int) < (m.length : Int) := by omega
        have HT := Lib.hid htk
        have HL := Lib.hid hlen
        have HX := Lib.hid hx
        have HY := Lib.hid hy
        clear htk hlen hx hy ha hb h0
        go_wp2
        go_quiet (fail)
        go_wp2
        · have hne : (x != y) = true := by assumption
          go_ret
          refine ⟨ret_bool ?_, _, World.drewN_drewN _ _ _⟩
          have : ¬ l = m := by
            intro e
            have h1 := HX.out; have h2 := HY.out
            rw [e, h2] at h1
            simp at hne; exact hne (Option.some.inj h1).symm
          simp [this]
        · have heq : (x != y) = false := by assumption
          go_roundw
          case rel =>
            refine ⟨k + 1, _, by omega, by go_num, ?_, rfl⟩
            have e : x = y := by simpa using heq
            rw [List.take_add_one, List.take_add_one, HT.out, HX.out, HY.out, e]
          case measure => simp [intOf]; omega
      · obtain rfl : k = l.length := by omega
        have HT := Lib.hid htk
        clear htk
        go_wp2
        go_ret
        refine ⟨ret_bool ?_, _, rfl⟩
        have := HT.out
        rw [List.take_of_length_le (Nat.le_refl _), List.take_of_length_le (by omega)] at this
        simp [this]
  · have h0 : ((l.length : Int) != (m.length : Int)) = true := by simp; omega
    go_enter Tryd.func183, Tryd.ntmps183
    go_wp2
    go_ret
    refine ⟨ret_bool ?_, 0, rfl⟩
    have : ¬ l = m := fun e => hlen (by rw [e])
    simp [this]
set_option maxHeartbeats 1000000 in
theorem spSame_any (A B : Option Addr) (c d : Nat) (hs gs : List Hd) (w : World) (ha : RdR w A hs) (hb : RdR w B gs) (hl : hs.length ≤ 17592186044416) (hr : ∀ x, x ∈ hs → x.2.2.length ≤ 17592186044416) :
    Calls Tryd.prog 159 #[.slice A hs.length c, .slice B gs.length d] w fun e w' => e = .returned (.bool (decide (hs.map (fun h : Hd => h.2.2) = gs.map (fun h : Hd => h.2.2)))) ∧ Qt w w' := by
  by_cases hlen : hs.length = gs.length
  · have h0 : ((hs.length : Int) != (gs.length : Int)) = false := by rw [hlen]; simp
    go_enter Tryd.func159, Tryd.ntmps159
    go_wp2
    go_loopw [13] (fun i wr => ∃ k n : Nat, k ≤ hs.length ∧ i = .int .i64 k ∧ (hs.take k).map (fun h : Hd => h.2.2) = (gs.take k).map (fun h : Hd => h.2.2) ∧ wr = w.drewN n)
      (fun i _ => hs.length - (intOf i).toNat)
    case atStart => exact ⟨0, 0, Nat.zero_le _, rfl, by simp, rfl⟩
    case round =>
      obtain ⟨k, n, hk, rfl, htk, hwr⟩ := hrel
      have ha : RdR wr A hs := by rw [hwr]; exact ha
      have hb : RdR wr B gs := by rw [hwr]; exact hb
      have HW := Lib.hid hwr
      clear hwr
      by_cases hlt : k < hs.length
      · obtain ⟨ad, B1, c1, l, rfl, hx, hc1, hr1⟩ := ha.at_ hlt
        obtain ⟨bd, B2, c2, m, rfl, hy, hc2, hr2⟩ := hb.at_ (k := k) (by omega)
        have hll : l.length ≤ 17592186044416 := hr _ (List.mem_of_getElem? hx)
        have hlt2 : (k : Int) < (gs.length : Int) := by omega
        have HT := Lib.hid htk
        have HL := Lib.hid hlen
        have HX := Lib.hid hx
        have HY := Lib.hid hy
        clear htk hlen hx hy ha hb h0 hr
        by_cases hlm : l = m
        · have hd : decide (l = m) = true := decide_eq_true hlm
          have hQ := fun q => l1Same_any B1 B2 c1 c2 l m (wr.drewN q) hr1 hr2 hll
          rw [hd] at hQ
          have HQ := Lib.hid hQ
          have HLM := Lib.hid hlm
          clear hQ hd hlm
          go_wp2
          go_quiet (first | (go_at_call 183; refine Calls.quiet_of (HQ.out _)))
          go_wp2
          go_roundw
          case rel => exact ⟨k + 1, _, by omega, by go_num, by rw [List.take_add_one, List.take_add_one, List.map_append, List.map_append, HT.out, HX.out, HY.out, HLM.out]; rfl, by rw [HW.out]; exact World.drewN_drewN _ _ _⟩
          case measure => simp [intOf]; omega
        · have hd : decide (l = m) = false := decide_eq_false hlm
          have hQ := fun q => l1Same_any B1 B2 c1 c2 l m (wr.drewN q) hr1 hr2 hll
          rw [hd] at hQ
          have HQ := Lib.hid hQ
          have HLM := Lib.hid hlm
          clear hQ hd hlm
          go_wp2
          go_quiet (first | (go_at_call 183; refine Calls.quiet_of (HQ.out _)))
          go_wp2
          go_ret
          refine ⟨ret_bool ?_, _, by rw [HW.out]; exact World.drewN_drewN _ _ _⟩
          symm
          apply decide_eq_false
          intro e
          have h1 := congrArg (·[k]?) e
          simp only [List.getElem?_map, HX.out, HY.out, Option.map_some, Option.some.injEq] at h1
          exact HLM.out h1
      · obtain rfl : k = hs.length := by omega
        have HT := Lib.hid htk
        clear htk
        go_wp2
        go_ret
        refine ⟨ret_bool ?_, _, HW.out⟩
        have := HT.out
        rw [List.take_of_length_le (Nat.le_refl _), List.take_of_length_le (by omega)] at this
        exact (decide_eq_true this).symm
  · have h0 : ((hs.length : Int) != (gs.length : Int)) = true := by simp; omega
    go_enter Tryd.func159, Tryd.ntmps159
    go_wp2
    go_ret
    refine ⟨ret_bool ?_, 0, rfl⟩
    symm
    apply decide_eq_false
    intro e
    have := congrArg List.length e
    simp at this
    exact hlen this
end Go.Proofs.YtahnhblodfdfhaaDoor
