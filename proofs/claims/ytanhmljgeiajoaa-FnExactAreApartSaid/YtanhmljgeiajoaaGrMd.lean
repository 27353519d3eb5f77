/-
  THE WALK: impl.areDifferent.
-/
import Derived.Test.YtanhmljgeiajoaaGrMo
namespace Go.Proofs.Ytanhmljgeiajoaa
open Go.RowKit

set_option maxRecDepth 8000 in
set_option maxHeartbeats 2000000 in
theorem areDifferent_any (A : Option Addr) (c n : Nat) (l : List Int) (w : World) (h : RdI w A l) (hl : l.length ≤ 1048576) (hn : n ≤ 1048576) :
    Calls Try.prog 101 #[.slice A l.length c, .int .i64 n] w fun e w' => e = .returned (.bool (difB (n : Int) l)) ∧ Below w.heap.size w w' := by
  obtain ⟨m, hm⟩ : ∃ m, m = l.length := ⟨_, rfl⟩
  obtain ⟨T, hT⟩ : ∃ T, T = difB (n : Int) l := ⟨_, rfl⟩
  rw [← hm] at hl ⊢
  rw [← hT]
  have hm_h := Lib.hid hm
  have hT_h := Lib.hid hT
  clear hm hT
  go_enter Try.func101, Try.ntmps101
  go_wp2_with (at_make; refine wpList_make_Sl _ rfl _ _ _ rfl tBool Try.underlying106 info_bool n n rfl rfl rfl rfl (Nat.le_refl _) (by omega) (by unfold maxLen; omega) ?_; intro G w1 hs hG hb1)
  have hs0 : Sl w1 tBool 1 (some G) n n (bls (seenM n (l.take 0))) := by
    have e : (madeCells (Value.bool false).cells (n * 1)).toList.take (n * 1) = bls (List.replicate n false) := by
      rw [Nat.mul_one]; simp [Value.cells, toList_madeCells_one, bls]
    rw [List.take_zero, seenM_nil, ← e]; exact hs
  have hp0 : difGo (n : Int) (l.take 0) (l.drop 0) = T := by rw [hT_h.out]; rfl
  clear hs
  have hs0_h := Lib.hid hs0
  have hp0_h := Lib.hid hp0
  have hb1_h := Lib.hid hb1
  clear hs0 hp0 hb1
  go_loopw [12] (fun iv wr => ∃ k : Nat, k ≤ m ∧ iv = .int .i64 k ∧ Sl wr tBool 1 (some G) n n (bls (seenM n (l.take k))) ∧ difGo (n : Int) (l.take k) (l.drop k) = T ∧ Below w.heap.size w wr) (fun iv _ => m - (intOf iv).toNat)
  case atStart => exact ⟨0, Nat.zero_le _, rfl, hs0_h.out, hp0_h.out, hb1_h.out⟩
  case round =>
    obtain ⟨k, hk, rfl, hS, hp, hB⟩ := hrel
    clear hs0_h hp0_h
    by_cases hlt : k < m
    · obtain ⟨ad, x, rfl, hx, hc⟩ := (h.below' hB).at_ (j := k) (by rw [← hm_h.out]; exact hlt)
      have hkI : (k : Int) < (m : Int) := by omega
      have htk : l.take (k + 1) = l.take k ++ [x] := by rw [List.take_add_one, hx]; rfl
      rw [drop_of hx] at hp
      unfold difGo at hp
      have wn : IntKind.i64.wrap ((n : Int) - 1) = (n : Int) - 1 := IntWalk.i64_in _ (by omega)
      by_cases hin : inB x 0 ((n : Int) - 1) = true
      · have hb0 : 0 ≤ x ∧ x ≤ (n : Int) - 1 := of_decide_eq_true hin
        obtain ⟨j, rfl⟩ : ∃ j : Nat, x = (j : Int) := ⟨x.toNat, by omega⟩
        have hjm : j < n := by omega
        have hI := fun (W : World) => within_any (j : Int) 0 ((n : Int) - 1) W
        simp only [hin] at hI
        obtain ⟨b, hb⟩ : ∃ b, b = (l.take k).contains (j : Int) := ⟨_, rfl⟩
        have hsn := seenM_get (n := n) (l := l.take k) hjm
        rw [← hb] at hsn
        obtain ⟨ad2, e2, -, y0, y1⟩ := Sl.cell hS (bls_get hsn)
        obtain rfl := Option.some.inj e2
        have y1j := y1 j
        have hj0 : (0 : Int) ≤ (j : Int) := by omega
        have hjc : (j : Int) < (n : Int) := by omega
        rw [hin, ← hb, Bool.true_and] at hp
        cases b
        · rw [if_pos (by rfl), ← htk] at hp
          have hset := Sl.set hS rfl j (.bool true) (by simp [bls]; omega)
          rw [bls_set, ← seenM_in hjm, ← htk] at hset
          have hks : Keeps (fun b => b = G.block) wr (wr.setCell (G.add j) (.bool true)) := Keeps.setCell (S := fun b => b = G.block) (Keeps.refl _ wr) (p := G.add j) (by rw [block_of_add]) _
          have hB2 := below_keeps hB hks hB.size (fun b hb => by omega)
          clear hks hin hb0 hsn e2 y1
          have hx_h := Lib.hid hx
          have hp_h := Lib.hid hp
          have hset_h := Lib.hid hset
          have hB2_h := Lib.hid hB2
          have hB_h := Lib.hid hB
          have hS_h := Lib.hid hS
          have hb_h := Lib.hid hb
          have hI_h := Lib.hid hI
          have htk_h := Lib.hid htk
          clear hx hp hset hB2 hB hS hb hI htk
          go_wp2_with (fail)
          refine (hI_h.out _).mono ?_
          rintro e w' ⟨rfl, rfl⟩
          go_wp2_with (fail)
          go_roundw
          case rel => exact ⟨k + 1, by omega, by go_num, hset_h.out, hp_h.out, hB2_h.out⟩
          case measure => simp [intOf]; omega
        · rw [if_neg (by decide)] at hp
          obtain rfl : T = false := hp.symm
          clear hin hb0 hsn e2 y1
          have hx_h := Lib.hid hx
          have hp_h := Lib.hid hp
          have hB_h := Lib.hid hB
          have hS_h := Lib.hid hS
          have hb_h := Lib.hid hb
          have hI_h := Lib.hid hI
          have htk_h := Lib.hid htk
          clear hx hp hB hS hb hI htk
          go_wp2_with (fail)
          refine (hI_h.out _).mono ?_
          rintro e w' ⟨rfl, rfl⟩
          go_wp2_with (fail)
          go_ret
          exact ⟨rfl, hB_h.out⟩
      · have hin' : inB x 0 ((n : Int) - 1) = false := by simpa using hin
        have hI := fun (W : World) => within_any x 0 ((n : Int) - 1) W
        simp only [hin'] at hI
        rw [hin', Bool.false_and, if_neg (by decide)] at hp
        obtain rfl : T = false := hp.symm
        clear hin hin'
        have hx_h := Lib.hid hx
        have hp_h := Lib.hid hp
        have hB_h := Lib.hid hB
        have hS_h := Lib.hid hS
        have hI_h := Lib.hid hI
        have htk_h := Lib.hid htk
        clear hx hp hB hS hI htk
        go_wp2_with (fail)
        refine (hI_h.out _).mono ?_
        rintro e w' ⟨rfl, rfl⟩
        go_wp2_with (fail)
        go_ret
        exact ⟨rfl, hB_h.out⟩
    · obtain rfl : k = m := by omega
      rw [List.drop_of_length_le (by rw [← hm_h.out]; exact Nat.le_refl _)] at hp
      obtain rfl : T = true := by rw [← hp]; unfold difGo; rfl
      have hp_h := Lib.hid hp
      have hB_h := Lib.hid hB
      have hS_h := Lib.hid hS
      clear hp hB hS
      go_wp2_with (fail)
      go_ret
      exact ⟨rfl, hB_h.out⟩
end Go.Proofs.Ytanhmljgeiajoaa
