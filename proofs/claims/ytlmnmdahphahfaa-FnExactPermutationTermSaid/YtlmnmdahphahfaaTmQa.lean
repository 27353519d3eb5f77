/-
  THE WALKS: is it a permutation, both sides; copies of slices of ints.
-/
import Derived.Test.YtlmnmdahphahfaaTmWj
import Derived.Test.YtlmnmdahphahfaaTmP
namespace Go.Proofs.Ytlmnmdahphahfaa
open Go.RowKit

abbrev tBool : TypeId := 4
theorem info_bool : (Try.prog.info? tBool).map (fun i => (i.zero, i.size, i.bytes)) = some (some (.bool false), 1, 1) := by kernel_rfl
def bls (l : List Bool) : List Value := l.map Value.bool
theorem bls_get {l : List Bool} {j : Nat} {b : Bool} (h : l[j]? = some b) : (bls l)[j]? = some (.bool b) := by simp [bls, h]
theorem bls_set (l : List Bool) (j : Nat) (b : Bool) : (bls l).set j (.bool b) = bls (l.set j b) := by simp [bls, List.map_set]
theorem drop_of {α : Type} {l : List α} {k : Nat} {x : α} (h : l[k]? = some x) : l.drop k = x :: l.drop (k + 1) := by
  have hl := (List.getElem?_eq_some_iff.1 h).1
  rw [List.drop_eq_getElem_cons hl, (List.getElem?_eq_some_iff.1 h).2]
theorem RdI.below' {w w' : World} {A : Option Addr} {l : List Int} (h : RdI w A l) (hb : Below w.heap.size w w') : RdI w' A l := h.below hb

set_option maxRecDepth 8000 in
set_option maxHeartbeats 2000000 in
theorem isPermutation_any (A : Option Addr) (c : Nat) (l : List Int) (w : World) (h : RdI w A l) (hl : l.length ≤ 1048576) :
    Calls Try.prog 71 #[.slice A l.length c, .int .i64 l.length] w fun e w' => e = .returned (.bool (permB l)) ∧ Below w.heap.size w w' := by
  obtain ⟨m, hm⟩ : ∃ m, m = l.length := ⟨_, rfl⟩
  obtain ⟨T, hT⟩ : ∃ T, T = permB l := ⟨_, rfl⟩
  rw [← hm] at hl ⊢
  rw [← hT]
  have hm_h := Lib.hid hm
  have hT_h := Lib.hid hT
  clear hm hT
  go_enter Try.func71, Try.ntmps71
  go_wp2_with (at_make; refine wpList_make_Sl _ rfl _ _ _ rfl tBool Try.underlying114 info_bool m m rfl rfl rfl rfl (Nat.le_refl _) (by omega) (by unfold maxLen; omega) ?_; intro G w1 hs hG hb1)
  have hs0 : Sl w1 tBool 1 (some G) m m (bls (List.replicate m false)) := by
    have e : (madeCells (Value.bool false).cells (m * 1)).toList.take (m * 1) = bls (List.replicate m false) := by
      rw [Nat.mul_one]; simp [Value.cells, toList_madeCells_one, bls]
    rw [← e]; exact hs
  have hp0 : permGo (l.drop 0) (List.replicate m false) = T := by rw [hT_h.out, hm_h.out]; rfl
  clear hs
  have hs0_h := Lib.hid hs0
  have hp0_h := Lib.hid hp0
  have hb1_h := Lib.hid hb1
  clear hs0 hp0 hb1
  go_loopw [16] (fun iv wr => ∃ (k : Nat) (seen : List Bool), k ≤ m ∧ iv = .int .i64 k ∧ seen.length = m ∧ Sl wr tBool 1 (some G) m m (bls seen) ∧ permGo (l.drop k) seen = T ∧ Below w.heap.size w wr) (fun iv _ => m - (intOf iv).toNat)
  case atStart => exact ⟨0, _, Nat.zero_le _, rfl, by simp, hs0_h.out, hp0_h.out, hb1_h.out⟩
  case round =>
    obtain ⟨k, seen, hk, rfl, hsl, hS, hp, hB⟩ := hrel
    clear hs0_h hp0_h
    by_cases hlt : k < m
    · obtain ⟨ad, x, rfl, hx, hc⟩ := (h.below' hB).at_ (j := k) (by rw [← hm_h.out]; exact hlt)
      have hkI : (k : Int) < (m : Int) := by omega
      rw [drop_of hx] at hp
      unfold permGo at hp
      by_cases hin : 0 ≤ x ∧ x ≤ (m : Int) - 1
      · obtain ⟨j, rfl⟩ : ∃ j : Nat, x = (j : Int) := ⟨x.toNat, by omega⟩
        have hI : inB (j : Int) 0 ((m : Int) - 1) = true := decide_eq_true hin
        have hjm : j < m := by omega
        obtain ⟨b, hb⟩ : ∃ b, seen[j]? = some b := ⟨_, List.getElem?_eq_getElem (by omega)⟩
        obtain ⟨ad2, e2, -, y0, y1⟩ := Sl.cell hS (bls_get hb)
        obtain rfl := Option.some.inj e2
        have hgd : seen.getD j true = b := by simp [List.getD, hb]
        have hj0 : (0 : Int) ≤ (j : Int) := by omega
        have hjc : (j : Int) < (m : Int) := by omega
        cases b
        · rw [if_pos ⟨by omega, by omega, by simpa using hgd⟩, Int.toNat_natCast] at hp
          have hset := Sl.set hS rfl j (.bool true) (by simp [bls]; omega)
          rw [bls_set] at hset
          have hks : Keeps (fun b => b = G.block) wr (wr.setCell (G.add j) (.bool true)) := Keeps.setCell (S := fun b => b = G.block) (Keeps.refl _ wr) (p := G.add j) (by rw [block_of_add]) _
          have hB2 := below_keeps hB hks hB.size (fun b hb => by omega)
          have hx_h := Lib.hid hx
          have hp_h := Lib.hid hp
          have hset_h := Lib.hid hset
          have hks_h := Lib.hid hks
          have hB2_h := Lib.hid hB2
          have hB_h := Lib.hid hB
          have hS_h := Lib.hid hS
          have hb_h := Lib.hid hb
          have hgd_h := Lib.hid hgd
          have hsl_h := Lib.hid hsl
          clear hx hp hset hks hB2 hB hS hb hgd hsl
          go_wp2_with (fail)
          refine (within_any _ _ _ _).mono ?_
          rintro e w' ⟨rfl, rfl⟩
          rw [hI]
          go_wp2_with (fail)
          go_roundw
          case rel => exact ⟨k + 1, _, by omega, by go_num, by simp [hsl_h.out], hset_h.out, hp_h.out, hB2_h.out⟩
          case measure => simp [intOf]; omega
        · rw [if_neg (fun hh => by have := hh.2.2; rw [Int.toNat_natCast, hgd] at this; cases this)] at hp
          obtain rfl : T = false := hp.symm
          have hx_h := Lib.hid hx
          have hp_h := Lib.hid hp
          have hB_h := Lib.hid hB
          have hS_h := Lib.hid hS
          have hb_h := Lib.hid hb
          have hgd_h := Lib.hid hgd
          have hsl_h := Lib.hid hsl
          clear hx hp hB hS hb hgd hsl
          go_wp2_with (fail)
          refine (within_any _ _ _ _).mono ?_
          rintro e w' ⟨rfl, rfl⟩
          rw [hI]
          go_wp2_with (fail)
          go_ret
          exact ⟨rfl, hB_h.out⟩
      · have hI : inB x 0 ((m : Int) - 1) = false := decide_eq_false hin
        rw [if_neg (fun hh => hin ⟨hh.1, by have := hh.2.1; omega⟩)] at hp
        obtain rfl : T = false := hp.symm
        have hx_h := Lib.hid hx
        have hp_h := Lib.hid hp
        have hB_h := Lib.hid hB
        have hS_h := Lib.hid hS
        have hsl_h := Lib.hid hsl
        clear hx hp hB hS hsl
        go_wp2_with (fail)
        refine (within_any _ _ _ _).mono ?_
        rintro e w' ⟨rfl, rfl⟩
        rw [hI]
        go_wp2_with (fail)
        go_ret
        exact ⟨rfl, hB_h.out⟩
    · obtain rfl : k = m := by omega
      rw [List.drop_of_length_le (by rw [← hm_h.out]; exact Nat.le_refl _)] at hp
      obtain rfl : T = true := hp.symm
      have hp_h := Lib.hid hp
      have hB_h := Lib.hid hB
      have hS_h := Lib.hid hS
      have hsl_h := Lib.hid hsl
      clear hp hB hS hsl
      go_wp2_with (fail)
      go_ret
      exact ⟨rfl, hB_h.out⟩

set_option maxRecDepth 8000 in
set_option maxHeartbeats 2000000 in
theorem tmIsPerm_any (A : Option Addr) (c : Nat) (l : List Int) (w : World) (h : RdI w A l) (hl : l.length ≤ 1048576) :
    Calls Try.prog 69 #[.slice A l.length c] w fun e w' => e = .returned (.bool (permB l)) ∧ Below w.heap.size w w' := by
  obtain ⟨m, hm⟩ : ∃ m, m = l.length := ⟨_, rfl⟩
  obtain ⟨T, hT⟩ : ∃ T, T = permB l := ⟨_, rfl⟩
  rw [← hm] at hl ⊢
  rw [← hT]
  have hm_h := Lib.hid hm
  have hT_h := Lib.hid hT
  clear hm hT
  go_enter Try.func69, Try.ntmps69
  go_wp2_with (at_make; refine wpList_make_Sl _ rfl _ _ _ rfl tBool Try.underlying114 info_bool m m rfl rfl rfl rfl (Nat.le_refl _) (by omega) (by unfold maxLen; omega) ?_; intro G w1 hs hG hb1)
  have hs0 : Sl w1 tBool 1 (some G) m m (bls (List.replicate m false)) := by
    have e : (madeCells (Value.bool false).cells (m * 1)).toList.take (m * 1) = bls (List.replicate m false) := by
      rw [Nat.mul_one]; simp [Value.cells, toList_madeCells_one, bls]
    rw [← e]; exact hs
  have hp0 : permGo (l.drop 0) (List.replicate m false) = T := by rw [hT_h.out, hm_h.out]; rfl
  clear hs
  have hs0_h := Lib.hid hs0
  have hp0_h := Lib.hid hp0
  have hb1_h := Lib.hid hb1
  clear hs0 hp0 hb1
  go_loopw [11] (fun iv wr => ∃ (k : Nat) (seen : List Bool), k ≤ m ∧ iv = .int .i64 k ∧ seen.length = m ∧ Sl wr tBool 1 (some G) m m (bls seen) ∧ permGo (l.drop k) seen = T ∧ Below w.heap.size w wr) (fun iv _ => m - (intOf iv).toNat)
  case atStart => exact ⟨0, _, Nat.zero_le _, rfl, by simp, hs0_h.out, hp0_h.out, hb1_h.out⟩
  case round =>
    obtain ⟨k, seen, hk, rfl, hsl, hS, hp, hB⟩ := hrel
    clear hs0_h hp0_h
    by_cases hlt : k < m
    · obtain ⟨ad, x, rfl, hx, hc⟩ := (h.below' hB).at_ (j := k) (by rw [← hm_h.out]; exact hlt)
      have hkI : (k : Int) < (m : Int) := by omega
      rw [drop_of hx] at hp
      unfold permGo at hp
      by_cases hin : 0 ≤ x ∧ x ≤ (m : Int) - 1
      · obtain ⟨j, rfl⟩ : ∃ j : Nat, x = (j : Int) := ⟨x.toNat, by omega⟩
        have hI : inB (j : Int) 0 ((m : Int) - 1) = true := decide_eq_true hin
        have hjm : j < m := by omega
        obtain ⟨b, hb⟩ : ∃ b, seen[j]? = some b := ⟨_, List.getElem?_eq_getElem (by omega)⟩
        obtain ⟨ad2, e2, -, y0, y1⟩ := Sl.cell hS (bls_get hb)
        obtain rfl := Option.some.inj e2
        have hgd : seen.getD j true = b := by simp [List.getD, hb]
        have hj0 : (0 : Int) ≤ (j : Int) := by omega
        have hjc : (j : Int) < (m : Int) := by omega
        cases b
        · rw [if_pos ⟨by omega, by omega, by simpa using hgd⟩, Int.toNat_natCast] at hp
          have hset := Sl.set hS rfl j (.bool true) (by simp [bls]; omega)
          rw [bls_set] at hset
          have hks : Keeps (fun b => b = G.block) wr (wr.setCell (G.add j) (.bool true)) := Keeps.setCell (S := fun b => b = G.block) (Keeps.refl _ wr) (p := G.add j) (by rw [block_of_add]) _
          have hB2 := below_keeps hB hks hB.size (fun b hb => by omega)
          have hx_h := Lib.hid hx
          have hp_h := Lib.hid hp
          have hset_h := Lib.hid hset
          have hks_h := Lib.hid hks
          have hB2_h := Lib.hid hB2
          have hB_h := Lib.hid hB
          have hS_h := Lib.hid hS
          have hb_h := Lib.hid hb
          have hgd_h := Lib.hid hgd
          have hsl_h := Lib.hid hsl
          clear hx hp hset hks hB2 hB hS hb hgd hsl
          go_wp2_with (fail)
          refine (l1In_any _ _ _ _).mono ?_
          rintro e w' ⟨rfl, rfl⟩
          rw [hI]
          go_wp2_with (fail)
          go_roundw
          case rel => exact ⟨k + 1, _, by omega, by go_num, by simp [hsl_h.out], hset_h.out, hp_h.out, hB2_h.out⟩
          case measure => simp [intOf]; omega
        · rw [if_neg (fun hh => by have := hh.2.2; rw [Int.toNat_natCast, hgd] at this; cases this)] at hp
          obtain rfl : T = false := hp.symm
          have hx_h := Lib.hid hx
          have hp_h := Lib.hid hp
          have hB_h := Lib.hid hB
          have hS_h := Lib.hid hS
          have hb_h := Lib.hid hb
          have hgd_h := Lib.hid hgd
          have hsl_h := Lib.hid hsl
          clear hx hp hB hS hb hgd hsl
          go_wp2_with (fail)
          refine (l1In_any _ _ _ _).mono ?_
          rintro e w' ⟨rfl, rfl⟩
          rw [hI]
          go_wp2_with (fail)
          go_ret
          exact ⟨rfl, hB_h.out⟩
      · have hI : inB x 0 ((m : Int) - 1) = false := decide_eq_false hin
        rw [if_neg (fun hh => hin ⟨hh.1, by have := hh.2.1; omega⟩)] at hp
        obtain rfl : T = false := hp.symm
        have hx_h := Lib.hid hx
        have hp_h := Lib.hid hp
        have hB_h := Lib.hid hB
        have hS_h := Lib.hid hS
        have hsl_h := Lib.hid hsl
        clear hx hp hB hS hsl
        go_wp2_with (fail)
        refine (l1In_any _ _ _ _).mono ?_
        rintro e w' ⟨rfl, rfl⟩
        rw [hI]
        go_wp2_with (fail)
        go_ret
        exact ⟨rfl, hB_h.out⟩
    · obtain rfl : k = m := by omega
      rw [List.drop_of_length_le (by rw [← hm_h.out]; exact Nat.le_refl _)] at hp
      obtain rfl : T = true := hp.symm
      have hp_h := Lib.hid hp
      have hB_h := Lib.hid hB
      have hS_h := Lib.hid hS
      have hsl_h := Lib.hid hsl
      clear hp hB hS hsl
      go_wp2_with (fail)
      go_ret
      exact ⟨rfl, hB_h.out⟩

set_option maxHeartbeats 1000000 in
theorem l1Own_any (A : Option Addr) (c : Nat) (l : List Int) (w : World) (h : RdI w A l) (hl : l.length ≤ 17592186044416) :
    Calls Try.prog 92 #[.slice A l.length c] w (RetI w l) := by
  go_enter Try.func92, Try.ntmps92
  have hs0 := Sl.laid w 3 1 0 #[] (Nat.zero_le _) rfl
  go_wp2_with (at_builtin; refine wpList_append_Sl _ rfl _ _ _ rfl 3 Try.underlying34 info_int rfl (by omega) rfl hs0 rfl (by simp) (h.rdc.alloc _) (ints_one l) (by unfold maxLen; omega) (by omega) ?_; intro A1 cap1 w1 hs hA hk)
  go_ret
  refine ⟨A1, cap1, by simp, ?_, ?_, ?_⟩
  · simpa [IS] using hs
  · intro b hb
    rcases hA b hb with h1 | h1
    · simp at h1; omega
    · simp at h1; omega
  · exact ((Below.refl w.heap.size w).alloc (Nat.le_refl _) _).trans (hk.below (by simp) (by simp))

set_option maxHeartbeats 1000000 in
theorem clone_any (A : Option Addr) (c : Nat) (l : List Int) (w : World) (h : RdI w A l) (hl : l.length ≤ 17592186044416) :
    Calls Try.prog 95 #[.slice A l.length c] w (RetI w l) := by
  go_enter Try.func95, Try.ntmps95
  have hs0 := Sl.laid w 3 1 0 #[] (Nat.zero_le _) rfl
  go_wp2_with (at_builtin; refine wpList_append_Sl _ rfl _ _ _ rfl 3 Try.underlying34 info_int rfl (by omega) rfl hs0 rfl (by simp) (h.rdc.alloc _) (ints_one l) (by unfold maxLen; omega) (by omega) ?_; intro A1 cap1 w1 hs hA hk)
  go_ret
  refine ⟨A1, cap1, by simp, ?_, ?_, ?_⟩
  · simpa [IS] using hs
  · intro b hb
    rcases hA b hb with h1 | h1
    · simp at h1; omega
    · simp at h1; omega
  · exact ((Below.refl w.heap.size w).alloc (Nat.le_refl _) _).trans (hk.below (by simp) (by simp))
end Go.Proofs.Ytlmnmdahphahfaa
