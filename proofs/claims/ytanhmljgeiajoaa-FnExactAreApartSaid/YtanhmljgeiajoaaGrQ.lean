/-
  THE WALKS: is it a permutation, both sides; RenumberGraph, both sides.
-/
import Derived.Test.YtanhmljgeiajoaaGrRn
import Derived.Test.YtanhmljgeiajoaaGrX
import Derived.Test.YtanhmljgeiajoaaGrK
import Derived.Test.YtanhmljgeiajoaaGrP
import Derived.Test.YtanhmljgeiajoaaLawI
namespace Go.Proofs.Ytanhmljgeiajoaa
open Go.RowKit

theorem drop_of {α : Type} {l : List α} {k : Nat} {x : α} (h : l[k]? = some x) : l.drop k = x :: l.drop (k + 1) := by
  have hl := (List.getElem?_eq_some_iff.1 h).1
  rw [List.drop_eq_getElem_cons hl, (List.getElem?_eq_some_iff.1 h).2]
theorem RdI.below' {w w' : World} {A : Option Addr} {l : List Int} (h : RdI w A l) (hb : Below w.heap.size w w') : RdI w' A l := h.below hb
set_option maxRecDepth 8000 in
set_option maxHeartbeats 2000000 in
theorem isPermutation_any (A : Option Addr) (c : Nat) (l : List Int) (w : World) (h : RdI w A l) (hl : l.length ≤ 1048576) :
    Calls Try.prog 54 #[.slice A l.length c, .int .i64 l.length] w fun e w' => e = .returned (.bool (permB l)) ∧ Below w.heap.size w w' := by
  obtain ⟨m, hm⟩ : ∃ m, m = l.length := ⟨_, rfl⟩
  obtain ⟨T, hT⟩ : ∃ T, T = permB l := ⟨_, rfl⟩
  rw [← hm] at hl ⊢
  rw [← hT]
  have hm_h := Lib.hid hm
  have hT_h := Lib.hid hT
  clear hm hT
  go_enter Try.func54, Try.ntmps54
  go_wp2_with (at_make; refine wpList_make_Sl _ rfl _ _ _ rfl tBool Try.underlying106 info_bool m m rfl rfl rfl rfl (Nat.le_refl _) (by omega) (by unfold maxLen; omega) ?_; intro G w1 hs hG hb1)
  have hs0 : Sl w1 tBool 1 (some G) m m (bls (List.replicate m false)) := by
    have e : (madeCells (Value.bool false).cells (m * 1)).toList.take (m * 1) = bls (List.replicate m false) := by
      rw [Nat.mul_one]; simp [Value.cells, toList_madeCells_one, bls]
    rw [← e]; exact hs
  have hp0 : permGo (l.drop 0) (List.replicate m false) = T := by rw [hT_h.out, hm_h.out]; rfl
  clear hs
  have hs0_h := Lib.hid hs0
  have hp0_h := Lib.hid hp0
  have hb1_h := Lib.hid hb1
  clear hs0 hp0 hb1
  go_loopw [16] (fun iv wr => ∃ (k : Nat) (seen : List Bool), k ≤ m ∧ iv = .int .i64 k ∧ seen.length = m ∧ Sl wr tBool 1 (some G) m m (bls seen) ∧ permGo (l.drop k) seen = T ∧ Below w.heap.size w wr) (fun iv _ => m - (intOf iv).toNat)
  case atStart => exact ⟨0, _, Nat.zero_le _, rfl, by simp, hs0_h.out, hp0_h.out, hb1_h.out⟩
  case round =>
    obtain ⟨k, seen, hk, rfl, hsl, hS, hp, hB⟩ := hrel
    clear hs0_h hp0_h
    by_cases hlt : k < m
    · obtain ⟨ad, x, rfl, hx, hc⟩ := (h.below' hB).at_ (j := k) (by rw [← hm_h.out]; exact hlt)
      have hkI : (k : Int) < (m : Int) := by omega
      rw [drop_of hx] at hp
      unfold permGo at hp
      by_cases hin : 0 ≤ x ∧ x ≤ (m : Int) - 1
      · obtain ⟨j, rfl⟩ : ∃ j : Nat, x = (j : Int) := ⟨x.toNat, by omega⟩
        have hI : inB (j : Int) 0 ((m : Int) - 1) = true := decide_eq_true hin
        have hjm : j < m := by omega
        obtain ⟨b, hb⟩ : ∃ b, seen[j]? = some b := ⟨_, List.getElem?_eq_getElem (by omega)⟩
        obtain ⟨ad2, e2, -, y0, y1⟩ := Sl.cell hS (bls_get hb)
        obtain rfl := Option.some.inj e2
        have hgd : seen.getD j true = b := by simp [List.getD, hb]
        have hj0 : (0 : Int) ≤ (j : Int) := by omega
        have hjc : (j : Int) < (m : Int) := by omega
        cases b
        · rw [if_pos ⟨by omega, by omega, by simpa using hgd⟩, Int.toNat_natCast] at hp
          have hset := Sl.set hS rfl j (.bool true) (by simp [bls]; omega)
          rw [bls_set] at hset
          have hks : Keeps (fun b => b = G.block) wr (wr.setCell (G.add j) (.bool true)) := Keeps.setCell (S := fun b => b = G.block) (Keeps.refl _ wr) (p := G.add j) (by rw [block_of_add]) _
          have hB2 := below_keeps hB hks hB.size (fun b hb => by omega)
          have hx_h := Lib.hid hx
          have hp_h := Lib.hid hp
          have hset_h := Lib.hid hset
          have hks_h := Lib.hid hks
          have hB2_h := Lib.hid hB2
          have hB_h := Lib.hid hB
          have hS_h := Lib.hid hS
          have hb_h := Lib.hid hb
          have hgd_h := Lib.hid hgd
          have hsl_h := Lib.hid hsl
          clear hx hp hset hks hB2 hB hS hb hgd hsl
          go_wp2_with (fail)
          refine (within_any _ _ _ _).mono ?_
          rintro e w' ⟨rfl, rfl⟩
          rw [hI]
          go_wp2_with (fail)
          go_roundw
          case rel => exact ⟨k + 1, _, by omega, by go_num, by simp [hsl_h.out], hset_h.out, hp_h.out, hB2_h.out⟩
          case measure => simp [intOf]; omega
        · rw [if_neg (fun hh => by have := hh.2.2; rw [Int.toNat_natCast, hgd] at this; cases this)] at hp
          obtain rfl : T = false := hp.symm
          have hx_h := Lib.hid hx
          have hp_h := Lib.hid hp
          have hB_h := Lib.hid hB
          have hS_h := Lib.hid hS
          have hb_h := Lib.hid hb
          have hgd_h := Lib.hid hgd
          have hsl_h := Lib.hid hsl
          clear hx hp hB hS hb hgd hsl
          go_wp2_with (fail)
          refine (within_any _ _ _ _).mono ?_
          rintro e w' ⟨rfl, rfl⟩
          rw [hI]
          go_wp2_with (fail)
          go_ret
          exact ⟨rfl, hB_h.out⟩
      · have hI : inB x 0 ((m : Int) - 1) = false := decide_eq_false hin
        rw [if_neg (fun hh => hin ⟨hh.1, by have := hh.2.1; omega⟩)] at hp
        obtain rfl : T = false := hp.symm
        have hx_h := Lib.hid hx
        have hp_h := Lib.hid hp
        have hB_h := Lib.hid hB
        have hS_h := Lib.hid hS
        have hsl_h := Lib.hid hsl
        clear hx hp hB hS hsl
        go_wp2_with (fail)
        refine (within_any _ _ _ _).mono ?_
        rintro e w' ⟨rfl, rfl⟩
        rw [hI]
        go_wp2_with (fail)
        go_ret
        exact ⟨rfl, hB_h.out⟩
    · obtain rfl : k = m := by omega
      rw [List.drop_of_length_le (by rw [← hm_h.out]; exact Nat.le_refl _)] at hp
      obtain rfl : T = true := hp.symm
      have hp_h := Lib.hid hp
      have hB_h := Lib.hid hB
      have hS_h := Lib.hid hS
      have hsl_h := Lib.hid hsl
      clear hp hB hS hsl
      go_wp2_with (fail)
      go_ret
      exact ⟨rfl, hB_h.out⟩

set_option maxRecDepth 8000 in
set_option maxHeartbeats 2000000 in
theorem tmIsPerm_any (A : Option Addr) (c : Nat) (l : List Int) (w : World) (h : RdI w A l) (hl : l.length ≤ 1048576) :
    Calls Try.prog 52 #[.slice A l.length c] w fun e w' => e = .returned (.bool (permB l)) ∧ Below w.heap.size w w' := by
  obtain ⟨m, hm⟩ : ∃ m, m = l.length := ⟨_, rfl⟩
  obtain ⟨T, hT⟩ : ∃ T, T = permB l := ⟨_, rfl⟩
  rw [← hm] at hl ⊢
  rw [← hT]
  have hm_h := Lib.hid hm
  have hT_h := Lib.hid hT
  clear hm hT
  go_enter Try.func52, Try.ntmps52
  go_wp2_with (at_make; refine wpList_make_Sl _ rfl _ _ _ rfl tBool Try.underlying106 info_bool m m rfl rfl rfl rfl (Nat.le_refl _) (by omega) (by unfold maxLen; omega) ?_; intro G w1 hs hG hb1)
  have hs0 : Sl w1 tBool 1 (some G) m m (bls (List.replicate m false)) := by
    have e : (madeCells (Value.bool false).cells (m * 1)).toList.take (m * 1) = bls (List.replicate m false) := by
      rw [Nat.mul_one]; simp [Value.cells, toList_madeCells_one, bls]
    rw [← e]; exact hs
  have hp0 : permGo (l.drop 0) (List.replicate m false) = T := by rw [hT_h.out, hm_h.out]; rfl
  clear hs
  have hs0_h := Lib.hid hs0
  have hp0_h := Lib.hid hp0
  have hb1_h := Lib.hid hb1
  clear hs0 hp0 hb1
  go_loopw [11] (fun iv wr => ∃ (k : Nat) (seen : List Bool), k ≤ m ∧ iv = .int .i64 k ∧ seen.length = m ∧ Sl wr tBool 1 (some G) m m (bls seen) ∧ permGo (l.drop k) seen = T ∧ Below w.heap.size w wr) (fun iv _ => m - (intOf iv).toNat)
  case atStart => exact ⟨0, _, Nat.zero_le _, rfl, by simp, hs0_h.out, hp0_h.out, hb1_h.out⟩
  case round =>
    obtain ⟨k, seen, hk, rfl, hsl, hS, hp, hB⟩ := hrel
    clear hs0_h hp0_h
    by_cases hlt : k < m
    · obtain ⟨ad, x, rfl, hx, hc⟩ := (h.below' hB).at_ (j := k) (by rw [← hm_h.out]; exact hlt)
      have hkI : (k : Int) < (m : Int) := by omega
      rw [drop_of hx] at hp
      unfold permGo at hp
      by_cases hin : 0 ≤ x ∧ x ≤ (m : Int) - 1
      · obtain ⟨j, rfl⟩ : ∃ j : Nat, x = (j : Int) := ⟨x.toNat, by omega⟩
        have hI : inB (j : Int) 0 ((m : Int) - 1) = true := decide_eq_true hin
        have hjm : j < m := by omega
        obtain ⟨b, hb⟩ : ∃ b, seen[j]? = some b := ⟨_, List.getElem?_eq_getElem (by omega)⟩
        obtain ⟨ad2, e2, -, y0, y1⟩ := Sl.cell hS (bls_get hb)
        obtain rfl := Option.some.inj e2
        have hgd : seen.getD j true = b := by simp [List.getD, hb]
        have hj0 : (0 : Int) ≤ (j : Int) := by omega
        have hjc : (j : Int) < (m : Int) := by omega
        cases b
        · rw [if_pos ⟨by omega, by omega, by simpa using hgd⟩, Int.toNat_natCast] at hp
          have hset := Sl.set hS rfl j (.bool true) (by simp [bls]; omega)
          rw [bls_set] at hset
          have hks : Keeps (fun b => b = G.block) wr (wr.setCell (G.add j) (.bool true)) := Keeps.setCell (S := fun b => b = G.block) (Keeps.refl _ wr) (p := G.add j) (by rw [block_of_add]) _
          have hB2 := below_keeps hB hks hB.size (fun b hb => by omega)
          have hx_h := Lib.hid hx
          have hp_h := Lib.hid hp
          have hset_h := Lib.hid hset
          have hks_h := Lib.hid hks
          have hB2_h := Lib.hid hB2
          have hB_h := Lib.hid hB
          have hS_h := Lib.hid hS
          have hb_h := Lib.hid hb
          have hgd_h := Lib.hid hgd
          have hsl_h := Lib.hid hsl
          clear hx hp hset hks hB2 hB hS hb hgd hsl
          go_wp2_with (fail)
          refine (l1In_any _ _ _ _).mono ?_
          rintro e w' ⟨rfl, rfl⟩
          rw [hI]
          go_wp2_with (fail)
          go_roundw
          case rel => exact ⟨k + 1, _, by omega, by go_num, by simp [hsl_h.out], hset_h.out, hp_h.out, hB2_h.out⟩
          case measure => simp [intOf]; omega
        · rw [if_neg (fun hh => by have := hh.2.2; rw [Int.toNat_natCast, hgd] at this; cases this)] at hp
          obtain rfl : T = false := hp.symm
          have hx_h := Lib.hid hx
          have hp_h := Lib.hid hp
          have hB_h := Lib.hid hB
          have hS_h := Lib.hid hS
          have hb_h := Lib.hid hb
          have hgd_h := Lib.hid hgd
          have hsl_h := Lib.hid hsl
          clear hx hp hB hS hb hgd hsl
          go_wp2_with (fail)
          refine (l1In_any _ _ _ _).mono ?_
          rintro e w' ⟨rfl, rfl⟩
          rw [hI]
          go_wp2_with (fail)
          go_ret
          exact ⟨rfl, hB_h.out⟩
      · have hI : inB x 0 ((m : Int) - 1) = false := decide_eq_false hin
        rw [if_neg (fun hh => hin ⟨hh.1, by have := hh.2.1; omega⟩)] at hp
        obtain rfl : T = false := hp.symm
        have hx_h := Lib.hid hx
        have hp_h := Lib.hid hp
        have hB_h := Lib.hid hB
        have hS_h := Lib.hid hS
        have hsl_h := Lib.hid hsl
        clear hx hp hB hS hsl
        go_wp2_with (fail)
        refine (l1In_any _ _ _ _).mono ?_
        rintro e w' ⟨rfl, rfl⟩
        rw [hI]
        go_wp2_with (fail)
        go_ret
        exact ⟨rfl, hB_h.out⟩
    · obtain rfl : k = m := by omega
      rw [List.drop_of_length_le (by rw [← hm_h.out]; exact Nat.le_refl _)] at hp
      obtain rfl : T = true := hp.symm
      have hp_h := Lib.hid hp
      have hB_h := Lib.hid hB
      have hS_h := Lib.hid hS
      have hsl_h := Lib.hid hsl
      clear hp hB hS hsl
      go_wp2_with (fail)
      go_ret
      exact ⟨rfl, hB_h.out⟩


set_option maxRecDepth 8000 in
theorem isPermN_any (A : Option Addr) (c : Nat) (n : Int) (l : List Int) (w : World) (h : RdI w A l) (hl : l.length ≤ 1048576) :
    Calls Try.prog 54 #[.slice A l.length c, .int .i64 n] w fun e w' => e = .returned (.bool (prmN n l)) ∧ Below w.heap.size w w' := by
  by_cases hn : (l.length : Int) = n
  · subst hn
    have : prmN (l.length : Int) l = permB l := by simp [prmN]
    rw [this]
    exact isPermutation_any A c l w h hl
  · have : prmN n l = false := by simp [prmN, hn]
    rw [this]
    go_enter Try.func54, Try.ntmps54
    go_wp2_with (fail)
    go_ret
    exact ⟨rfl, Below.refl _ _⟩
abbrev g0 : Gr := (0, [], [], [])
theorem grB_parts {g : Gr} (h : grB g = true) : ∃ n : Nat, g.1 = (n : Int) ∧ n ≤ 100 ∧ g.2.1.length ≤ 60 ∧ g.2.2.1.length ≤ 12 ∧ g.2.2.2.length ≤ 12 ∧ inW (n : Int) (allW g) = true := by
  unfold grB at h
  simp only [Bool.and_eq_true, decide_eq_true_eq] at h
  obtain ⟨⟨h1, h2, h3, h4⟩, _, h6, _⟩ := h
  have h1' : 0 ≤ g.1 ∧ g.1 ≤ 100 := of_decide_eq_true h1
  refine ⟨g.1.toNat, by omega, by omega, h2, h3, h4, ?_⟩
  rw [show ((g.1.toNat : Nat) : Int) = g.1 by omega]; exact h6
theorem prmN_parts {n : Int} {l : List Int} (h : prmN n l = true) : (l.length : Int) = n ∧ permB l = true := by
  unfold prmN at h
  rw [Bool.and_eq_true, decide_eq_true_eq] at h
  exact h
theorem prmN_split (n : Int) (l : List Int) : (prmN n l = false ↔ (¬ (l.length : Int) = n ∨ permB l = false)) := by
  unfold prmN
  by_cases h : (l.length : Int) = n <;> simp [h]
theorem renB_eq (g : Gr) (ws es : List Int) : renB g ws es = (grB g && (prmN g.1 ws && prmN (g.2.1.length : Int) es)) := by
  unfold renB prmN
  rw [show decide ((es.length : Int) = (g.2.1.length : Int)) = decide (es.length = g.2.1.length) from decide_eq_decide.2 Int.ofNat_inj]
theorem renM_no {g : Gr} {ws es : List Int} (h : grB g = false ∨ prmN g.1 ws = false ∨ prmN (g.2.1.length : Int) es = false) : renM g ws es = (g0, false) := by
  unfold renM
  rw [renB_eq]
  rw [if_neg]
  intro hh
  rw [Bool.and_eq_true, Bool.and_eq_true] at hh
  rcases h with h | h | h
  · rw [hh.1] at h; cases h
  · rw [hh.2.1] at h; cases h
  · rw [hh.2.2] at h; cases h
theorem renM_yes {g : Gr} {ws es : List Int} (h1 : grB g = true) (h2 : prmN g.1 ws = true) (h3 : prmN (g.2.1.length : Int) es = true) : renM g ws es = (renG g ws es, true) := by
  unfold renM
  rw [renB_eq]
  rw [if_pos]
  rw [h1, h2, h3]; rfl

theorem cntE_perm {l m : List Eg} (h : l.Perm m) : cntE l = cntE m := by
  induction h with
  | nil => rfl
  | cons x _ ih => simp [cntE, ih]
  | swap x y _ => simp [cntE]; omega
  | trans _ _ h1 h2 => exact h1.trans h2
theorem cntE_map (ws : List Int) (l : List Eg) : cntE (l.map (mapE ws)) = cntE l := by
  induction l with
  | nil => rfl
  | cons x r ih => simp [cntE, mapE, ih]
theorem renG_ok {g : Gr} {ws es : List Int} (ok : OkG g) (hp : permB es = true) (hl : es.length = g.2.1.length) : OkG (renG g ws es) := by
  have hpm : (lay eg0 es (g.2.1.map (mapE ws)) g.2.1.length).Perm (g.2.1.map (mapE ws)) := by
    have := lay_all (d := eg0) (xs := g.2.1.map (mapE ws)) hp (by simpa using hl)
    simpa using this
  obtain ⟨⟨o1, o2, o3⟩, o4, o5⟩ := ok
  refine ⟨⟨?_, ?_, ?_⟩, fun e he => ?_, ?_⟩
  · show (lay eg0 es (g.2.1.map (mapE ws)) g.2.1.length).length ≤ _
    rw [hpm.length_eq, List.length_map]; exact o1
  · show (mapL ws g.2.2.1).length ≤ _
    rw [mapL_length]; exact o2
  · show (mapL ws g.2.2.2).length ≤ _
    rw [mapL_length]; exact o3
  · have he' : e ∈ g.2.1.map (mapE ws) := hpm.mem_iff.1 he
    obtain ⟨x, hx, rfl⟩ := List.mem_map.1 he'
    simp only [mapE, mapL_length]
    exact o4 x hx
  · show cntE (lay eg0 es (g.2.1.map (mapE ws)) g.2.1.length) + (mapL ws g.2.2.1).length + (mapL ws g.2.2.2).length ≤ _
    rw [cntE_perm hpm, cntE_map, mapL_length, mapL_length]; exact o5
theorem g0_ok : OkG ((0, [], [], []) : Gr) := ⟨⟨Nat.zero_le _, Nat.zero_le _, Nat.zero_le _⟩, fun e he => (by cases he), by simp [cntG, cntE]⟩
theorem renM_ok {g : Gr} (ws es : List Int) (ok : OkG g) : OkG (renM g ws es).1 := by
  unfold renM
  split
  · next h =>
    rw [renB_eq, Bool.and_eq_true, Bool.and_eq_true] at h
    obtain ⟨p1, p2⟩ := prmN_parts h.2.2
    exact renG_ok ok p2 (by omega)
  · exact g0_ok
set_option maxRecDepth 100000 in
set_option maxHeartbeats 4000000 in
theorem iRenumberGraph_law {v vw ve : Value} {g : Gr} {ws es : List Int} {w : World} (h : RdGr w v g) (hw : RdIV w vw ws) (he : RdIV w ve es) (ok : OkG g) (lw : ws.length ≤ 1048576) (le : es.length ≤ 1048576) :
    Calls Try.prog 23 #[v, vw, ve] w fun e w' => ∃ v' fp, e = .returned (.tuple #[v', .bool (renM g ws es).2]) ∧ OwGr w' v' (renM g ws es).1 fp ∧ FreshL w.heap.size fp ∧ Below w.heap.size w w' := by
  obtain ⟨M, hM⟩ : ∃ M, M = renM g ws es := ⟨_, rfl⟩
  rw [← hM]
  have hno : grB g = false ∨ prmN g.1 ws = false ∨ prmN (g.2.1.length : Int) es = false → M = (g0, false) := fun hh => hM.trans (renM_no hh)
  have hye : grB g = true → prmN g.1 ws = true → prmN (g.2.1.length : Int) es = true → M = (renG g ws es, true) := fun a b c => hM.trans (renM_yes a b c)
  clear hM
  obtain ⟨T, tc, rfl, ht⟩ := hw
  obtain ⟨U, uc, rfl, hu⟩ := he
  have hG0 := h
  obtain ⟨A, c, hs, ⟨B, b, s⟩, ⟨C, d', t⟩, rfl, e1, e2, e3, hE, hRa, hRb⟩ := h
  obtain ⟨z, L, s0, t0⟩ := g
  have a1 : L = hs.map egOf := e1
  have a2 : s = s0 := e2
  have a3 : t = t0 := e3
  subst a2 a3
  obtain ⟨m, hm⟩ : ∃ m, m = hs.length := ⟨_, rfl⟩
  have hLm : L.length = m := by rw [a1, List.length_map, hm]
  obtain ⟨p, hp⟩ : ∃ p, p = s.length := ⟨_, rfl⟩
  obtain ⟨r, hr⟩ : ∃ r, r = t.length := ⟨_, rfl⟩
  obtain ⟨nw, hnw⟩ : ∃ n, n = ws.length := ⟨_, rfl⟩
  obtain ⟨ne, hne⟩ : ∃ n, n = es.length := ⟨_, rfl⟩
  change RdGr w (.agg #[.int .i64 z, .slice A hs.length c, .slice B s.length b, .slice C t.length d']) (z, L, s, t) at hG0
  show Calls Try.prog _ #[.agg #[.int .i64 z, .slice A hs.length c, .slice B s.length b, .slice C t.length d'], .slice T ws.length tc, .slice U es.length uc] w _
  rw [← hm, ← hp, ← hr] at hG0 ⊢
  rw [← hnw, ← hne]
  obtain ⟨W, hW, bW, k0, k1⟩ := allocs2 w (.cells #[.int .i64 z, .slice A m c, .slice B p b, .slice C r d'] tGr) (.cells #[.int .i64 0, .slice none 0 0, .slice none 0 0, .slice none 0 0] tGr)
  have hGW := hG0.below bW
  have htW := ht.below bW
  have huW := hu.below bW
  obtain ⟨B1, hB1⟩ : ∃ x, x = grB (z, L, s, t) := ⟨_, rfl⟩
  obtain ⟨B2, hB2⟩ : ∃ x, x = prmN z ws := ⟨_, rfl⟩
  obtain ⟨B3, hB3⟩ : ∃ x, x = prmN (m : Int) es := ⟨_, rfl⟩
  have hno' : (B1 && (B2 && B3)) = false → M = (g0, false) := fun hh => hno (by
    rw [show (((z, L, s, t) : Gr).2.1.length : Int) = (m : Int) by rw [← hLm], ← hB1, ← hB3, show prmN ((z, L, s, t) : Gr).1 ws = B2 from hB2.symm]
    cases B1 <;> cases B2 <;> cases B3 <;> simp at hh ⊢)
  have hye' : B1 = true → B2 = true → B3 = true → M = (renG (z, L, s, t) ws es, true) := fun a b c => hye (hB1.symm.trans a) (hB2.symm.trans b) (by rw [show (((z, L, s, t) : Gr).2.1.length : Int) = (m : Int) by rw [← hLm]]; exact hB3.symm.trans c)
  clear hno hye
  have hno := hno'
  have hye := hye'
  clear hno' hye'
  have hG := isGraph_any W hGW ok
  rw [← hB1] at hG
  have hP := fun (W' : World) (hb : Below W.heap.size W W') => isPermN_any T tc z ws W' (htW.below hb) lw
  have hQ := fun (W' : World) (hb : Below W.heap.size W W') => isPermN_any U uc (m : Int) es W' (huW.below hb) le
  simp only [← hnw, ← hB2] at hP
  simp only [← hne, ← hB3] at hQ
  have hR : ∀ (W' : World), Below W.heap.size W W' → B1 = true → B2 = true → B3 = true → Calls Try.prog 55 #[.agg #[.int .i64 z, .slice A m c, .slice B p b, .slice C r d'], .slice T nw tc, .slice U ne uc] W' fun e w' => ∃ v' fp, e = .returned v' ∧ OwGr w' v' (renG (z, L, s, t) ws es) fp ∧ FreshL W'.heap.size fp ∧ Below W'.heap.size W' w' := fun W' hb b1 b2 b3 => by
    obtain ⟨n, g1, g2, g3, _, _, g6⟩ := grB_parts (hB1.symm.trans b1)
    obtain ⟨p1, p2⟩ := prmN_parts (hB2.symm.trans b2)
    obtain ⟨p3, p4⟩ := prmN_parts (hB3.symm.trans b3)
    have g1' : z = (n : Int) := g1
    have hwn : ws.length = n := by omega
    have hen : es.length = m := by omega
    have hr := renumbered_any W' n m T tc ws U uc es (hGW.below hb) ok (htW.below hb) (huW.below hb) g1 hLm hwn hen g6 p4 (by have : L.length ≤ 60 := g3; omega)
    rw [hnw, hne, hwn, hen]
    exact hr
  obtain ⟨⟨c0, c1, c2, c3⟩, f0, f1, f2, f3⟩ := box4 k0
  clear hE hRa hRb e1 e2 e3 a1 hm ht hu hp hr hG0 hGW htW huW hB1 hB2 hB3 ok lw le hnw hne
  have k0_h := Lib.hid k0
  have k1_h := Lib.hid k1
  have bW_h := Lib.hid bW
  have hG_h := Lib.hid hG
  have hP_h := Lib.hid hP
  have hQ_h := Lib.hid hQ
  have hR_h := Lib.hid hR
  have hno_h := Lib.hid hno
  have hye_h := Lib.hid hye
  have hLm_h := Lib.hid hLm
  clear k0 k1 bW hG hP hQ hR hno hye hLm
  go_enter Try.func23, Try.ntmps23
  go_upto_region 1 with (fail)
  rw [← hW]
  clear hW
  go_cut [25] (fun sv wx => sv = .bool (!(B1 && (B2 && B3))) ∧ Below W.heap.size W wx)
  case first =>
    go_wp2_with (fail)
    refine (hG_h.out).mono ?_
    rintro e w1 ⟨rfl, hb1⟩
    cases B1
    case false =>
      have hb1_h := Lib.hid hb1
      clear hb1
      go_wp2_with (fail)
      go_meet
      exact ⟨rfl, hb1_h.out⟩
    case true =>
      have k0a := box_below k0_h.out hb1
      clear c0 c1 c2 c3 f0 f1 f2 f3
      obtain ⟨⟨c0, c1, c2, c3⟩, f0, f1, f2, f3⟩ := box4 k0a
      have hb1_h := Lib.hid hb1
      have k0a_h := Lib.hid k0a
      clear hb1 k0a
      go_wp2_with (fail)
      refine ((hP_h.out _ hb1_h.out)).mono ?_
      rintro e w2 ⟨rfl, hb2⟩
      have hb2' := below_trans hb1_h.out hb2 hb1_h.out.size
      cases B2
      case false =>
        clear hb2
        have hb2'_h := Lib.hid hb2'
        clear hb2'
        go_wp2_with (fail)
        go_meet
        exact ⟨rfl, hb2'_h.out⟩
      case true =>
        have k0b := box_below k0a_h.out hb2
        clear c0 c1 c2 c3 f0 f1 f2 f3 hb2
        obtain ⟨⟨c0, c1, c2, c3⟩, f0, f1, f2, f3⟩ := box4 k0b
        have hb2'_h := Lib.hid hb2'
        have k0b_h := Lib.hid k0b
        clear hb2' k0b
        go_wp2_with (fail)
        refine ((hQ_h.out _ hb2'_h.out)).mono ?_
        rintro e w3 ⟨rfl, hb3⟩
        have hb3' := below_trans hb2'_h.out hb3 hb2'_h.out.size
        clear hb3
        have hb3'_h := Lib.hid hb3'
        clear hb3'
        go_wp2_with (fail)
        go_meet
        exact ⟨by cases B3 <;> rfl, hb3'_h.out⟩
  case rest =>
    obtain ⟨rfl, hWc⟩ := hcut
    obtain ⟨w5, rfl⟩ : ∃ x, x = wc := ⟨_, rfl⟩
    have k1c := box_below k1_h.out hWc
    have k0c := box_below k0_h.out hWc
    have hk1 := box_lt k1_h.out
    have hB5 := below_trans bW_h.out hWc bW_h.out.size
    clear c0 c1 c2 c3 f0 f1 f2 f3
    obtain ⟨⟨c0, c1, c2, c3⟩, f0, f1, f2, f3⟩ := box4 k0c
    obtain ⟨F, hF⟩ : ∃ F, F = (B1 && (B2 && B3)) := ⟨_, rfl⟩
    rw [← hF]
    cases F
    case false =>
      have hM0 : M = (g0, false) := hno_h.out hF.symm
      obtain ⟨⟨d0, d1, d2, d3⟩, g0', g1, g2, g3⟩ := box4 k1c
      obtain ⟨s1, s2⟩ := set4 (a := .int .i64 0) (b := .slice none 0 0) (c := .slice none 0 0) (d := .slice none 0 0) k1c
      have hBs := below_keeps hB5 s2 hB5.size (fun k hk => by omega)
      clear hWc hB5 k0c k1c s2
      have hM0_h := Lib.hid hM0
      have s1_h := Lib.hid s1
      have hBs_h := Lib.hid hBs
      have hF_h := Lib.hid hF
      clear hM0 s1 hBs hF
      go_wp2_with (fail)
      refine bodyPost_ret (results_cell_tmp rfl _ _ (w.heap.size + 1) _ _ (0, 0) _ rfl s1_h.out Try.underlying31 rfl (by kernel_rfl)) rfl ?_
      rw [hM0_h.out]
      exact ⟨_, _, rfl, OwGr.zero _, fun b hb => (by cases hb), hBs_h.out⟩
    case true =>
      have hF' := hF.symm
      rw [Bool.and_eq_true, Bool.and_eq_true] at hF'
      have hM1 : M = (renG (z, L, s, t) ws es, true) := hye_h.out hF'.1 hF'.2.1 hF'.2.2
      have hR5 := hR_h.out w5 hWc hF'.1 hF'.2.1 hF'.2.2
      obtain ⟨Gr', hGr⟩ : ∃ x, x = renG (z, L, s, t) ws es := ⟨_, rfl⟩
      rw [← hGr] at hM1 hR5
      clear hno_h hye_h hR_h hF hF'
      have hM1_h := Lib.hid hM1
      have hR5_h := Lib.hid hR5
      have hWc_h := Lib.hid hWc
      have hB5_h := Lib.hid hB5
      have k1c_h := Lib.hid k1c
      have k0c_h := Lib.hid k0c
      have hGr_h := Lib.hid hGr
      clear hM1 hR5 hWc hB5 k1c k0c hGr
      go_wp2_with (fail)
      refine (hR5_h.out).mono ?_
      rintro e w6 ⟨v6, fp6, rfl, hO6, hf6, hb6⟩
      obtain ⟨A6, n6, c6, B6, m6, d6, C6, q6, u6, rfl⟩ := hO6.shape
      have k1d := box_below k1c_h.out hb6
      have hB6 := below_trans hB5_h.out hb6 hB5_h.out.size
      obtain ⟨⟨d0, d1, d2, d3⟩, g0', g1, g2, g3⟩ := box4 k1d
      obtain ⟨s1, s2⟩ := set4 (a := .int .i64 Gr'.1) (b := .slice A6 n6 c6) (c := .slice B6 m6 d6) (d := .slice C6 q6 u6) k1d
      have hBs := below_keeps hB6 s2 hB6.size (fun k hk => by omega)
      have hw5 := hWc_h.out.size
      have hwW := bW_h.out.size
      have hOs := hO6.keeps s2 (fun x hx e => by have := hf6 x hx; omega)
      have hFs : FreshL w.heap.size fp6 := fun x hx => by have := hf6 x hx; omega
      clear hb6 hO6 hB6 k1d s2 hf6
      have s1_h := Lib.hid s1
      have hBs_h := Lib.hid hBs
      have hOs_h := Lib.hid hOs
      have hFs_h := Lib.hid hFs
      clear s1 hBs hOs hFs
      go_wp2_with (fail)
      refine bodyPost_ret (results_cell_tmp rfl _ _ (w.heap.size + 1) _ _ (0, 0) _ rfl s1_h.out Try.underlying31 rfl (by kernel_rfl)) rfl ?_
      rw [hM1_h.out]
      exact ⟨_, _, rfl, hOs_h.out, hFs_h.out, hBs_h.out⟩
set_option maxRecDepth 100000 in
set_option maxHeartbeats 4000000 in
theorem sRenumberGraph_law {v vw ve : Value} {g : Gr} {ws es : List Int} {w : World} (h : RdGr w v g) (hw : RdIV w vw ws) (he : RdIV w ve es) (ok : OkG g) (lw : ws.length ≤ 1048576) (le : es.length ≤ 1048576) :
    Calls Try.prog 21 #[v, vw, ve] w fun e w' => ∃ v' fp, e = .returned (.tuple #[v', .bool (renM g ws es).2]) ∧ OwGr w' v' (renM g ws es).1 fp ∧ FreshL w.heap.size fp ∧ Below w.heap.size w w' := by
  obtain ⟨M, hM⟩ : ∃ M, M = renM g ws es := ⟨_, rfl⟩
  rw [← hM]
  have hno : grB g = false ∨ prmN g.1 ws = false ∨ prmN (g.2.1.length : Int) es = false → M = (g0, false) := fun hh => hM.trans (renM_no hh)
  have hye : grB g = true → prmN g.1 ws = true → prmN (g.2.1.length : Int) es = true → M = (renG g ws es, true) := fun a b c => hM.trans (renM_yes a b c)
  clear hM
  obtain ⟨T, tc, rfl, ht⟩ := hw
  obtain ⟨U, uc, rfl, hu⟩ := he
  have hG0 := h
  obtain ⟨A, c, hs, ⟨B, b, s⟩, ⟨C, d', t⟩, rfl, e1, e2, e3, hE, hRa, hRb⟩ := h
  obtain ⟨z, L, s0, t0⟩ := g
  have a1 : L = hs.map egOf := e1
  have a2 : s = s0 := e2
  have a3 : t = t0 := e3
  subst a2 a3
  obtain ⟨m, hm⟩ : ∃ m, m = hs.length := ⟨_, rfl⟩
  have hLm : L.length = m := by rw [a1, List.length_map, hm]
  obtain ⟨p, hp⟩ : ∃ p, p = s.length := ⟨_, rfl⟩
  obtain ⟨r, hr⟩ : ∃ r, r = t.length := ⟨_, rfl⟩
  obtain ⟨nw, hnw⟩ : ∃ n, n = ws.length := ⟨_, rfl⟩
  obtain ⟨ne, hne⟩ : ∃ n, n = es.length := ⟨_, rfl⟩
  change RdGr w (.agg #[.int .i64 z, .slice A hs.length c, .slice B s.length b, .slice C t.length d']) (z, L, s, t) at hG0
  show Calls Try.prog _ #[.agg #[.int .i64 z, .slice A hs.length c, .slice B s.length b, .slice C t.length d'], .slice T ws.length tc, .slice U es.length uc] w _
  rw [← hm, ← hp, ← hr] at hG0 ⊢
  rw [← hnw, ← hne]
  obtain ⟨W, hW, bW, k0, k1⟩ := allocs2 w (.cells #[.int .i64 z, .slice A m c, .slice B p b, .slice C r d'] tGr) (.cells #[.int .i64 0, .slice none 0 0, .slice none 0 0, .slice none 0 0] tGr)
  have hGW := hG0.below bW
  have htW := ht.below bW
  have huW := hu.below bW
  obtain ⟨B1, hB1⟩ : ∃ x, x = grB (z, L, s, t) := ⟨_, rfl⟩
  obtain ⟨B2, hB2⟩ : ∃ x, x = (decide ((nw : Int) = z) && decide ((ne : Int) = (m : Int))) := ⟨_, rfl⟩
  obtain ⟨P1, hP1⟩ : ∃ x, x = permB ws := ⟨_, rfl⟩
  obtain ⟨P2, hP2⟩ : ∃ x, x = permB es := ⟨_, rfl⟩
  obtain ⟨B3, hB3⟩ : ∃ x, x = (P1 && P2) := ⟨_, rfl⟩
  have hw2 : prmN z ws = (decide ((nw : Int) = z) && P1) := by rw [hnw, hP1]; rfl
  have he2 : prmN (m : Int) es = (decide ((ne : Int) = (m : Int)) && P2) := by rw [hne, hP2]; rfl
  have hno' : (B1 && (B2 && B3)) = false → M = (g0, false) := fun hh => hno (by
    rw [show (((z, L, s, t) : Gr).2.1.length : Int) = (m : Int) by rw [← hLm], ← hB1, he2, show prmN ((z, L, s, t) : Gr).1 ws = _ from hw2]
    rw [hB2, hB3] at hh
    generalize decide ((nw : Int) = z) = x1 at hh ⊢
    generalize decide ((ne : Int) = (m : Int)) = x2 at hh ⊢
    cases B1 <;> cases x1 <;> cases x2 <;> cases P1 <;> cases P2 <;> simp at hh ⊢)
  have hw3 : B2 = true → B3 = true → prmN z ws = true ∧ prmN (m : Int) es = true := fun a b => by
    rw [hw2, he2]
    rw [hB2] at a
    rw [hB3] at b
    simp only [Bool.and_eq_true] at a b ⊢
    exact ⟨⟨a.1, b.1⟩, a.2, b.2⟩
  have hye' : B1 = true → B2 = true → B3 = true → M = (renG (z, L, s, t) ws es, true) := fun a b c => hye (hB1.symm.trans a) (hw3 b c).1 (by rw [show (((z, L, s, t) : Gr).2.1.length : Int) = (m : Int) by rw [← hLm]]; exact (hw3 b c).2)
  clear hno hye
  have hno := hno'
  have hye := hye'
  clear hno' hye'
  have hG := hgValid_any W hGW ok
  rw [← hB1] at hG
  have hP := fun (W' : World) (hb : Below W.heap.size W W') => tmIsPerm_any T tc ws W' (htW.below hb) lw
  have hQ := fun (W' : World) (hb : Below W.heap.size W W') => tmIsPerm_any U uc es W' (huW.below hb) le
  simp only [← hnw, ← hP1] at hP
  simp only [← hne, ← hP2] at hQ
  have hR : ∀ (W' : World), Below W.heap.size W W' → B1 = true → B2 = true → B3 = true → Calls Try.prog 53 #[.agg #[.int .i64 z, .slice A m c, .slice B p b, .slice C r d'], .slice T nw tc, .slice U ne uc] W' fun e w' => ∃ v' fp, e = .returned v' ∧ OwGr w' v' (renG (z, L, s, t) ws es) fp ∧ FreshL W'.heap.size fp ∧ Below W'.heap.size W' w' := fun W' hb b1 b2 b3 => by
    obtain ⟨n, g1, g2, g3, _, _, g6⟩ := grB_parts (hB1.symm.trans b1)
    obtain ⟨p1, p2⟩ := prmN_parts (hw3 b2 b3).1
    obtain ⟨p3, p4⟩ := prmN_parts (hw3 b2 b3).2
    have g1' : z = (n : Int) := g1
    have hwn : ws.length = n := by omega
    have hen : es.length = m := by omega
    have hr := hgRenumber_any W' n m T tc ws U uc es (hGW.below hb) ok (htW.below hb) (huW.below hb) g1 hLm hwn hen g6 p4 (by have : L.length ≤ 60 := g3; omega)
    rw [hnw, hne, hwn, hen]
    exact hr
  obtain ⟨⟨c0, c1, c2, c3⟩, f0, f1, f2, f3⟩ := box4 k0
  clear hE hRa hRb e1 e2 e3 a1 hm ht hu hp hr hG0 hGW htW huW hB1 hP1 hP2 ok lw le hnw hne hw2 he2 hw3
  have k0_h := Lib.hid k0
  have k1_h := Lib.hid k1
  have bW_h := Lib.hid bW
  have hG_h := Lib.hid hG
  have hP_h := Lib.hid hP
  have hQ_h := Lib.hid hQ
  have hR_h := Lib.hid hR
  have hno_h := Lib.hid hno
  have hye_h := Lib.hid hye
  have hLm_h := Lib.hid hLm
  have hB2_h := Lib.hid hB2
  have hB3_h := Lib.hid hB3
  clear k0 k1 bW hG hP hQ hR hno hye hLm hB2 hB3
  go_enter Try.func21, Try.ntmps21
  go_upto_region 1 with (fail)
  rw [← hW]
  clear hW
  go_cut [35] (fun sv wx => sv = .bool (!(B1 && (B2 && B3))) ∧ Below W.heap.size W wx)
  case first =>
    go_wp2_with (fail)
    refine (hG_h.out).mono ?_
    rintro e w1 ⟨rfl, hb1⟩
    cases B1
    case false =>
      have hb1_h := Lib.hid hb1
      clear hb1
      go_wp2_with (fail)
      go_meet
      exact ⟨rfl, hb1_h.out⟩
    case true =>
      have k0a := box_below k0_h.out hb1
      clear c0 c1 c2 c3 f0 f1 f2 f3
      obtain ⟨⟨c0, c1, c2, c3⟩, f0, f1, f2, f3⟩ := box4 k0a
      have hb1_h := Lib.hid hb1
      have k0a_h := Lib.hid k0a
      clear hb1 k0a
      by_cases x1 : (nw : Int) = z
      case neg =>
        have hB2' : B2 = false := by rw [hB2_h.out, decide_eq_false x1]; rfl
        subst hB2'
        go_wp2_with (fail)
        go_meet
        exact ⟨rfl, hb1_h.out⟩
      by_cases x2 : (ne : Int) = (m : Int)
      case neg =>
        have hB2' : B2 = false := by rw [hB2_h.out, decide_eq_false x2, Bool.and_false]
        subst hB2'
        go_wp2_with (fail)
        go_meet
        exact ⟨rfl, hb1_h.out⟩
      have hB2' : B2 = true := by rw [hB2_h.out, decide_eq_true x1, decide_eq_true x2]; rfl
      subst hB2'
      go_wp2_with (fail)
      refine ((hP_h.out _ hb1_h.out)).mono ?_
      rintro e w2 ⟨rfl, hb2⟩
      have hb2' := below_trans hb1_h.out hb2 hb1_h.out.size
      cases P1
      case false =>
        have hB3' : B3 = false := hB3_h.out
        subst hB3'
        clear hb2
        have hb2'_h := Lib.hid hb2'
        clear hb2'
        go_wp2_with (fail)
        go_meet
        exact ⟨rfl, hb2'_h.out⟩
      case true =>
        have hB3' : B3 = P2 := hB3_h.out.trans (Bool.true_and _)
        subst hB3'
        clear hb2
        have hb2'_h := Lib.hid hb2'
        clear hb2'
        go_wp2_with (fail)
        refine ((hQ_h.out _ hb2'_h.out)).mono ?_
        rintro e w3 ⟨rfl, hb3⟩
        have hb3' := below_trans hb2'_h.out hb3 hb2'_h.out.size
        clear hb3
        have hb3'_h := Lib.hid hb3'
        clear hb3'
        go_wp2_with (fail)
        go_meet
        exact ⟨by cases B3 <;> rfl, hb3'_h.out⟩
  case rest =>
    obtain ⟨rfl, hWc⟩ := hcut
    obtain ⟨w5, rfl⟩ : ∃ x, x = wc := ⟨_, rfl⟩
    have k1c := box_below k1_h.out hWc
    have k0c := box_below k0_h.out hWc
    have hk1 := box_lt k1_h.out
    have hB5 := below_trans bW_h.out hWc bW_h.out.size
    clear c0 c1 c2 c3 f0 f1 f2 f3
    obtain ⟨⟨c0, c1, c2, c3⟩, f0, f1, f2, f3⟩ := box4 k0c
    obtain ⟨F, hF⟩ : ∃ F, F = (B1 && (B2 && B3)) := ⟨_, rfl⟩
    rw [← hF]
    cases F
    case false =>
      have hM0 : M = (g0, false) := hno_h.out hF.symm
      obtain ⟨⟨d0, d1, d2, d3⟩, g0', g1, g2, g3⟩ := box4 k1c
      obtain ⟨s1, s2⟩ := set4 (a := .int .i64 0) (b := .slice none 0 0) (c := .slice none 0 0) (d := .slice none 0 0) k1c
      have hBs := below_keeps hB5 s2 hB5.size (fun k hk => by omega)
      clear hWc hB5 k0c k1c s2
      have hM0_h := Lib.hid hM0
      have s1_h := Lib.hid s1
      have hBs_h := Lib.hid hBs
      have hF_h := Lib.hid hF
      clear hM0 s1 hBs hF
      go_wp2_with (fail)
      refine bodyPost_ret (results_cell_tmp rfl _ _ (w.heap.size + 1) _ _ (0, 0) _ rfl s1_h.out Try.underlying31 rfl (by kernel_rfl)) rfl ?_
      rw [hM0_h.out]
      exact ⟨_, _, rfl, OwGr.zero _, fun b hb => (by cases hb), hBs_h.out⟩
    case true =>
      have hF' := hF.symm
      rw [Bool.and_eq_true, Bool.and_eq_true] at hF'
      have hM1 : M = (renG (z, L, s, t) ws es, true) := hye_h.out hF'.1 hF'.2.1 hF'.2.2
      have hR5 := hR_h.out w5 hWc hF'.1 hF'.2.1 hF'.2.2
      obtain ⟨Gr', hGr⟩ : ∃ x, x = renG (z, L, s, t) ws es := ⟨_, rfl⟩
      rw [← hGr] at hM1 hR5
      clear hno_h hye_h hR_h hF hF'
      have hM1_h := Lib.hid hM1
      have hR5_h := Lib.hid hR5
      have hWc_h := Lib.hid hWc
      have hB5_h := Lib.hid hB5
      have k1c_h := Lib.hid k1c
      have k0c_h := Lib.hid k0c
      have hGr_h := Lib.hid hGr
      clear hM1 hR5 hWc hB5 k1c k0c hGr
      go_wp2_with (fail)
      refine (hR5_h.out).mono ?_
      rintro e w6 ⟨v6, fp6, rfl, hO6, hf6, hb6⟩
      obtain ⟨A6, n6, c6, B6, m6, d6, C6, q6, u6, rfl⟩ := hO6.shape
      have k1d := box_below k1c_h.out hb6
      have hB6 := below_trans hB5_h.out hb6 hB5_h.out.size
      obtain ⟨⟨d0, d1, d2, d3⟩, g0', g1, g2, g3⟩ := box4 k1d
      obtain ⟨s1, s2⟩ := set4 (a := .int .i64 Gr'.1) (b := .slice A6 n6 c6) (c := .slice B6 m6 d6) (d := .slice C6 q6 u6) k1d
      have hBs := below_keeps hB6 s2 hB6.size (fun k hk => by omega)
      have hw5 := hWc_h.out.size
      have hwW := bW_h.out.size
      have hOs := hO6.keeps s2 (fun x hx e => by have := hf6 x hx; omega)
      have hFs : FreshL w.heap.size fp6 := fun x hx => by have := hf6 x hx; omega
      clear hb6 hO6 hB6 k1d s2 hf6
      have s1_h := Lib.hid s1
      have hBs_h := Lib.hid hBs
      have hOs_h := Lib.hid hOs
      have hFs_h := Lib.hid hFs
      clear s1 hBs hOs hFs
      go_wp2_with (fail)
      refine bodyPost_ret (results_cell_tmp rfl _ _ (w.heap.size + 1) _ _ (0, 0) _ rfl s1_h.out Try.underlying31 rfl (by kernel_rfl)) rfl ?_
      rw [hM1_h.out]
      exact ⟨_, _, rfl, hOs_h.out, hFs_h.out, hBs_h.out⟩
end Go.Proofs.Ytanhmljgeiajoaa
