/-
  THE WALKS: the reference's valid graphs (l1All, hgEdge, hgCounts, hgValid).
-/
import Derived.Test.YtanhmljgeiajoaaGrEq
import Derived.Test.YtanhmljgeiajoaaTmK
namespace Go.Proofs.Ytanhmljgeiajoaa
open Go.RowKit

theorem gvB_iff (k v : Int) : gvB k v = true ↔ ((k = 7 ∨ k = 13) ∧ 0 ≤ v ∧ v ≤ 96) ∨ (k ≠ 7 ∧ k ≠ 13 ∧ v = 0) := by
  unfold gvB hvB inB
  by_cases h : k = 7 ∨ k = 13
  · rw [decide_eq_true h, if_pos rfl, decide_eq_true_eq]
    constructor
    · intro h3; exact .inl ⟨h, h3⟩
    · intro h3; omega
  · rw [decide_eq_false h, if_neg (by simp), decide_eq_true_eq]
    constructor
    · intro h3; exact .inr ⟨by omega, by omega, h3⟩
    · intro h3; omega
theorem leafB_gv {k v : Int} (h1 : 3 ≤ k) (h2 : k ≤ 14) : leafB (k, v, noName) = gvB k v := by
  rw [Bool.eq_iff_iff, gvB_iff]
  unfold leafB
  simp only [decide_eq_true_eq]
  constructor
  · rintro ⟨-, h3⟩; omega
  · intro h3; exact ⟨trivial, by omega⟩
set_option maxHeartbeats 1000000 in
theorem l1All_any (A : Option Addr) (c n : Nat) (l : List Int) (lo hi : Int) (w : World) (h : RdI w A l) (hn : l.length = n) (hnb : n ≤ 17592186044416) :
    Calls Try.prog 83 #[.slice A n c, .int .i64 lo, .int .i64 hi] w fun e w' => e = .returned (.bool (l.all fun x => inB x lo hi)) ∧ w' = w := by
  obtain ⟨D, hD⟩ : ∃ D, D = l.all fun x => inB x lo hi := ⟨_, rfl⟩
  rw [← hD]
  have hD_h := Lib.hid hD
  have hn_h := Lib.hid hn
  clear hD hn
  go_enter Try.func83, Try.ntmps83
  go_wp2_with (fail)
  go_loop [11] (fun i => ∃ k : Nat, k ≤ n ∧ i = .int .i64 k ∧ (l.take k).all (fun x => inB x lo hi) = true) (fun i => n - (intOf i).toNat)
  case atStart => exact ⟨0, Nat.zero_le _, rfl, by simp⟩
  case round =>
    obtain ⟨k, hk, rfl, hall⟩ := hrel
    by_cases hlt : k < n
    · obtain ⟨ad, x, rfl, hx, hc⟩ := h.at_ (j := k) (by rw [hn_h.out]; exact hlt)
      have hkI : (k : Int) < (n : Int) := by omega
      have hC := l1In_any x lo hi w
      cases hb : inB x lo hi
      · rw [hb] at hC
        have hf : D = false := by
          rw [hD_h.out, Bool.eq_false_iff]
          intro hh
          have := List.all_eq_true.1 hh x (List.mem_of_getElem? hx)
          rw [hb] at this; cases this
        subst hf
        have hC_h := Lib.hid hC
        have hall_h := Lib.hid hall
        have hx_h := Lib.hid hx
        clear hC hall hx
        clear h hb
        go_wp2_with (fail)
        refine (hC_h.out).mono ?_
        rintro e w1 ⟨rfl, rfl⟩
        go_wp2_with (fail)
        go_ret
        exact ⟨rfl, rfl⟩
      · rw [hb] at hC
        have hst : (l.take (k + 1)).all (fun x => inB x lo hi) = true := by
          rw [List.take_add_one, hx, List.all_append, hall]; simp [hb]
        have hC_h := Lib.hid hC
        have hst_h := Lib.hid hst
        clear hC hst
        clear h hb hall hx
        go_wp2_with (fail)
        refine (hC_h.out).mono ?_
        rintro e w1 ⟨rfl, rfl⟩
        go_wp2_with (fail)
        go_round
        case rel => exact ⟨k + 1, by omega, by go_num, hst_h.out⟩
        case measure => simp [intOf]; omega
    · obtain rfl : n = k := by omega
      have ht : D = true := by rw [hD_h.out, ← hall, List.take_of_length_le (by rw [hn_h.out]; exact Nat.le_refl _)]
      subst ht
      have hall_h := Lib.hid hall
      clear hall
      clear h
      go_wp2_with (fail)
      go_ret
      exact ⟨rfl, rfl⟩

set_option maxRecDepth 100000 in
set_option maxHeartbeats 4000000 in
theorem hgEdge_any (k v : Int) (B C : Option Addr) (b c : Nat) (l m : List Int) (n : Int) (w : World) (hB : RdI w B l) (hC : RdI w C m) (hl : l.length ≤ 1048576) (hm : m.length ≤ 1048576) (n0 : -1000000 ≤ n) (n1 : n ≤ 1000000) :
    Calls Try.prog 84 #[.agg #[.int .i64 k, .int .i64 v, .slice B l.length b, .slice C m.length c], .int .i64 n] w fun e w' => e = .returned (.bool (hgB n (k, v, l, m))) ∧ Below w.heap.size w w' := by
  obtain ⟨p, hp⟩ : ∃ p, p = l.length := ⟨_, rfl⟩
  obtain ⟨q, hq⟩ : ∃ q, q = m.length := ⟨_, rfl⟩
  have hA1 := fun (W : World) (hb : Below w.heap.size w W) => l1All_any B b p l 0 (n - 1) W (hB.below hb) hp.symm (by omega)
  have hA2 := fun (W : World) (hb : Below w.heap.size w W) => l1All_any C c q m 0 (n - 1) W (hC.below hb) hq.symm (by omega)
  obtain ⟨D, hD⟩ : ∃ D, D = hgB n (k, v, l, m) := ⟨_, rfl⟩
  have hDD : D = ((inB k 3 14 && (gvB k v && decide (((p : Int), (q : Int)) = kindTy k))) && ((l.all fun x => inB x 0 (n - 1)) && (m.all fun x => inB x 0 (n - 1)))) := by rw [hD, hp, hq]; rfl
  rw [← hD, ← hp, ← hq]
  obtain ⟨D1, hD1⟩ : ∃ D, D = l.all fun x => inB x 0 (n - 1) := ⟨_, rfl⟩
  obtain ⟨D2, hD2⟩ : ∃ D, D = m.all fun x => inB x 0 (n - 1) := ⟨_, rfl⟩
  simp only [← hD1] at hA1 hDD
  simp only [← hD2] at hA2 hDD
  have hkd : decide (((p : Int), (q : Int)) = kindTy k) = (((p : Int) == (kindTy k).1) && ((q : Int) == (kindTy k).2)) := by
    rw [Bool.eq_iff_iff]
    simp only [decide_eq_true_eq, Bool.and_eq_true, beq_iff_eq]
    exact ⟨fun h => ⟨congrArg Prod.fst h, congrArg Prod.snd h⟩, fun h => Prod.ext h.1 h.2⟩
  rw [hkd] at hDD
  have hTL := fun (W : World) => tmLeaf_any k v noName W
  have hIn := fun (W : World) => l1In_any k 3 14 W
  have hTK := fun (W : World) => tmKind_any k W
  obtain ⟨i1, hi1⟩ : ∃ i, i = (kindTy k).1 := ⟨_, rfl⟩
  obtain ⟨i2, hi2⟩ : ∃ i, i = (kindTy k).2 := ⟨_, rfl⟩
  simp only [← hi1, ← hi2] at hTK hDD
  have wn : IntKind.i64.wrap (n - 1) = n - 1 := IntWalk.i64_in _ (by omega)
  obtain ⟨W, hW, bW, k0⟩ : ∃ W, W = w.alloc (.cells #[.int .i64 k, .int .i64 v, .slice B p b, .slice C q c] tEd) ∧ Below w.heap.size w W ∧ W.heap[w.heap.size]? = some (.cells #[.int .i64 k, .int .i64 v, .slice B p b, .slice C q c] tEd) := ⟨_, rfl, below_alloc _ _, heap_alloc_new _ _⟩
  obtain ⟨⟨c0, c1, c2, c3⟩, f0, f1, f2, f3⟩ := box4 k0
  clear hB hC hD hkd hD1 hD2 hi1 hi2
  by_cases h0 : inB k 3 14 = true
  case neg =>
    have h0' : inB k 3 14 = false := by simpa using h0
    obtain rfl : D = false := by rw [hDD, h0']; rfl
    simp only [h0'] at hIn
    clear h0 h0' hDD
    have hA1_h := Lib.hid hA1
    have hA2_h := Lib.hid hA2
    have hTL_h := Lib.hid hTL
    have hIn_h := Lib.hid hIn
    have hTK_h := Lib.hid hTK
    have k0_h := Lib.hid k0
    have bW_h := Lib.hid bW
    have hp_h := Lib.hid hp
    have hq_h := Lib.hid hq
    clear hA1 hA2 hTL hIn hTK k0 bW hp hq
    go_enter Try.func84, Try.ntmps84
    go_upto_region 1 with (fail)
    rw [← hW]
    clear hW
    go_wp2_with (fail)
    refine (hIn_h.out _).mono ?_
    rintro e w1 ⟨rfl, rfl⟩
    go_wp2_with (fail)
    go_ret
    exact ⟨rfl, bW_h.out⟩
  have hb14 : 3 ≤ k ∧ k ≤ 14 := of_decide_eq_true h0
  have hlf0 := leafB_gv (v := v) hb14.1 hb14.2
  simp only [h0] at hIn
  rw [h0, Bool.true_and] at hDD
  by_cases h1 : gvB k v = true
  case neg =>
    have h1' : gvB k v = false := by simpa using h1
    obtain rfl : D = false := by rw [hDD, h1']; rfl
    have hlf : leafB (k, v, noName) = false := by rw [hlf0, h1']
    clear h0 h1 h1' hDD hlf0 hb14
    have hA1_h := Lib.hid hA1
    have hA2_h := Lib.hid hA2
    have hTL_h := Lib.hid hTL
    have hIn_h := Lib.hid hIn
    have hTK_h := Lib.hid hTK
    have k0_h := Lib.hid k0
    have bW_h := Lib.hid bW
    have hp_h := Lib.hid hp
    have hq_h := Lib.hid hq
    clear hA1 hA2 hTL hIn hTK k0 bW hp hq
    go_enter Try.func84, Try.ntmps84
    go_upto_region 1 with (fail)
    rw [← hW]
    clear hW
    go_wp2_with (fail)
    refine (hIn_h.out _).mono ?_
    rintro e w1 ⟨rfl, rfl⟩
    go_wp2_with (fail)
    refine (hTL_h.out _).mono ?_
    rintro e w2 ⟨lb, rfl, hlb, hb2⟩
    rw [hlf] at hlb
    subst hlb
    clear c0 c1 c2 c3 f0 f1 f2 f3
    have k2 := box_below k0_h.out hb2
    obtain ⟨⟨c0, c1, c2, c3⟩, f0, f1, f2, f3⟩ := box4 k2
    have hB2 := below_trans bW_h.out hb2 bW_h.out.size
    clear hb2 k2
    have hB2_h := Lib.hid hB2
    clear hB2
    go_wp2_with (fail)
    go_ret
    exact ⟨rfl, hB2_h.out⟩
  have hlf : leafB (k, v, noName) = true := by rw [hlf0, h1]
  rw [h1, Bool.true_and] at hDD
  clear h0 h1 hlf0 hb14
  by_cases h2 : (p : Int) = i1
  case neg =>
    have h2' : ((p : Int) == i1) = false := by rw [beq_eq_false_iff_ne]; exact h2
    obtain rfl : D = false := by rw [hDD, h2']; rfl
    clear h2 hDD
    have hA1_h := Lib.hid hA1
    have hA2_h := Lib.hid hA2
    have hTL_h := Lib.hid hTL
    have hIn_h := Lib.hid hIn
    have hTK_h := Lib.hid hTK
    have k0_h := Lib.hid k0
    have bW_h := Lib.hid bW
    have hp_h := Lib.hid hp
    have hq_h := Lib.hid hq
    clear hA1 hA2 hTL hIn hTK k0 bW hp hq
    go_enter Try.func84, Try.ntmps84
    go_upto_region 1 with (fail)
    rw [← hW]
    clear hW
    go_wp2_with (fail)
    refine (hIn_h.out _).mono ?_
    rintro e w1 ⟨rfl, rfl⟩
    go_wp2_with (fail)
    refine (hTL_h.out _).mono ?_
    rintro e w2 ⟨lb, rfl, hlb, hb2⟩
    rw [hlf] at hlb
    subst hlb
    clear c0 c1 c2 c3 f0 f1 f2 f3
    have k2 := box_below k0_h.out hb2
    obtain ⟨⟨c0, c1, c2, c3⟩, f0, f1, f2, f3⟩ := box4 k2
    have hB2 := below_trans bW_h.out hb2 bW_h.out.size
    clear hb2 k2
    have hB2_h := Lib.hid hB2
    clear hB2
    go_wp2_with (fail)
    refine (hTK_h.out _).mono ?_
    rintro e w3 ⟨rfl, rfl⟩
    go_wp2_with (fail)
    go_ret
    exact ⟨rfl, hB2_h.out⟩
  have h2' : ((p : Int) == i1) = true := by rw [beq_iff_eq]; exact h2
  rw [h2', Bool.true_and] at hDD
  clear h2
  by_cases h3 : (q : Int) = i2
  case neg =>
    have h3' : ((q : Int) == i2) = false := by rw [beq_eq_false_iff_ne]; exact h3
    obtain rfl : D = false := by rw [hDD, h3']; rfl
    clear h3 hDD
    have hA1_h := Lib.hid hA1
    have hA2_h := Lib.hid hA2
    have hTL_h := Lib.hid hTL
    have hIn_h := Lib.hid hIn
    have hTK_h := Lib.hid hTK
    have k0_h := Lib.hid k0
    have bW_h := Lib.hid bW
    have hp_h := Lib.hid hp
    have hq_h := Lib.hid hq
    clear hA1 hA2 hTL hIn hTK k0 bW hp hq
    go_enter Try.func84, Try.ntmps84
    go_upto_region 1 with (fail)
    rw [← hW]
    clear hW
    go_wp2_with (fail)
    refine (hIn_h.out _).mono ?_
    rintro e w1 ⟨rfl, rfl⟩
    go_wp2_with (fail)
    refine (hTL_h.out _).mono ?_
    rintro e w2 ⟨lb, rfl, hlb, hb2⟩
    rw [hlf] at hlb
    subst hlb
    clear c0 c1 c2 c3 f0 f1 f2 f3
    have k2 := box_below k0_h.out hb2
    obtain ⟨⟨c0, c1, c2, c3⟩, f0, f1, f2, f3⟩ := box4 k2
    have hB2 := below_trans bW_h.out hb2 bW_h.out.size
    clear hb2 k2
    have hB2_h := Lib.hid hB2
    clear hB2
    go_wp2_with (fail)
    refine (hTK_h.out _).mono ?_
    rintro e w3 ⟨rfl, rfl⟩
    go_wp2_with (fail)
    go_ret
    exact ⟨rfl, hB2_h.out⟩
  have h3' : ((q : Int) == i2) = true := by rw [beq_iff_eq]; exact h3
  rw [h3', Bool.true_and] at hDD
  clear h3
  cases D1
  case false =>
    obtain rfl : D = false := by rw [hDD]; rfl
    clear hDD
    have hA1_h := Lib.hid hA1
    have hA2_h := Lib.hid hA2
    have hTL_h := Lib.hid hTL
    have hIn_h := Lib.hid hIn
    have hTK_h := Lib.hid hTK
    have k0_h := Lib.hid k0
    have bW_h := Lib.hid bW
    have hp_h := Lib.hid hp
    have hq_h := Lib.hid hq
    clear hA1 hA2 hTL hIn hTK k0 bW hp hq
    go_enter Try.func84, Try.ntmps84
    go_upto_region 1 with (fail)
    rw [← hW]
    clear hW
    go_wp2_with (fail)
    refine (hIn_h.out _).mono ?_
    rintro e w1 ⟨rfl, rfl⟩
    go_wp2_with (fail)
    refine (hTL_h.out _).mono ?_
    rintro e w2 ⟨lb, rfl, hlb, hb2⟩
    rw [hlf] at hlb
    subst hlb
    clear c0 c1 c2 c3 f0 f1 f2 f3
    have k2 := box_below k0_h.out hb2
    obtain ⟨⟨c0, c1, c2, c3⟩, f0, f1, f2, f3⟩ := box4 k2
    have hB2 := below_trans bW_h.out hb2 bW_h.out.size
    clear hb2 k2
    have hB2_h := Lib.hid hB2
    clear hB2
    go_wp2_with (fail)
    refine (hTK_h.out _).mono ?_
    rintro e w3 ⟨rfl, rfl⟩
    go_wp2_with (fail)
    refine (hA1_h.out _ hB2_h.out).mono ?_
    rintro e w4 ⟨rfl, rfl⟩
    go_wp2_with (fail)
    go_ret
    exact ⟨rfl, hB2_h.out⟩
  obtain rfl : D = D2 := by rw [hDD]; rfl
  clear hDD
  have hA1_h := Lib.hid hA1
  have hA2_h := Lib.hid hA2
  have hTL_h := Lib.hid hTL
  have hIn_h := Lib.hid hIn
  have hTK_h := Lib.hid hTK
  have k0_h := Lib.hid k0
  have bW_h := Lib.hid bW
  have hp_h := Lib.hid hp
  have hq_h := Lib.hid hq
  clear hA1 hA2 hTL hIn hTK k0 bW hp hq
  go_enter Try.func84, Try.ntmps84
  go_upto_region 1 with (fail)
  rw [← hW]
  clear hW
  go_wp2_with (fail)
  refine (hIn_h.out _).mono ?_
  rintro e w1 ⟨rfl, rfl⟩
  go_wp2_with (fail)
  refine (hTL_h.out _).mono ?_
  rintro e w2 ⟨lb, rfl, hlb, hb2⟩
  rw [hlf] at hlb
  subst hlb
  clear c0 c1 c2 c3 f0 f1 f2 f3
  have k2 := box_below k0_h.out hb2
  obtain ⟨⟨c0, c1, c2, c3⟩, f0, f1, f2, f3⟩ := box4 k2
  have hB2 := below_trans bW_h.out hb2 bW_h.out.size
  clear hb2 k2
  have hB2_h := Lib.hid hB2
  clear hB2
  go_wp2_with (fail)
  refine (hTK_h.out _).mono ?_
  rintro e w3 ⟨rfl, rfl⟩
  go_wp2_with (fail)
  refine (hA1_h.out _ hB2_h.out).mono ?_
  rintro e w4 ⟨rfl, rfl⟩
  go_wp2_with (fail)
  refine (hA2_h.out _ hB2_h.out).mono ?_
  rintro e w4 ⟨rfl, rfl⟩
  go_wp2_with (fail)
  go_ret
  exact ⟨rfl, hB2_h.out⟩
end Go.Proofs.Ytanhmljgeiajoaa
