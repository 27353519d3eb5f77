/-
  THE WALK: spec.hgValid.

  THE WALKS: the reference's valid graphs (hgCounts, hgValid).

  THE WALKS: the reference's valid graphs (l1All, hgEdge, hgCounts, hgValid).
-/
import Derived.Test.YtanhmljgeiajoaaGrEq
import Derived.Test.YtanhmljgeiajoaaTmK
namespace Go.Proofs.Ytanhmljgeiajoaa
open Go.RowKit

theorem gvB_iff (k v : Int) : gvB k v = true ↔ ((k = 7 ∨ k = 13) ∧ 0 ≤ v ∧ v ≤ 96) ∨ (k ≠ 7 ∧ k ≠ 13 ∧ v = 0) := by
  unfold gvB hvB inB
  by_cases h : k = 7 ∨ k = 13
  · rw [decide_eq_true h, if_pos rfl, decide_eq_true_eq]
    constructor
    · intro h3; exact .inl ⟨h, h3⟩
    · intro h3; omega
  · rw [decide_eq_false h, if_neg (by simp), decide_eq_true_eq]
    constructor
    · intro h3; exact .inr ⟨by omega, by omega, h3⟩
    · intro h3; omega
theorem leafB_gv {k v : Int} (h1 : 3 ≤ k) (h2 : k ≤ 14) : leafB (k, v, noName) = gvB k v := by
  rw [Bool.eq_iff_iff, gvB_iff]
  unfold leafB
  simp only [decide_eq_true_eq]
  constructor
  · rintro ⟨-, h3⟩; omega
  · intro h3; exact ⟨trivial, by omega⟩
set_option maxHeartbeats 1000000 in
theorem l1All_any (A : Option Addr) (c n : Nat) (l : List Int) (lo hi : Int) (w : World) (h : RdI w A l) (hn : l.length = n) (hnb : n ≤ 17592186044416) :
    Calls Try.prog 83 #[.slice A n c, .int .i64 lo, .int .i64 hi] w fun e w' => e = .returned (.bool (l.all fun x => inB x lo hi)) ∧ w' = w := by
  obtain ⟨D, hD⟩ : ∃ D, D = l.all fun x => inB x lo hi := ⟨_, rfl⟩
  rw [← hD]
  have hD_h := Lib.hid hD
  have hn_h := Lib.hid hn
  clear hD hn
  go_enter Try.func83, Try.ntmps83
  go_wp2_with (fail)
  go_loop [11] (fun i => ∃ k : Nat, k ≤ n ∧ i = .int .i64 k ∧ (l.take k).all (fun x => inB x lo hi) = true) (fun i => n - (intOf i).toNat)
  case atStart => exact ⟨0, Nat.zero_le _, rfl, by simp⟩
  case round =>
    obtain ⟨k, hk, rfl, hall⟩ := hrel
    by_cases hlt : k < n
    · obtain ⟨ad, x, rfl, hx, hc⟩ := h.at_ (j := k) (by rw [hn_h.out]; exact hlt)
      have hkI : (k : Int) < (n : Int) := by omega
      have hC := l1In_any x lo hi w
      cases hb : inB x lo hi
      · rw [hb] at hC
        have hf : D = false := by
          rw [hD_h.out, Bool.eq_false_iff]
          intro hh
          have := List.all_eq_true.1 hh x (List.mem_of_getElem? hx)
          rw [hb] at this; cases this
        subst hf
        have hC_h := Lib.hid hC
        have hall_h := Lib.hid hall
        have hx_h := Lib.hid hx
        clear hC hall hx
        clear h hb
        go_wp2_with (fail)
        refine (hC_h.out).mono ?_
        rintro e w1 ⟨rfl, rfl⟩
        go_wp2_with (fail)
        go_ret
        exact ⟨rfl, rfl⟩
      · rw [hb] at hC
        have hst : (l.take (k + 1)).all (fun x => inB x lo hi) = true := by
          rw [List.take_add_one, hx, List.all_append, hall]; simp [hb]
        have hC_h := Lib.hid hC
        have hst_h := Lib.hid hst
        clear hC hst
        clear h hb hall hx
        go_wp2_with (fail)
        refine (hC_h.out).mono ?_
        rintro e w1 ⟨rfl, rfl⟩
        go_wp2_with (fail)
        go_round
        case rel => exact ⟨k + 1, by omega, by go_num, hst_h.out⟩
        case measure => simp [intOf]; omega
    · obtain rfl : n = k := by omega
      have ht : D = true := by rw [hD_h.out, ← hall, List.take_of_length_le (by rw [hn_h.out]; exact Nat.le_refl _)]
      subst ht
      have hall_h := Lib.hid hall
      clear hall
      clear h
      go_wp2_with (fail)
      go_ret
      exact ⟨rfl, rfl⟩

set_option maxRecDepth 100000 in
set_option maxHeartbeats 4000000 in
theorem hgEdge_any (k v : Int) (B C : Option Addr) (b c : Nat) (l m : List Int) (n : Int) (w : World) (hB : RdI w B l) (hC : RdI w C m) (hl : l.length ≤ 1048576) (hm : m.length ≤ 1048576) (n0 : -1000000 ≤ n) (n1 : n ≤ 1000000) :
    Calls Try.prog 84 #[.agg #[.int .i64 k, .int .i64 v, .slice B l.length b, .slice C m.length c], .int .i64 n] w fun e w' => e = .returned (.bool (hgB n (k, v, l, m))) ∧ Below w.heap.size w w' := by
  obtain ⟨p, hp⟩ : ∃ p, p = l.length := ⟨_, rfl⟩
  obtain ⟨q, hq⟩ : ∃ q, q = m.length := ⟨_, rfl⟩
  have hA1 := fun (W : World) (hb : Below w.heap.size w W) => l1All_any B b p l 0 (n - 1) W (hB.below hb) hp.symm (by omega)
  have hA2 := fun (W : World) (hb : Below w.heap.size w W) => l1All_any C c q m 0 (n - 1) W (hC.below hb) hq.symm (by omega)
  obtain ⟨D, hD⟩ : ∃ D, D = hgB n (k, v, l, m) := ⟨_, rfl⟩
  have hDD : D = ((inB k 3 14 && (gvB k v && decide (((p : Int), (q : Int)) = kindTy k))) && ((l.all fun x => inB x 0 (n - 1)) && (m.all fun x => inB x 0 (n - 1)))) := by rw [hD, hp, hq]; rfl
  rw [← hD, ← hp, ← hq]
  obtain ⟨D1, hD1⟩ : ∃ D, D = l.all fun x => inB x 0 (n - 1) := ⟨_, rfl⟩
  obtain ⟨D2, hD2⟩ : ∃ D, D = m.all fun x => inB x 0 (n - 1) := ⟨_, rfl⟩
  simp only [← hD1] at hA1 hDD
  simp only [← hD2] at hA2 hDD
  have hkd : decide (((p : Int), (q : Int)) = kindTy k) = (((p : Int) == (kindTy k).1) && ((q : Int) == (kindTy k).2)) := by
    rw [Bool.eq_iff_iff]
    simp only [decide_eq_true_eq, Bool.and_eq_true, beq_iff_eq]
    exact ⟨fun h => ⟨congrArg Prod.fst h, congrArg Prod.snd h⟩, fun h => Prod.ext h.1 h.2⟩
  rw [hkd] at hDD
  have hTL := fun (W : World) => tmLeaf_any k v noName W
  have hIn := fun (W : World) => l1In_any k 3 14 W
  have hTK := fun (W : World) => tmKind_any k W
  obtain ⟨i1, hi1⟩ : ∃ i, i = (kindTy k).1 := ⟨_, rfl⟩
  obtain ⟨i2, hi2⟩ : ∃ i, i = (kindTy k).2 := ⟨_, rfl⟩
  simp only [← hi1, ← hi2] at hTK hDD
  have wn : IntKind.i64.wrap (n - 1) = n - 1 := IntWalk.i64_in _ (by omega)
  obtain ⟨W, hW, bW, k0⟩ : ∃ W, W = w.alloc (.cells #[.int .i64 k, .int .i64 v, .slice B p b, .slice C q c] tEd) ∧ Below w.heap.size w W ∧ W.heap[w.heap.size]? = some (.cells #[.int .i64 k, .int .i64 v, .slice B p b, .slice C q c] tEd) := ⟨_, rfl, below_alloc _ _, heap_alloc_new _ _⟩
  obtain ⟨⟨c0, c1, c2, c3⟩, f0, f1, f2, f3⟩ := box4 k0
  clear hB hC hD hkd hD1 hD2 hi1 hi2
  by_cases h0 : inB k 3 14 = true
  case neg =>
    have h0' : inB k 3 14 = false := by simpa using h0
    obtain rfl : D = false := by rw [hDD, h0']; rfl
    simp only [h0'] at hIn
    clear h0 h0' hDD
    have hA1_h := Lib.hid hA1
    have hA2_h := Lib.hid hA2
    have hTL_h := Lib.hid hTL
    have hIn_h := Lib.hid hIn
    have hTK_h := Lib.hid hTK
    have k0_h := Lib.hid k0
    have bW_h := Lib.hid bW
    have hp_h := Lib.hid hp
    have hq_h := Lib.hid hq
    clear hA1 hA2 hTL hIn hTK k0 bW hp hq
    go_enter Try.func84, Try.ntmps84
    go_upto_region 1 with (fail)
    rw [← hW]
    clear hW
    go_wp2_with (fail)
    refine (hIn_h.out _).mono ?_
    rintro e w1 ⟨rfl, rfl⟩
    go_wp2_with (fail)
    go_ret
    exact ⟨rfl, bW_h.out⟩
  have hb14 : 3 ≤ k ∧ k ≤ 14 := of_decide_eq_true h0
  have hlf0 := leafB_gv (v := v) hb14.1 hb14.2
  simp only [h0] at hIn
  rw [h0, Bool.true_and] at hDD
  by_cases h1 : gvB k v = true
  case neg =>
    have h1' : gvB k v = false := by simpa using h1
    obtain rfl : D = false := by rw [hDD, h1']; rfl
    have hlf : leafB (k, v, noName) = false := by rw [hlf0, h1']
    clear h0 h1 h1' hDD hlf0 hb14
    have hA1_h := Lib.hid hA1
    have hA2_h := Lib.hid hA2
    have hTL_h := Lib.hid hTL
    have hIn_h := Lib.hid hIn
    have hTK_h := Lib.hid hTK
    have k0_h := Lib.hid k0
    have bW_h := Lib.hid bW
    have hp_h := Lib.hid hp
    have hq_h := Lib.hid hq
    clear hA1 hA2 hTL hIn hTK k0 bW hp hq
    go_enter Try.func84, Try.ntmps84
    go_upto_region 1 with (fail)
    rw [← hW]
    clear hW
    go_wp2_with (fail)
    refine (hIn_h.out _).mono ?_
    rintro e w1 ⟨rfl, rfl⟩
    go_wp2_with (fail)
    refine (hTL_h.out _).mono ?_
    rintro e w2 ⟨lb, rfl, hlb, hb2⟩
    rw [hlf] at hlb
    subst hlb
    clear c0 c1 c2 c3 f0 f1 f2 f3
    have k2 := box_below k0_h.out hb2
    obtain ⟨⟨c0, c1, c2, c3⟩, f0, f1, f2, f3⟩ := box4 k2
    have hB2 := below_trans bW_h.out hb2 bW_h.out.size
    clear hb2 k2
    have hB2_h := Lib.hid hB2
    clear hB2
    go_wp2_with (fail)
    go_ret
    exact ⟨rfl, hB2_h.out⟩
  have hlf : leafB (k, v, noName) = true := by rw [hlf0, h1]
  rw [h1, Bool.true_and] at hDD
  clear h0 h1 hlf0 hb14
  by_cases h2 : (p : Int) = i1
  case neg =>
    have h2' : ((p : Int) == i1) = false := by rw [beq_eq_false_iff_ne]; exact h2
    obtain rfl : D = false := by rw [hDD, h2']; rfl
    clear h2 hDD
    have hA1_h := Lib.hid hA1
    have hA2_h := Lib.hid hA2
    have hTL_h := Lib.hid hTL
    have hIn_h := Lib.hid hIn
    have hTK_h := Lib.hid hTK
    have k0_h := Lib.hid k0
    have bW_h := Lib.hid bW
    have hp_h := Lib.hid hp
    have hq_h := Lib.hid hq
    clear hA1 hA2 hTL hIn hTK k0 bW hp hq
    go_enter Try.func84, Try.ntmps84
    go_upto_region 1 with (fail)
    rw [← hW]
    clear hW
    go_wp2_with (fail)
    refine (hIn_h.out _).mono ?_
    rintro e w1 ⟨rfl, rfl⟩
    go_wp2_with (fail)
    refine (hTL_h.out _).mono ?_
    rintro e w2 ⟨lb, rfl, hlb, hb2⟩
    rw [hlf] at hlb
    subst hlb
    clear c0 c1 c2 c3 f0 f1 f2 f3
    have k2 := box_below k0_h.out hb2
    obtain ⟨⟨c0, c1, c2, c3⟩, f0, f1, f2, f3⟩ := box4 k2
    have hB2 := below_trans bW_h.out hb2 bW_h.out.size
    clear hb2 k2
    have hB2_h := Lib.hid hB2
    clear hB2
    go_wp2_with (fail)
    refine (hTK_h.out _).mono ?_
    rintro e w3 ⟨rfl, rfl⟩
    go_wp2_with (fail)
    go_ret
    exact ⟨rfl, hB2_h.out⟩
  have h2' : ((p : Int) == i1) = true := by rw [beq_iff_eq]; exact h2
  rw [h2', Bool.true_and] at hDD
  clear h2
  by_cases h3 : (q : Int) = i2
  case neg =>
    have h3' : ((q : Int) == i2) = false := by rw [beq_eq_false_iff_ne]; exact h3
    obtain rfl : D = false := by rw [hDD, h3']; rfl
    clear h3 hDD
    have hA1_h := Lib.hid hA1
    have hA2_h := Lib.hid hA2
    have hTL_h := Lib.hid hTL
    have hIn_h := Lib.hid hIn
    have hTK_h := Lib.hid hTK
    have k0_h := Lib.hid k0
    have bW_h := Lib.hid bW
    have hp_h := Lib.hid hp
    have hq_h := Lib.hid hq
    clear hA1 hA2 hTL hIn hTK k0 bW hp hq
    go_enter Try.func84, Try.ntmps84
    go_upto_region 1 with (fail)
    rw [← hW]
    clear hW
    go_wp2_with (fail)
    refine (hIn_h.out _).mono ?_
    rintro e w1 ⟨rfl, rfl⟩
    go_wp2_with (fail)
    refine (hTL_h.out _).mono ?_
    rintro e w2 ⟨lb, rfl, hlb, hb2⟩
    rw [hlf] at hlb
    subst hlb
    clear c0 c1 c2 c3 f0 f1 f2 f3
    have k2 := box_below k0_h.out hb2
    obtain ⟨⟨c0, c1, c2, c3⟩, f0, f1, f2, f3⟩ := box4 k2
    have hB2 := below_trans bW_h.out hb2 bW_h.out.size
    clear hb2 k2
    have hB2_h := Lib.hid hB2
    clear hB2
    go_wp2_with (fail)
    refine (hTK_h.out _).mono ?_
    rintro e w3 ⟨rfl, rfl⟩
    go_wp2_with (fail)
    go_ret
    exact ⟨rfl, hB2_h.out⟩
  have h3' : ((q : Int) == i2) = true := by rw [beq_iff_eq]; exact h3
  rw [h3', Bool.true_and] at hDD
  clear h3
  cases D1
  case false =>
    obtain rfl : D = false := by rw [hDD]; rfl
    clear hDD
    have hA1_h := Lib.hid hA1
    have hA2_h := Lib.hid hA2
    have hTL_h := Lib.hid hTL
    have hIn_h := Lib.hid hIn
    have hTK_h := Lib.hid hTK
    have k0_h := Lib.hid k0
    have bW_h := Lib.hid bW
    have hp_h := Lib.hid hp
    have hq_h := Lib.hid hq
    clear hA1 hA2 hTL hIn hTK k0 bW hp hq
    go_enter Try.func84, Try.ntmps84
    go_upto_region 1 with (fail)
    rw [← hW]
    clear hW
    go_wp2_with (fail)
    refine (hIn_h.out _).mono ?_
    rintro e w1 ⟨rfl, rfl⟩
    go_wp2_with (fail)
    refine (hTL_h.out _).mono ?_
    rintro e w2 ⟨lb, rfl, hlb, hb2⟩
    rw [hlf] at hlb
    subst hlb
    clear c0 c1 c2 c3 f0 f1 f2 f3
    have k2 := box_below k0_h.out hb2
    obtain ⟨⟨c0, c1, c2, c3⟩, f0, f1, f2, f3⟩ := box4 k2
    have hB2 := below_trans bW_h.out hb2 bW_h.out.size
    clear hb2 k2
    have hB2_h := Lib.hid hB2
    clear hB2
    go_wp2_with (fail)
    refine (hTK_h.out _).mono ?_
    rintro e w3 ⟨rfl, rfl⟩
    go_wp2_with (fail)
    refine (hA1_h.out _ hB2_h.out).mono ?_
    rintro e w4 ⟨rfl, rfl⟩
    go_wp2_with (fail)
    go_ret
    exact ⟨rfl, hB2_h.out⟩
  obtain rfl : D = D2 := by rw [hDD]; rfl
  clear hDD
  have hA1_h := Lib.hid hA1
  have hA2_h := Lib.hid hA2
  have hTL_h := Lib.hid hTL
  have hIn_h := Lib.hid hIn
  have hTK_h := Lib.hid hTK
  have k0_h := Lib.hid k0
  have bW_h := Lib.hid bW
  have hp_h := Lib.hid hp
  have hq_h := Lib.hid hq
  clear hA1 hA2 hTL hIn hTK k0 bW hp hq
  go_enter Try.func84, Try.ntmps84
  go_upto_region 1 with (fail)
  rw [← hW]
  clear hW
  go_wp2_with (fail)
  refine (hIn_h.out _).mono ?_
  rintro e w1 ⟨rfl, rfl⟩
  go_wp2_with (fail)
  refine (hTL_h.out _).mono ?_
  rintro e w2 ⟨lb, rfl, hlb, hb2⟩
  rw [hlf] at hlb
  subst hlb
  clear c0 c1 c2 c3 f0 f1 f2 f3
  have k2 := box_below k0_h.out hb2
  obtain ⟨⟨c0, c1, c2, c3⟩, f0, f1, f2, f3⟩ := box4 k2
  have hB2 := below_trans bW_h.out hb2 bW_h.out.size
  clear hb2 k2
  have hB2_h := Lib.hid hB2
  clear hB2
  go_wp2_with (fail)
  refine (hTK_h.out _).mono ?_
  rintro e w3 ⟨rfl, rfl⟩
  go_wp2_with (fail)
  refine (hA1_h.out _ hB2_h.out).mono ?_
  rintro e w4 ⟨rfl, rfl⟩
  go_wp2_with (fail)
  refine (hA2_h.out _ hB2_h.out).mono ?_
  rintro e w4 ⟨rfl, rfl⟩
  go_wp2_with (fail)
  go_ret
  exact ⟨rfl, hB2_h.out⟩
end Go.Proofs.Ytanhmljgeiajoaa
namespace Go.Proofs.Ytanhmljgeiajoaa
open Go.RowKit

theorem IS.getc {w : World} {A : Option Addr} {c n : Nat} {l : List Int} (h : IS w A c (cntM n l)) {q : Nat} (hq : q < n) : ∃ ad, A = some ad ∧ ad.block < w.heap.size ∧ w.cell? (ad.add q) = some (.int .i64 (l.count (q : Int) : Int)) ∧ w.frozen? (ad.add q) = false := by
  obtain ⟨ad, x, hA, hx, hb, hc, hf⟩ := h.at_ (j := q) (by rw [cntM_length]; exact hq)
  rw [cntM_get hq] at hx
  obtain rfl := Option.some.inj hx
  exact ⟨ad, hA, hb, hc, hf q⟩
theorem madeCnt (n : Nat) : ints (List.replicate n 0) = ints (cntM n []) := by rw [cntM_nil]
theorem inW_app_left {n : Int} {l m : List Int} (h : inW n (l ++ m) = true) : inW n l = true := by rw [inW_append] at h; simp at h; exact h.1
theorem inW_app_right {n : Int} {l m : List Int} (h : inW n (l ++ m) = true) : inW n m = true := by rw [inW_append] at h; simp at h; exact h.2
theorem inW_at {n : Nat} {l : List Int} (h : inW (n : Int) l = true) {k : Nat} {x : Int} (hx : l[k]? = some x) : ∃ q : Nat, x = (q : Int) ∧ q < n := by
  have := inW_iff.1 h x (List.mem_of_getElem? hx)
  exact ⟨x.toNat, by omega, by omega⟩
theorem mem_edW_of {l : List Eg} {e : Eg} (h : e ∈ l) : (∀ x, x ∈ e.2.2.1 → x ∈ edW l) ∧ ∀ x, x ∈ e.2.2.2 → x ∈ edW l := by
  induction l with
  | nil => cases h
  | cons a r ih =>
    rcases List.mem_cons.1 h with rfl | h
    · exact ⟨fun x hx => by simp [edW, hx], fun x hx => by simp [edW, hx]⟩
    · obtain ⟨h1, h2⟩ := ih h
      exact ⟨fun x hx => by simp [edW, h1 x hx], fun x hx => by simp [edW, h2 x hx]⟩
theorem out_len : ∀ (l : List Eg), (outW l).length + (inpW l).length + 2 * l.length = cntE l
  | [] => rfl
  | e :: r => by have := out_len r; simp only [outW, inpW, cntE, List.length_append, List.length_cons]; omega
theorem outW_take {es : List Eg} {k : Nat} {e : Eg} (h : es[k]? = some e) : outW (es.take (k + 1)) = outW (es.take k) ++ e.2.2.2 := by rw [List.take_add_one, h, outW_append]; simp [outW]
theorem inpW_take {es : List Eg} {k : Nat} {e : Eg} (h : es[k]? = some e) : inpW (es.take (k + 1)) = inpW (es.take k) ++ e.2.2.1 := by rw [List.take_add_one, h, inpW_append]; simp [inpW]
theorem outW_le (es : List Eg) (k : Nat) : (outW (es.take k)).length ≤ (outW es).length := by
  conv => rhs; rw [← List.take_append_drop k es, outW_append, List.length_append]
  omega
theorem inpW_le (es : List Eg) (k : Nat) : (inpW (es.take k)).length ≤ (inpW es).length := by
  conv => rhs; rw [← List.take_append_drop k es, inpW_append, List.length_append]
  omega

set_option maxRecDepth 100000 in
set_option maxHeartbeats 8000000 in
theorem hgCounts_any {v : Value} {g : Gr} (w : World) (n : Nat) (h : RdGr w v g) (ok : OkG g) (hgn : g.1 = (n : Int)) (hnb : n ≤ 1048576) (hin : inW (n : Int) (allW g) = true) :
    Calls Try.prog 85 #[v] w fun e w' => ∃ (A B : Option Addr) (a b : Nat), e = .returned (.tuple #[.slice A n a, .slice B n b]) ∧ IS w' A a (cntM n (orgW g)) ∧ IS w' B b (cntM n (dstW g)) ∧ Fresh w.heap.size A ∧ Fresh w.heap.size B ∧ Below w.heap.size w w' := by
  obtain ⟨A, c, hs, ⟨B, b, s⟩, ⟨C, d, t⟩, rfl, e1, e2, e3, hE, hRa, hRb⟩ := h
  obtain ⟨z, es, s0, t0⟩ := g
  have a1 : es = hs.map egOf := e1
  have a2 : s = s0 := e2
  have a3 : t = t0 := e3
  have a4 : z = (n : Int) := hgn
  subst a2 a3 a4
  have hin0 : inW (n : Int) (s ++ (t ++ edW es)) = true := hin
  have hinS := inW_app_left hin0
  have hinT := inW_app_left (inW_app_right hin0)
  have hinE := inW_app_right (inW_app_right hin0)
  have hlen1 : es.length ≤ 1048576 := ok.1.1
  have hlen2 : s.length ≤ 1048576 := ok.1.2.1
  have hlen3 : t.length ≤ 1048576 := ok.1.2.2
  have hcnt : cntE es ≤ 8388608 := by have : cntE es + s.length + t.length ≤ 8388608 := ok.2.2; omega
  have hol := out_len es
  have hXl : s.length + (outW es).length ≤ 20000000 ∧ t.length + (inpW es).length ≤ 20000000 := by omega
  obtain ⟨m, hm⟩ : ∃ m, m = hs.length := ⟨_, rfl⟩
  obtain ⟨p, hp⟩ : ∃ p, p = s.length := ⟨_, rfl⟩
  obtain ⟨r, hr⟩ : ∃ r, r = t.length := ⟨_, rfl⟩
  have hmes : es.length = m := by rw [a1, List.length_map, hm]
  have horg : orgW ((n : Int), es, s, t) = s ++ outW es := rfl
  have hdst : dstW ((n : Int), es, s, t) = t ++ inpW es := rfl
  rw [horg, hdst]
  show Calls Try.prog _ #[.agg #[.int .i64 (n : Int), .slice A hs.length c, .slice B s.length b, .slice C t.length d]] w _
  rw [← hm, ← hp, ← hr]
  have hRa0 : RdI w B s := hRa
  have hRb0 : RdI w C t := hRb
  obtain ⟨W, hW, bW, k0⟩ := (⟨_, rfl, below_alloc _ _, heap_alloc_new _ _⟩ : ∃ W, W = w.alloc (.cells #[.int .i64 (n : Int), .slice A m c, .slice B p b, .slice C r d] tGr) ∧ Below w.heap.size w W ∧ W.heap[w.heap.size]? = some (.cells #[.int .i64 (n : Int), .slice A m c, .slice B p b, .slice C r d] tGr))
  obtain ⟨⟨c0, c1, c2, c3⟩, f0, f1, f2, f3⟩ := box4 k0
  have hpb : (p : Int) ≤ 1048576 := by omega
  have hrb : (r : Int) ≤ 1048576 := by omega
  have hmb : (m : Int) ≤ 1048576 := by omega
  clear hRa hRb hin hin0 ok e1 e2 e3 hgn hlen1 hlen2 hlen3 hol horg hdst
  have hE_h := Lib.hid hE
  have hRa0_h := Lib.hid hRa0
  have hRb0_h := Lib.hid hRb0
  have a1_h := Lib.hid a1
  have hinS_h := Lib.hid hinS
  have hinT_h := Lib.hid hinT
  have hinE_h := Lib.hid hinE
  have hcnt_h := Lib.hid hcnt
  have hm_h := Lib.hid hm
  have hp_h := Lib.hid hp
  have hr_h := Lib.hid hr
  have hmes_h := Lib.hid hmes
  have bW_h := Lib.hid bW
  have k0_h := Lib.hid k0
  have hXl_h := Lib.hid hXl
  clear hE hRa0 hRb0 a1 hinS hinT hinE hcnt hm hp hr hmes bW k0 hXl
  go_enter Try.func85, Try.ntmps85
  go_upto_region 1 with (fail)
  rw [← hW]
  clear hW
  go_upto_region 2 with (at_make; refine wpList_make_Sl _ rfl _ _ _ rfl 3 Try.underlying23 info_int n n rfl rfl rfl rfl (Nat.le_refl _) (by omega) (by unfold maxLen; omega) ?_; intro G1 w2 hs2 hG1 hb2)
  have hi2 : IS w2 (some G1) n (cntM n []) := by unfold IS; rw [cntM_length, ← madeCnt, ← madeZeros]; exact hs2
  have k2 := box_below k0_h.out hb2
  have hB2 := below_trans bW_h.out hb2 bW_h.out.size
  have hWw2 := hb2.size
  clear hs2 c0 c1 c2 c3 f0 f1 f2 f3 hb2
  obtain ⟨⟨c0, c1, c2, c3⟩, f0, f1, f2, f3⟩ := box4 k2
  have hi2_h := Lib.hid hi2
  have k2_h := Lib.hid k2
  have hB2_h := Lib.hid hB2
  clear hi2 k2 hB2
  go_upto_region 3 with (at_make; refine wpList_make_Sl _ rfl _ _ _ rfl 3 Try.underlying23 info_int n n rfl rfl rfl rfl (Nat.le_refl _) (by omega) (by unfold maxLen; omega) ?_; intro G2 w3 hs3 hG2 hb3)
  have hi3 : IS w3 (some G2) n (cntM n []) := by unfold IS; rw [cntM_length, ← madeCnt, ← madeZeros]; exact hs3
  have hi1 := hi2_h.out.below hb3
  have k3 := box_below k2_h.out hb3
  have hB3 := below_trans hB2_h.out hb3 hB2_h.out.size
  have hWs := bW_h.out.size
  have h2s := hB2_h.out.size
  have hG12 : G1.block ≠ G2.block := by have := hi2_h.out.lt G1.block (by simp); omega
  have hG1w : w.heap.size ≤ G1.block := by omega
  have hG2w : w.heap.size ≤ G2.block := by omega
  clear hs3 c0 c1 c2 c3 f0 f1 f2 f3 hb3 hi2_h k2_h
  obtain ⟨⟨c0, c1, c2, c3⟩, f0, f1, f2, f3⟩ := box4 k3
  have hi3_h := Lib.hid hi3
  have hi1_h := Lib.hid hi1
  have k3_h := Lib.hid k3
  have hB3_h := Lib.hid hB3
  have hG12_h := Lib.hid hG12
  clear hi3 hi1 k3 hB3 hG12
  go_wp2_with (fail)
  clear c0 c1 c2 c3 f0 f1 f2 f3
  go_loopw [25] (fun i wr => ∃ k : Nat, k ≤ p ∧ i = .int .i64 k ∧ IS wr (some G1) n (cntM n (([] : List Int) ++ s.take k)) ∧ Keeps (fun b => b = G1.block) w3 wr) (fun i _ => p - (intOf i).toNat)
  case atStart => exact ⟨0, Nat.zero_le _, rfl, by simpa using hi1_h.out, Keeps.refl _ _⟩
  case round =>
    obtain ⟨j, hj, rfl, hIS, hkp⟩ := hrel
    have hBr := below_keeps hB3_h.out hkp hB3_h.out.size (fun b e => by omega)
    by_cases hlj : j < p
    · obtain ⟨xd, x, rfl, hx, hxc⟩ := (hRa0_h.out.below hBr).at_ (j := j) (by rw [← hp_h.out]; exact hlj)
      obtain ⟨q, rfl, hqn⟩ := inW_at hinS_h.out hx
      obtain ⟨gd, hgd, hgb, hgc, hgf⟩ := hIS.getc hqn
      obtain rfl := Option.some.inj hgd
      have hset := hIS.set rfl (j := q) (((([] : List Int) ++ s.take j).count (q : Int) : Int) + 1) (by rw [cntM_length]; exact hqn)
      rw [← cntM_step hqn, List.append_assoc, show s.take j ++ [(q : Int)] = s.take (j + 1) by rw [List.take_add_one, hx]; rfl] at hset
      have hks := hkp.setCell (p := G1.add q) (by rw [block_of_add]) (.int .i64 (((([] : List Int) ++ s.take j).count (q : Int) : Int) + 1))
      have hcl := count_le (([] : List Int) ++ s.take j) (q : Int)
      rw [List.length_append, List.length_take] at hcl
      try rw [List.length_nil] at hcl
      obtain ⟨cv, hcv⟩ : ∃ cv : Nat, cv = (([] : List Int) ++ s.take j).count (q : Int) := ⟨_, rfl⟩
      rw [← hcv] at hgc hset hks hcl
      have hcvb : cv ≤ 100000000 := by have := hXl_h.out; omega
      have hqI : (q : Int) < (n : Int) := by omega
      have hjI : (j : Int) < (p : Int) := by omega
      clear hIS hkp hx hcv hcl hgd
      have hset_h := Lib.hid hset
      have hks_h := Lib.hid hks
      have hBr_h := Lib.hid hBr
      clear hset hks hBr
      skip
      go_wp2_with (fail)
      go_roundw
      case rel => exact ⟨j + 1, by omega, by go_num, hset_h.out, hks_h.out⟩
      case measure => simp [intOf]; omega
    · obtain rfl : p = j := by omega
      have hIS2 : IS wr (some G1) n (cntM n (([] : List Int) ++ s)) := by rwa [List.take_of_length_le (by rw [← hp_h.out]; exact Nat.le_refl _)] at hIS
      clear hIS
      obtain ⟨w4, rfl⟩ : ∃ x, x = wr := ⟨_, rfl⟩
      have k4 := box_keeps k3_h.out hkp (by have := box_lt k0_h.out; omega)
      have hi4 := hi3_h.out.keeps hkp (fun b hb e => by have := hG12_h.out; simp at hb; omega)
      obtain ⟨⟨c0, c1, c2, c3⟩, f0, f1, f2, f3⟩ := box4 k4
      rw [List.nil_append] at hIS2
      clear hkp k3_h hi3_h hi1_h hB3_h
      have hi4_h := Lib.hid hi4
      have hIS2_h := Lib.hid hIS2
      have k4_h := Lib.hid k4
      have hBr_h := Lib.hid hBr
      clear hi4 hIS2 k4 hBr
      go_wp2_with (fail)
      clear c0 c1 c2 c3 f0 f1 f2 f3
      go_loopw [39] (fun i wr => ∃ k : Nat, k ≤ r ∧ i = .int .i64 k ∧ IS wr (some G2) n (cntM n (([] : List Int) ++ t.take k)) ∧ Keeps (fun b => b = G2.block) w4 wr) (fun i _ => r - (intOf i).toNat)
      case atStart => exact ⟨0, Nat.zero_le _, rfl, by simpa using hi4_h.out, Keeps.refl _ _⟩
      case round =>
        obtain ⟨j, hj, rfl, hIS, hkp⟩ := hrel
        have hBr := below_keeps hBr_h.out hkp hBr_h.out.size (fun b e => by omega)
        by_cases hlj : j < r
        · obtain ⟨xd, x, rfl, hx, hxc⟩ := (hRb0_h.out.below hBr).at_ (j := j) (by rw [← hr_h.out]; exact hlj)
          obtain ⟨q, rfl, hqn⟩ := inW_at hinT_h.out hx
          obtain ⟨gd, hgd, hgb, hgc, hgf⟩ := hIS.getc hqn
          obtain rfl := Option.some.inj hgd
          have hset := hIS.set rfl (j := q) (((([] : List Int) ++ t.take j).count (q : Int) : Int) + 1) (by rw [cntM_length]; exact hqn)
          rw [← cntM_step hqn, List.append_assoc, show t.take j ++ [(q : Int)] = t.take (j + 1) by rw [List.take_add_one, hx]; rfl] at hset
          have hks := hkp.setCell (p := G2.add q) (by rw [block_of_add]) (.int .i64 (((([] : List Int) ++ t.take j).count (q : Int) : Int) + 1))
          have hcl := count_le (([] : List Int) ++ t.take j) (q : Int)
          rw [List.length_append, List.length_take] at hcl
          try rw [List.length_nil] at hcl
          obtain ⟨cv, hcv⟩ : ∃ cv : Nat, cv = (([] : List Int) ++ t.take j).count (q : Int) := ⟨_, rfl⟩
          rw [← hcv] at hgc hset hks hcl
          have hcvb : cv ≤ 100000000 := by have := hXl_h.out; omega
          have hqI : (q : Int) < (n : Int) := by omega
          have hjI : (j : Int) < (r : Int) := by omega
          clear hIS hkp hx hcv hcl hgd
          have hset_h := Lib.hid hset
          have hks_h := Lib.hid hks
          have hBr_h := Lib.hid hBr
          clear hset hks hBr
          skip
          go_wp2_with (fail)
          go_roundw
          case rel => exact ⟨j + 1, by omega, by go_num, hset_h.out, hks_h.out⟩
          case measure => simp [intOf]; omega
        · obtain rfl : r = j := by omega
          have hIS2 : IS wr (some G2) n (cntM n (([] : List Int) ++ t)) := by rwa [List.take_of_length_le (by rw [← hr_h.out]; exact Nat.le_refl _)] at hIS
          clear hIS
          obtain ⟨w5, rfl⟩ : ∃ x, x = wr := ⟨_, rfl⟩
          have k5 := box_keeps k4_h.out hkp (by have := box_lt k0_h.out; omega)
          have hi5 := hIS2_h.out.keeps hkp (fun b hb e => by have := hG12_h.out; simp at hb; omega)
          obtain ⟨⟨c0, c1, c2, c3⟩, f0, f1, f2, f3⟩ := box4 k5
          rw [List.nil_append] at hIS2
          have hB5 := hBr
          clear hkp k4_h hi4_h hIS2_h hBr hBr_h
          have hs0 : IS w5 (some G1) n (cntM n (s ++ outW (es.take 0))) := by simpa [outW] using hi5
          have ht0 : IS w5 (some G2) n (cntM n (t ++ inpW (es.take 0))) := by simpa [inpW] using hIS2
          clear hi5 hIS2
          have hs0_h := Lib.hid hs0
          have ht0_h := Lib.hid ht0
          have k5_h := Lib.hid k5
          have hB5_h := Lib.hid hB5
          clear hs0 ht0 k5 hB5
          go_wp2_with (fail)
          clear c0 c1 c2 c3 f0 f1 f2 f3 k5_h
          go_loopw [53] (fun i wr => ∃ k : Nat, k ≤ m ∧ i = .int .i64 k ∧ IS wr (some G1) n (cntM n (s ++ outW (es.take k))) ∧ IS wr (some G2) n (cntM n (t ++ inpW (es.take k))) ∧ Below w.heap.size w wr) (fun i _ => m - (intOf i).toNat)
          case atStart => exact ⟨0, Nat.zero_le _, rfl, hs0_h.out, ht0_h.out, hB5_h.out⟩
          case round =>
            clear hs0_h ht0_h hB5_h
            obtain ⟨k, hk, rfl, hi1, hi2, hB6⟩ := hrel
            by_cases hlt : k < m
            · obtain ⟨ad, κ, vv, B1, b1, s1, C1, b2, t1, rfl, hn, ⟨d0, d1, d2, d3⟩, hr1, hr2⟩ := (hE_h.out.below hB6).at_ (j := k) (by rw [← hm_h.out]; exact hlt)
              have hek : es[k]? = some (κ, vv, s1, t1) := by rw [a1_h.out, List.getElem?_map, hn]; rfl
              obtain ⟨hm1, hm2⟩ := mem_edW_of (List.mem_of_getElem? hek)
              have hinA := inW_sub hinE_h.out hm1
              have hinB := inW_sub hinE_h.out hm2
              have htk1 := outW_take hek
              have htk2 := inpW_take hek
              have hle1 := outW_le es (k + 1)
              have hle2 := inpW_le es (k + 1)
              rw [htk1, List.length_append] at hle1
              rw [htk2, List.length_append] at hle2
              have hXl0 := hXl_h.out
              have hXl : (s ++ outW (es.take k)).length + t1.length ≤ 20000000 ∧ (t ++ inpW (es.take k)).length + s1.length ≤ 20000000 := by
                rw [List.length_append, List.length_append]
                have e1 : ((κ, vv, s1, t1) : Eg).2.2.2.length = t1.length := rfl
                have e2 : ((κ, vv, s1, t1) : Eg).2.2.1.length = s1.length := rfl
                omega
              obtain ⟨X, hX⟩ : ∃ X, X = s ++ outW (es.take k) := ⟨_, rfl⟩
              obtain ⟨Y, hY⟩ : ∃ Y, Y = t ++ inpW (es.take k) := ⟨_, rfl⟩
              rw [← hX] at hi1 hXl
              rw [← hY] at hi2 hXl
              obtain ⟨p1, hp1⟩ : ∃ p1, p1 = s1.length := ⟨_, rfl⟩
              obtain ⟨r1, hr1'⟩ : ∃ r1, r1 = t1.length := ⟨_, rfl⟩
              rw [← hp1] at d2
              rw [← hr1'] at d3
              have hp1b : (p1 : Int) ≤ 20000000 := by omega
              have hr1b : (r1 : Int) ≤ 20000000 := by omega
              have hkI : (k : Int) < (m : Int) := by omega
              obtain ⟨wo, rfl⟩ : ∃ x, x = wr := ⟨_, rfl⟩
              obtain ⟨W6, hW6, bW6, k6⟩ := (⟨_, rfl, below_alloc _ _, heap_alloc_new _ _⟩ : ∃ W, W = wo.alloc (.cells #[.int .i64 κ, .int .i64 vv, .slice B1 p1 b1, .slice C1 r1 b2] tEd) ∧ Below wo.heap.size wo W ∧ W.heap[wo.heap.size]? = some (.cells #[.int .i64 κ, .int .i64 vv, .slice B1 p1 b1, .slice C1 r1 b2] tEd))
              have hB7 := below_trans hB6 bW6 hB6.size
              have hj1 := hi1.below bW6
              have hj2 := hi2.below bW6
              have hq1 : G1.block < wo.heap.size := hi1.lt G1.block (by simp)
              have hq2 : G2.block < wo.heap.size := hi2.lt G2.block (by simp)
              have hrA : RdI w B1 s1 := (hE_h.out.2 _ (List.mem_of_getElem? hn)).1
              have hrB : RdI w C1 t1 := (hE_h.out.2 _ (List.mem_of_getElem? hn)).2
              obtain ⟨⟨c0, c1, c2, c3⟩, f0, f1, f2, f3⟩ := box4 k6
              clear hr1 hr2 hn hm1 hm2 hle1 hle2 hXl0 hi1 hi2 hek
              have hr1_h := Lib.hid hr1'
              clear hr1'
              have hinA_h := Lib.hid hinA
              have hinB_h := Lib.hid hinB
              have htk1_h := Lib.hid htk1
              have htk2_h := Lib.hid htk2
              have hXl_h := Lib.hid hXl
              have hX_h := Lib.hid hX
              have hY_h := Lib.hid hY
              have hp1_h := Lib.hid hp1
              have bW6_h := Lib.hid bW6
              have k6_h := Lib.hid k6
              have hB7_h := Lib.hid hB7
              have hj1_h := Lib.hid hj1
              have hj2_h := Lib.hid hj2
              have hrA_h := Lib.hid hrA
              have hrB_h := Lib.hid hrB
              have hB6_h := Lib.hid hB6
              clear hinA hinB htk1 htk2 hXl hX hY hp1 bW6 k6 hB7 hj1 hj2 hrA hrB hB6
              go_upto_region 16 with (fail)
              rw [← hW6]
              clear hW6
              go_wp2_with (fail)
              clear c0 c1 c2 c3 f0 f1 f2 f3 d0 d1 d2 d3
              go_loopw [60] (fun i wr => ∃ k : Nat, k ≤ r1 ∧ i = .int .i64 k ∧ IS wr (some G1) n (cntM n (X ++ t1.take k)) ∧ Keeps (fun b => b = G1.block) W6 wr) (fun i _ => r1 - (intOf i).toNat)
              case atStart => exact ⟨0, Nat.zero_le _, rfl, by simpa using hj1_h.out, Keeps.refl _ _⟩
              case round =>
                obtain ⟨j, hj, rfl, hIS, hkp⟩ := hrel
                have hBr := below_keeps hB7_h.out hkp hB7_h.out.size (fun b e => by omega)
                by_cases hlj : j < r1
                · obtain ⟨xd, x, rfl, hx, hxc⟩ := (hrB_h.out.below hBr).at_ (j := j) (by rw [← hr1_h.out]; exact hlj)
                  obtain ⟨q, rfl, hqn⟩ := inW_at hinB_h.out hx
                  obtain ⟨gd, hgd, hgb, hgc, hgf⟩ := hIS.getc hqn
                  obtain rfl := Option.some.inj hgd
                  have hset := hIS.set rfl (j := q) (((X ++ t1.take j).count (q : Int) : Int) + 1) (by rw [cntM_length]; exact hqn)
                  rw [← cntM_step hqn, List.append_assoc, show t1.take j ++ [(q : Int)] = t1.take (j + 1) by rw [List.take_add_one, hx]; rfl] at hset
                  have hks := hkp.setCell (p := G1.add q) (by rw [block_of_add]) (.int .i64 (((X ++ t1.take j).count (q : Int) : Int) + 1))
                  have hcl := count_le (X ++ t1.take j) (q : Int)
                  rw [List.length_append, List.length_take] at hcl
                  try rw [List.length_nil] at hcl
                  obtain ⟨cv, hcv⟩ : ∃ cv : Nat, cv = (X ++ t1.take j).count (q : Int) := ⟨_, rfl⟩
                  rw [← hcv] at hgc hset hks hcl
                  have hcvb : cv ≤ 100000000 := by have := hXl_h.out; omega
                  have hqI : (q : Int) < (n : Int) := by omega
                  have hjI : (j : Int) < (r1 : Int) := by omega
                  clear hIS hkp hx hcv hcl hgd
                  have hset_h := Lib.hid hset
                  have hks_h := Lib.hid hks
                  have hBr_h := Lib.hid hBr
                  clear hset hks hBr
                  skip
                  go_wp2_with (fail)
                  go_roundw
                  case rel => exact ⟨j + 1, by omega, by go_num, hset_h.out, hks_h.out⟩
                  case measure => simp [intOf]; omega
                · obtain rfl : r1 = j := by omega
                  have hIS2 : IS wr (some G1) n (cntM n (X ++ t1)) := by rwa [List.take_of_length_le (by rw [← hr1_h.out]; exact Nat.le_refl _)] at hIS
                  clear hIS
                  obtain ⟨w7, rfl⟩ : ∃ x, x = wr := ⟨_, rfl⟩
                  have k7 := box_keeps k6_h.out hkp (by omega)
                  have hj7 := hj2_h.out.keeps hkp (fun b hb e => by have := hG12_h.out; simp at hb; omega)
                  obtain ⟨⟨c0, c1, c2, c3⟩, f0, f1, f2, f3⟩ := box4 k7
                  have hB8 := hBr
                  clear hkp k6_h hj1_h hj2_h hB7_h k7 hBr
                  have hj7_h := Lib.hid hj7
                  have hIS2_h := Lib.hid hIS2
                  have hB8_h := Lib.hid hB8
                  clear hj7 hIS2 hB8
                  go_wp2_with (fail)
                  clear c0 c1 c2 c3 f0 f1 f2 f3
                  go_loopw [74] (fun i wr => ∃ k : Nat, k ≤ p1 ∧ i = .int .i64 k ∧ IS wr (some G2) n (cntM n (Y ++ s1.take k)) ∧ Keeps (fun b => b = G2.block) w7 wr) (fun i _ => p1 - (intOf i).toNat)
                  case atStart => exact ⟨0, Nat.zero_le _, rfl, by simpa using hj7_h.out, Keeps.refl _ _⟩
                  case round =>
                    obtain ⟨j, hj, rfl, hIS, hkp⟩ := hrel
                    have hBr := below_keeps hB8_h.out hkp hB8_h.out.size (fun b e => by omega)
                    by_cases hlj : j < p1
                    · obtain ⟨xd, x, rfl, hx, hxc⟩ := (hrA_h.out.below hBr).at_ (j := j) (by rw [← hp1_h.out]; exact hlj)
                      obtain ⟨q, rfl, hqn⟩ := inW_at hinA_h.out hx
                      obtain ⟨gd, hgd, hgb, hgc, hgf⟩ := hIS.getc hqn
                      obtain rfl := Option.some.inj hgd
                      have hset := hIS.set rfl (j := q) (((Y ++ s1.take j).count (q : Int) : Int) + 1) (by rw [cntM_length]; exact hqn)
                      rw [← cntM_step hqn, List.append_assoc, show s1.take j ++ [(q : Int)] = s1.take (j + 1) by rw [List.take_add_one, hx]; rfl] at hset
                      have hks := hkp.setCell (p := G2.add q) (by rw [block_of_add]) (.int .i64 (((Y ++ s1.take j).count (q : Int) : Int) + 1))
                      have hcl := count_le (Y ++ s1.take j) (q : Int)
                      rw [List.length_append, List.length_take] at hcl
                      try rw [List.length_nil] at hcl
                      obtain ⟨cv, hcv⟩ : ∃ cv : Nat, cv = (Y ++ s1.take j).count (q : Int) := ⟨_, rfl⟩
                      rw [← hcv] at hgc hset hks hcl
                      have hcvb : cv ≤ 100000000 := by have := hXl_h.out; omega
                      have hqI : (q : Int) < (n : Int) := by omega
                      have hjI : (j : Int) < (p1 : Int) := by omega
                      clear hIS hkp hx hcv hcl hgd
                      have hset_h := Lib.hid hset
                      have hks_h := Lib.hid hks
                      have hBr_h := Lib.hid hBr
                      clear hset hks hBr
                      skip
                      go_wp2_with (fail)
                      go_roundw
                      case rel => exact ⟨j + 1, by omega, by go_num, hset_h.out, hks_h.out⟩
                      case measure => simp [intOf]; omega
                    · obtain rfl : p1 = j := by omega
                      have hIS2 : IS wr (some G2) n (cntM n (Y ++ s1)) := by rwa [List.take_of_length_le (by rw [← hp1_h.out]; exact Nat.le_refl _)] at hIS
                      clear hIS
                      have hj8 := hIS2_h.out.keeps hkp (fun b hb e => by have := hG12_h.out; simp at hb; omega)
                      have e1 : IS wr (some G1) n (cntM n (s ++ outW (es.take (k + 1)))) := by rw [htk1_h.out, ← List.append_assoc, ← hX_h.out]; exact hj8
                      have e2 : IS wr (some G2) n (cntM n (t ++ inpW (es.take (k + 1)))) := by rw [htk2_h.out, ← List.append_assoc, ← hY_h.out]; exact hIS2
                      clear hj8 hIS2 hkp
                      have e1_h := Lib.hid e1
                      have e2_h := Lib.hid e2
                      have hBr_h := Lib.hid hBr
                      clear e1 e2 hBr
                      go_wp2_with (fail)
                      go_roundw
                      case rel => exact ⟨k + 1, by omega, by go_num, e1_h.out, e2_h.out, hBr_h.out⟩
                      case measure => simp [intOf]; omega
            · obtain rfl : m = k := by omega
              rw [List.take_of_length_le (by rw [hmes_h.out]; exact Nat.le_refl _)] at hi1 hi2
              have hff1 : Fresh w.heap.size (some G1) := fun b hb => by simp at hb; omega
              have hff2 : Fresh w.heap.size (some G2) := fun b hb => by simp at hb; omega
              have hi1_h := Lib.hid hi1
              have hi2_h := Lib.hid hi2
              have hB6_h := Lib.hid hB6
              have hff1_h := Lib.hid hff1
              have hff2_h := Lib.hid hff2
              clear hi1 hi2 hB6 hff1 hff2
              go_wp2_with (fail)
              go_ret2
              exact ⟨some G1, some G2, n, n, rfl, hi1_h.out, hi2_h.out, hff1_h.out, hff2_h.out, hB6_h.out⟩
end Go.Proofs.Ytanhmljgeiajoaa
namespace Go.Proofs.Ytanhmljgeiajoaa
open Go.RowKit

theorem grB_eq (g : Gr) : grB g = (inB g.1 0 100 && (decide (g.2.1.length ≤ 60) && (decide (g.2.2.1.length ≤ 12) && (decide (g.2.2.2.length ≤ 12) && (inW g.1 g.2.2.1 && (inW g.1 g.2.2.2 && (g.2.1.all (hgB g.1) && fullW g.1 (allW g)))))))) := by
  unfold grB
  rw [hgB_all]
  have e : inW g.1 (allW g) = (inW g.1 g.2.2.1 && (inW g.1 g.2.2.2 && inW g.1 (edW g.2.1))) := by unfold allW; rw [inW_append, inW_append]
  rw [e]
  cases inB g.1 0 100 <;> cases decide (g.2.1.length ≤ 60) <;> cases decide (g.2.2.1.length ≤ 12) <;> cases decide (g.2.2.2.length ≤ 12) <;> cases inW g.1 g.2.2.1 <;> cases inW g.1 g.2.2.2 <;> cases g.2.1.all egB <;> cases inW g.1 (edW g.2.1) <;> cases fullW g.1 (allW g) <;> rfl
theorem count_zero {g : Gr} {k : Nat} : ((orgW g).count (k : Int) = 0 ∧ (dstW g).count (k : Int) = 0) ↔ (allW g).contains (k : Int) = false := by
  rw [List.count_eq_zero, List.count_eq_zero, Bool.eq_false_iff, ne_eq, List.contains_iff_mem, mem_allW]
  exact ⟨fun h hm => hm.elim h.1 h.2, fun h => ⟨fun a => h (.inl a), fun a => h (.inr a)⟩⟩
set_option maxRecDepth 100000 in
set_option maxHeartbeats 8000000 in
theorem hgValid_any {v : Value} {g : Gr} (w : World) (h : RdGr w v g) (ok : OkG g) :
    Calls Try.prog 45 #[v] w fun e w' => e = .returned (.bool (grB g)) ∧ Below w.heap.size w w' := by
  have hG0 := h
  obtain ⟨A, c, hs, ⟨B, b, s⟩, ⟨C, d, t⟩, rfl, e1, e2, e3, hE, hRa, hRb⟩ := h
  obtain ⟨z, es, s0, t0⟩ := g
  have a1 : es = hs.map egOf := e1
  have a2 : s = s0 := e2
  have a3 : t = t0 := e3
  subst a2 a3
  have hok := ok
  have hlen1 : es.length ≤ 1048576 := ok.1.1
  have hlen2 : s.length ≤ 1048576 := ok.1.2.1
  have hlen3 : t.length ≤ 1048576 := ok.1.2.2
  have hlE : ∀ x, x ∈ hs → x.2.2.1.2.2.length ≤ 1048576 ∧ x.2.2.2.2.2.length ≤ 1048576 := fun x hx => ok.2.1 _ (by show egOf x ∈ es; rw [a1]; exact List.mem_map_of_mem hx)
  obtain ⟨D, hD⟩ : ∃ D, D = grB (z, es, s, t) := ⟨_, rfl⟩
  have hDD := hD
  rw [grB_eq] at hDD
  simp only at hDD
  rw [← hD]
  obtain ⟨m, hm⟩ : ∃ m, m = hs.length := ⟨_, rfl⟩
  obtain ⟨p, hp⟩ : ∃ p, p = s.length := ⟨_, rfl⟩
  obtain ⟨r, hr⟩ : ∃ r, r = t.length := ⟨_, rfl⟩
  have hmes : es.length = m := by rw [a1, List.length_map, hm]
  have hRa0 : RdI w B s := hRa
  have hRb0 : RdI w C t := hRb
  rw [hmes, ← hp, ← hr] at hDD
  change RdGr w (.agg #[.int .i64 z, .slice A hs.length c, .slice B s.length b, .slice C t.length d]) (z, es, s, t) at hG0
  rw [← hm, ← hp, ← hr] at hG0
  show Calls Try.prog _ #[.agg #[.int .i64 z, .slice A hs.length c, .slice B s.length b, .slice C t.length d]] w _
  rw [← hm, ← hp, ← hr]
  obtain ⟨W, hW, bW, k0⟩ := (⟨_, rfl, below_alloc _ _, heap_alloc_new _ _⟩ : ∃ W, W = w.alloc (.cells #[.int .i64 z, .slice A m c, .slice B p b, .slice C r d] tGr) ∧ Below w.heap.size w W ∧ W.heap[w.heap.size]? = some (.cells #[.int .i64 z, .slice A m c, .slice B p b, .slice C r d] tGr))
  obtain ⟨⟨c0, c1, c2, c3⟩, f0, f1, f2, f3⟩ := box4 k0
  have hI := fun (W : World) => l1In_any z 0 100 W
  have hA1 := fun (W : World) (hb : Below w.heap.size w W) => l1All_any B b p s 0 (z - 1) W (RdI.below hRa0 hb) hp.symm (by omega)
  have hA2 := fun (W : World) (hb : Below w.heap.size w W) => l1All_any C d r t 0 (z - 1) W (RdI.below hRb0 hb) hr.symm (by omega)
  obtain ⟨D1, hD1⟩ : ∃ D, D = inW z s := ⟨_, rfl⟩
  obtain ⟨D2, hD2⟩ : ∃ D, D = inW z t := ⟨_, rfl⟩
  have hD1' : (s.all fun x => inB x 0 (z - 1)) = D1 := hD1.symm
  have hD2' : (t.all fun x => inB x 0 (z - 1)) = D2 := hD2.symm
  simp only [hD1'] at hA1
  simp only [hD2'] at hA2
  rw [← hD1, ← hD2] at hDD
  clear hRa hRb ok e1 e2 e3 hD1' hD2' hRa0 hRb0
  by_cases h0 : inB z 0 100 = true
  case neg =>
    have h0' : inB z 0 100 = false := by simpa using h0
    obtain rfl : D = false := by rw [hDD, h0']; rfl
    simp only [h0'] at hI
    clear h0 h0'
    have hI_h := Lib.hid hI
    have hA1_h := Lib.hid hA1
    have hA2_h := Lib.hid hA2
    have k0_h := Lib.hid k0
    have bW_h := Lib.hid bW
    have hm_h := Lib.hid hm
    have hp_h := Lib.hid hp
    have hr_h := Lib.hid hr
    have hD_h := Lib.hid hD
    have hDD_h := Lib.hid hDD
    have hmes_h := Lib.hid hmes
    have hlE_h := Lib.hid hlE
    have hok_h := Lib.hid hok
    have a1_h := Lib.hid a1
    have hE_h := Lib.hid hE
    have hG0_h := Lib.hid hG0
    have hD1_h := Lib.hid hD1
    have hD2_h := Lib.hid hD2
    clear hI hA1 hA2 k0 bW hm hp hr hD hDD hmes hlE hok a1 hE hG0 hD1 hD2
    go_enter Try.func45, Try.ntmps45
    go_upto_region 1 with (fail)
    rw [← hW]
    clear hW
    go_wp2_with (fail)
    refine (hI_h.out _).mono ?_
    rintro e w1 ⟨rfl, rfl⟩
    go_wp2_with (fail)
    go_ret
    exact ⟨rfl, bW_h.out⟩
  have hz : 0 ≤ z ∧ z ≤ 100 := of_decide_eq_true h0
  simp only [h0] at hI
  rw [h0, Bool.true_and] at hDD
  clear h0
  have wz : IntKind.i64.wrap (z - 1) = z - 1 := IntWalk.i64_in _ (by omega)
  by_cases h1 : m ≤ 60
  case neg =>
    obtain rfl : D = false := by rw [hDD, decide_eq_false h1]; rfl
    have h1' : ¬ ((m : Int) ≤ 60) := by omega
    have hI_h := Lib.hid hI
    have hA1_h := Lib.hid hA1
    have hA2_h := Lib.hid hA2
    have k0_h := Lib.hid k0
    have bW_h := Lib.hid bW
    have hm_h := Lib.hid hm
    have hp_h := Lib.hid hp
    have hr_h := Lib.hid hr
    have hD_h := Lib.hid hD
    have hDD_h := Lib.hid hDD
    have hmes_h := Lib.hid hmes
    have hlE_h := Lib.hid hlE
    have hok_h := Lib.hid hok
    have a1_h := Lib.hid a1
    have hE_h := Lib.hid hE
    have hG0_h := Lib.hid hG0
    have hD1_h := Lib.hid hD1
    have hD2_h := Lib.hid hD2
    clear hI hA1 hA2 k0 bW hm hp hr hD hDD hmes hlE hok a1 hE hG0 hD1 hD2
    go_enter Try.func45, Try.ntmps45
    go_upto_region 1 with (fail)
    rw [← hW]
    clear hW
    go_wp2_with (fail)
    refine (hI_h.out _).mono ?_
    rintro e w1 ⟨rfl, rfl⟩
    go_wp2_with (fail)
    go_ret
    exact ⟨rfl, bW_h.out⟩
  rw [decide_eq_true h1, Bool.true_and] at hDD
  have h1' : (m : Int) ≤ 60 := by omega
  by_cases h2 : p ≤ 12
  case neg =>
    obtain rfl : D = false := by rw [hDD, decide_eq_false h2]; rfl
    have h2' : ¬ ((p : Int) ≤ 12) := by omega
    have hI_h := Lib.hid hI
    have hA1_h := Lib.hid hA1
    have hA2_h := Lib.hid hA2
    have k0_h := Lib.hid k0
    have bW_h := Lib.hid bW
    have hm_h := Lib.hid hm
    have hp_h := Lib.hid hp
    have hr_h := Lib.hid hr
    have hD_h := Lib.hid hD
    have hDD_h := Lib.hid hDD
    have hmes_h := Lib.hid hmes
    have hlE_h := Lib.hid hlE
    have hok_h := Lib.hid hok
    have a1_h := Lib.hid a1
    have hE_h := Lib.hid hE
    have hG0_h := Lib.hid hG0
    have hD1_h := Lib.hid hD1
    have hD2_h := Lib.hid hD2
    clear hI hA1 hA2 k0 bW hm hp hr hD hDD hmes hlE hok a1 hE hG0 hD1 hD2
    go_enter Try.func45, Try.ntmps45
    go_upto_region 1 with (fail)
    rw [← hW]
    clear hW
    go_wp2_with (fail)
    refine (hI_h.out _).mono ?_
    rintro e w1 ⟨rfl, rfl⟩
    go_wp2_with (fail)
    go_ret
    exact ⟨rfl, bW_h.out⟩
  rw [decide_eq_true h2, Bool.true_and] at hDD
  have h2' : (p : Int) ≤ 12 := by omega
  by_cases h3 : r ≤ 12
  case neg =>
    obtain rfl : D = false := by rw [hDD, decide_eq_false h3]; rfl
    have h3' : ¬ ((r : Int) ≤ 12) := by omega
    have hI_h := Lib.hid hI
    have hA1_h := Lib.hid hA1
    have hA2_h := Lib.hid hA2
    have k0_h := Lib.hid k0
    have bW_h := Lib.hid bW
    have hm_h := Lib.hid hm
    have hp_h := Lib.hid hp
    have hr_h := Lib.hid hr
    have hD_h := Lib.hid hD
    have hDD_h := Lib.hid hDD
    have hmes_h := Lib.hid hmes
    have hlE_h := Lib.hid hlE
    have hok_h := Lib.hid hok
    have a1_h := Lib.hid a1
    have hE_h := Lib.hid hE
    have hG0_h := Lib.hid hG0
    have hD1_h := Lib.hid hD1
    have hD2_h := Lib.hid hD2
    clear hI hA1 hA2 k0 bW hm hp hr hD hDD hmes hlE hok a1 hE hG0 hD1 hD2
    go_enter Try.func45, Try.ntmps45
    go_upto_region 1 with (fail)
    rw [← hW]
    clear hW
    go_wp2_with (fail)
    refine (hI_h.out _).mono ?_
    rintro e w1 ⟨rfl, rfl⟩
    go_wp2_with (fail)
    go_ret
    exact ⟨rfl, bW_h.out⟩
  rw [decide_eq_true h3, Bool.true_and] at hDD
  have h3' : (r : Int) ≤ 12 := by omega
  cases D1
  case false =>
    obtain rfl : D = false := by rw [hDD]; rfl
    have hI_h := Lib.hid hI
    have hA1_h := Lib.hid hA1
    have hA2_h := Lib.hid hA2
    have k0_h := Lib.hid k0
    have bW_h := Lib.hid bW
    have hm_h := Lib.hid hm
    have hp_h := Lib.hid hp
    have hr_h := Lib.hid hr
    have hD_h := Lib.hid hD
    have hDD_h := Lib.hid hDD
    have hmes_h := Lib.hid hmes
    have hlE_h := Lib.hid hlE
    have hok_h := Lib.hid hok
    have a1_h := Lib.hid a1
    have hE_h := Lib.hid hE
    have hG0_h := Lib.hid hG0
    have hD1_h := Lib.hid hD1
    have hD2_h := Lib.hid hD2
    clear hI hA1 hA2 k0 bW hm hp hr hD hDD hmes hlE hok a1 hE hG0 hD1 hD2
    go_enter Try.func45, Try.ntmps45
    go_upto_region 1 with (fail)
    rw [← hW]
    clear hW
    go_wp2_with (fail)
    refine (hI_h.out _).mono ?_
    rintro e w1 ⟨rfl, rfl⟩
    go_wp2_with (fail)
    refine (hA1_h.out _ bW_h.out).mono ?_
    rintro e w1 ⟨rfl, rfl⟩
    go_wp2_with (fail)
    go_ret
    exact ⟨rfl, bW_h.out⟩
  rw [Bool.true_and] at hDD
  cases D2
  case false =>
    obtain rfl : D = false := by rw [hDD]; rfl
    have hI_h := Lib.hid hI
    have hA1_h := Lib.hid hA1
    have hA2_h := Lib.hid hA2
    have k0_h := Lib.hid k0
    have bW_h := Lib.hid bW
    have hm_h := Lib.hid hm
    have hp_h := Lib.hid hp
    have hr_h := Lib.hid hr
    have hD_h := Lib.hid hD
    have hDD_h := Lib.hid hDD
    have hmes_h := Lib.hid hmes
    have hlE_h := Lib.hid hlE
    have hok_h := Lib.hid hok
    have a1_h := Lib.hid a1
    have hE_h := Lib.hid hE
    have hG0_h := Lib.hid hG0
    have hD1_h := Lib.hid hD1
    have hD2_h := Lib.hid hD2
    clear hI hA1 hA2 k0 bW hm hp hr hD hDD hmes hlE hok a1 hE hG0 hD1 hD2
    go_enter Try.func45, Try.ntmps45
    go_upto_region 1 with (fail)
    rw [← hW]
    clear hW
    go_wp2_with (fail)
    refine (hI_h.out _).mono ?_
    rintro e w1 ⟨rfl, rfl⟩
    go_wp2_with (fail)
    refine (hA1_h.out _ bW_h.out).mono ?_
    rintro e w1 ⟨rfl, rfl⟩
    go_wp2_with (fail)
    refine (hA2_h.out _ bW_h.out).mono ?_
    rintro e w1 ⟨rfl, rfl⟩
    go_wp2_with (fail)
    go_ret
    exact ⟨rfl, bW_h.out⟩
  rw [Bool.true_and] at hDD
  have hI_h := Lib.hid hI
  have hA1_h := Lib.hid hA1
  have hA2_h := Lib.hid hA2
  have k0_h := Lib.hid k0
  have bW_h := Lib.hid bW
  have hm_h := Lib.hid hm
  have hp_h := Lib.hid hp
  have hr_h := Lib.hid hr
  have hD_h := Lib.hid hD
  have hDD_h := Lib.hid hDD
  have hmes_h := Lib.hid hmes
  have hlE_h := Lib.hid hlE
  have hok_h := Lib.hid hok
  have a1_h := Lib.hid a1
  have hE_h := Lib.hid hE
  have hG0_h := Lib.hid hG0
  have hD1_h := Lib.hid hD1
  have hD2_h := Lib.hid hD2
  clear hI hA1 hA2 k0 bW hm hp hr hD hDD hmes hlE hok a1 hE hG0 hD1 hD2
  go_enter Try.func45, Try.ntmps45
  go_upto_region 1 with (fail)
  rw [← hW]
  clear hW
  go_wp2_with (fail)
  refine (hI_h.out _).mono ?_
  rintro e w1 ⟨rfl, rfl⟩
  go_wp2_with (fail)
  refine (hA1_h.out _ bW_h.out).mono ?_
  rintro e w1 ⟨rfl, rfl⟩
  go_wp2_with (fail)
  refine (hA2_h.out _ bW_h.out).mono ?_
  rintro e w1 ⟨rfl, rfl⟩
  obtain ⟨W, rfl⟩ : ∃ x, x = w1 := ⟨_, rfl⟩
  go_wp2_with (fail)
  clear c0 c1 c2 c3 f0 f1 f2 f3
  go_loopw [51] (fun i wr => ∃ k : Nat, k ≤ m ∧ i = .int .i64 k ∧ (es.take k).all (hgB z) = true ∧ Below W.heap.size W wr) (fun i _ => m - (intOf i).toNat)
  case atStart => exact ⟨0, Nat.zero_le _, rfl, by simp, Below.refl _ _⟩
  case round =>
    obtain ⟨k, hk, rfl, hall, hB1⟩ := hrel
    have kr := box_below k0_h.out hB1
    have hBw := below_trans bW_h.out hB1 bW_h.out.size
    by_cases hlt : k < m
    · obtain ⟨ad, κ, vv, B1, b1, s1, C1, b2, t1, rfl, hn, ⟨d0, d1, d2, d3⟩, hr1, hr2⟩ := (hE_h.out.below hBw).at_ (j := k) (by rw [← hm_h.out]; exact hlt)
      have hek : es[k]? = some (κ, vv, s1, t1) := by rw [a1_h.out, List.getElem?_map, hn]; rfl
      have hln := hlE_h.out _ (List.mem_of_getElem? hn)
      obtain ⟨wo, rfl⟩ : ∃ x, x = wr := ⟨_, rfl⟩
      have hC := fun (W' : World) (hb : Below wo.heap.size wo W') => hgEdge_any κ vv B1 C1 b1 b2 s1 t1 z W' (hr1.below hb) (hr2.below hb) hln.1 hln.2 (by omega) (by omega)
      obtain ⟨p1, hp1⟩ : ∃ p1, p1 = s1.length := ⟨_, rfl⟩
      obtain ⟨r1, hr1'⟩ : ∃ r1, r1 = t1.length := ⟨_, rfl⟩
      simp only [← hp1, ← hr1'] at hC
      rw [← hp1] at d2
      rw [← hr1'] at d3
      obtain ⟨W6, hW6, bW6, k6⟩ := (⟨_, rfl, below_alloc _ _, heap_alloc_new _ _⟩ : ∃ W, W = wo.alloc (.cells #[.int .i64 κ, .int .i64 vv, .slice B1 p1 b1, .slice C1 r1 b2] tEd) ∧ Below wo.heap.size wo W ∧ W.heap[wo.heap.size]? = some (.cells #[.int .i64 κ, .int .i64 vv, .slice B1 p1 b1, .slice C1 r1 b2] tEd))
      have hCW := hC W6 bW6
      have hkI : (k : Int) < (m : Int) := by omega
      have kr6 := box_below kr bW6
      have hBW6 := below_trans hB1 bW6 hB1.size
      obtain ⟨⟨c0, c1, c2, c3⟩, f0, f1, f2, f3⟩ := box4 k6
      obtain ⟨⟨y0, y1, y2, y3⟩, g0, g1, g2, g3⟩ := box4 kr6
      obtain ⟨H, hH⟩ : ∃ H, H = hgB z (κ, vv, s1, t1) := ⟨_, rfl⟩
      rw [← hH] at hCW
      have hr1_h := Lib.hid hr1'
      clear hr1' hr1 hr2 hn hln hC kr hB1 kr6
      have hCW_h := Lib.hid hCW
      have hek_h := Lib.hid hek
      have hall_h := Lib.hid hall
      have hp1_h := Lib.hid hp1
      have bW6_h := Lib.hid bW6
      have k6_h := Lib.hid k6
      have hBW6_h := Lib.hid hBW6
      have hBw_h := Lib.hid hBw
      have hH_h := Lib.hid hH
      clear hCW hek hall hp1 bW6 k6 hBW6 hBw hH
      go_upto_region 6 with (fail)
      rw [← hW6]
      clear hW6
      go_wp2_with (fail)
      refine (hCW_h.out).mono ?_
      rintro e w7 ⟨rfl, hb7⟩
      have hB8 := below_trans hBW6_h.out hb7 hBW6_h.out.size
      clear hb7 c0 c1 c2 c3 f0 f1 f2 f3 y0 y1 y2 y3 g0 g1 g2 g3 d0 d1 d2 d3
      cases H
      · have hf : D = false := by
          rw [hDD_h.out, show es.all (hgB z) = false from ?_]; rfl
          rw [Bool.eq_false_iff]
          intro hh
          have := List.all_eq_true.1 hh _ (List.mem_of_getElem? hek_h.out)
          rw [← hH_h.out] at this; cases this
        subst hf
        have hBz := below_trans bW_h.out hB8 bW_h.out.size
        have hB8_h := Lib.hid hB8
        have hBz_h := Lib.hid hBz
        clear hB8 hBz
        go_wp2_with (fail)
        go_ret
        exact ⟨rfl, hBz_h.out⟩
      · have hall2 : (es.take (k + 1)).all (hgB z) = true := by rw [List.take_add_one, hek_h.out, List.all_append, hall_h.out]; simp [← hH_h.out]
        have hB8_h := Lib.hid hB8
        have hall2_h := Lib.hid hall2
        clear hB8 hall2
        go_wp2_with (fail)
        go_roundw
        case rel => exact ⟨k + 1, by omega, by go_num, hall2_h.out, hB8_h.out⟩
        case measure => simp [intOf]; omega
    · obtain rfl : m = k := by omega
      rw [List.take_of_length_le (by rw [hmes_h.out]; exact Nat.le_refl _)] at hall
      have hD3 := hDD_h.out
      rw [hall, Bool.true_and] at hD3
      obtain ⟨n, rfl⟩ : ∃ n : Nat, z = (n : Int) := ⟨z.toNat, by omega⟩
      have hD4 : D = (List.range n).all fun w : Nat => (allW ((n : Int), es, s, t)).contains (w : Int) := by rw [hD3]; rfl
      have hinW : inW (n : Int) (allW ((n : Int), es, s, t)) = true := by
        have h3 : inW (n : Int) (edW es) = true := by have := hgB_all (n : Int) es; rw [hall] at this; simp at this; exact this.2
        show inW (n : Int) (s ++ (t ++ edW es)) = true
        rw [inW_append, inW_append, ← hD1_h.out, ← hD2_h.out, h3]; rfl
      have hC := hgCounts_any wr n (hG0_h.out.below hBw) hok_h.out rfl (by omega) hinW
      obtain ⟨O, hO⟩ : ∃ O, O = orgW ((n : Int), es, s, t) := ⟨_, rfl⟩
      obtain ⟨T, hT⟩ : ∃ T, T = dstW ((n : Int), es, s, t) := ⟨_, rfl⟩
      obtain ⟨L, hL⟩ : ∃ L, L = allW ((n : Int), es, s, t) := ⟨_, rfl⟩
      have hcz := fun k : Nat => count_zero (g := ((n : Int), es, s, t)) (k := k)
      have hOl : O.length + T.length ≤ 20000000 := by
        have h1 := out_len es
        have h2 : cntE es + s.length + t.length ≤ 8388608 := hok_h.out.2.2
        have h3 : O.length = s.length + (outW es).length := by rw [hO]; show (s ++ outW es).length = _; rw [List.length_append]
        have h4 : T.length = t.length + (inpW es).length := by rw [hT]; show (t ++ inpW es).length = _; rw [List.length_append]
        omega
      rw [← hO, ← hT] at hC
      simp only [← hO, ← hT, ← hL] at hcz
      rw [← hL] at hD4
      obtain ⟨⟨y0, y1, y2, y3⟩, g0, g1, g2, g3⟩ := box4 kr
      clear hall hD3 kr hB1 hinW hD_h hD1_h hD2_h hDD_h
      have hC_h := Lib.hid hC
      have hO_h := Lib.hid hO
      have hT_h := Lib.hid hT
      have hL_h := Lib.hid hL
      have hcz_h := Lib.hid hcz
      have hD4_h := Lib.hid hD4
      have hBw_h := Lib.hid hBw
      have hOl_h := Lib.hid hOl
      clear hC hO hT hL hcz hD4 hBw hOl
      go_wp2_with (fail)
      refine (hC_h.out).mono ?_
      rintro e w8 ⟨A8, B8, a8, b8, rfl, hI8, hJ8, -, -, hb8⟩
      have hB9 := below_trans hBw_h.out hb8 hBw_h.out.size
      clear y0 y1 y2 y3 g0 g1 g2 g3 hb8
      have hB9_h := Lib.hid hB9
      clear hB9
      go_wp2_with (fail)
      go_loopw [68] (fun i wr => ∃ (k nq : Nat), k ≤ n ∧ i = .int .i64 k ∧ (∀ q : Nat, q < k → L.contains (q : Int) = true) ∧ wr = w8.drewN nq) (fun i _ => n - (intOf i).toNat)
      case atStart => exact ⟨0, 0, Nat.zero_le _, rfl, fun q hq => by omega, rfl⟩
      case round =>
        obtain ⟨k, nq, hk, rfl, hall, hwr⟩ := hrel
        by_cases hlt : k < n
        · obtain ⟨gd, rfl, hgb, hgc, -⟩ := hI8.getc hlt
          obtain ⟨jd, rfl, hjb, hjc, -⟩ := hJ8.getc hlt
          have e1 : wr.cell? (gd.add k) = some (.int .i64 (O.count (k : Int) : Int)) := by rw [hwr]; exact hgc
          have e2 : wr.cell? (jd.add k) = some (.int .i64 (T.count (k : Int) : Int)) := by rw [hwr]; exact hjc
          have l1 := count_le O (k : Int)
          have l2 := count_le T (k : Int)
          obtain ⟨x, hx⟩ : ∃ x, x = O.count (k : Int) := ⟨_, rfl⟩
          obtain ⟨y, hy⟩ : ∃ y, y = T.count (k : Int) := ⟨_, rfl⟩
          rw [← hx] at e1 l1
          rw [← hy] at e2 l2
          have hcz1 := hcz_h.out k
          rw [← hx, ← hy] at hcz1
          have hkI : (k : Int) < (n : Int) := by omega
          have hxb : x ≤ 20000000 := by have := hOl_h.out; omega
          have hyb : y ≤ 20000000 := by have := hOl_h.out; omega
          clear hgc hjc hx hy l1 l2
          by_cases hc : L.contains (k : Int) = true
          · have hne : ¬ (x = 0 ∧ y = 0) := fun h => by rw [hcz1.1 h] at hc; cases hc
            have hb0 : ((x : Int) + (y : Int) == 0) = false := by rw [beq_eq_false_iff_ne]; omega
            have hall2 : ∀ q : Nat, q < k + 1 → L.contains (q : Int) = true := fun q hq => by
              by_cases h : q < k
              · exact hall q h
              · obtain rfl : q = k := by omega
                exact hc
            clear hne hcz1 hc hall
            have hall2_h := Lib.hid hall2
            have hwr_h := Lib.hid hwr
            have hI8_h := Lib.hid hI8
            have hJ8_h := Lib.hid hJ8
            clear hall2 hwr hI8 hJ8
            go_wp2_with (fail)
            go_quiet (fail)
            go_wp2_with (fail)
            go_roundw
            case rel => exact ⟨k + 1, _, by omega, by go_num, hall2_h.out, by rw [hwr_h.out]; exact World.drewN_drewN _ _ _⟩
            case measure => simp [intOf]; omega
          · have hc' : L.contains (k : Int) = false := by simpa using hc
            obtain ⟨rfl, rfl⟩ := hcz1.2 hc'
            have hf : D = false := by
              rw [hD4_h.out, Bool.eq_false_iff]
              intro hh
              have := List.all_eq_true.1 hh k (List.mem_range.2 hlt)
              rw [hc'] at this; cases this
            subst hf
            have hBf : Below w.heap.size w wr := by rw [hwr]; exact below_drewN hB9_h.out nq
            clear hcz1 hc hc' hall
            have hwr_h := Lib.hid hwr
            have hI8_h := Lib.hid hI8
            have hJ8_h := Lib.hid hJ8
            have hBf_h := Lib.hid hBf
            clear hwr hI8 hJ8 hBf
            go_wp2_with (fail)
            go_quiet (fail)
            go_wp2_with (fail)
            go_ret
            exact ⟨rfl, below_drewN hBf_h.out _⟩
        · obtain rfl : n = k := by omega
          have ht : D = true := by
            rw [hD4_h.out]
            exact List.all_eq_true.2 fun q hq => hall q (List.mem_range.1 hq)
          subst ht
          have hBf : Below w.heap.size w wr := by rw [hwr]; exact below_drewN hB9_h.out nq
          clear hall
          have hwr_h := Lib.hid hwr
          have hI8_h := Lib.hid hI8
          have hJ8_h := Lib.hid hJ8
          have hBf_h := Lib.hid hBf
          clear hwr hI8 hJ8 hBf
          go_wp2_with (fail)
          go_ret
          exact ⟨rfl, hBf_h.out⟩
end Go.Proofs.Ytanhmljgeiajoaa
