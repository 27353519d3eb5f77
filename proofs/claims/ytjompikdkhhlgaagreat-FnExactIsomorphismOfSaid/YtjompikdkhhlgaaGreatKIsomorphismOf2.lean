/-
  What the texts above it need, part 2.
-/
import Derived.Test.YtjompikdkhhlgaaGreatKIsomorphismOf1
import Derived.IntWalk
import Derived.StillTail
namespace Go.Proofs.YtjompikdkhhlgaaGreat
open Go.RowKit
theorem gvB_iff (k v : Int) : gvB k v = true ↔ ((k = 7 ∨ k = 13) ∧ 0 ≤ v ∧ v ≤ 96) ∨ (k ≠ 7 ∧ k ≠ 13 ∧ v = 0) := by
 unfold gvB hvB t_inB
 by_cases h : k = 7 ∨ k = 13
 · rw [decide_eq_true h, if_pos rfl, decide_eq_true_eq]
   constructor
   · intro h3; exact .inl ⟨h, h3⟩
   · intro h3; omega
 · rw [decide_eq_false h, if_neg (by simp), decide_eq_true_eq]
   constructor
   · intro h3; exact .inr ⟨by omega, by omega, h3⟩
   · intro h3; omega
theorem leafB_gv {k v : Int} (h1 : 3 ≤ k) (h2 : k ≤ 14) : leafB (k, v, noName) = gvB k v := by
 rw [Bool.eq_iff_iff, gvB_iff]
 unfold leafB
 simp only [decide_eq_true_eq]
 constructor
 · rintro ⟨-, h3⟩; omega
 · intro h3; exact ⟨trivial, by omega⟩
set_option maxHeartbeats 1000000 in
theorem t_l1All_any (A : Option Addr) (c n : Nat) (l : List Int) (lo hi : Int) (w : World) (h : RdI w A l) (hn : l.length = n) (hnb : n ≤ 17592186044416) :
  Calls Tryz.prog 72 #[.slice A n c, .int .i64 lo, .int .i64 hi] w fun e w' => e = .returned (.bool (l.all fun x => t_inB x lo hi)) ∧ w' = w := by
 obtain ⟨D, hD⟩ : ∃ D, D = l.all fun x => t_inB x lo hi := ⟨_, rfl⟩
 rw [← hD]
 have hD_h := lH hD; have hn_h := lH hn; clear hD hn
 go_enter Tryz.func72, Tryz.ntmps72
 go_wp2_with (fail)
 go_loop [11] (fun i => ∃ k : Nat, k ≤ n ∧ i = .int .i64 k ∧ (l.take k).all (fun x => t_inB x lo hi) = true) (fun i => n - (intOf i).toNat)
 case atStart => exact ⟨0, Nat.zero_le _, rfl, by simp⟩
 case round =>
  obtain ⟨k, hk, rfl, hall⟩ := hrel
  by_cases hlt : k < n
  · obtain ⟨ad, x, rfl, hx, hc⟩ := h.at_ (j := k) (by rw [hn_h.out]; exact hlt)
    have hkI : (k : Int) < (n : Int) := by omega
    have hC := t_l1In_any x lo hi w
    cases hb : t_inB x lo hi
    · rw [hb] at hC
      have hf : D = false := by
       rw [hD_h.out, Bool.eq_false_iff]
       intro hh
       have := List.all_eq_true.1 hh x (List.mem_of_getElem? hx)
       rw [hb] at this; cases this
      subst hf
      have hC_h := lH hC; have hall_h := lH hall; have hx_h := lH hx; clear hC hall hx; clear h hb
      go_wp2_with (fail)
      refine (hC_h.out).mono ?_
      rintro e w1 ⟨rfl, rfl⟩
      go_wp2_with (fail)
      go_ret
      exact ⟨rfl, rfl⟩
    · rw [hb] at hC
      have hst : (l.take (k + 1)).all (fun x => t_inB x lo hi) = true := by
       rw [List.take_add_one, hx, List.all_append, hall]; simp [hb]
      have hC_h := lH hC; have hst_h := lH hst; clear hC hst; clear h hb hall hx
      go_wp2_with (fail)
      refine (hC_h.out).mono ?_
      rintro e w1 ⟨rfl, rfl⟩
      go_wp2_with (fail)
      go_round
      case rel => exact ⟨k + 1, by omega, by go_num, hst_h.out⟩
      case measure => simp [intOf]; omega
  · obtain rfl : n = k := by omega
    have ht : D = true := by rw [hD_h.out, ← hall, List.take_of_length_le (by rw [hn_h.out]; exact Nat.le_refl _)]
    subst ht
    have hall_h := lH hall; clear hall; clear h
    go_wp2_with (fail)
    go_ret
    exact ⟨rfl, rfl⟩
set_option maxRecDepth 100000 in
set_option maxHeartbeats 4000000 in
theorem hgEdge_any (k v : Int) (B C : Option Addr) (b c : Nat) (l m : List Int) (n : Int) (w : World) (hB : RdI w B l) (hC : RdI w C m) (hl : l.length ≤ 1048576) (hm : m.length ≤ 1048576) (n0 : -1000000 ≤ n) (n1 : n ≤ 1000000) :
  Calls Tryz.prog 73 #[.agg #[.int .i64 k, .int .i64 v, .slice B l.length b, .slice C m.length c], .int .i64 n] w fun e w' => e = .returned (.bool (hgB n (k, v, l, m))) ∧ Below w.heap.size w w' := by
 obtain ⟨p, hp⟩ : ∃ p, p = l.length := ⟨_, rfl⟩
 obtain ⟨q, hq⟩ : ∃ q, q = m.length := ⟨_, rfl⟩
 have hA1 := fun (W : World) (hb : Below w.heap.size w W) => t_l1All_any B b p l 0 (n - 1) W (hB.below hb) hp.symm (by omega)
 have hA2 := fun (W : World) (hb : Below w.heap.size w W) => t_l1All_any C c q m 0 (n - 1) W (hC.below hb) hq.symm (by omega)
 obtain ⟨D, hD⟩ : ∃ D, D = hgB n (k, v, l, m) := ⟨_, rfl⟩
 have hDD : D = ((t_inB k 3 14 && (gvB k v && decide (((p : Int), (q : Int)) = kindTy k))) && ((l.all fun x => t_inB x 0 (n - 1)) && (m.all fun x => t_inB x 0 (n - 1)))) := by rw [hD, hp, hq]; rfl
 rw [← hD, ← hp, ← hq]
 obtain ⟨D1, hD1⟩ : ∃ D, D = l.all fun x => t_inB x 0 (n - 1) := ⟨_, rfl⟩
 obtain ⟨D2, hD2⟩ : ∃ D, D = m.all fun x => t_inB x 0 (n - 1) := ⟨_, rfl⟩
 simp only [← hD1] at hA1 hDD
 simp only [← hD2] at hA2 hDD
 have hkd : decide (((p : Int), (q : Int)) = kindTy k) = (((p : Int) == (kindTy k).1) && ((q : Int) == (kindTy k).2)) := by
  rw [Bool.eq_iff_iff]
  simp only [decide_eq_true_eq, Bool.and_eq_true, beq_iff_eq]
  exact ⟨fun h => ⟨congrArg Prod.fst h, congrArg Prod.snd h⟩, fun h => Prod.ext h.1 h.2⟩
 rw [hkd] at hDD
 have hTL := fun (W : World) => tmLeaf_any k v noName W
 have hIn := fun (W : World) => t_l1In_any k 3 14 W
 have hTK := fun (W : World) => tmKind_any k W
 obtain ⟨i1, hi1⟩ : ∃ i, i = (kindTy k).1 := ⟨_, rfl⟩
 obtain ⟨i2, hi2⟩ : ∃ i, i = (kindTy k).2 := ⟨_, rfl⟩
 simp only [← hi1, ← hi2] at hTK hDD
 have wn : IntKind.i64.wrap (n - 1) = n - 1 := IntWalk.i64_in _ (by omega)
 obtain ⟨W, hW, bW, k0⟩ : ∃ W, W = w.alloc (.cells #[.int .i64 k, .int .i64 v, .slice B p b, .slice C q c] tEd) ∧ Below w.heap.size w W ∧ W.heap[w.heap.size]? = some (.cells #[.int .i64 k, .int .i64 v, .slice B p b, .slice C q c] tEd) := ⟨_, rfl, t_below_alloc _ _, heap_alloc_new _ _⟩
 obtain ⟨⟨c0, c1, c2, c3⟩, f0, f1, f2, f3⟩ := t_box4 k0
 clear hB hC hD hkd hD1 hD2 hi1 hi2
 by_cases h0 : t_inB k 3 14 = true
 case neg =>
  have h0' : t_inB k 3 14 = false := by simpa using h0
  obtain rfl : D = false := by rw [hDD, h0']; rfl
  simp only [h0'] at hIn
  clear h0 h0' hDD; have hA1_h := lH hA1; have hA2_h := lH hA2; have hTL_h := lH hTL; have hIn_h := lH hIn; have hTK_h := lH hTK; have k0_h := lH k0; have bW_h := lH bW; have hp_h := lH hp; have hq_h := lH hq; clear hA1 hA2 hTL hIn hTK k0 bW hp hq
  go_enter Tryz.func73, Tryz.ntmps73
  go_upto_region 1 with (fail)
  rw [← hW]
  clear hW
  go_wp2_with (fail)
  refine (hIn_h.out _).mono ?_
  rintro e w1 ⟨rfl, rfl⟩
  go_wp2_with (fail)
  go_ret
  exact ⟨rfl, bW_h.out⟩
 have hb14 : 3 ≤ k ∧ k ≤ 14 := of_decide_eq_true h0
 have hlf0 := leafB_gv (v := v) hb14.1 hb14.2
 simp only [h0] at hIn
 rw [h0, Bool.true_and] at hDD
 by_cases h1 : gvB k v = true
 case neg =>
  have h1' : gvB k v = false := by simpa using h1
  obtain rfl : D = false := by rw [hDD, h1']; rfl
  have hlf : leafB (k, v, noName) = false := by rw [hlf0, h1']
  clear h0 h1 h1' hDD hlf0 hb14; have hA1_h := lH hA1; have hA2_h := lH hA2; have hTL_h := lH hTL; have hIn_h := lH hIn; have hTK_h := lH hTK; have k0_h := lH k0; have bW_h := lH bW; have hp_h := lH hp; have hq_h := lH hq; clear hA1 hA2 hTL hIn hTK k0 bW hp hq
  go_enter Tryz.func73, Tryz.ntmps73
  go_upto_region 1 with (fail)
  rw [← hW]
  clear hW
  go_wp2_with (fail)
  refine (hIn_h.out _).mono ?_
  rintro e w1 ⟨rfl, rfl⟩
  go_wp2_with (fail)
  refine (hTL_h.out _).mono ?_
  rintro e w2 ⟨lb, rfl, hlb, hb2⟩
  rw [hlf] at hlb
  subst hlb
  clear c0 c1 c2 c3 f0 f1 f2 f3
  have k2 := t_box_below k0_h.out hb2
  obtain ⟨⟨c0, c1, c2, c3⟩, f0, f1, f2, f3⟩ := t_box4 k2
  have hB2 := below_trans bW_h.out hb2 bW_h.out.size
  clear hb2 k2; have hB2_h := lH hB2; clear hB2
  go_wp2_with (fail)
  go_ret
  exact ⟨rfl, hB2_h.out⟩
 have hlf : leafB (k, v, noName) = true := by rw [hlf0, h1]
 rw [h1, Bool.true_and] at hDD
 clear h0 h1 hlf0 hb14
 by_cases h2 : (p : Int) = i1
 case neg =>
  have h2' : ((p : Int) == i1) = false := by rw [beq_eq_false_iff_ne]; exact h2
  obtain rfl : D = false := by rw [hDD, h2']; rfl
  clear h2 hDD; have hA1_h := lH hA1; have hA2_h := lH hA2; have hTL_h := lH hTL; have hIn_h := lH hIn; have hTK_h := lH hTK; have k0_h := lH k0; have bW_h := lH bW; have hp_h := lH hp; have hq_h := lH hq; clear hA1 hA2 hTL hIn hTK k0 bW hp hq
  go_enter Tryz.func73, Tryz.ntmps73
  go_upto_region 1 with (fail)
  rw [← hW]
  clear hW
  go_wp2_with (fail)
  refine (hIn_h.out _).mono ?_
  rintro e w1 ⟨rfl, rfl⟩
  go_wp2_with (fail)
  refine (hTL_h.out _).mono ?_
  rintro e w2 ⟨lb, rfl, hlb, hb2⟩
  rw [hlf] at hlb
  subst hlb
  clear c0 c1 c2 c3 f0 f1 f2 f3
  have k2 := t_box_below k0_h.out hb2
  obtain ⟨⟨c0, c1, c2, c3⟩, f0, f1, f2, f3⟩ := t_box4 k2
  have hB2 := below_trans bW_h.out hb2 bW_h.out.size
  clear hb2 k2; have hB2_h := lH hB2; clear hB2
  go_wp2_with (fail)
  refine (hTK_h.out _).mono ?_
  rintro e w3 ⟨rfl, rfl⟩
  go_wp2_with (fail)
  go_ret
  exact ⟨rfl, hB2_h.out⟩
 have h2' : ((p : Int) == i1) = true := by rw [beq_iff_eq]; exact h2
 rw [h2', Bool.true_and] at hDD
 clear h2
 by_cases h3 : (q : Int) = i2
 case neg =>
  have h3' : ((q : Int) == i2) = false := by rw [beq_eq_false_iff_ne]; exact h3
  obtain rfl : D = false := by rw [hDD, h3']; rfl
  clear h3 hDD; have hA1_h := lH hA1; have hA2_h := lH hA2; have hTL_h := lH hTL; have hIn_h := lH hIn; have hTK_h := lH hTK; have k0_h := lH k0; have bW_h := lH bW; have hp_h := lH hp; have hq_h := lH hq; clear hA1 hA2 hTL hIn hTK k0 bW hp hq
  go_enter Tryz.func73, Tryz.ntmps73
  go_upto_region 1 with (fail)
  rw [← hW]
  clear hW
  go_wp2_with (fail)
  refine (hIn_h.out _).mono ?_
  rintro e w1 ⟨rfl, rfl⟩
  go_wp2_with (fail)
  refine (hTL_h.out _).mono ?_
  rintro e w2 ⟨lb, rfl, hlb, hb2⟩
  rw [hlf] at hlb
  subst hlb
  clear c0 c1 c2 c3 f0 f1 f2 f3
  have k2 := t_box_below k0_h.out hb2
  obtain ⟨⟨c0, c1, c2, c3⟩, f0, f1, f2, f3⟩ := t_box4 k2
  have hB2 := below_trans bW_h.out hb2 bW_h.out.size
  clear hb2 k2; have hB2_h := lH hB2; clear hB2
  go_wp2_with (fail)
  refine (hTK_h.out _).mono ?_
  rintro e w3 ⟨rfl, rfl⟩
  go_wp2_with (fail)
  go_ret
  exact ⟨rfl, hB2_h.out⟩
 have h3' : ((q : Int) == i2) = true := by rw [beq_iff_eq]; exact h3
 rw [h3', Bool.true_and] at hDD
 clear h3
 cases D1
 case false =>
  obtain rfl : D = false := by rw [hDD]; rfl
  clear hDD; have hA1_h := lH hA1; have hA2_h := lH hA2; have hTL_h := lH hTL; have hIn_h := lH hIn; have hTK_h := lH hTK; have k0_h := lH k0; have bW_h := lH bW; have hp_h := lH hp; have hq_h := lH hq; clear hA1 hA2 hTL hIn hTK k0 bW hp hq
  go_enter Tryz.func73, Tryz.ntmps73
  go_upto_region 1 with (fail)
  rw [← hW]
  clear hW
  go_wp2_with (fail)
  refine (hIn_h.out _).mono ?_
  rintro e w1 ⟨rfl, rfl⟩
  go_wp2_with (fail)
  refine (hTL_h.out _).mono ?_
  rintro e w2 ⟨lb, rfl, hlb, hb2⟩
  rw [hlf] at hlb
  subst hlb
  clear c0 c1 c2 c3 f0 f1 f2 f3
  have k2 := t_box_below k0_h.out hb2
  obtain ⟨⟨c0, c1, c2, c3⟩, f0, f1, f2, f3⟩ := t_box4 k2
  have hB2 := below_trans bW_h.out hb2 bW_h.out.size
  clear hb2 k2; have hB2_h := lH hB2; clear hB2
  go_wp2_with (fail)
  refine (hTK_h.out _).mono ?_
  rintro e w3 ⟨rfl, rfl⟩
  go_wp2_with (fail)
  refine (hA1_h.out _ hB2_h.out).mono ?_
  rintro e w4 ⟨rfl, rfl⟩
  go_wp2_with (fail)
  go_ret
  exact ⟨rfl, hB2_h.out⟩
 obtain rfl : D = D2 := by rw [hDD]; rfl
 clear hDD; have hA1_h := lH hA1; have hA2_h := lH hA2; have hTL_h := lH hTL; have hIn_h := lH hIn; have hTK_h := lH hTK; have k0_h := lH k0; have bW_h := lH bW; have hp_h := lH hp; have hq_h := lH hq; clear hA1 hA2 hTL hIn hTK k0 bW hp hq
 go_enter Tryz.func73, Tryz.ntmps73
 go_upto_region 1 with (fail)
 rw [← hW]
 clear hW
 go_wp2_with (fail)
 refine (hIn_h.out _).mono ?_
 rintro e w1 ⟨rfl, rfl⟩
 go_wp2_with (fail)
 refine (hTL_h.out _).mono ?_
 rintro e w2 ⟨lb, rfl, hlb, hb2⟩
 rw [hlf] at hlb
 subst hlb
 clear c0 c1 c2 c3 f0 f1 f2 f3
 have k2 := t_box_below k0_h.out hb2
 obtain ⟨⟨c0, c1, c2, c3⟩, f0, f1, f2, f3⟩ := t_box4 k2
 have hB2 := below_trans bW_h.out hb2 bW_h.out.size
 clear hb2 k2; have hB2_h := lH hB2; clear hB2
 go_wp2_with (fail)
 refine (hTK_h.out _).mono ?_
 rintro e w3 ⟨rfl, rfl⟩
 go_wp2_with (fail)
 refine (hA1_h.out _ hB2_h.out).mono ?_
 rintro e w4 ⟨rfl, rfl⟩
 go_wp2_with (fail)
 refine (hA2_h.out _ hB2_h.out).mono ?_
 rintro e w4 ⟨rfl, rfl⟩
 go_wp2_with (fail)
 go_ret
 exact ⟨rfl, hB2_h.out⟩
theorem IS.getc {w : World} {A : Option Addr} {c n : Nat} {l : List Int} (h : IS w A c (cntM n l)) {q : Nat} (hq : q < n) : ∃ ad, A = some ad ∧ ad.block < w.heap.size ∧ w.cell? (ad.add q) = some (.int .i64 (l.count (q : Int) : Int)) ∧ w.frozen? (ad.add q) = false := by
 obtain ⟨ad, x, hA, hx, hb, hc, hf⟩ := h.at_ (j := q) (by rw [cntM_length]; exact hq)
 rw [cntM_get hq] at hx
 obtain rfl := Option.some.inj hx
 exact ⟨ad, hA, hb, hc, hf q⟩
theorem madeCnt (n : Nat) : ints (List.replicate n 0) = ints (cntM n []) := by rw [cntM_nil]
theorem inW_app_left {n : Int} {l m : List Int} (h : inW n (l ++ m) = true) : inW n l = true := by rw [inW_append] at h; simp at h; exact h.1
theorem inW_app_right {n : Int} {l m : List Int} (h : inW n (l ++ m) = true) : inW n m = true := by rw [inW_append] at h; simp at h; exact h.2
theorem inW_at {n : Nat} {l : List Int} (h : inW (n : Int) l = true) {k : Nat} {x : Int} (hx : l[k]? = some x) : ∃ q : Nat, x = (q : Int) ∧ q < n := by
 have := inW_iff.1 h x (List.mem_of_getElem? hx)
 exact ⟨x.toNat, by omega, by omega⟩
theorem mem_edW_of {l : List Eg} {e : Eg} (h : e ∈ l) : (∀ x, x ∈ e.2.2.1 → x ∈ edW l) ∧ ∀ x, x ∈ e.2.2.2 → x ∈ edW l := by
 induction l with
 | nil => cases h
 | cons a r ih =>
   rcases List.mem_cons.1 h with rfl | h
   · exact ⟨fun x hx => by simp [edW, hx], fun x hx => by simp [edW, hx]⟩
   · obtain ⟨h1, h2⟩ := ih h
     exact ⟨fun x hx => by simp [edW, h1 x hx], fun x hx => by simp [edW, h2 x hx]⟩
theorem out_len : ∀ (l : List Eg), (outW l).length + (inpW l).length + 2 * l.length = cntE l
 | [] => rfl
 | e :: r => by have := out_len r; simp only [outW, inpW, cntE, List.length_append, List.length_cons]; omega
theorem outW_take {es : List Eg} {k : Nat} {e : Eg} (h : es[k]? = some e) : outW (es.take (k + 1)) = outW (es.take k) ++ e.2.2.2 := by rw [List.take_add_one, h, outW_append]; simp [outW]
theorem inpW_take {es : List Eg} {k : Nat} {e : Eg} (h : es[k]? = some e) : inpW (es.take (k + 1)) = inpW (es.take k) ++ e.2.2.1 := by rw [List.take_add_one, h, inpW_append]; simp [inpW]
theorem outW_le (es : List Eg) (k : Nat) : (outW (es.take k)).length ≤ (outW es).length := by
 conv => rhs; rw [← List.take_append_drop k es, outW_append, List.length_append]
 omega
theorem inpW_le (es : List Eg) (k : Nat) : (inpW (es.take k)).length ≤ (inpW es).length := by
 conv => rhs; rw [← List.take_append_drop k es, inpW_append, List.length_append]
 omega
set_option maxRecDepth 100000 in
set_option maxHeartbeats 8000000 in
theorem hgCounts_any {v : Value} {g : Gr} (w : World) (n : Nat) (h : RdGr w v g) (ok : OkG g) (hgn : g.1 = (n : Int)) (hnb : n ≤ 1048576) (hin : inW (n : Int) (t_allW g) = true) :
  Calls Tryz.prog 74 #[v] w fun e w' => ∃ (A B : Option Addr) (a b : Nat), e = .returned (.tuple #[.slice A n a, .slice B n b]) ∧ IS w' A a (cntM n (orgW g)) ∧ IS w' B b (cntM n (dstW g)) ∧ Fresh w.heap.size A ∧ Fresh w.heap.size B ∧ Below w.heap.size w w' := by
 obtain ⟨A, c, hs, ⟨B, b, s⟩, ⟨C, d, t⟩, rfl, e1, e2, e3, hE, hRa, hRb⟩ := h
 obtain ⟨z, es, s0, t0⟩ := g
 have a1 : es = hs.map egOf := e1
 have a2 : s = s0 := e2
 have a3 : t = t0 := e3
 have a4 : z = (n : Int) := hgn
 subst a2 a3 a4
 have hin0 : inW (n : Int) (s ++ (t ++ edW es)) = true := hin
 have hinS := inW_app_left hin0
 have hinT := inW_app_left (inW_app_right hin0)
 have hinE := inW_app_right (inW_app_right hin0)
 have hlen1 : es.length ≤ 1048576 := ok.1.1
 have hlen2 : s.length ≤ 1048576 := ok.1.2.1
 have hlen3 : t.length ≤ 1048576 := ok.1.2.2
 have hcnt : cntE es ≤ 8388608 := by have : cntE es + s.length + t.length ≤ 8388608 := ok.2.2; omega
 have hol := out_len es
 have hXl : s.length + (outW es).length ≤ 20000000 ∧ t.length + (inpW es).length ≤ 20000000 := by omega
 obtain ⟨m, hm⟩ : ∃ m, m = hs.length := ⟨_, rfl⟩
 obtain ⟨p, hp⟩ : ∃ p, p = s.length := ⟨_, rfl⟩
 obtain ⟨r, hr⟩ : ∃ r, r = t.length := ⟨_, rfl⟩
 have hmes : es.length = m := by rw [a1, List.length_map, hm]
 have horg : orgW ((n : Int), es, s, t) = s ++ outW es := rfl
 have hdst : dstW ((n : Int), es, s, t) = t ++ inpW es := rfl
 rw [horg, hdst]
 show Calls Tryz.prog _ #[.agg #[.int .i64 (n : Int), .slice A hs.length c, .slice B s.length b, .slice C t.length d]] w _
 rw [← hm, ← hp, ← hr]
 have hRa0 : RdI w B s := hRa
 have hRb0 : RdI w C t := hRb
 obtain ⟨W, hW, bW, k0⟩ := (⟨_, rfl, t_below_alloc _ _, heap_alloc_new _ _⟩ : ∃ W, W = w.alloc (.cells #[.int .i64 (n : Int), .slice A m c, .slice B p b, .slice C r d] tGr) ∧ Below w.heap.size w W ∧ W.heap[w.heap.size]? = some (.cells #[.int .i64 (n : Int), .slice A m c, .slice B p b, .slice C r d] tGr))
 obtain ⟨⟨c0, c1, c2, c3⟩, f0, f1, f2, f3⟩ := t_box4 k0
 have hpb : (p : Int) ≤ 1048576 := by omega
 have hrb : (r : Int) ≤ 1048576 := by omega
 have hmb : (m : Int) ≤ 1048576 := by omega
 clear hRa hRb hin hin0 ok e1 e2 e3 hgn hlen1 hlen2 hlen3 hol horg hdst; have hE_h := lH hE; have hRa0_h := lH hRa0; have hRb0_h := lH hRb0; have a1_h := lH a1; have hinS_h := lH hinS; have hinT_h := lH hinT; have hinE_h := lH hinE; have hcnt_h := lH hcnt; have hm_h := lH hm; have hp_h := lH hp; have hr_h := lH hr; have hmes_h := lH hmes; have bW_h := lH bW; have k0_h := lH k0; have hXl_h := lH hXl; clear hE hRa0 hRb0 a1 hinS hinT hinE hcnt hm hp hr hmes bW k0 hXl
 go_enter Tryz.func74, Tryz.ntmps74
 go_upto_region 1 with (fail)
 rw [← hW]
 clear hW
 go_upto_region 2 with (at_make; refine wpList_make_Sl _ rfl _ _ _ rfl 3 Tryz.underlying23 info_int n n rfl rfl rfl rfl (Nat.le_refl _) (by omega) (by unfold maxLen; omega) ?_; intro G1 w2 hs2 hG1 hb2)
 have hi2 : IS w2 (some G1) n (cntM n []) := by unfold IS; rw [cntM_length, ← madeCnt, ← madeZeros]; exact hs2
 have k2 := t_box_below k0_h.out hb2
 have hB2 := below_trans bW_h.out hb2 bW_h.out.size
 have hWw2 := hb2.size
 clear hs2 c0 c1 c2 c3 f0 f1 f2 f3 hb2
 obtain ⟨⟨c0, c1, c2, c3⟩, f0, f1, f2, f3⟩ := t_box4 k2
 have hi2_h := lH hi2; have k2_h := lH k2; have hB2_h := lH hB2; clear hi2 k2 hB2
 go_upto_region 3 with (at_make; refine wpList_make_Sl _ rfl _ _ _ rfl 3 Tryz.underlying23 info_int n n rfl rfl rfl rfl (Nat.le_refl _) (by omega) (by unfold maxLen; omega) ?_; intro G2 w3 hs3 hG2 hb3)
 have hi3 : IS w3 (some G2) n (cntM n []) := by unfold IS; rw [cntM_length, ← madeCnt, ← madeZeros]; exact hs3
 have hi1 := hi2_h.out.below hb3
 have k3 := t_box_below k2_h.out hb3
 have hB3 := below_trans hB2_h.out hb3 hB2_h.out.size
 have hWs := bW_h.out.size
 have h2s := hB2_h.out.size
 have hG12 : G1.block ≠ G2.block := by have := hi2_h.out.lt G1.block (by simp); omega
 have hG1w : w.heap.size ≤ G1.block := by omega
 have hG2w : w.heap.size ≤ G2.block := by omega
 clear hs3 c0 c1 c2 c3 f0 f1 f2 f3 hb3 hi2_h k2_h
 obtain ⟨⟨c0, c1, c2, c3⟩, f0, f1, f2, f3⟩ := t_box4 k3
 have hi3_h := lH hi3; have hi1_h := lH hi1; have k3_h := lH k3; have hB3_h := lH hB3; have hG12_h := lH hG12; clear hi3 hi1 k3 hB3 hG12
 go_wp2_with (fail)
 clear c0 c1 c2 c3 f0 f1 f2 f3
 go_loopw [25] (fun i wr => ∃ k : Nat, k ≤ p ∧ i = .int .i64 k ∧ IS wr (some G1) n (cntM n (([] : List Int) ++ s.take k)) ∧ Keeps (fun b => b = G1.block) w3 wr) (fun i _ => p - (intOf i).toNat)
 case atStart => exact ⟨0, Nat.zero_le _, rfl, by simpa using hi1_h.out, Keeps.refl _ _⟩
 case round =>
  obtain ⟨j, hj, rfl, hIS, hkp⟩ := hrel
  have hBr := below_keeps hB3_h.out hkp hB3_h.out.size (fun b e => by omega)
  by_cases hlj : j < p
  · obtain ⟨xd, x, rfl, hx, hxc⟩ := (hRa0_h.out.below hBr).at_ (j := j) (by rw [← hp_h.out]; exact hlj)
    obtain ⟨q, rfl, hqn⟩ := inW_at hinS_h.out hx
    obtain ⟨gd, hgd, hgb, hgc, hgf⟩ := hIS.getc hqn
    obtain rfl := Option.some.inj hgd
    have hset := hIS.set rfl (j := q) (((([] : List Int) ++ s.take j).count (q : Int) : Int) + 1) (by rw [cntM_length]; exact hqn)
    rw [← cntM_step hqn, List.append_assoc, show s.take j ++ [(q : Int)] = s.take (j + 1) by rw [List.take_add_one, hx]; rfl] at hset
    have hks := hkp.setCell (p := G1.add q) (by rw [block_of_add]) (.int .i64 (((([] : List Int) ++ s.take j).count (q : Int) : Int) + 1))
    have hcl := count_le (([] : List Int) ++ s.take j) (q : Int)
    rw [List.length_append, List.length_take] at hcl
    try rw [List.length_nil] at hcl
    obtain ⟨cv, hcv⟩ : ∃ cv : Nat, cv = (([] : List Int) ++ s.take j).count (q : Int) := ⟨_, rfl⟩
    rw [← hcv] at hgc hset hks hcl
    have hcvb : cv ≤ 100000000 := by have := hXl_h.out; omega
    have hqI : (q : Int) < (n : Int) := by omega
    have hjI : (j : Int) < (p : Int) := by omega
    clear hIS hkp hx hcv hcl hgd; have hset_h := lH hset; have hks_h := lH hks; have hBr_h := lH hBr; clear hset hks hBr
    skip
    go_wp2_with (fail)
    go_roundw
    case rel => exact ⟨j + 1, by omega, by go_num, hset_h.out, hks_h.out⟩
    case measure => simp [intOf]; omega
  · obtain rfl : p = j := by omega
    have hIS2 : IS wr (some G1) n (cntM n (([] : List Int) ++ s)) := by rwa [List.take_of_length_le (by rw [← hp_h.out]; exact Nat.le_refl _)] at hIS
    clear hIS
    obtain ⟨w4, rfl⟩ : ∃ x, x = wr := ⟨_, rfl⟩
    have k4 := t_box_keeps k3_h.out hkp (by have := t_box_lt k0_h.out; omega)
    have hi4 := hi3_h.out.keeps hkp (fun b hb e => by have := hG12_h.out; simp at hb; omega)
    obtain ⟨⟨c0, c1, c2, c3⟩, f0, f1, f2, f3⟩ := t_box4 k4
    rw [List.nil_append] at hIS2
    clear hkp k3_h hi3_h hi1_h hB3_h; have hi4_h := lH hi4; have hIS2_h := lH hIS2; have k4_h := lH k4; have hBr_h := lH hBr; clear hi4 hIS2 k4 hBr
    go_wp2_with (fail)
    clear c0 c1 c2 c3 f0 f1 f2 f3
    go_loopw [39] (fun i wr => ∃ k : Nat, k ≤ r ∧ i = .int .i64 k ∧ IS wr (some G2) n (cntM n (([] : List Int) ++ t.take k)) ∧ Keeps (fun b => b = G2.block) w4 wr) (fun i _ => r - (intOf i).toNat)
    case atStart => exact ⟨0, Nat.zero_le _, rfl, by simpa using hi4_h.out, Keeps.refl _ _⟩
    case round =>
     obtain ⟨j, hj, rfl, hIS, hkp⟩ := hrel
     have hBr := below_keeps hBr_h.out hkp hBr_h.out.size (fun b e => by omega)
     by_cases hlj : j < r
     · obtain ⟨xd, x, rfl, hx, hxc⟩ := (hRb0_h.out.below hBr).at_ (j := j) (by rw [← hr_h.out]; exact hlj)
       obtain ⟨q, rfl, hqn⟩ := inW_at hinT_h.out hx
       obtain ⟨gd, hgd, hgb, hgc, hgf⟩ := hIS.getc hqn
       obtain rfl := Option.some.inj hgd
       have hset := hIS.set rfl (j := q) (((([] : List Int) ++ t.take j).count (q : Int) : Int) + 1) (by rw [cntM_length]; exact hqn)
       rw [← cntM_step hqn, List.append_assoc, show t.take j ++ [(q : Int)] = t.take (j + 1) by rw [List.take_add_one, hx]; rfl] at hset
       have hks := hkp.setCell (p := G2.add q) (by rw [block_of_add]) (.int .i64 (((([] : List Int) ++ t.take j).count (q : Int) : Int) + 1))
       have hcl := count_le (([] : List Int) ++ t.take j) (q : Int)
       rw [List.length_append, List.length_take] at hcl
       try rw [List.length_nil] at hcl
       obtain ⟨cv, hcv⟩ : ∃ cv : Nat, cv = (([] : List Int) ++ t.take j).count (q : Int) := ⟨_, rfl⟩
       rw [← hcv] at hgc hset hks hcl
       have hcvb : cv ≤ 100000000 := by have := hXl_h.out; omega
       have hqI : (q : Int) < (n : Int) := by omega
       have hjI : (j : Int) < (r : Int) := by omega
       clear hIS hkp hx hcv hcl hgd; have hset_h := lH hset; have hks_h := lH hks; have hBr_h := lH hBr; clear hset hks hBr
       skip
       go_wp2_with (fail)
       go_roundw
       case rel => exact ⟨j + 1, by omega, by go_num, hset_h.out, hks_h.out⟩
       case measure => simp [intOf]; omega
     · obtain rfl : r = j := by omega
       have hIS2 : IS wr (some G2) n (cntM n (([] : List Int) ++ t)) := by rwa [List.take_of_length_le (by rw [← hr_h.out]; exact Nat.le_refl _)] at hIS
       clear hIS
       obtain ⟨w5, rfl⟩ : ∃ x, x = wr := ⟨_, rfl⟩
       have k5 := t_box_keeps k4_h.out hkp (by have := t_box_lt k0_h.out; omega)
       have hi5 := hIS2_h.out.keeps hkp (fun b hb e => by have := hG12_h.out; simp at hb; omega)
       obtain ⟨⟨c0, c1, c2, c3⟩, f0, f1, f2, f3⟩ := t_box4 k5
       rw [List.nil_append] at hIS2
       have hB5 := hBr
       clear hkp k4_h hi4_h hIS2_h hBr hBr_h
       have hs0 : IS w5 (some G1) n (cntM n (s ++ outW (es.take 0))) := by simpa [outW] using hi5
       have ht0 : IS w5 (some G2) n (cntM n (t ++ inpW (es.take 0))) := by simpa [inpW] using hIS2
       clear hi5 hIS2; have hs0_h := lH hs0; have ht0_h := lH ht0; have k5_h := lH k5; have hB5_h := lH hB5; clear hs0 ht0 k5 hB5
       go_wp2_with (fail)
       clear c0 c1 c2 c3 f0 f1 f2 f3 k5_h
       go_loopw [53] (fun i wr => ∃ k : Nat, k ≤ m ∧ i = .int .i64 k ∧ IS wr (some G1) n (cntM n (s ++ outW (es.take k))) ∧ IS wr (some G2) n (cntM n (t ++ inpW (es.take k))) ∧ Below w.heap.size w wr) (fun i _ => m - (intOf i).toNat)
       case atStart => exact ⟨0, Nat.zero_le _, rfl, hs0_h.out, ht0_h.out, hB5_h.out⟩
       case round =>
        clear hs0_h ht0_h hB5_h
        obtain ⟨k, hk, rfl, hi1, hi2, hB6⟩ := hrel
        by_cases hlt : k < m
        · obtain ⟨ad, κ, vv, B1, b1, s1, C1, b2, t1, rfl, hn, ⟨d0, d1, d2, d3⟩, hr1, hr2⟩ := (hE_h.out.below hB6).at_ (j := k) (by rw [← hm_h.out]; exact hlt)
          have hek : es[k]? = some (κ, vv, s1, t1) := by rw [a1_h.out, List.getElem?_map, hn]; rfl
          obtain ⟨hm1, hm2⟩ := mem_edW_of (List.mem_of_getElem? hek)
          have hinA := inW_sub hinE_h.out hm1
          have hinB := inW_sub hinE_h.out hm2
          have htk1 := outW_take hek
          have htk2 := inpW_take hek
          have hle1 := outW_le es (k + 1)
          have hle2 := inpW_le es (k + 1)
          rw [htk1, List.length_append] at hle1
          rw [htk2, List.length_append] at hle2
          have hXl0 := hXl_h.out
          have hXl : (s ++ outW (es.take k)).length + t1.length ≤ 20000000 ∧ (t ++ inpW (es.take k)).length + s1.length ≤ 20000000 := by
           rw [List.length_append, List.length_append]
           have e1 : ((κ, vv, s1, t1) : Eg).2.2.2.length = t1.length := rfl
           have e2 : ((κ, vv, s1, t1) : Eg).2.2.1.length = s1.length := rfl
           omega
          obtain ⟨X, hX⟩ : ∃ X, X = s ++ outW (es.take k) := ⟨_, rfl⟩
          obtain ⟨Y, hY⟩ : ∃ Y, Y = t ++ inpW (es.take k) := ⟨_, rfl⟩
          rw [← hX] at hi1 hXl
          rw [← hY] at hi2 hXl
          obtain ⟨p1, hp1⟩ : ∃ p1, p1 = s1.length := ⟨_, rfl⟩
          obtain ⟨r1, hr1'⟩ : ∃ r1, r1 = t1.length := ⟨_, rfl⟩
          rw [← hp1] at d2
          rw [← hr1'] at d3
          have hp1b : (p1 : Int) ≤ 20000000 := by omega
          have hr1b : (r1 : Int) ≤ 20000000 := by omega
          have hkI : (k : Int) < (m : Int) := by omega
          obtain ⟨wo, rfl⟩ : ∃ x, x = wr := ⟨_, rfl⟩
          obtain ⟨W6, hW6, bW6, k6⟩ := (⟨_, rfl, t_below_alloc _ _, heap_alloc_new _ _⟩ : ∃ W, W = wo.alloc (.cells #[.int .i64 κ, .int .i64 vv, .slice B1 p1 b1, .slice C1 r1 b2] tEd) ∧ Below wo.heap.size wo W ∧ W.heap[wo.heap.size]? = some (.cells #[.int .i64 κ, .int .i64 vv, .slice B1 p1 b1, .slice C1 r1 b2] tEd))
          have hB7 := below_trans hB6 bW6 hB6.size
          have hj1 := hi1.below bW6
          have hj2 := hi2.below bW6
          have hq1 : G1.block < wo.heap.size := hi1.lt G1.block (by simp)
          have hq2 : G2.block < wo.heap.size := hi2.lt G2.block (by simp)
          have hrA : RdI w B1 s1 := (hE_h.out.2 _ (List.mem_of_getElem? hn)).1
          have hrB : RdI w C1 t1 := (hE_h.out.2 _ (List.mem_of_getElem? hn)).2
          obtain ⟨⟨c0, c1, c2, c3⟩, f0, f1, f2, f3⟩ := t_box4 k6
          clear hr1 hr2 hn hm1 hm2 hle1 hle2 hXl0 hi1 hi2 hek; have hr1_h := lH hr1'; clear hr1'; have hinA_h := lH hinA; have hinB_h := lH hinB; have htk1_h := lH htk1; have htk2_h := lH htk2; have hXl_h := lH hXl; have hX_h := lH hX; have hY_h := lH hY; have hp1_h := lH hp1; have bW6_h := lH bW6; have k6_h := lH k6; have hB7_h := lH hB7; have hj1_h := lH hj1; have hj2_h := lH hj2; have hrA_h := lH hrA; have hrB_h := lH hrB; have hB6_h := lH hB6; clear hinA hinB htk1 htk2 hXl hX hY hp1 bW6 k6 hB7 hj1 hj2 hrA hrB hB6
          go_upto_region 16 with (fail)
          rw [← hW6]
          clear hW6
          go_wp2_with (fail)
          clear c0 c1 c2 c3 f0 f1 f2 f3 d0 d1 d2 d3
          go_loopw [60] (fun i wr => ∃ k : Nat, k ≤ r1 ∧ i = .int .i64 k ∧ IS wr (some G1) n (cntM n (X ++ t1.take k)) ∧ Keeps (fun b => b = G1.block) W6 wr) (fun i _ => r1 - (intOf i).toNat)
          case atStart => exact ⟨0, Nat.zero_le _, rfl, by simpa using hj1_h.out, Keeps.refl _ _⟩
          case round =>
           obtain ⟨j, hj, rfl, hIS, hkp⟩ := hrel
           have hBr := below_keeps hB7_h.out hkp hB7_h.out.size (fun b e => by omega)
           by_cases hlj : j < r1
           · obtain ⟨xd, x, rfl, hx, hxc⟩ := (hrB_h.out.below hBr).at_ (j := j) (by rw [← hr1_h.out]; exact hlj)
             obtain ⟨q, rfl, hqn⟩ := inW_at hinB_h.out hx
             obtain ⟨gd, hgd, hgb, hgc, hgf⟩ := hIS.getc hqn
             obtain rfl := Option.some.inj hgd
             have hset := hIS.set rfl (j := q) (((X ++ t1.take j).count (q : Int) : Int) + 1) (by rw [cntM_length]; exact hqn)
             rw [← cntM_step hqn, List.append_assoc, show t1.take j ++ [(q : Int)] = t1.take (j + 1) by rw [List.take_add_one, hx]; rfl] at hset
             have hks := hkp.setCell (p := G1.add q) (by rw [block_of_add]) (.int .i64 (((X ++ t1.take j).count (q : Int) : Int) + 1))
             have hcl := count_le (X ++ t1.take j) (q : Int)
             rw [List.length_append, List.length_take] at hcl
             try rw [List.length_nil] at hcl
             obtain ⟨cv, hcv⟩ : ∃ cv : Nat, cv = (X ++ t1.take j).count (q : Int) := ⟨_, rfl⟩
             rw [← hcv] at hgc hset hks hcl
             have hcvb : cv ≤ 100000000 := by have := hXl_h.out; omega
             have hqI : (q : Int) < (n : Int) := by omega
             have hjI : (j : Int) < (r1 : Int) := by omega
             clear hIS hkp hx hcv hcl hgd; have hset_h := lH hset; have hks_h := lH hks; have hBr_h := lH hBr; clear hset hks hBr
             skip
             go_wp2_with (fail)
             go_roundw
             case rel => exact ⟨j + 1, by omega, by go_num, hset_h.out, hks_h.out⟩
             case measure => simp [intOf]; omega
           · obtain rfl : r1 = j := by omega
             have hIS2 : IS wr (some G1) n (cntM n (X ++ t1)) := by rwa [List.take_of_length_le (by rw [← hr1_h.out]; exact Nat.le_refl _)] at hIS
             clear hIS
             obtain ⟨w7, rfl⟩ : ∃ x, x = wr := ⟨_, rfl⟩
             have k7 := t_box_keeps k6_h.out hkp (by omega)
             have hj7 := hj2_h.out.keeps hkp (fun b hb e => by have := hG12_h.out; simp at hb; omega)
             obtain ⟨⟨c0, c1, c2, c3⟩, f0, f1, f2, f3⟩ := t_box4 k7
             have hB8 := hBr
             clear hkp k6_h hj1_h hj2_h hB7_h k7 hBr; have hj7_h := lH hj7; have hIS2_h := lH hIS2; have hB8_h := lH hB8; clear hj7 hIS2 hB8
             go_wp2_with (fail)
             clear c0 c1 c2 c3 f0 f1 f2 f3
             go_loopw [74] (fun i wr => ∃ k : Nat, k ≤ p1 ∧ i = .int .i64 k ∧ IS wr (some G2) n (cntM n (Y ++ s1.take k)) ∧ Keeps (fun b => b = G2.block) w7 wr) (fun i _ => p1 - (intOf i).toNat)
             case atStart => exact ⟨0, Nat.zero_le _, rfl, by simpa using hj7_h.out, Keeps.refl _ _⟩
             case round =>
              obtain ⟨j, hj, rfl, hIS, hkp⟩ := hrel
              have hBr := below_keeps hB8_h.out hkp hB8_h.out.size (fun b e => by omega)
              by_cases hlj : j < p1
              · obtain ⟨xd, x, rfl, hx, hxc⟩ := (hrA_h.out.below hBr).at_ (j := j) (by rw [← hp1_h.out]; exact hlj)
                obtain ⟨q, rfl, hqn⟩ := inW_at hinA_h.out hx
                obtain ⟨gd, hgd, hgb, hgc, hgf⟩ := hIS.getc hqn
                obtain rfl := Option.some.inj hgd
                have hset := hIS.set rfl (j := q) (((Y ++ s1.take j).count (q : Int) : Int) + 1) (by rw [cntM_length]; exact hqn)
                rw [← cntM_step hqn, List.append_assoc, show s1.take j ++ [(q : Int)] = s1.take (j + 1) by rw [List.take_add_one, hx]; rfl] at hset
                have hks := hkp.setCell (p := G2.add q) (by rw [block_of_add]) (.int .i64 (((Y ++ s1.take j).count (q : Int) : Int) + 1))
                have hcl := count_le (Y ++ s1.take j) (q : Int)
                rw [List.length_append, List.length_take] at hcl
                try rw [List.length_nil] at hcl
                obtain ⟨cv, hcv⟩ : ∃ cv : Nat, cv = (Y ++ s1.take j).count (q : Int) := ⟨_, rfl⟩
                rw [← hcv] at hgc hset hks hcl
                have hcvb : cv ≤ 100000000 := by have := hXl_h.out; omega
                have hqI : (q : Int) < (n : Int) := by omega
                have hjI : (j : Int) < (p1 : Int) := by omega
                clear hIS hkp hx hcv hcl hgd; have hset_h := lH hset; have hks_h := lH hks; have hBr_h := lH hBr; clear hset hks hBr
                skip
                go_wp2_with (fail)
                go_roundw
                case rel => exact ⟨j + 1, by omega, by go_num, hset_h.out, hks_h.out⟩
                case measure => simp [intOf]; omega
              · obtain rfl : p1 = j := by omega
                have hIS2 : IS wr (some G2) n (cntM n (Y ++ s1)) := by rwa [List.take_of_length_le (by rw [← hp1_h.out]; exact Nat.le_refl _)] at hIS
                clear hIS
                have hj8 := hIS2_h.out.keeps hkp (fun b hb e => by have := hG12_h.out; simp at hb; omega)
                have e1 : IS wr (some G1) n (cntM n (s ++ outW (es.take (k + 1)))) := by rw [htk1_h.out, ← List.append_assoc, ← hX_h.out]; exact hj8
                have e2 : IS wr (some G2) n (cntM n (t ++ inpW (es.take (k + 1)))) := by rw [htk2_h.out, ← List.append_assoc, ← hY_h.out]; exact hIS2
                clear hj8 hIS2 hkp; have e1_h := lH e1; have e2_h := lH e2; have hBr_h := lH hBr; clear e1 e2 hBr
                go_wp2_with (fail)
                go_roundw
                case rel => exact ⟨k + 1, by omega, by go_num, e1_h.out, e2_h.out, hBr_h.out⟩
                case measure => simp [intOf]; omega
        · obtain rfl : m = k := by omega
          rw [List.take_of_length_le (by rw [hmes_h.out]; exact Nat.le_refl _)] at hi1 hi2
          have hff1 : Fresh w.heap.size (some G1) := fun b hb => by simp at hb; omega
          have hff2 : Fresh w.heap.size (some G2) := fun b hb => by simp at hb; omega
          have hi1_h := lH hi1; have hi2_h := lH hi2; have hB6_h := lH hB6; have hff1_h := lH hff1; have hff2_h := lH hff2; clear hi1 hi2 hB6 hff1 hff2
          go_wp2_with (fail)
          go_ret2
          exact ⟨some G1, some G2, n, n, rfl, hi1_h.out, hi2_h.out, hff1_h.out, hff2_h.out, hB6_h.out⟩
theorem grB_eq (g : Gr) : grB g = (t_inB g.1 0 100 && (decide (g.2.1.length ≤ 60) && (decide (g.2.2.1.length ≤ 12) && (decide (g.2.2.2.length ≤ 12) && (inW g.1 g.2.2.1 && (inW g.1 g.2.2.2 && (g.2.1.all (hgB g.1) && fullW g.1 (t_allW g)))))))) := by
 unfold grB
 rw [hgB_all]
 have e : inW g.1 (t_allW g) = (inW g.1 g.2.2.1 && (inW g.1 g.2.2.2 && inW g.1 (edW g.2.1))) := by unfold t_allW; rw [inW_append, inW_append]
 rw [e]
 cases t_inB g.1 0 100 <;> cases decide (g.2.1.length ≤ 60) <;> cases decide (g.2.2.1.length ≤ 12) <;> cases decide (g.2.2.2.length ≤ 12) <;> cases inW g.1 g.2.2.1 <;> cases inW g.1 g.2.2.2 <;> cases g.2.1.all egB <;> cases inW g.1 (edW g.2.1) <;> cases fullW g.1 (t_allW g) <;> rfl
theorem count_zero {g : Gr} {k : Nat} : ((orgW g).count (k : Int) = 0 ∧ (dstW g).count (k : Int) = 0) ↔ (t_allW g).contains (k : Int) = false := by
 rw [List.count_eq_zero, List.count_eq_zero, Bool.eq_false_iff, ne_eq, List.contains_iff_mem, mem_allW]
 exact ⟨fun h hm => hm.elim h.1 h.2, fun h => ⟨fun a => h (.inl a), fun a => h (.inr a)⟩⟩
set_option maxRecDepth 100000 in
set_option maxHeartbeats 8000000 in
theorem hgValid_any {v : Value} {g : Gr} (w : World) (h : RdGr w v g) (ok : OkG g) :
  Calls Tryz.prog 52 #[v] w fun e w' => e = .returned (.bool (grB g)) ∧ Below w.heap.size w w' := by
 have hG0 := h
 obtain ⟨A, c, hs, ⟨B, b, s⟩, ⟨C, d, t⟩, rfl, e1, e2, e3, hE, hRa, hRb⟩ := h
 obtain ⟨z, es, s0, t0⟩ := g
 have a1 : es = hs.map egOf := e1
 have a2 : s = s0 := e2
 have a3 : t = t0 := e3
 subst a2 a3
 have hok := ok
 have hlen1 : es.length ≤ 1048576 := ok.1.1
 have hlen2 : s.length ≤ 1048576 := ok.1.2.1
 have hlen3 : t.length ≤ 1048576 := ok.1.2.2
 have hlE : ∀ x, x ∈ hs → x.2.2.1.2.2.length ≤ 1048576 ∧ x.2.2.2.2.2.length ≤ 1048576 := fun x hx => ok.2.1 _ (by show egOf x ∈ es; rw [a1]; exact List.mem_map_of_mem hx)
 obtain ⟨D, hD⟩ : ∃ D, D = grB (z, es, s, t) := ⟨_, rfl⟩
 have hDD := hD
 rw [grB_eq] at hDD
 simp only at hDD
 rw [← hD]
 obtain ⟨m, hm⟩ : ∃ m, m = hs.length := ⟨_, rfl⟩
 obtain ⟨p, hp⟩ : ∃ p, p = s.length := ⟨_, rfl⟩
 obtain ⟨r, hr⟩ : ∃ r, r = t.length := ⟨_, rfl⟩
 have hmes : es.length = m := by rw [a1, List.length_map, hm]
 have hRa0 : RdI w B s := hRa
 have hRb0 : RdI w C t := hRb
 rw [hmes, ← hp, ← hr] at hDD
 change RdGr w (.agg #[.int .i64 z, .slice A hs.length c, .slice B s.length b, .slice C t.length d]) (z, es, s, t) at hG0
 rw [← hm, ← hp, ← hr] at hG0
 show Calls Tryz.prog _ #[.agg #[.int .i64 z, .slice A hs.length c, .slice B s.length b, .slice C t.length d]] w _
 rw [← hm, ← hp, ← hr]
 obtain ⟨W, hW, bW, k0⟩ := (⟨_, rfl, t_below_alloc _ _, heap_alloc_new _ _⟩ : ∃ W, W = w.alloc (.cells #[.int .i64 z, .slice A m c, .slice B p b, .slice C r d] tGr) ∧ Below w.heap.size w W ∧ W.heap[w.heap.size]? = some (.cells #[.int .i64 z, .slice A m c, .slice B p b, .slice C r d] tGr))
 obtain ⟨⟨c0, c1, c2, c3⟩, f0, f1, f2, f3⟩ := t_box4 k0
 have hI := fun (W : World) => t_l1In_any z 0 100 W
 have hA1 := fun (W : World) (hb : Below w.heap.size w W) => t_l1All_any B b p s 0 (z - 1) W (RdI.below hRa0 hb) hp.symm (by omega)
 have hA2 := fun (W : World) (hb : Below w.heap.size w W) => t_l1All_any C d r t 0 (z - 1) W (RdI.below hRb0 hb) hr.symm (by omega)
 obtain ⟨D1, hD1⟩ : ∃ D, D = inW z s := ⟨_, rfl⟩
 obtain ⟨D2, hD2⟩ : ∃ D, D = inW z t := ⟨_, rfl⟩
 have hD1' : (s.all fun x => t_inB x 0 (z - 1)) = D1 := hD1.symm
 have hD2' : (t.all fun x => t_inB x 0 (z - 1)) = D2 := hD2.symm
 simp only [hD1'] at hA1
 simp only [hD2'] at hA2
 rw [← hD1, ← hD2] at hDD
 clear hRa hRb ok e1 e2 e3 hD1' hD2' hRa0 hRb0
 by_cases h0 : t_inB z 0 100 = true
 case neg =>
  have h0' : t_inB z 0 100 = false := by simpa using h0
  obtain rfl : D = false := by rw [hDD, h0']; rfl
  simp only [h0'] at hI
  clear h0 h0'; have hI_h := lH hI; have hA1_h := lH hA1; have hA2_h := lH hA2; have k0_h := lH k0; have bW_h := lH bW; have hm_h := lH hm; have hp_h := lH hp; have hr_h := lH hr; have hD_h := lH hD; have hDD_h := lH hDD; have hmes_h := lH hmes; have hlE_h := lH hlE; have hok_h := lH hok; have a1_h := lH a1; have hE_h := lH hE; have hG0_h := lH hG0; have hD1_h := lH hD1; have hD2_h := lH hD2; clear hI hA1 hA2 k0 bW hm hp hr hD hDD hmes hlE hok a1 hE hG0 hD1 hD2
  go_enter Tryz.func52, Tryz.ntmps52
  go_upto_region 1 with (fail)
  rw [← hW]
  clear hW
  go_wp2_with (fail)
  refine (hI_h.out _).mono ?_
  rintro e w1 ⟨rfl, rfl⟩
  go_wp2_with (fail)
  go_ret
  exact ⟨rfl, bW_h.out⟩
 have hz : 0 ≤ z ∧ z ≤ 100 := of_decide_eq_true h0
 simp only [h0] at hI
 rw [h0, Bool.true_and] at hDD
 clear h0
 have wz : IntKind.i64.wrap (z - 1) = z - 1 := IntWalk.i64_in _ (by omega)
 by_cases h1 : m ≤ 60
 case neg =>
  obtain rfl : D = false := by rw [hDD, decide_eq_false h1]; rfl
  have h1' : ¬ ((m : Int) ≤ 60) := by omega
  have hI_h := lH hI; have hA1_h := lH hA1; have hA2_h := lH hA2; have k0_h := lH k0; have bW_h := lH bW; have hm_h := lH hm; have hp_h := lH hp; have hr_h := lH hr; have hD_h := lH hD; have hDD_h := lH hDD; have hmes_h := lH hmes; have hlE_h := lH hlE; have hok_h := lH hok; have a1_h := lH a1; have hE_h := lH hE; have hG0_h := lH hG0; have hD1_h := lH hD1; have hD2_h := lH hD2; clear hI hA1 hA2 k0 bW hm hp hr hD hDD hmes hlE hok a1 hE hG0 hD1 hD2
  go_enter Tryz.func52, Tryz.ntmps52
  go_upto_region 1 with (fail)
  rw [← hW]
  clear hW
  go_wp2_with (fail)
  refine (hI_h.out _).mono ?_
  rintro e w1 ⟨rfl, rfl⟩
  go_wp2_with (fail)
  go_ret
  exact ⟨rfl, bW_h.out⟩
 rw [decide_eq_true h1, Bool.true_and] at hDD
 have h1' : (m : Int) ≤ 60 := by omega
 by_cases h2 : p ≤ 12
 case neg =>
  obtain rfl : D = false := by rw [hDD, decide_eq_false h2]; rfl
  have h2' : ¬ ((p : Int) ≤ 12) := by omega
  have hI_h := lH hI; have hA1_h := lH hA1; have hA2_h := lH hA2; have k0_h := lH k0; have bW_h := lH bW; have hm_h := lH hm; have hp_h := lH hp; have hr_h := lH hr; have hD_h := lH hD; have hDD_h := lH hDD; have hmes_h := lH hmes; have hlE_h := lH hlE; have hok_h := lH hok; have a1_h := lH a1; have hE_h := lH hE; have hG0_h := lH hG0; have hD1_h := lH hD1; have hD2_h := lH hD2; clear hI hA1 hA2 k0 bW hm hp hr hD hDD hmes hlE hok a1 hE hG0 hD1 hD2
  go_enter Tryz.func52, Tryz.ntmps52
  go_upto_region 1 with (fail)
  rw [← hW]
  clear hW
  go_wp2_with (fail)
  refine (hI_h.out _).mono ?_
  rintro e w1 ⟨rfl, rfl⟩
  go_wp2_with (fail)
  go_ret
  exact ⟨rfl, bW_h.out⟩
 rw [decide_eq_true h2, Bool.true_and] at hDD
 have h2' : (p : Int) ≤ 12 := by omega
 by_cases h3 : r ≤ 12
 case neg =>
  obtain rfl : D = false := by rw [hDD, decide_eq_false h3]; rfl
  have h3' : ¬ ((r : Int) ≤ 12) := by omega
  have hI_h := lH hI; have hA1_h := lH hA1; have hA2_h := lH hA2; have k0_h := lH k0; have bW_h := lH bW; have hm_h := lH hm; have hp_h := lH hp; have hr_h := lH hr; have hD_h := lH hD; have hDD_h := lH hDD; have hmes_h := lH hmes; have hlE_h := lH hlE; have hok_h := lH hok; have a1_h := lH a1; have hE_h := lH hE; have hG0_h := lH hG0; have hD1_h := lH hD1; have hD2_h := lH hD2; clear hI hA1 hA2 k0 bW hm hp hr hD hDD hmes hlE hok a1 hE hG0 hD1 hD2
  go_enter Tryz.func52, Tryz.ntmps52
  go_upto_region 1 with (fail)
  rw [← hW]
  clear hW
  go_wp2_with (fail)
  refine (hI_h.out _).mono ?_
  rintro e w1 ⟨rfl, rfl⟩
  go_wp2_with (fail)
  go_ret
  exact ⟨rfl, bW_h.out⟩
 rw [decide_eq_true h3, Bool.true_and] at hDD
 have h3' : (r : Int) ≤ 12 := by omega
 cases D1
 case false =>
  obtain rfl : D = false := by rw [hDD]; rfl
  have hI_h := lH hI; have hA1_h := lH hA1; have hA2_h := lH hA2; have k0_h := lH k0; have bW_h := lH bW; have hm_h := lH hm; have hp_h := lH hp; have hr_h := lH hr; have hD_h := lH hD; have hDD_h := lH hDD; have hmes_h := lH hmes; have hlE_h := lH hlE; have hok_h := lH hok; have a1_h := lH a1; have hE_h := lH hE; have hG0_h := lH hG0; have hD1_h := lH hD1; have hD2_h := lH hD2; clear hI hA1 hA2 k0 bW hm hp hr hD hDD hmes hlE hok a1 hE hG0 hD1 hD2
  go_enter Tryz.func52, Tryz.ntmps52
  go_upto_region 1 with (fail)
  rw [← hW]
  clear hW
  go_wp2_with (fail)
  refine (hI_h.out _).mono ?_
  rintro e w1 ⟨rfl, rfl⟩
  go_wp2_with (fail)
  refine (hA1_h.out _ bW_h.out).mono ?_
  rintro e w1 ⟨rfl, rfl⟩
  go_wp2_with (fail)
  go_ret
  exact ⟨rfl, bW_h.out⟩
 rw [Bool.true_and] at hDD
 cases D2
 case false =>
  obtain rfl : D = false := by rw [hDD]; rfl
  have hI_h := lH hI; have hA1_h := lH hA1; have hA2_h := lH hA2; have k0_h := lH k0; have bW_h := lH bW; have hm_h := lH hm; have hp_h := lH hp; have hr_h := lH hr; have hD_h := lH hD; have hDD_h := lH hDD; have hmes_h := lH hmes; have hlE_h := lH hlE; have hok_h := lH hok; have a1_h := lH a1; have hE_h := lH hE; have hG0_h := lH hG0; have hD1_h := lH hD1; have hD2_h := lH hD2; clear hI hA1 hA2 k0 bW hm hp hr hD hDD hmes hlE hok a1 hE hG0 hD1 hD2
  go_enter Tryz.func52, Tryz.ntmps52
  go_upto_region 1 with (fail)
  rw [← hW]
  clear hW
  go_wp2_with (fail)
  refine (hI_h.out _).mono ?_
  rintro e w1 ⟨rfl, rfl⟩
  go_wp2_with (fail)
  refine (hA1_h.out _ bW_h.out).mono ?_
  rintro e w1 ⟨rfl, rfl⟩
  go_wp2_with (fail)
  refine (hA2_h.out _ bW_h.out).mono ?_
  rintro e w1 ⟨rfl, rfl⟩
  go_wp2_with (fail)
  go_ret
  exact ⟨rfl, bW_h.out⟩
 rw [Bool.true_and] at hDD
 have hI_h := lH hI; have hA1_h := lH hA1; have hA2_h := lH hA2; have k0_h := lH k0; have bW_h := lH bW; have hm_h := lH hm; have hp_h := lH hp; have hr_h := lH hr; have hD_h := lH hD; have hDD_h := lH hDD; have hmes_h := lH hmes; have hlE_h := lH hlE; have hok_h := lH hok; have a1_h := lH a1; have hE_h := lH hE; have hG0_h := lH hG0; have hD1_h := lH hD1; have hD2_h := lH hD2; clear hI hA1 hA2 k0 bW hm hp hr hD hDD hmes hlE hok a1 hE hG0 hD1 hD2
 go_enter Tryz.func52, Tryz.ntmps52
 go_upto_region 1 with (fail)
 rw [← hW]
 clear hW
 go_wp2_with (fail)
 refine (hI_h.out _).mono ?_
 rintro e w1 ⟨rfl, rfl⟩
 go_wp2_with (fail)
 refine (hA1_h.out _ bW_h.out).mono ?_
 rintro e w1 ⟨rfl, rfl⟩
 go_wp2_with (fail)
 refine (hA2_h.out _ bW_h.out).mono ?_
 rintro e w1 ⟨rfl, rfl⟩
 obtain ⟨W, rfl⟩ : ∃ x, x = w1 := ⟨_, rfl⟩
 go_wp2_with (fail)
 clear c0 c1 c2 c3 f0 f1 f2 f3
 go_loopw [51] (fun i wr => ∃ k : Nat, k ≤ m ∧ i = .int .i64 k ∧ (es.take k).all (hgB z) = true ∧ Below W.heap.size W wr) (fun i _ => m - (intOf i).toNat)
 case atStart => exact ⟨0, Nat.zero_le _, rfl, by simp, Below.refl _ _⟩
 case round =>
  obtain ⟨k, hk, rfl, hall, hB1⟩ := hrel
  have kr := t_box_below k0_h.out hB1
  have hBw := below_trans bW_h.out hB1 bW_h.out.size
  by_cases hlt : k < m
  · obtain ⟨ad, κ, vv, B1, b1, s1, C1, b2, t1, rfl, hn, ⟨d0, d1, d2, d3⟩, hr1, hr2⟩ := (hE_h.out.below hBw).at_ (j := k) (by rw [← hm_h.out]; exact hlt)
    have hek : es[k]? = some (κ, vv, s1, t1) := by rw [a1_h.out, List.getElem?_map, hn]; rfl
    have hln := hlE_h.out _ (List.mem_of_getElem? hn)
    obtain ⟨wo, rfl⟩ : ∃ x, x = wr := ⟨_, rfl⟩
    have hC := fun (W' : World) (hb : Below wo.heap.size wo W') => hgEdge_any κ vv B1 C1 b1 b2 s1 t1 z W' (hr1.below hb) (hr2.below hb) hln.1 hln.2 (by omega) (by omega)
    obtain ⟨p1, hp1⟩ : ∃ p1, p1 = s1.length := ⟨_, rfl⟩
    obtain ⟨r1, hr1'⟩ : ∃ r1, r1 = t1.length := ⟨_, rfl⟩
    simp only [← hp1, ← hr1'] at hC
    rw [← hp1] at d2
    rw [← hr1'] at d3
    obtain ⟨W6, hW6, bW6, k6⟩ := (⟨_, rfl, t_below_alloc _ _, heap_alloc_new _ _⟩ : ∃ W, W = wo.alloc (.cells #[.int .i64 κ, .int .i64 vv, .slice B1 p1 b1, .slice C1 r1 b2] tEd) ∧ Below wo.heap.size wo W ∧ W.heap[wo.heap.size]? = some (.cells #[.int .i64 κ, .int .i64 vv, .slice B1 p1 b1, .slice C1 r1 b2] tEd))
    have hCW := hC W6 bW6
    have hkI : (k : Int) < (m : Int) := by omega
    have kr6 := t_box_below kr bW6
    have hBW6 := below_trans hB1 bW6 hB1.size
    obtain ⟨⟨c0, c1, c2, c3⟩, f0, f1, f2, f3⟩ := t_box4 k6
    obtain ⟨⟨y0, y1, y2, y3⟩, g0, g1, g2, g3⟩ := t_box4 kr6
    obtain ⟨H, hH⟩ : ∃ H, H = hgB z (κ, vv, s1, t1) := ⟨_, rfl⟩
    rw [← hH] at hCW
    have hr1_h := lH hr1'; clear hr1' hr1 hr2 hn hln hC kr hB1 kr6; have hCW_h := lH hCW; have hek_h := lH hek; have hall_h := lH hall; have hp1_h := lH hp1; have bW6_h := lH bW6; have k6_h := lH k6; have hBW6_h := lH hBW6; have hBw_h := lH hBw; have hH_h := lH hH; clear hCW hek hall hp1 bW6 k6 hBW6 hBw hH
    go_upto_region 6 with (fail)
    rw [← hW6]
    clear hW6
    go_wp2_with (fail)
    refine (hCW_h.out).mono ?_
    rintro e w7 ⟨rfl, hb7⟩
    have hB8 := below_trans hBW6_h.out hb7 hBW6_h.out.size
    clear hb7 c0 c1 c2 c3 f0 f1 f2 f3 y0 y1 y2 y3 g0 g1 g2 g3 d0 d1 d2 d3
    cases H
    · have hf : D = false := by
       rw [hDD_h.out, show es.all (hgB z) = false from ?_]; rfl
       rw [Bool.eq_false_iff]
       intro hh
       have := List.all_eq_true.1 hh _ (List.mem_of_getElem? hek_h.out)
       rw [← hH_h.out] at this; cases this
      subst hf
      have hBz := below_trans bW_h.out hB8 bW_h.out.size
      have hB8_h := lH hB8; have hBz_h := lH hBz; clear hB8 hBz
      go_wp2_with (fail)
      go_ret
      exact ⟨rfl, hBz_h.out⟩
    · have hall2 : (es.take (k + 1)).all (hgB z) = true := by rw [List.take_add_one, hek_h.out, List.all_append, hall_h.out]; simp [← hH_h.out]
      have hB8_h := lH hB8; have hall2_h := lH hall2; clear hB8 hall2
      go_wp2_with (fail)
      go_roundw
      case rel => exact ⟨k + 1, by omega, by go_num, hall2_h.out, hB8_h.out⟩
      case measure => simp [intOf]; omega
  · obtain rfl : m = k := by omega
    rw [List.take_of_length_le (by rw [hmes_h.out]; exact Nat.le_refl _)] at hall
    have hD3 := hDD_h.out
    rw [hall, Bool.true_and] at hD3
    obtain ⟨n, rfl⟩ : ∃ n : Nat, z = (n : Int) := ⟨z.toNat, by omega⟩
    have hD4 : D = (List.range n).all fun w : Nat => (t_allW ((n : Int), es, s, t)).contains (w : Int) := by rw [hD3]; rfl
    have hinW : inW (n : Int) (t_allW ((n : Int), es, s, t)) = true := by
     have h3 : inW (n : Int) (edW es) = true := by have := hgB_all (n : Int) es; rw [hall] at this; simp at this; exact this.2
     show inW (n : Int) (s ++ (t ++ edW es)) = true
     rw [inW_append, inW_append, ← hD1_h.out, ← hD2_h.out, h3]; rfl
    have hC := hgCounts_any wr n (hG0_h.out.below hBw) hok_h.out rfl (by omega) hinW
    obtain ⟨O, hO⟩ : ∃ O, O = orgW ((n : Int), es, s, t) := ⟨_, rfl⟩
    obtain ⟨T, hT⟩ : ∃ T, T = dstW ((n : Int), es, s, t) := ⟨_, rfl⟩
    obtain ⟨L, hL⟩ : ∃ L, L = t_allW ((n : Int), es, s, t) := ⟨_, rfl⟩
    have hcz := fun k : Nat => count_zero (g := ((n : Int), es, s, t)) (k := k)
    have hOl : O.length + T.length ≤ 20000000 := by
     have h1 := out_len es
     have h2 : cntE es + s.length + t.length ≤ 8388608 := hok_h.out.2.2
     have h3 : O.length = s.length + (outW es).length := by rw [hO]; show (s ++ outW es).length = _; rw [List.length_append]
     have h4 : T.length = t.length + (inpW es).length := by rw [hT]; show (t ++ inpW es).length = _; rw [List.length_append]
     omega
    rw [← hO, ← hT] at hC
    simp only [← hO, ← hT, ← hL] at hcz
    rw [← hL] at hD4
    obtain ⟨⟨y0, y1, y2, y3⟩, g0, g1, g2, g3⟩ := t_box4 kr
    clear hall hD3 kr hB1 hinW hD_h hD1_h hD2_h hDD_h; have hC_h := lH hC; have hO_h := lH hO; have hT_h := lH hT; have hL_h := lH hL; have hcz_h := lH hcz; have hD4_h := lH hD4; have hBw_h := lH hBw; have hOl_h := lH hOl; clear hC hO hT hL hcz hD4 hBw hOl
    go_wp2_with (fail)
    refine (hC_h.out).mono ?_
    rintro e w8 ⟨A8, B8, a8, b8, rfl, hI8, hJ8, -, -, hb8⟩
    have hB9 := below_trans hBw_h.out hb8 hBw_h.out.size
    clear y0 y1 y2 y3 g0 g1 g2 g3 hb8; have hB9_h := lH hB9; clear hB9
    go_wp2_with (fail)
    go_loopw [68] (fun i wr => ∃ (k nq : Nat), k ≤ n ∧ i = .int .i64 k ∧ (∀ q : Nat, q < k → L.contains (q : Int) = true) ∧ wr = w8.drewN nq) (fun i _ => n - (intOf i).toNat)
    case atStart => exact ⟨0, 0, Nat.zero_le _, rfl, fun q hq => by omega, rfl⟩
    case round =>
     obtain ⟨k, nq, hk, rfl, hall, hwr⟩ := hrel
     by_cases hlt : k < n
     · obtain ⟨gd, rfl, hgb, hgc, -⟩ := hI8.getc hlt
       obtain ⟨jd, rfl, hjb, hjc, -⟩ := hJ8.getc hlt
       have e1 : wr.cell? (gd.add k) = some (.int .i64 (O.count (k : Int) : Int)) := by rw [hwr]; exact hgc
       have e2 : wr.cell? (jd.add k) = some (.int .i64 (T.count (k : Int) : Int)) := by rw [hwr]; exact hjc
       have l1 := count_le O (k : Int)
       have l2 := count_le T (k : Int)
       obtain ⟨x, hx⟩ : ∃ x, x = O.count (k : Int) := ⟨_, rfl⟩
       obtain ⟨y, hy⟩ : ∃ y, y = T.count (k : Int) := ⟨_, rfl⟩
       rw [← hx] at e1 l1
       rw [← hy] at e2 l2
       have hcz1 := hcz_h.out k
       rw [← hx, ← hy] at hcz1
       have hkI : (k : Int) < (n : Int) := by omega
       have hxb : x ≤ 20000000 := by have := hOl_h.out; omega
       have hyb : y ≤ 20000000 := by have := hOl_h.out; omega
       clear hgc hjc hx hy l1 l2
       by_cases hc : L.contains (k : Int) = true
       · have hne : ¬ (x = 0 ∧ y = 0) := fun h => by rw [hcz1.1 h] at hc; cases hc
         have hb0 : ((x : Int) + (y : Int) == 0) = false := by rw [beq_eq_false_iff_ne]; omega
         have hall2 : ∀ q : Nat, q < k + 1 → L.contains (q : Int) = true := fun q hq => by
          by_cases h : q < k
          · exact hall q h
          · obtain rfl : q = k := by omega
            exact hc
         clear hne hcz1 hc hall; have hall2_h := lH hall2; have hwr_h := lH hwr; have hI8_h := lH hI8; have hJ8_h := lH hJ8; clear hall2 hwr hI8 hJ8
         go_wp2_with (fail)
         go_quiet (fail)
         go_wp2_with (fail)
         go_roundw
         case rel => exact ⟨k + 1, _, by omega, by go_num, hall2_h.out, by rw [hwr_h.out]; exact World.drewN_drewN _ _ _⟩
         case measure => simp [intOf]; omega
       · have hc' : L.contains (k : Int) = false := by simpa using hc
         obtain ⟨rfl, rfl⟩ := hcz1.2 hc'
         have hf : D = false := by
          rw [hD4_h.out, Bool.eq_false_iff]
          intro hh
          have := List.all_eq_true.1 hh k (List.mem_range.2 hlt)
          rw [hc'] at this; cases this
         subst hf
         have hBf : Below w.heap.size w wr := by rw [hwr]; exact below_drewN hB9_h.out nq
         clear hcz1 hc hc' hall; have hwr_h := lH hwr; have hI8_h := lH hI8; have hJ8_h := lH hJ8; have hBf_h := lH hBf; clear hwr hI8 hJ8 hBf
         go_wp2_with (fail)
         go_quiet (fail)
         go_wp2_with (fail)
         go_ret
         exact ⟨rfl, below_drewN hBf_h.out _⟩
     · obtain rfl : n = k := by omega
       have ht : D = true := by
        rw [hD4_h.out]
        exact List.all_eq_true.2 fun q hq => hall q (List.mem_range.1 hq)
       subst ht
       have hBf : Below w.heap.size w wr := by rw [hwr]; exact below_drewN hB9_h.out nq
       clear hall; have hwr_h := lH hwr; have hI8_h := lH hI8; have hJ8_h := lH hJ8; have hBf_h := lH hBf; clear hwr hI8 hJ8 hBf
       go_wp2_with (fail)
       go_ret
       exact ⟨rfl, hBf_h.out⟩
abbrev tBool : TypeId := 4
abbrev tBools : TypeId := 98
theorem info_bool : (Tryz.prog.info? tBool).map (fun i => (i.zero, i.size, i.bytes)) = some (some (.bool false), 1, 1) := by kernel_rfl
def bls (l : List Bool) : List Value := l.map Value.bool
theorem bls_get {l : List Bool} {j : Nat} {b : Bool} (h : l[j]? = some b) : (bls l)[j]? = some (.bool b) := by simp [bls, h]
theorem bls_set (l : List Bool) (j : Nat) (b : Bool) : (bls l).set j (.bool b) = bls (l.set j b) := by simp [bls, List.map_set]
theorem madeBls (m : Nat) : (madeCells (Value.bool false).cells (m * 1)).toList.take (m * 1) = bls (List.replicate m false) := by
 rw [Nat.mul_one]; simp [Value.cells, toList_madeCells_one, bls]
abbrev tWiresG : TypeId := 129
theorem run_eq_intG (d : Nat) (x y : Int) (W : World) : (Op.equalIn (d + 1) tInt (.int .i64 x) (.int .i64 y)).run Tryz.prog W = .ok (x == y) W := by
 unfold Op.equalIn
 simp [run_underlying Tryz.underlying3]
theorem part_g0 (a b : Int) (W : World) : (part tInt #[.int .i64 a, .int .i64 b] 0).run Tryz.prog W = .ok (.int .i64 a) W := by kernel_rfl
theorem part_g1 (a b : Int) (W : World) : (part tInt #[.int .i64 a, .int .i64 b] 1).run Tryz.prog W = .ok (.int .i64 b) W := by kernel_rfl
theorem wires_eq (a b c d : Int) (W : World) : (binOp .eql tWiresG (.agg #[.int .i64 a, .int .i64 b]) (.agg #[.int .i64 c, .int .i64 d])).run Tryz.prog W = .ok (.bool (decide (a = c ∧ b = d))) W := by
 have hk : ∀ m, (Op.equalIn (m + 1 + 1) tWiresG (.agg #[.int .i64 a, .int .i64 b]) (.agg #[.int .i64 c, .int .i64 d])).run Tryz.prog W = .ok (decide (a = c ∧ b = d)) W := by
  intro m
  conv => lhs; unfold Op.equalIn
  simp only [Sem.run_bind, run_underlying Tryz.underlying129, Result.andThen_ok]
  simp [part_g0, part_g1, run_eq_intG]
  by_cases h1 : a = c <;> by_cases h2 : b = d <;> simp [h1, h2]
 have e0 : Op.maxDepth = (Op.maxDepth - 2) + 1 + 1 := rfl
 simp only [binOp, Op.equal, Sem.run_bind]
 rw [e0, hk]
 simp
def egH (k v : Int) (p q : Nat) : Bool := t_inB k 3 14 && (gvB k v && decide (((p : Int), (q : Int)) = kindTy k))
set_option maxRecDepth 100000 in
set_option maxHeartbeats 4000000 in
theorem isEdge_any (k v : Int) (B C : Option Addr) (b c p q : Nat) (w : World) :
  Calls Tryz.prog 76 #[.agg #[.int .i64 k, .int .i64 v, .slice B p b, .slice C q c]] w fun e w' => e = .returned (.bool (egH k v p q)) ∧ Below w.heap.size w w' := by
 obtain ⟨D, hD⟩ : ∃ D, D = egH k v p q := ⟨_, rfl⟩
 have hDD := hD
 unfold egH at hDD
 rw [← hD]
 have hG := fun (W : World) => isGenerator_any k W
 have hV := fun (W : World) => isGeneratorValue_any k v W
 obtain ⟨W, hW, bW, k0⟩ := (⟨_, rfl, t_below_alloc _ _, heap_alloc_new _ _⟩ : ∃ W, W = w.alloc (.cells #[.int .i64 k, .int .i64 v, .slice B p b, .slice C q c] tEd) ∧ Below w.heap.size w W ∧ W.heap[w.heap.size]? = some (.cells #[.int .i64 k, .int .i64 v, .slice B p b, .slice C q c] tEd))
 obtain ⟨⟨c0, c1, c2, c3⟩, f0, f1, f2, f3⟩ := t_box4 k0
 by_cases h0 : t_inB k 3 14 = true
 case neg =>
  have h0' : t_inB k 3 14 = false := by simpa using h0
  obtain rfl : D = false := by rw [hDD, h0']; rfl
  simp only [h0'] at hG
  clear h0 h0' hDD; have hG_h := lH hG; have hV_h := lH hV; have k0_h := lH k0; have bW_h := lH bW; have hD_h := lH hD; clear hG hV k0 bW hD
  go_enter Tryz.func76, Tryz.ntmps76
  go_upto_region 1 with (fail)
  rw [← hW]
  clear hW
  go_wp2_with (fail)
  refine (hG_h.out _).mono ?_
  rintro e w1 ⟨rfl, rfl⟩
  go_wp2_with (fail)
  go_ret
  exact ⟨rfl, bW_h.out⟩
 have hkb : 3 ≤ k ∧ k ≤ 14 := of_decide_eq_true h0
 simp only [h0] at hG
 rw [h0, Bool.true_and] at hDD
 by_cases h1 : gvB k v = true
 case neg =>
  have h1' : gvB k v = false := by simpa using h1
  obtain rfl : D = false := by rw [hDD, h1']; rfl
  simp only [h1'] at hV
  clear h0 h1 h1' hDD; have hG_h := lH hG; have hV_h := lH hV; have k0_h := lH k0; have bW_h := lH bW; have hD_h := lH hD; clear hG hV k0 bW hD
  go_enter Tryz.func76, Tryz.ntmps76
  go_upto_region 1 with (fail)
  rw [← hW]
  clear hW
  go_wp2_with (fail)
  refine (hG_h.out _).mono ?_
  rintro e w1 ⟨rfl, rfl⟩
  go_wp2_with (fail)
  refine (hV_h.out _).mono ?_
  rintro e w1 ⟨rfl, rfl⟩
  go_wp2_with (fail)
  go_ret
  exact ⟨rfl, bW_h.out⟩
 simp only [h1] at hV
 rw [h1, Bool.true_and] at hDD
 have hgw := fun (W : World) => generatorWires_any k W hkb.1 hkb.2
 obtain ⟨i1, hi1⟩ : ∃ i, i = (kindTy k).1 := ⟨_, rfl⟩
 obtain ⟨i2, hi2⟩ : ∃ i, i = (kindTy k).2 := ⟨_, rfl⟩
 have hDw : D = decide (i1 = (p : Int) ∧ i2 = (q : Int)) := by
  rw [hDD, Bool.eq_iff_iff, decide_eq_true_eq, decide_eq_true_eq, hi1, hi2]
  exact ⟨fun h => ⟨(congrArg Prod.fst h).symm, (congrArg Prod.snd h).symm⟩, fun h => Prod.ext h.1.symm h.2.symm⟩
 simp only [← hi1, ← hi2] at hgw
 have hwe := fun (W : World) => wires_eq i1 i2 (p : Int) (q : Int) W
 simp only [← hDw] at hwe
 clear h0 h1 hDD hkb hi1 hi2; have hG_h := lH hG; have hV_h := lH hV; have hgw_h := lH hgw; have k0_h := lH k0; have bW_h := lH bW; have hD_h := lH hD; have hDw_h := lH hDw; clear hG hV hgw k0 bW hD hDw
 go_enter Tryz.func76, Tryz.ntmps76
 go_upto_region 1 with (fail)
 rw [← hW]
 clear hW
 go_wp2_with (fail)
 refine (hG_h.out _).mono ?_
 rintro e w1 ⟨rfl, rfl⟩
 go_wp2_with (fail)
 refine (hV_h.out _).mono ?_
 rintro e w1 ⟨rfl, rfl⟩
 go_wp2_with (fail)
 obtain ⟨W, rfl⟩ : ∃ x, x = w1 := ⟨_, rfl⟩
 clear c0 c1 c2 c3 f0 f1 f2 f3
 refine beginB (by kernel_rfl) (fun W1 hW1 => ?_)
 have hbw : Below W.heap.size W W1 := by rw [hW1]; exact below_drew (Below.refl _ _)
 clear hW1
 have k1 := t_box_below k0_h.out hbw
 have k1_h := lH k1; clear k1
 refine tkH 0 ?_ rfl (Below.refl _ _) (fun W' hW' => ?_) ?_; rotate_left; · (obtain ⟨⟨a0, a1, a2, a3⟩, b0, b1, b2, b3⟩ := t_box4 (t_box_below k1_h.out hW'); clear hW'; go_simp; first | done | with_reducible rfl)
 simp only [Act.put, nS]
 refine tkH 1 ?_ rfl (Below.refl _ _) (fun W' hW' => ?_) ?_; rotate_left; · (obtain ⟨⟨a0, a1, a2, a3⟩, b0, b1, b2, b3⟩ := t_box4 (t_box_below k1_h.out hW'); clear hW'; go_simp; first | done | with_reducible rfl)
 simp only [Act.put, nS]
 refine tkH 3 ?_ rfl (Below.refl _ _) (fun W' hW' => ?_) ?_; rotate_left; · (obtain ⟨⟨a0, a1, a2, a3⟩, b0, b1, b2, b3⟩ := t_box4 (t_box_below k1_h.out hW'); clear hW'; go_simp; first | done | with_reducible rfl)
 simp only [Act.put, nS]
 refine tkH 4 ?_ rfl (Below.refl _ _) (fun W' hW' => ?_) ?_; rotate_left; · (obtain ⟨⟨a0, a1, a2, a3⟩, b0, b1, b2, b3⟩ := t_box4 (t_box_below k1_h.out hW'); clear hW'; go_simp; first | done | with_reducible rfl)
 simp only [Act.put, nS]
 refine tkH 5 ?_ rfl (Below.refl _ _) (fun W' hW' => ?_) ?_; rotate_left; · (obtain ⟨⟨a0, a1, a2, a3⟩, b0, b1, b2, b3⟩ := t_box4 (t_box_below k1_h.out hW'); clear hW'; go_simp; first | done | with_reducible rfl)
 simp only [Act.put, nS]
 refine tkH 6 ?_ rfl (Below.refl _ _) (fun W' hW' => ?_) ?_; rotate_left; · (obtain ⟨⟨a0, a1, a2, a3⟩, b0, b1, b2, b3⟩ := t_box4 (t_box_below k1_h.out hW'); clear hW'; go_simp; first | done | with_reducible rfl)
 simp only [Act.put, nS]
 refine tkH 7 ?_ rfl (Below.refl _ _) (fun W' hW' => ?_) ?_; rotate_left; · (obtain ⟨⟨a0, a1, a2, a3⟩, b0, b1, b2, b3⟩ := t_box4 (t_box_below k1_h.out hW'); clear hW'; go_simp; first | done | with_reducible rfl)
 simp only [Act.put, nS]
 refine tkH 8 ?_ rfl (Below.refl _ _) (fun W' hW' => ?_) ?_; rotate_left; · (obtain ⟨⟨a0, a1, a2, a3⟩, b0, b1, b2, b3⟩ := t_box4 (t_box_below k1_h.out hW'); clear hW'; go_simp; first | done | with_reducible rfl)
 simp only [Act.put, nS]
 refine tkH 9 ?_ rfl (Below.refl _ _) (fun W' hW' => ?_) ?_; rotate_left; · (obtain ⟨⟨a0, a1, a2, a3⟩, b0, b1, b2, b3⟩ := t_box4 (t_box_below k1_h.out hW'); clear hW'; go_simp; first | done | with_reducible rfl)
 simp only [Act.put, nS]
 refine' callH 2 (f := _) (args := _) rfl (by kernel_rfl) (by rfl) ?_ ?_; rotate_left 2; · (go_simp; first | done | with_reducible rfl | (constructor <;> with_reducible rfl))
 refine (hgw_h.out _).mono ?_
 rintro e w2 ⟨rfl, hb2⟩
 refine ⟨_, rfl, hb2, ?_⟩
 simp only [Act.put, nS]
 refine tkH 10 ?_ rfl hb2 (fun W' hW' => ?_) ?_; rotate_left; · (have hwe' := hwe W'; clear hW'; go_simp; first | done | with_reducible rfl)
 simp only [Act.put, nS]
 refine tkH 11 ?_ rfl hb2 (fun W' hW' => ?_) ?_; rotate_left; · (have hwe' := hwe W'; clear hW'; go_simp; first | done | with_reducible rfl)
 simp only [Act.put, nS]
 refine doneH (by kernel_rfl) ?_
 have hB2 := below_trans (below_trans bW_h.out hbw bW_h.out.size) hb2 (Nat.le_trans bW_h.out.size hbw.size)
 have hB2_h := lH hB2; clear hB2
 go_wp2_with (fail)
 go_ret
 exact ⟨rfl, hB2_h.out⟩
set_option maxRecDepth 100000 in
set_option maxHeartbeats 4000000 in
theorem lists_any {v : Value} {g : Gr} (wE : World) (h : RdGr wE v g) (ok : OkG g) (F : FuncId) (cap : Array Value) (hE : ∀ (args : Array Value) (w : World), (callFunc F args).run Tryz.prog w = .ok (.enter F args) w)
  (I : List Int → World → Prop) (S : List Nat) (hS : ∀ b, b ∈ S → wE.heap.size ≤ b) (hal : ∀ l W W', I l W → Below W.heap.size W W' → I l W')
  (hF : ∀ l B c (m : List Int) W, I l W → (∀ W', Keeps (· ∈ S) W W' → RdI W' B m) → (∀ x, x ∈ m → x ∈ t_allW g) → m.length ≤ 1048576 → Calls Tryz.prog F (#[.slice B m.length c] ++ cap) W fun e w' => e = .returned (.tuple #[]) ∧ I (l ++ m) w' ∧ Keeps (· ∈ S) W w')
  (w : World) (hw : I [] w) (hbw : Below wE.heap.size wE w) (hSw : ∀ b, b ∈ S → b < w.heap.size) :
  Calls Tryz.prog 77 #[v, .func (.func F) #[] cap] w fun e w' => e = .returned (.tuple #[]) ∧ I (t_allW g) w' ∧ Keeps (· ∈ S) w w' := by
 obtain ⟨A, c, hs, ⟨B, b, s⟩, ⟨C, d, t⟩, rfl, e1, e2, e3, hEd, hRa, hRb⟩ := h
 obtain ⟨z, es, s0, t0⟩ := g
 have a1 : es = hs.map egOf := e1
 have a2 : s = s0 := e2
 have a3 : t = t0 := e3
 subst a2 a3
 have hlen1 : es.length ≤ 1048576 := ok.1.1
 have hlen2 : s.length ≤ 1048576 := ok.1.2.1
 have hlen3 : t.length ≤ 1048576 := ok.1.2.2
 have hlE : ∀ x, x ∈ es → x.2.2.1.length ≤ 1048576 ∧ x.2.2.2.length ≤ 1048576 := ok.2.1
 have hall : t_allW (z, es, s, t) = s ++ (t ++ edW es) := rfl
 rw [hall] at hF ⊢
 have hRa0 : RdI wE B s := hRa
 have hRb0 : RdI wE C t := hRb
 obtain ⟨m, hm⟩ : ∃ m, m = hs.length := ⟨_, rfl⟩
 obtain ⟨p, hp⟩ : ∃ p, p = s.length := ⟨_, rfl⟩
 obtain ⟨r, hr⟩ : ∃ r, r = t.length := ⟨_, rfl⟩
 have hmes : es.length = m := by rw [a1, List.length_map, hm]
 show Calls Tryz.prog _ #[.agg #[.int .i64 z, .slice A hs.length c, .slice B s.length b, .slice C t.length d], .func (.func F) #[] cap] w _
 rw [← hm, ← hp, ← hr]
 obtain ⟨W, hW, bW, k0⟩ := (⟨_, rfl, t_below_alloc _ _, heap_alloc_new _ _⟩ : ∃ W, W = w.alloc (.cells #[.int .i64 z, .slice A m c, .slice B p b, .slice C r d] tGr) ∧ Below w.heap.size w W ∧ W.heap[w.heap.size]? = some (.cells #[.int .i64 z, .slice A m c, .slice B p b, .slice C r d] tGr))
 have hbW := below_trans hbw bW hbw.size
 have hI0 := hal _ _ _ hw bW
 have hC1 := hF [] B b s W hI0 (fun W' hk => hRa0.below (below_keeps hbW hk hbW.size hS)) (fun x hx => by simp [hx]) hlen2
 rw [← hp, List.nil_append] at hC1
 obtain ⟨⟨c0, c1, c2, c3⟩, f0, f1, f2, f3⟩ := t_box4 k0
 have hmb : (m : Int) ≤ 1048576 := by omega
 have hE1 := hE (#[.slice B p b] ++ cap) W
 have hnS : ¬ w.heap.size ∈ S := fun hh => by have := hSw _ hh; omega
 clear hRa hRb ok e1 e2 e3 hlen1 hlen2 hall hw hI0; have hS_h := lH hS; have hal_h := lH hal; have hF_h := lH hF; have hSw_h := lH hSw; have hbw_h := lH hbw; have hbW_h := lH hbW; have bW_h := lH bW; have k0_h := lH k0; have hC1_h := lH hC1; have hEd_h := lH hEd; have hRa0_h := lH hRa0; have hRb0_h := lH hRb0; have a1_h := lH a1; have hlE_h := lH hlE; have hm_h := lH hm; have hp_h := lH hp; have hr_h := lH hr; have hmes_h := lH hmes; have hE_h := lH hE; have hnS_h := lH hnS; clear hS hal hF hSw hbw hbW bW k0 hC1 hEd hRa0 hRb0 a1 hlE hm hp hr hmes hE hnS
 go_enter Tryz.func77, Tryz.ntmps77
 go_upto_region 1 with (fail)
 rw [← hW]
 clear hW
 go_wp2_with (fail)
 refine (hC1_h.out).mono ?_
 rintro e w1 ⟨rfl, hI1, hk1⟩
 have k1 := t_box_keeps k0_h.out hk1 hnS_h.out
 have hb1 := below_keeps hbW_h.out hk1 hbW_h.out.size hS_h.out
 have hC2 := hF_h.out s C d t w1 hI1 (fun W' hk => hRb0_h.out.below (below_keeps hb1 hk hb1.size hS_h.out)) (fun x hx => by simp [hx]) hlen3
 rw [← hr_h.out] at hC2
 clear c0 c1 c2 c3 f0 f1 f2 f3 hI1 hE1
 obtain ⟨⟨c0, c1, c2, c3⟩, f0, f1, f2, f3⟩ := t_box4 k1
 have hE1 := hE_h.out (#[.slice C r d] ++ cap) w1
 have hk1_h := lH hk1; have k1_h := lH k1; have hb1_h := lH hb1; have hC2_h := lH hC2; clear hk1 k1 hb1 hC2
 go_wp2_with (fail)
 refine (hC2_h.out).mono ?_
 rintro e w2 ⟨rfl, hI2, hk2⟩
 have k2 := t_box_keeps k1_h.out hk2 hnS_h.out
 have hb2 := below_keeps hb1_h.out hk2 hb1_h.out.size hS_h.out
 have hk02 := hk1_h.out.trans hk2
 clear c0 c1 c2 c3 f0 f1 f2 f3 hE1 hk2
 obtain ⟨⟨c0, c1, c2, c3⟩, f0, f1, f2, f3⟩ := t_box4 k2
 have hI20 : I (s ++ (t ++ edW (es.take 0))) w2 := by simpa [edW] using hI2
 have hk02_h := lH hk02; have k2_h := lH k2; have hb2_h := lH hb2; have hI20_h := lH hI20; clear hk02 k2 hb2 hI20; clear hI2
 go_wp2_with (fail)
 clear c0 c1 c2 c3 f0 f1 f2 f3
 go_loopw [17] (fun i wr => ∃ k : Nat, k ≤ m ∧ i = .int .i64 k ∧ I (s ++ (t ++ edW (es.take k))) wr ∧ Keeps (· ∈ S) W wr) (fun i _ => m - (intOf i).toNat)
 case atStart => exact ⟨0, Nat.zero_le _, rfl, hI20_h.out, hk02_h.out⟩
 case round =>
  clear hI20_h hk02_h
  obtain ⟨k, hk, rfl, hI3, hk3⟩ := hrel
  have hb3 := below_keeps hbW_h.out hk3 hbW_h.out.size hS_h.out
  by_cases hlt : k < m
  · obtain ⟨ad, κ, vv, B1, b1, s1, C1, b2, t1, rfl, hn, ⟨d0, d1, d2, d3⟩, hr1, hr2⟩ := (hEd_h.out.below hb3).at_ (j := k) (by rw [← hm_h.out]; exact hlt)
    have hek : es[k]? = some (κ, vv, s1, t1) := by rw [a1_h.out, List.getElem?_map, hn]; rfl
    have hln := hlE_h.out _ (List.mem_of_getElem? hek)
    obtain ⟨hm1, hm2⟩ := mem_edW_of (List.mem_of_getElem? hek)
    obtain ⟨wo, rfl⟩ : ∃ x, x = wr := ⟨_, rfl⟩
    obtain ⟨p1, hp1⟩ : ∃ p1, p1 = s1.length := ⟨_, rfl⟩
    obtain ⟨r1, hr1'⟩ : ∃ r1, r1 = t1.length := ⟨_, rfl⟩
    rw [← hp1] at d2
    rw [← hr1'] at d3
    obtain ⟨W6, hW6, bW6, k6⟩ := (⟨_, rfl, t_below_alloc _ _, heap_alloc_new _ _⟩ : ∃ W, W = wo.alloc (.cells #[.int .i64 κ, .int .i64 vv, .slice B1 p1 b1, .slice C1 r1 b2] tEd) ∧ Below wo.heap.size wo W ∧ W.heap[wo.heap.size]? = some (.cells #[.int .i64 κ, .int .i64 vv, .slice B1 p1 b1, .slice C1 r1 b2] tEd))
    have hb6 := below_trans hb3 bW6 hb3.size
    have hI6 := hal_h.out _ _ _ hI3 bW6
    have hRB : RdI wE B1 s1 := (hEd_h.out.2 _ (List.mem_of_getElem? hn)).1
    have hC3 := hF_h.out _ B1 b1 s1 W6 hI6 (fun W' hk => hRB.below (below_keeps hb6 hk hb6.size hS_h.out)) (fun x hx => by simp [hm1 x hx]) hln.1
    rw [← hp1] at hC3
    have hk6 := hk3.trans (Keeps.of_below bW6 _)
    have hnS6 : ¬ wo.heap.size ∈ S := fun hh => by have := hSw_h.out _ hh; have := hk3.size; have := bW_h.out.size; omega
    have hRC : RdI wE C1 t1 := (hEd_h.out.2 _ (List.mem_of_getElem? hn)).2
    have hkI : (k : Int) < (m : Int) := by omega
    obtain ⟨⟨c0, c1, c2, c3⟩, f0, f1, f2, f3⟩ := t_box4 k6
    have hE1 := hE_h.out (#[.slice B1 p1 b1] ++ cap) W6
    have hr1_h := lH hr1'; clear hr1' hI6 hI3 hr1 hr2 hn hm1 hb3 hk3 hRB; have hek_h := lH hek; have hp1_h := lH hp1; have bW6_h := lH bW6; have k6_h := lH k6; have hC3_h := lH hC3; have hk6_h := lH hk6; have hnS6_h := lH hnS6; have hb6_h := lH hb6; have hRC_h := lH hRC; have hm2_h := lH hm2; have hln_h := lH hln; clear hek hp1 bW6 k6 hC3 hk6 hnS6 hb6 hRC hm2 hln
    go_upto_region 6 with (fail)
    rw [← hW6]
    clear hW6
    go_wp2_with (fail)
    refine (hC3_h.out).mono ?_
    rintro e w7 ⟨rfl, hI7, hk7⟩
    have k7 := t_box_keeps k6_h.out hk7 hnS6_h.out
    have hb7 := below_keeps hb6_h.out hk7 hb6_h.out.size hS_h.out
    have hC4 := hF_h.out _ C1 b2 t1 w7 hI7 (fun W' hk => hRC_h.out.below (below_keeps hb7 hk hb7.size hS_h.out)) (fun x hx => by simp [hm2_h.out x hx]) hln_h.out.2
    rw [← hr1_h.out] at hC4
    have hk8 := hk6_h.out.trans hk7
    clear c0 c1 c2 c3 f0 f1 f2 f3 hE1 hI7 hk7 d0 d1 d2 d3
    obtain ⟨⟨c0, c1, c2, c3⟩, f0, f1, f2, f3⟩ := t_box4 k7
    have hE1 := hE_h.out (#[.slice C1 r1 b2] ++ cap) w7
    have k7_h := lH k7; have hb7_h := lH hb7; have hC4_h := lH hC4; have hk8_h := lH hk8; clear k7 hb7 hC4 hk8
    go_wp2_with (fail)
    refine (hC4_h.out).mono ?_
    rintro e w8 ⟨rfl, hI8, hk9⟩
    have hk10 := hk8_h.out.trans hk9
    have hI9 : I (s ++ (t ++ edW (es.take (k + 1)))) w8 := by
     have e : s ++ (t ++ edW (es.take (k + 1))) = s ++ (t ++ edW (es.take k)) ++ s1 ++ t1 := by
      rw [List.take_add_one, hek_h.out, edW_append]; simp [edW]
     rw [e]; exact hI8
    clear c0 c1 c2 c3 f0 f1 f2 f3 hE1 hI8 hk9; have hk10_h := lH hk10; have hI9_h := lH hI9; clear hk10 hI9
    go_wp2_with (fail)
    go_roundw
    case rel => exact ⟨k + 1, by omega, by go_num, hI9_h.out, hk10_h.out⟩
    case measure => simp [intOf]; omega
  · obtain rfl : m = k := by omega
    rw [List.take_of_length_le (by rw [hmes_h.out]; exact Nat.le_refl _)] at hI3
    have hkf := (Keeps.of_below bW_h.out (· ∈ S)).trans hk3
    have hI3_h := lH hI3; have hkf_h := lH hkf; clear hI3 hkf; clear hk3
    go_wp2_with (fail)
    go_end0
    exact ⟨rfl, hI3_h.out, hkf_h.out⟩
theorem boxg1 {w : World} {B : Nat} {x : Value} {t : TypeId} (h : w.heap[B]? = some (.cells #[x] t)) : w.cell? ⟨B, 0, none⟩ = some x ∧ w.frozen? ⟨B, 0, none⟩ = false := by simp [World.cell?, World.frozen?, h]
theorem seenM_step {n : Nat} {l : List Int} {q : Nat} (hq : q < n) (hs : l.contains (q : Int) = true) : seenC n (l ++ [(q : Int)]) = seenC n l := by unfold seenC; rw [seenM_old hq hs]
theorem inW_snoc (n : Int) (l : List Int) (x : Int) : inW n (l ++ [x]) = (inW n l && t_inB x 0 (n - 1)) := by rw [inW_append]; simp [inW]
structure GI (n gB bG bS bC : Nat) (Gs : Addr) (V1 V2 V3 : Value) (l : List Int) (W : World) : Prop where
 hg : W.heap[gB]? = some (.cells #[.int .i64 (n : Int), V1, V2, V3] tGr)
 hgd : W.heap[bG]? = some (.cells #[.bool (inW n l)] tBool)
 hsl : W.heap[bS]? = some (.cells #[.slice (some Gs) n n] tBools)
 hct : W.heap[bC]? = some (.cells #[.int .i64 (seenC n l : Int)] tInt)
 hse : Sl W tBool 1 (some Gs) n n (bls (seenM n l))
theorem GI.below {n gB bG bS bC : Nat} {Gs : Addr} {V1 V2 V3 : Value} {l : List Int} {W W' : World} (h : GI n gB bG bS bC Gs V1 V2 V3 l W) (hb : Below W.heap.size W W') : GI n gB bG bS bC Gs V1 V2 V3 l W' :=
 ⟨t_box_below h.hg hb, t_box_below h.hgd hb, t_box_below h.hsl hb, t_box_below h.hct hb, h.hse.below hb⟩
set_option maxRecDepth 100000 in
set_option maxHeartbeats 4000000 in
theorem isGraphC_any (n gB bG bS bC : Nat) (Gs : Addr) (V1 V2 V3 : Value) (l : List Int) (B : Option Addr) (c : Nat) (m : List Int) (W : World) (hn : n ≤ 100) (hml : m.length ≤ 1048576)
  (h1 : bG ≠ bC) (h2 : bG ≠ Gs.block) (h3 : bC ≠ Gs.block) (h4 : gB ≠ bG ∧ gB ≠ bC ∧ gB ≠ Gs.block) (h5 : bS ≠ bG ∧ bS ≠ bC ∧ bS ≠ Gs.block)
  (hI : GI n gB bG bS bC Gs V1 V2 V3 l W) (hm : ∀ W', Keeps (· ∈ [bG, bC, Gs.block]) W W' → RdI W' B m) :
  Calls Tryz.prog 78 #[.slice B m.length c, .pointer (some ⟨gB, 0, none⟩), .pointer (some ⟨bG, 0, none⟩), .pointer (some ⟨bS, 0, none⟩), .pointer (some ⟨bC, 0, none⟩)] W fun e w' => e = .returned (.tuple #[]) ∧ GI n gB bG bS bC Gs V1 V2 V3 (l ++ m) w' ∧ Keeps (· ∈ [bG, bC, Gs.block]) W w' := by
 obtain ⟨p, hp⟩ : ∃ p, p = m.length := ⟨_, rfl⟩
 rw [← hp] at hml ⊢
 have hp_h := lH hp; have hm_h := lH hm; have hI_h := lH hI; clear hp hm hI
 go_enter Tryz.func78, Tryz.ntmps78
 go_wp2_with (fail)
 go_loopw [10] (fun i wr => ∃ k : Nat, k ≤ p ∧ i = .int .i64 k ∧ GI n gB bG bS bC Gs V1 V2 V3 (l ++ m.take k) wr ∧ Keeps (· ∈ [bG, bC, Gs.block]) W wr) (fun i _ => p - (intOf i).toNat)
 case atStart => exact ⟨0, Nat.zero_le _, rfl, by simpa using hI_h.out, Keeps.refl _ _⟩
 case round =>
  clear hI_h
  obtain ⟨k, hk, rfl, hI, hkp⟩ := hrel
  by_cases hlt : k < p
  · obtain ⟨xd, x, rfl, hx, hxc⟩ := (hm_h.out wr hkp).at_ (j := k) (by rw [← hp_h.out]; exact hlt)
    have hkI : (k : Int) < (p : Int) := by omega
    have htk : m.take (k + 1) = m.take k ++ [x] := by rw [List.take_add_one, hx]; rfl
    have hlx : l ++ m.take (k + 1) = (l ++ m.take k) ++ [x] := by rw [htk, List.append_assoc]
    obtain ⟨L, hL⟩ : ∃ L, L = l ++ m.take k := ⟨_, rfl⟩
    rw [← hL] at hI hlx
    have hC := fun (W : World) => t_within_any x 0 ((n : Int) - 1) W
    have wn : IntKind.i64.wrap ((n : Int) - 1) = (n : Int) - 1 := IntWalk.i64_in _ (by omega)
    obtain ⟨⟨c0, c1, c2, c3⟩, f0, f1, f2, f3⟩ := t_box4 hI.hg
    by_cases hin : t_inB x 0 ((n : Int) - 1) = true
    · have hb : 0 ≤ x ∧ x ≤ (n : Int) - 1 := of_decide_eq_true hin
      obtain ⟨q, rfl⟩ : ∃ q : Nat, x = (q : Int) := ⟨x.toNat, by omega⟩
      have hqn : q < n := by omega
      simp only [hin] at hC
      have hinL : inW n (L ++ [(q : Int)]) = inW n L := by rw [inW_snoc, hin, Bool.and_true]
      obtain ⟨gd, hgd, hgb, hgc, hgf⟩ := Sl.cell hI.hse (bls_get (seenM_get hqn))
      obtain rfl := Option.some.inj hgd
      obtain ⟨s0, s1⟩ := boxg1 hI.hsl
      have hqI : (q : Int) < (n : Int) := by omega
      have hq0 : (0 : Int) ≤ (q : Int) := by omega
      by_cases hc : L.contains (q : Int) = true
      · have hI2 : GI n gB bG bS bC Gs V1 V2 V3 (l ++ m.take (k + 1)) wr := by
         rw [hlx]
         exact ⟨hI.hg, by rw [hinL]; exact hI.hgd, hI.hsl, by rw [seenM_step hqn hc]; exact hI.hct, by rw [seenM_old hqn hc]; exact hI.hse⟩
        rw [hc] at hgc
        clear hI hin hb hx htk hlx hL hinL hgf hgd; have hC_h := lH hC; have hI2_h := lH hI2; have hkp_h := lH hkp; have hc_h := lH hc; clear hC hI2 hkp hc
        go_wp2_with (fail)
        refine (hC_h.out _).mono ?_
        rintro e w1 ⟨rfl, rfl⟩
        go_wp2_with (fail)
        go_roundw
        case rel => exact ⟨k + 1, by omega, by go_num, hI2_h.out, hkp_h.out⟩
        case measure => simp [intOf]; omega
      · have hc' : L.contains (q : Int) = false := by simpa using hc
        rw [hc'] at hgc
        have hfq := hgf q
        obtain ⟨W1, hW1⟩ : ∃ W1, W1 = wr.setCell (Gs.add q) (.bool true) := ⟨_, rfl⟩
        have hset := Sl.set hI.hse rfl q (.bool true) (by simp [bls]; omega)
        rw [bls_set, ← seenM_in hqn, ← hW1] at hset
        have hk1 : Keeps (· = Gs.block) wr W1 := by rw [hW1]; exact (Keeps.refl (fun b => b = Gs.block) wr).setCell (p := Gs.add q) (by rw [block_of_add]) _
        have g1 := t_box_keeps hI.hg hk1 h4.2.2
        have g2 := t_box_keeps hI.hgd hk1 h2
        have g3 := t_box_keeps hI.hsl hk1 h5.2.2
        have g4 := t_box_keeps hI.hct hk1 h3
        obtain ⟨t0, t1⟩ := boxg1 g4
        obtain ⟨W2, hW2⟩ : ∃ W2, W2 = W1.setCell ⟨bC, 0, none⟩ (.int .i64 ((seenC n L : Int) + 1)) := ⟨_, rfl⟩
        obtain ⟨n4, hk2⟩ := box_set g4 0 (.int .i64 ((seenC n L : Int) + 1))
        rw [← hW2] at n4 hk2
        have n4' : W2.heap[bC]? = some (.cells #[.int .i64 ((seenC n L : Int) + 1)] tInt) := n4
        have hcle := seenC_le n L
        have hI2 : GI n gB bG bS bC Gs V1 V2 V3 (l ++ m.take (k + 1)) W2 := by
         rw [hlx]
         refine ⟨t_box_keeps g1 hk2 h4.2.1, by rw [hinL]; exact t_box_keeps g2 hk2 h1, t_box_keeps g3 hk2 h5.2.1, ?_, hset.keeps hk2 (fun b hb e => by simp at hb; omega)⟩
         rw [seenC_new hqn hc', show ((seenC n L + 1 : Nat) : Int) = (seenC n L : Int) + 1 by omega]; exact n4'
        have hkf : Keeps (· ∈ [bG, bC, Gs.block]) W W2 := (hkp.trans (hk1.mono fun b _ hb => by simp [hb])).trans (hk2.mono fun b _ hb => by simp [hb])
        have hsz : (seenC n L : Int) ≤ 100 := by omega
        have hsz0 : (0 : Int) ≤ (seenC n L : Int) := by omega
        clear hI hin hb hx htk hlx hL hinL hgf hgd hset hk1 g1 g2 g3 g4 n4 hk2 n4' hkp hcle; have hC_h := lH hC; have hI2_h := lH hI2; have hc_h := lH hc; have hc'_h := lH hc'; have hkf_h := lH hkf; clear hC hI2 hc hc' hkf
        go_wp2_with (fail)
        refine (hC_h.out _).mono ?_
        rintro e w1 ⟨rfl, rfl⟩
        go_upto_region 7 with (fail)
        rw [← hW1]
        clear hW1
        go_upto_region 8 with (fail)
        rw [← hW2]
        clear hW2
        go_wp2_with (fail)
        go_roundw
        case rel => exact ⟨k + 1, by omega, by go_num, hI2_h.out, hkf_h.out⟩
        case measure => simp [intOf]; omega
    · have hin' : t_inB x 0 ((n : Int) - 1) = false := by simpa using hin
      simp only [hin'] at hC
      have hinL : inW n (L ++ [x]) = false := by rw [inW_snoc, hin', Bool.and_false]
      have hxo : ¬ (0 ≤ x ∧ x < (n : Int)) := fun hh => by
       rw [show t_inB x 0 ((n : Int) - 1) = true from decide_eq_true ⟨hh.1, by omega⟩] at hin'; cases hin'
      obtain ⟨s0, s1⟩ := boxg1 hI.hgd
      obtain ⟨W1, hW1⟩ : ∃ W1, W1 = wr.setCell ⟨bG, 0, none⟩ (.bool false) := ⟨_, rfl⟩
      obtain ⟨n2, hk1⟩ := box_set hI.hgd 0 (.bool false)
      rw [← hW1] at n2 hk1
      have n2' : W1.heap[bG]? = some (.cells #[.bool false] tBool) := n2
      have hI2 : GI n gB bG bS bC Gs V1 V2 V3 (l ++ m.take (k + 1)) W1 := by
       rw [hlx]
       refine ⟨t_box_keeps hI.hg hk1 h4.1, by rw [hinL]; exact n2', t_box_keeps hI.hsl hk1 h5.1, ?_, ?_⟩
       · have e : seenC n (L ++ [x]) = seenC n L := by unfold seenC; rw [seenM_out hxo]
         rw [e]; exact t_box_keeps hI.hct hk1 (fun e => h1 e.symm)
       · rw [seenM_out hxo]; exact hI.hse.keeps hk1 (fun b hb e => by simp at hb; omega)
      have hkf : Keeps (· ∈ [bG, bC, Gs.block]) W W1 := hkp.trans (hk1.mono fun b _ hb => by simp [hb])
      clear hI hin hin' hx htk hlx hL hinL n2 hk1 n2' hkp; have hC_h := lH hC; have hI2_h := lH hI2; have hkf_h := lH hkf; have hxo_h := lH hxo; clear hC hI2 hkf hxo
      go_wp2_with (fail)
      refine (hC_h.out _).mono ?_
      rintro e w1 ⟨rfl, rfl⟩
      go_upto_region 8 with (fail)
      rw [← hW1]
      clear hW1
      go_wp2_with (fail)
      go_roundw
      case rel => exact ⟨k + 1, by omega, by go_num, hI2_h.out, hkf_h.out⟩
      case measure => simp [intOf]; omega
  · obtain rfl : p = k := by omega
    rw [List.take_of_length_le (by rw [← hp_h.out]; exact Nat.le_refl _)] at hI
    have hI_h := lH hI; have hkp_h := lH hkp; clear hI hkp
    go_wp2_with (fail)
    go_end0
    exact ⟨rfl, hI_h.out, hkp_h.out⟩
theorem egH_eg (k v : Int) (l m : List Int) : egH k v l.length m.length = egB (k, v, l, m) := rfl
theorem madeSeen (n : Nat) : bls (List.replicate n false) = bls (seenM n []) := by rw [seenM_nil]
set_option maxRecDepth 100000 in
set_option maxHeartbeats 8000000 in
theorem isGraph_any {v : Value} {g : Gr} (w : World) (h : RdGr w v g) (ok : OkG g) :
  Calls Tryz.prog 56 #[v] w fun e w' => e = .returned (.bool (grB g)) ∧ Below w.heap.size w w' := by
 have hG0 := h
 obtain ⟨A, c, hs, ⟨B, b, s⟩, ⟨C, d, t⟩, rfl, e1, e2, e3, hE, hRa, hRb⟩ := h
 obtain ⟨z, es, s0, t0⟩ := g
 have a1 : es = hs.map egOf := e1
 have a2 : s = s0 := e2
 have a3 : t = t0 := e3
 subst a2 a3
 have hok := ok
 have hlen1 : es.length ≤ 1048576 := ok.1.1
 have hlen2 : s.length ≤ 1048576 := ok.1.2.1
 have hlen3 : t.length ≤ 1048576 := ok.1.2.2
 have hlE : ∀ x, x ∈ hs → x.2.2.1.2.2.length ≤ 1048576 ∧ x.2.2.2.2.2.length ≤ 1048576 := fun x hx => ok.2.1 _ (by show egOf x ∈ es; rw [a1]; exact List.mem_map_of_mem hx)
 obtain ⟨D, hD⟩ : ∃ D, D = grB (z, es, s, t) := ⟨_, rfl⟩
 have hDD := hD
 unfold grB at hDD
 simp only [Bool.and_assoc] at hDD
 rw [← hD]
 obtain ⟨m, hm⟩ : ∃ m, m = hs.length := ⟨_, rfl⟩
 obtain ⟨p, hp⟩ : ∃ p, p = s.length := ⟨_, rfl⟩
 obtain ⟨r, hr⟩ : ∃ r, r = t.length := ⟨_, rfl⟩
 have hmes : es.length = m := by rw [a1, List.length_map, hm]
 have hRa0 : RdI w B s := hRa
 have hRb0 : RdI w C t := hRb
 rw [hmes, ← hp, ← hr] at hDD
 change RdGr w (.agg #[.int .i64 z, .slice A hs.length c, .slice B s.length b, .slice C t.length d]) (z, es, s, t) at hG0
 rw [← hm, ← hp, ← hr] at hG0
 show Calls Tryz.prog _ #[.agg #[.int .i64 z, .slice A hs.length c, .slice B s.length b, .slice C t.length d]] w _
 rw [← hm, ← hp, ← hr]
 obtain ⟨W, hW, bW, k0⟩ := (⟨_, rfl, t_below_alloc _ _, heap_alloc_new _ _⟩ : ∃ W, W = w.alloc (.cells #[.int .i64 z, .slice A m c, .slice B p b, .slice C r d] tGr) ∧ Below w.heap.size w W ∧ W.heap[w.heap.size]? = some (.cells #[.int .i64 z, .slice A m c, .slice B p b, .slice C r d] tGr))
 obtain ⟨⟨c0, c1, c2, c3⟩, f0, f1, f2, f3⟩ := t_box4 k0
 have hI := fun (W : World) => t_within_any z 0 100 W
 clear hRa hRb ok e1 e2 e3 hRa0 hRb0
 by_cases h0 : t_inB z 0 100 = true
 case neg =>
  have h0' : t_inB z 0 100 = false := by simpa using h0
  obtain rfl : D = false := by rw [hDD, h0']; rfl
  simp only [h0'] at hI
  clear h0 h0'; have hI_h := lH hI; have k0_h := lH k0; have bW_h := lH bW; have hm_h := lH hm; have hp_h := lH hp; have hr_h := lH hr; have hD_h := lH hD; have hDD_h := lH hDD; have hmes_h := lH hmes; have hlE_h := lH hlE; have hok_h := lH hok; have a1_h := lH a1; have hE_h := lH hE; have hG0_h := lH hG0; clear hI k0 bW hm hp hr hD hDD hmes hlE hok a1 hE hG0
  go_enter Tryz.func56, Tryz.ntmps56
  go_upto_region 1 with (fail)
  rw [← hW]
  clear hW
  go_wp2_with (fail)
  refine (hI_h.out _).mono ?_
  rintro e w1 ⟨rfl, rfl⟩
  go_wp2_with (fail)
  go_ret
  exact ⟨rfl, bW_h.out⟩
 have hz : 0 ≤ z ∧ z ≤ 100 := of_decide_eq_true h0
 simp only [h0] at hI
 rw [h0, Bool.true_and] at hDD
 clear h0
 have wz : IntKind.i64.wrap (z - 1) = z - 1 := IntWalk.i64_in _ (by omega)
 by_cases h1 : m ≤ 60
 case neg =>
  obtain rfl : D = false := by rw [hDD, decide_eq_false h1]; rfl
  have h1' : ¬ ((m : Int) ≤ 60) := by omega
  have hI_h := lH hI; have k0_h := lH k0; have bW_h := lH bW; have hm_h := lH hm; have hp_h := lH hp; have hr_h := lH hr; have hD_h := lH hD; have hDD_h := lH hDD; have hmes_h := lH hmes; have hlE_h := lH hlE; have hok_h := lH hok; have a1_h := lH a1; have hE_h := lH hE; have hG0_h := lH hG0; clear hI k0 bW hm hp hr hD hDD hmes hlE hok a1 hE hG0
  go_enter Tryz.func56, Tryz.ntmps56
  go_upto_region 1 with (fail)
  rw [← hW]
  clear hW
  go_wp2_with (fail)
  refine (hI_h.out _).mono ?_
  rintro e w1 ⟨rfl, rfl⟩
  go_wp2_with (fail)
  go_ret
  exact ⟨rfl, bW_h.out⟩
 rw [decide_eq_true h1, Bool.true_and] at hDD
 have h1' : (m : Int) ≤ 60 := by omega
 by_cases h2 : p ≤ 12
 case neg =>
  obtain rfl : D = false := by rw [hDD, decide_eq_false h2]; rfl
  have h2' : ¬ ((p : Int) ≤ 12) := by omega
  have hI_h := lH hI; have k0_h := lH k0; have bW_h := lH bW; have hm_h := lH hm; have hp_h := lH hp; have hr_h := lH hr; have hD_h := lH hD; have hDD_h := lH hDD; have hmes_h := lH hmes; have hlE_h := lH hlE; have hok_h := lH hok; have a1_h := lH a1; have hE_h := lH hE; have hG0_h := lH hG0; clear hI k0 bW hm hp hr hD hDD hmes hlE hok a1 hE hG0
  go_enter Tryz.func56, Tryz.ntmps56
  go_upto_region 1 with (fail)
  rw [← hW]
  clear hW
  go_wp2_with (fail)
  refine (hI_h.out _).mono ?_
  rintro e w1 ⟨rfl, rfl⟩
  go_wp2_with (fail)
  go_ret
  exact ⟨rfl, bW_h.out⟩
 rw [decide_eq_true h2, Bool.true_and] at hDD
 have h2' : (p : Int) ≤ 12 := by omega
 by_cases h3 : r ≤ 12
 case neg =>
  obtain rfl : D = false := by rw [hDD, decide_eq_false h3]; rfl
  have h3' : ¬ ((r : Int) ≤ 12) := by omega
  have hI_h := lH hI; have k0_h := lH k0; have bW_h := lH bW; have hm_h := lH hm; have hp_h := lH hp; have hr_h := lH hr; have hD_h := lH hD; have hDD_h := lH hDD; have hmes_h := lH hmes; have hlE_h := lH hlE; have hok_h := lH hok; have a1_h := lH a1; have hE_h := lH hE; have hG0_h := lH hG0; clear hI k0 bW hm hp hr hD hDD hmes hlE hok a1 hE hG0
  go_enter Tryz.func56, Tryz.ntmps56
  go_upto_region 1 with (fail)
  rw [← hW]
  clear hW
  go_wp2_with (fail)
  refine (hI_h.out _).mono ?_
  rintro e w1 ⟨rfl, rfl⟩
  go_wp2_with (fail)
  go_ret
  exact ⟨rfl, bW_h.out⟩
 rw [decide_eq_true h3, Bool.true_and] at hDD
 have h3' : (r : Int) ≤ 12 := by omega
 have hI_h := lH hI; have k0_h := lH k0; have bW_h := lH bW; have hm_h := lH hm; have hp_h := lH hp; have hr_h := lH hr; have hD_h := lH hD; have hDD_h := lH hDD; have hmes_h := lH hmes; have hlE_h := lH hlE; have hok_h := lH hok; have a1_h := lH a1; have hE_h := lH hE; have hG0_h := lH hG0; clear hI k0 bW hm hp hr hD hDD hmes hlE hok a1 hE hG0
 go_enter Tryz.func56, Tryz.ntmps56
 go_upto_region 1 with (fail)
 rw [← hW]
 clear hW
 go_wp2_with (fail)
 refine (hI_h.out _).mono ?_
 rintro e w1 ⟨rfl, rfl⟩
 obtain ⟨W, rfl⟩ : ∃ x, x = w1 := ⟨_, rfl⟩
 go_wp2_with (fail)
 clear c0 c1 c2 c3 f0 f1 f2 f3
 go_loopw [33] (fun i wr => ∃ k : Nat, k ≤ m ∧ i = .int .i64 k ∧ (es.take k).all egB = true ∧ Below W.heap.size W wr) (fun i _ => m - (intOf i).toNat)
 case atStart => exact ⟨0, Nat.zero_le _, rfl, by simp, Below.refl _ _⟩
 case round =>
  obtain ⟨k, hk, rfl, hall, hB1⟩ := hrel
  have kr := t_box_below k0_h.out hB1
  have hBw := below_trans bW_h.out hB1 bW_h.out.size
  by_cases hlt : k < m
  · obtain ⟨ad, κ, vv, B1, b1, s1, C1, b2, t1, rfl, hn, ⟨d0, d1, d2, d3⟩, hr1, hr2⟩ := (hE_h.out.below hBw).at_ (j := k) (by rw [← hm_h.out]; exact hlt)
    have hek : es[k]? = some (κ, vv, s1, t1) := by rw [a1_h.out, List.getElem?_map, hn]; rfl
    have hln := hlE_h.out _ (List.mem_of_getElem? hn)
    obtain ⟨wo, rfl⟩ : ∃ x, x = wr := ⟨_, rfl⟩
    have hC := fun (W' : World) (_ : Below wo.heap.size wo W') => isEdge_any κ vv B1 C1 b1 b2 s1.length t1.length W'
    obtain ⟨p1, hp1⟩ : ∃ p1, p1 = s1.length := ⟨_, rfl⟩
    obtain ⟨r1, hr1'⟩ : ∃ r1, r1 = t1.length := ⟨_, rfl⟩
    simp only [egH_eg] at hC
    simp only [← hp1, ← hr1'] at hC
    rw [← hp1] at d2
    rw [← hr1'] at d3
    obtain ⟨W6, hW6, bW6, k6⟩ := (⟨_, rfl, t_below_alloc _ _, heap_alloc_new _ _⟩ : ∃ W, W = wo.alloc (.cells #[.int .i64 κ, .int .i64 vv, .slice B1 p1 b1, .slice C1 r1 b2] tEd) ∧ Below wo.heap.size wo W ∧ W.heap[wo.heap.size]? = some (.cells #[.int .i64 κ, .int .i64 vv, .slice B1 p1 b1, .slice C1 r1 b2] tEd))
    have hCW := hC W6 bW6
    have hkI : (k : Int) < (m : Int) := by omega
    have kr6 := t_box_below kr bW6
    have hBW6 := below_trans hB1 bW6 hB1.size
    obtain ⟨⟨c0, c1, c2, c3⟩, f0, f1, f2, f3⟩ := t_box4 k6
    obtain ⟨⟨y0, y1, y2, y3⟩, g0, g1, g2, g3⟩ := t_box4 kr6
    obtain ⟨H, hH⟩ : ∃ H, H = egB (κ, vv, s1, t1) := ⟨_, rfl⟩
    rw [← hH] at hCW
    have hr1_h := lH hr1'; clear hr1' hr1 hr2 hn hln hC kr hB1 kr6; have hCW_h := lH hCW; have hek_h := lH hek; have hall_h := lH hall; have hp1_h := lH hp1; have bW6_h := lH bW6; have k6_h := lH k6; have hBW6_h := lH hBW6; have hBw_h := lH hBw; have hH_h := lH hH; clear hCW hek hall hp1 bW6 k6 hBW6 hBw hH
    go_upto_region 6 with (fail)
    rw [← hW6]
    clear hW6
    go_wp2_with (fail)
    refine (hCW_h.out).mono ?_
    rintro e w7 ⟨rfl, hb7⟩
    have hB8 := below_trans hBW6_h.out hb7 hBW6_h.out.size
    clear hb7 c0 c1 c2 c3 f0 f1 f2 f3 y0 y1 y2 y3 g0 g1 g2 g3 d0 d1 d2 d3
    cases H
    · have hf : D = false := by
       rw [hDD_h.out, show es.all egB = false from ?_]; rfl
       rw [Bool.eq_false_iff]
       intro hh
       have := List.all_eq_true.1 hh _ (List.mem_of_getElem? hek_h.out)
       rw [← hH_h.out] at this; cases this
      subst hf
      have hBz := below_trans bW_h.out hB8 bW_h.out.size
      have hB8_h := lH hB8; have hBz_h := lH hBz; clear hB8 hBz
      go_wp2_with (fail)
      go_ret
      exact ⟨rfl, hBz_h.out⟩
    · have hall2 : (es.take (k + 1)).all egB = true := by rw [List.take_add_one, hek_h.out, List.all_append, hall_h.out]; simp [← hH_h.out]
      have hB8_h := lH hB8; have hall2_h := lH hall2; clear hB8 hall2
      go_wp2_with (fail)
      go_roundw
      case rel => exact ⟨k + 1, by omega, by go_num, hall2_h.out, hB8_h.out⟩
      case measure => simp [intOf]; omega
  · obtain rfl : m = k := by omega
    rw [List.take_of_length_le (by rw [hmes_h.out]; exact Nat.le_refl _)] at hall
    have hD3 := hDD_h.out
    rw [hall, Bool.true_and] at hD3
    obtain ⟨n, rfl⟩ : ∃ n : Nat, z = (n : Int) := ⟨z.toNat, by omega⟩
    obtain ⟨⟨y0, y1, y2, y3⟩, g0, g1, g2, g3⟩ := t_box4 kr
    have hn100 : n ≤ 100 := by omega
    clear hall hDD_h hB1; have hD3_h := lH hD3; have kr_h := lH kr; have hBw_h := lH hBw; clear hD3 kr hBw
    go_upto_region 10 with (at_make; refine wpList_make_Sl _ rfl _ _ _ rfl tBool Tryz.underlying98 info_bool n n rfl rfl rfl rfl (Nat.le_refl _) (by omega) (by unfold maxLen; omega) ?_; intro Gs w2 hs2 hG2 hb2)
    have hsn : Sl w2 tBool 1 (some Gs) n n (bls (seenM n [])) := by rw [← madeSeen, ← madeBls]; exact hs2
    have hB2 := below_trans hBw_h.out hb2 hBw_h.out.size
    have kr2 := t_box_below kr_h.out hb2
    have hGl : Gs.block < w2.heap.size := hsn.lt Gs.block (by simp)
    obtain ⟨W3, hW3, bW3, j0, j1, j2⟩ := allocs3 w2 (.cells #[.slice (some Gs) n n] tBools) (.cells #[.bool true] tBool) (.cells #[.int .i64 0] tInt)
    have hB3 := below_trans hB2 bW3 hB2.size
    have hws := hBw_h.out.size
    have hw1 := t_box_lt kr_h.out
    have hI0 : GI n w.heap.size (w2.heap.size + 1) w2.heap.size (w2.heap.size + 1 + 1) Gs (.slice A m c) (.slice B p b) (.slice C r d) [] W3 :=
     ⟨t_box_below kr2 bW3, j1, j0, by
      have e : seenC n [] = 0 := by unfold seenC; rw [seenM_nil]; simp [List.count_replicate]
      rw [e]; exact j2, hsn.below bW3⟩
    have hLI := lists_any w hG0_h.out hok_h.out 78 #[.pointer (some ⟨w.heap.size, 0, none⟩), .pointer (some ⟨w2.heap.size + 1, 0, none⟩), .pointer (some ⟨w2.heap.size, 0, none⟩), .pointer (some ⟨w2.heap.size + 1 + 1, 0, none⟩)] (fun _ _ => rfl)
     (fun l W => GI n w.heap.size (w2.heap.size + 1) w2.heap.size (w2.heap.size + 1 + 1) Gs (.slice A m c) (.slice B p b) (.slice C r d) l W) [w2.heap.size + 1, w2.heap.size + 1 + 1, Gs.block]
     (fun x hx => by simp at hx; omega) (fun l W W' h hb => h.below hb)
     (fun l B' c' m' W' hI hm' _ hml => isGraphC_any n w.heap.size (w2.heap.size + 1) w2.heap.size (w2.heap.size + 1 + 1) Gs (.slice A m c) (.slice B p b) (.slice C r d) l B' c' m' W' hn100 hml (by omega) (by omega) (by omega) ⟨by omega, by omega, by omega⟩ ⟨by omega, by omega, by omega⟩ hI hm')
     W3 hI0 hB3 (fun x hx => by have := t_box_lt j2; simp at hx; omega)
    have hmf : ∀ (fn : Fn) (first cap : Array Value) (w : World), (Instr.makeFunc fn first cap).run Tryz.prog w = .ok (.func fn first cap) w := fun _ _ _ _ => rfl
    have kr3 := t_box_below kr2 bW3
    obtain ⟨L, hL⟩ : ∃ L, L = t_allW ((n : Int), es, s, t) := ⟨_, rfl⟩
    have hsf := seenC_full n L
    have hD5 : D = (inW (n : Int) L && decide (seenC n L = n)) := by rw [hD3_h.out, hsf, hL]; rfl
    rw [← hL] at hLI
    have hSge : ∀ x, x ∈ [w2.heap.size + 1, w2.heap.size + 1 + 1, Gs.block] → w.heap.size ≤ x := fun x hx => by simp at hx; omega
    clear hs2 hsn hB2 kr2 hI0 hsf y0 y1 y2 y3 g0 g1 g2 g3 j0 j1 j2
    obtain ⟨⟨y0, y1, y2, y3⟩, g0, g1, g2, g3⟩ := t_box4 kr3
    have hB3_h := lH hB3; have kr3_h := lH kr3; have hLI_h := lH hLI; have hL_h := lH hL; have hD5_h := lH hD5; have bW3_h := lH bW3; have hSge_h := lH hSge; clear hB3 kr3 hLI hL hD5 bW3 hSge
    rw [← hW3]
    clear hW3
    go_wp2_with (fail)
    refine (hLI_h.out).mono ?_
    rintro e w9 ⟨rfl, hI9, hk9⟩
    have hB9 := below_keeps hB3_h.out hk9 hB3_h.out.size hSge_h.out
    clear y0 y1 y2 y3 g0 g1 g2 g3 hmf
    obtain ⟨⟨y0, y1, y2, y3⟩, g0, g1, g2, g3⟩ := t_box4 hI9.hg
    obtain ⟨z0, z1⟩ := boxg1 hI9.hgd
    obtain ⟨z2, z3⟩ := boxg1 hI9.hct
    have hD6 := hD5_h.out
    clear hI9 hk9
    cases hiw : inW (n : Int) L
    · rw [hiw] at hD6 z0
      obtain rfl : D = false := hD6
      have hB9_h := lH hB9; have hiw_h := lH hiw; clear hB9 hiw
      go_wp2_with (fail)
      go_ret
      exact ⟨rfl, hB9_h.out⟩
    · rw [hiw, Bool.true_and] at hD6
      rw [hiw] at z0
      obtain ⟨x, hx⟩ : ∃ x, x = seenC n L := ⟨_, rfl⟩
      rw [← hx] at z2 hD6
      by_cases hxn : x = n
      · subst hxn
        obtain rfl : D = true := by rw [hD6]; exact decide_eq_true rfl
        have hbe : ((x : Int) == (x : Int)) = true := by simp
        clear hD6; have hB9_h := lH hB9; have hiw_h := lH hiw; have hx_h := lH hx; clear hB9 hiw hx
        go_wp2_with (fail)
        go_ret
        exact ⟨rfl, hB9_h.out⟩
      · obtain rfl : D = false := by rw [hD6]; exact decide_eq_false hxn
        have hbe : ((x : Int) == (n : Int)) = false := by rw [beq_eq_false_iff_ne]; omega
        clear hD6; have hB9_h := lH hB9; have hiw_h := lH hiw; have hx_h := lH hx; clear hB9 hiw hx
        go_wp2_with (fail)
        go_ret
        exact ⟨rfl, hB9_h.out⟩
structure Cls (n : Nat) (C : List Int) : Prop where
 len : C.length = n
 le : ∀ w : Nat, w < n → 0 ≤ C.getD w 0 ∧ C.getD w 0 ≤ w
 fix : ∀ w : Nat, w < n → C.getD (C.getD w 0).toNat 0 = C.getD w 0
structure Par (n : Nat) (P C : List Int) : Prop where
 len : P.length = n
 le : ∀ w : Nat, w < n → 0 ≤ P.getD w 0 ∧ P.getD w 0 ≤ w
 same : ∀ w : Nat, w < n → C.getD (P.getD w 0).toNat 0 = C.getD w 0
 root : ∀ w : Nat, w < n → P.getD w 0 = w → C.getD w 0 = w
def relV (x y c : Int) : Int := if c = max x y then min x y else c
def relab (x y : Int) (C : List Int) : List Int := C.map (relV x y)
def idW (n : Nat) : List Int := (List.range n).map fun w : Nat => (w : Int)
@[simp] theorem idW_length (n : Nat) : (idW n).length = n := by simp [idW]
theorem idW_get {n w : Nat} (h : w < n) : (idW n)[w]? = some (w : Int) := by simp [idW, h]
theorem idW_getD {n w : Nat} (h : w < n) : (idW n).getD w 0 = (w : Int) := by rw [List.getD_eq_getElem?_getD, idW_get h]; rfl
theorem getD_map_lt {C : List Int} {f : Int → Int} {w : Nat} (h : w < C.length) : (C.map f).getD w 0 = f (C.getD w 0) := by
 rw [List.getD_eq_getElem?_getD, List.getD_eq_getElem?_getD, List.getElem?_map, List.getElem?_eq_getElem h]; rfl
theorem Cls.id (n : Nat) : Cls n (idW n) := ⟨by simp, fun w h => by rw [idW_getD h]; omega, fun w h => by rw [idW_getD h, show ((w : Int)).toNat = w by omega, idW_getD h]⟩
theorem Par.id (n : Nat) : Par n (idW n) (idW n) := ⟨by simp, fun w h => by rw [idW_getD h]; omega, fun w h => by rw [idW_getD h, show ((w : Int)).toNat = w by omega, idW_getD h], fun w h _ => idW_getD h⟩
section
variable {n : Nat} {C P : List Int} {a b : Nat}
theorem relab_getD (hC : Cls n C) (x y : Int) {w : Nat} (h : w < n) : (relab x y C).getD w 0 = relV x y (C.getD w 0) := getD_map_lt (by rw [hC.len]; exact h)
@[simp] theorem relab_length (x y : Int) (C : List Int) : (relab x y C).length = C.length := by simp [relab]
theorem relV_le (x y c : Int) : relV x y c ≤ c := by unfold relV; split <;> omega
theorem Cls.join (hC : Cls n C) (ha : a < n) (hb : b < n) : Cls n (relab (C.getD a 0) (C.getD b 0) C) := by
 have la := hC.le a ha
 have lb := hC.le b hb
 have fa := hC.fix a ha
 have fb := hC.fix b hb
 refine ⟨by rw [relab_length, hC.len], fun w hw => ?_, fun w hw => ?_⟩
 · rw [relab_getD hC _ _ hw]
   have := hC.le w hw
   have := relV_le (C.getD a 0) (C.getD b 0) (C.getD w 0)
   unfold relV at this ⊢
   split <;> omega
 · have lw := hC.le w hw
   rw [relab_getD hC _ _ hw]
   by_cases hm : C.getD w 0 = max (C.getD a 0) (C.getD b 0)
   · have e : relV (C.getD a 0) (C.getD b 0) (C.getD w 0) = min (C.getD a 0) (C.getD b 0) := by unfold relV; rw [if_pos hm]
     rw [e, relab_getD hC _ _ (by omega)]
     have e2 : C.getD (min (C.getD a 0) (C.getD b 0)).toNat 0 = min (C.getD a 0) (C.getD b 0) := by
      by_cases h : C.getD a 0 ≤ C.getD b 0
      · rw [show min (C.getD a 0) (C.getD b 0) = C.getD a 0 by omega]; exact fa
      · rw [show min (C.getD a 0) (C.getD b 0) = C.getD b 0 by omega]; exact fb
     rw [e2]
     unfold relV; split <;> omega
   · have e : relV (C.getD a 0) (C.getD b 0) (C.getD w 0) = C.getD w 0 := by unfold relV; rw [if_neg hm]
     rw [e, relab_getD hC _ _ (by omega), hC.fix w hw, e]
theorem Par.join (hP : Par n P C) (hC : Cls n C) (ha : a < n) (hb : b < n) : Par n (P.set (max (C.getD a 0) (C.getD b 0)).toNat (min (C.getD a 0) (C.getD b 0))) (relab (C.getD a 0) (C.getD b 0) C) := by
 have la := hC.le a ha
 have lb := hC.le b hb
 have fa := hC.fix a ha
 have fb := hC.fix b hb
 obtain ⟨M, hM⟩ : ∃ M, M = max (C.getD a 0) (C.getD b 0) := ⟨_, rfl⟩
 obtain ⟨m, hm⟩ : ∃ m, m = min (C.getD a 0) (C.getD b 0) := ⟨_, rfl⟩
 have e2 : C.getD m.toNat 0 = m := by
  by_cases h : C.getD a 0 ≤ C.getD b 0
  · rw [hm, show min (C.getD a 0) (C.getD b 0) = C.getD a 0 by omega]; exact fa
  · rw [hm, show min (C.getD a 0) (C.getD b 0) = C.getD b 0 by omega]; exact fb
 have eM : C.getD M.toNat 0 = M := by
  by_cases h : C.getD a 0 ≤ C.getD b 0
  · rw [hM, show max (C.getD a 0) (C.getD b 0) = C.getD b 0 by omega]; exact fb
  · rw [hM, show max (C.getD a 0) (C.getD b 0) = C.getD a 0 by omega]; exact fa
 have rM : relV (C.getD a 0) (C.getD b 0) M = m := by unfold relV; rw [if_pos hM, hm]
 have rO : ∀ c, c ≠ M → relV (C.getD a 0) (C.getD b 0) c = c := fun c h => by unfold relV; rw [if_neg (by rw [← hM]; exact h)]
 rw [← hM, ← hm]
 have hget : ∀ w : Nat, w < n → (P.set M.toNat m).getD w 0 = if w = M.toNat then m else P.getD w 0 := fun w hw => by
  rw [List.getD_eq_getElem?_getD, List.getElem?_set, List.getD_eq_getElem?_getD]
  by_cases h : M.toNat = w
  · rw [if_pos h, if_pos h.symm, if_pos (by rw [hP.len]; omega)]; rfl
  · rw [if_neg h, if_neg (fun e => h e.symm)]
 have rm : relV (C.getD a 0) (C.getD b 0) m = m := by
  by_cases h : m = M
  · rw [h, rM, h]
  · exact rO m h
 refine ⟨by rw [List.length_set, hP.len], fun w hw => ?_, fun w hw => ?_, fun w hw he => ?_⟩
 · rw [hget w hw]
   have := hP.le w hw
   split
   · rename_i h; subst h; omega
   · exact this
 · rw [hget w hw, relab_getD hC _ _ hw]
   split
   · rename_i h
     subst h
     rw [relab_getD hC _ _ (by omega), e2, eM, rM, rm]
   · have := hP.le w hw
     rw [relab_getD hC _ _ (by omega), hP.same w hw]
 · rw [hget w hw] at he
   rw [relab_getD hC _ _ hw]
   by_cases h : w = M.toNat
   · rw [if_pos h] at he
     have hwM : (w : Int) = M := by omega
     rw [h, eM, rM]; omega
   · rw [if_neg h] at he
     rw [hP.root w hw he]
     exact rO _ (by omega)
end
def nrM (C : List Int) : Nat → Nat
 | 0 => 0
 | w + 1 => nrM C w + (if C.getD w 0 = (w : Int) then 1 else 0)
theorem nrM_le (C : List Int) : ∀ w, nrM C w ≤ w
 | 0 => Nat.le_refl _
 | w + 1 => by have := nrM_le C w; unfold nrM; split <;> omega
def numM (C : List Int) : List Int := C.map fun c => (nrM C c.toNat : Int)
@[simp] theorem numM_length (C : List Int) : (numM C).length = C.length := by simp [numM]
theorem numM_get {n : Nat} {C : List Int} (hC : Cls n C) {w : Nat} (h : w < n) : (numM C)[w]? = some (nrM C (C.getD w 0).toNat : Int) := by
 unfold numM
 rw [List.getElem?_map, List.getD_eq_getElem?_getD, List.getElem?_eq_getElem (by rw [hC.len]; exact h)]; rfl
def num0 (C : List Int) : List Int := (List.range C.length).map fun w => if C.getD w 0 = (w : Int) then (nrM C w : Int) else 0
@[simp] theorem num0_length (C : List Int) : (num0 C).length = C.length := by simp [num0]
def joinsM (C : List Int) : List (Int × Int) → List Int
 | [] => C
 | q :: r => joinsM (relab (C.getD q.1.toNat 0) (C.getD q.2.toNat 0) C) r
theorem joinsM_append (l m : List (Int × Int)) : ∀ C, joinsM C (l ++ m) = joinsM (joinsM C l) m := by
 induction l with
 | nil => intro C; rfl
 | cons q r ih => intro C; exact ih _
theorem Cls.joins {n : Nat} : ∀ {l : List (Int × Int)} {C : List Int}, Cls n C → (∀ q, q ∈ l → (0 ≤ q.1 ∧ q.1 < n) ∧ 0 ≤ q.2 ∧ q.2 < n) → Cls n (joinsM C l)
 | [], _, h, _ => h
 | q :: r, C, h, hq => by
   have := hq q (by simp)
   show Cls n (joinsM (relab (C.getD q.1.toNat 0) (C.getD q.2.toNat 0) C) r)
   exact Cls.joins (l := r) (h.join (a := q.1.toNat) (b := q.2.toNat) (by omega) (by omega)) fun x hx => hq x (by simp [hx])
def pairsE (e : Eg) : List (Int × Int) := (e.2.2.1 ++ e.2.2.2).map fun w => ((e.2.2.1 ++ e.2.2.2).getD 0 0, w)
def pairsG (g : Gr) : List (Int × Int) := g.2.1.flatMap pairsE
def clsG (g : Gr) : List Int := joinsM (idW g.1.toNat) (pairsG g)
theorem IS.of_made {w : World} {G : Addr} {n : Nat} (h : Sl w tInt 1 (some G) n n ((madeCells (Value.int .i64 0).cells (n * 1)).toList.take (n * 1))) : IS w (some G) n (List.replicate n 0) := by
 unfold IS; rw [← madeZeros]; simpa using h
theorem t_zeros_any (n : Nat) (w : World) (hn : n ≤ 1048576) :
  Calls Tryz.prog 98 #[.int .i64 n] w fun e w' => ∃ G, e = .returned (.slice (some G) n n) ∧ IS w' (some G) n (List.replicate n 0) ∧ w.heap.size ≤ G.block ∧ Below w.heap.size w w' := by
 go_enter Tryz.func98, Tryz.ntmps98
 go_wp2_with (at_make; refine wpList_make_Sl _ rfl _ _ _ rfl tInt Tryz.underlying23 info_int n n rfl rfl rfl rfl (Nat.le_refl _) (by omega) (by unfold maxLen; omega) ?_; intro G w1 hs hG hb1)
 have his0 : IS w1 (some G) n (List.replicate n 0) := by unfold IS; rw [← madeZeros]; simpa using hs
 clear hs; have his0_h := lH his0; clear his0
 go_ret
 exact ⟨G, rfl, his0_h.out, hG, hb1⟩
set_option maxHeartbeats 400000 in
theorem upTo_any (n : Nat) (w : World) (hn : n ≤ 1048576) :
  Calls Tryz.prog 119 #[.int .i64 n] w fun e w' => ∃ G, e = .returned (.slice (some G) n n) ∧ IS w' (some G) n (idW n) ∧ w.heap.size ≤ G.block ∧ Below w.heap.size w w' := by
 have hC := t_zeros_any n w (by omega)
 have HC := lH hC; clear hC
 go_enter Tryz.func119, Tryz.ntmps119
 go_wp2_with (fail)
 refine HC.out.mono ?_
 rintro e w1 ⟨G, rfl, his0, hfG, hb1⟩
 have hf : Fresh w.heap.size (some G) := fun b hb => by simp at hb; omega
 go_wp2_with (fail)
 go_loopw [9] (fun i wr => ∃ k : Nat, k ≤ n ∧ i = .int .i64 k ∧ IS wr (some G) n ((idW n).take k ++ (List.replicate n (0 : Int)).drop k) ∧ Below w.heap.size w wr) (fun i _ => n - (intOf i).toNat)
 case atStart => exact ⟨0, Nat.zero_le _, rfl, by simpa using his0, hb1⟩
 case round =>
  clear his0 hb1
  obtain ⟨k, hk, rfl, his, hb⟩ := hrel
  have hlen : ((idW n).take k ++ (List.replicate n (0 : Int)).drop k).length = n := by simp; omega
  by_cases hlt : k < n
  · obtain ⟨ad, y, hA, hy, _, hc', hf'⟩ := his.at_ (j := k) (by rw [hlen]; exact hlt)
    obtain rfl := Option.some.inj hA
    have hfz := hf' k
    have his' := his.set (ad := G) rfl (j := k) ((k : Nat) : Int) (by rw [hlen]; exact hlt)
    rw [take_append_step (by simp) (idW_get hlt)] at his'
    have HI := lH his'
    have hb' := lH (hb.setCell (p := G.add k) (by rw [block_of_add]; exact hfG) (.int .i64 ((k : Nat) : Int)))
    have hkI : (k : Int) < (n : Int) := by omega
    clear his' hf' his hy hlen hb
    go_wp2_with (fail)
    go_roundw
    case rel => exact ⟨k + 1, by omega, by go_num, HI.out, hb'.out⟩
    case measure => simp [intOf]; omega
  · obtain rfl : n = k := by omega
    have his2 : IS wr (some G) n (idW n) := by
     have := his
     rwa [List.take_of_length_le (by simp), List.drop_of_length_le (by simp), List.append_nil] at this
    clear his hlen
    go_wp2_with (fail)
    go_ret
    exact ⟨G, rfl, his2, hfG, hb⟩
structure OI (w0 w : World) (A : Option Addr) (cap : Nat) (l : List Int) : Prop where
 is : IS w A cap l
 new : Fresh w0.heap.size A
 below_ : Below w0.heap.size w0 w
theorem OI.join {w0 w w2 : World} {A : Option Addr} {cap : Nat} {l v : List Int} (h : OI w0 w A cap l) {A' : Option Addr} {cap' n : Nat} (hn : n = l.length + v.length) (hs' : Sl w2 tInt 1 A' n cap' (ints l ++ ints v)) (hA' : ∀ b, b ∈ fpA A' → b ∈ fpA A ∨ w.heap.size ≤ b) (hk : Keeps (· ∈ fpA A) w w2) : OI w0 w2 A' cap' (l ++ v) := by
 subst hn
 refine ⟨?_, fun b hb' => ?_, below_keeps h.below_ hk h.below_.size h.new⟩
 · unfold IS
   have : ints (l ++ v) = ints l ++ ints v := by simp [ints]
   rw [this, List.length_append]; exact hs'
 · rcases hA' b hb' with h1 | h1
   · exact h.new b h1
   · have := h.below_.size; omega
theorem flat_take_le {L : List (List Int)} {k : Nat} {N : Nat} (h : L.flatten.length ≤ N) : (L.take k).flatten.length ≤ N := by
 have e : L.flatten.length = (L.take k).flatten.length + (L.drop k).flatten.length := by
  have := congrArg (fun x => x.flatten.length) (List.take_append_drop k L)
  simp only [List.flatten_append, List.length_append] at this; omega
 omega
set_option maxHeartbeats 1000000 in
theorem joined_any (A : Option Addr) (c : Nat) (hs : List Hd) (w : World) (h : RdR w A hs) (hl : hs.length ≤ 1048576) (hN : (hs.map fun h : Hd => h.2.2).flatten.length ≤ 1048576) :
  Calls Tryz.prog 80 #[.slice A hs.length c] w (RetI w (hs.map fun h : Hd => h.2.2).flatten) := by
 obtain ⟨L, hLh⟩ : ∃ L, L = hs.map fun h : Hd => h.2.2 := ⟨_, rfl⟩
 rw [← hLh] at hN ⊢
 obtain ⟨m, hmm⟩ : ∃ m, m = hs.length := ⟨_, rfl⟩
 rw [← hmm] at hl ⊢
 have HLh := lH hLh; have HM := lH hmm
 have hLen := lH (show L.length = m by rw [hLh, List.length_map, hmm])
 clear hLh hmm
 have hO0 : OI w (w.alloc (.cells #[] 3)) (some ⟨w.heap.size, 0, none⟩) 0 [] := by
  refine ⟨by unfold IS; simpa [ints] using Sl.laid w 3 1 0 #[] (Nat.zero_le _) rfl, fun b hb => ?_, (Below.refl _ _).alloc (Nat.le_refl _) _⟩
  have : b = w.heap.size := by simpa using hb
  subst this; exact Nat.le_refl _
 go_enter Tryz.func80, Tryz.ntmps80
 go_wp2_with (fail)
 go_loopw [9, 3] (fun i v wr => ∃ (k : Nat) (A' : Option Addr) (c' n : Nat), k ≤ m ∧ i = .int .i64 k ∧ v = .slice A' n c' ∧ n = ((L.take k).flatten).length ∧ OI w wr A' c' (L.take k).flatten) (fun i _ _ => m - (intOf i).toNat)
 case atStart => exact ⟨0, _, 0, 0, Nat.zero_le _, rfl, rfl, rfl, by simpa using hO0⟩
 case round =>
  clear hO0
  obtain ⟨k, A', c', n, hk, rfl, rfl, hn, hO⟩ := hrel
  by_cases hlt : k < m
  · obtain ⟨⟨C, d, l⟩, hx⟩ : ∃ x, hs[k]? = some x := ⟨_, List.getElem?_eq_getElem (by rw [← HM.out]; exact hlt)⟩
    have hbl := h.below hO.below_
    obtain ⟨ad, hA, hc⟩ := hbl.1 k _ hx
    have hri := hbl.2 _ (List.mem_of_getElem? hx)
    subst hA
    clear hbl
    simp only [Hd.val] at hc
    simp only at hri
    have hlx : L[k]? = some l := by rw [HLh.out, List.getElem?_map, hx]; rfl
    have hnx : (L.take (k + 1)).flatten = (L.take k).flatten ++ l := by rw [List.take_add_one, hlx]; simp
    have hb1 := flat_take_le (k := k + 1) hN
    rw [hnx, List.length_append] at hb1
    have hsl : Sl wr 3 1 A' n c' (ints (L.take k).flatten) := by rw [hn]; exact hO.is
    obtain ⟨q, hq⟩ : ∃ q, q = l.length := ⟨_, rfl⟩
    rw [← hq] at hc hb1
    rw [← hn] at hb1
    have hil : (ints l).length = q * 1 := by rw [ints_length, hq, Nat.mul_one]
    have HNX := lH hnx; have HQ := lH hq; have HN := lH hn; have HIL := lH hil
    have hkI : (k : Int) < (m : Int) := by omega
    clear hx hlx hnx hq hn hil h
    go_wp2_with (at_builtin; refine wpList_append_Sl _ rfl _ _ _ rfl 3 Tryz.underlying23 info_int rfl (by omega) rfl hsl rfl HIL.out hri.rdc (ints_one l) (by unfold maxLen; omega) (by omega) ?_; intro A3 c3 w3 hs3 hA3 hk3)
    have hO2 := lH (hO.join (v := l) (by rw [← HN.out, ← HQ.out]) hs3 hA3 hk3)
    clear hs3 hO hsl
    go_roundw
    case rel => exact ⟨k + 1, A3, c3, n + q, by omega, by go_num, rfl, by rw [HNX.out, List.length_append, HN.out, HQ.out], by rw [HNX.out]; exact hO2.out⟩
    case measure => simp [intOf]; omega
  · obtain rfl : m = k := by omega
    have hO2 : OI w wr A' c' L.flatten := by have := hO; rwa [List.take_of_length_le (by rw [hLen.out]; omega)] at this
    have hn2 : n = L.flatten.length := by rw [hn, List.take_of_length_le (by rw [hLen.out]; omega)]
    have HN2 := lH hn2; clear hO h hn hn2
    go_wp2_with (fail)
    go_ret
    exact ⟨A', c', by rw [← HN2.out]; rfl, hO2.is, hO2.new, hO2.below_⟩
theorem l1Least_any (a b : Int) (w : World) : Calls Tryz.prog 126 #[.int .i64 a, .int .i64 b] w fun e w' => e = .returned (.int .i64 (min a b)) ∧ w' = w := by
 go_enter Tryz.func126, Tryz.ntmps126
 go_wp2
 all_goals go_ret
 all_goals (refine ⟨ret_int ?_, rfl⟩; omega)
theorem Par.get {n : Nat} {P C : List Int} (h : Par n P C) {k : Nat} (hk : k < n) : P[k]? = some (P.getD k 0) := by
 rw [List.getD_eq_getElem?_getD, List.getElem?_eq_getElem (by rw [h.len]; exact hk)]; rfl
theorem Cls.get {n : Nat} {C : List Int} (h : Cls n C) {k : Nat} (hk : k < n) : C[k]? = some (C.getD k 0) := by
 rw [List.getD_eq_getElem?_getD, List.getElem?_eq_getElem (by rw [h.len]; exact hk)]; rfl
set_option maxHeartbeats 1000000 in
theorem root_any (G : Addr) (n a : Nat) (P C : List Int) (w : World) (h : RdI w (some G) P) (hP : Par n P C) (ha : a < n) :
  Calls Tryz.prog 121 #[.slice (some G) n n, .int .i64 a] w fun e w' => e = .returned (.int .i64 (C.getD a 0)) ∧ w' = w := by
 obtain ⟨r, hr⟩ : ∃ r, r = C.getD a 0 := ⟨_, rfl⟩
 rw [← hr]
 have hr_h := lH hr; have h_h := lH h; have hP_h := lH hP; clear hr h hP
 go_enter Tryz.func121, Tryz.ntmps121
 go_wp2_with (fail)
 go_loopw [1] (fun i wr => ∃ k : Nat, k < n ∧ i = .int .i64 k ∧ C.getD k 0 = r ∧ wr = w) (fun i _ => (intOf i).toNat)
 case atStart => exact ⟨a, ha, rfl, hr_h.out.symm, rfl⟩
 case round =>
  obtain ⟨k, hk, rfl, he, rfl⟩ := hrel
  obtain ⟨x, hx⟩ : ∃ x, x = P.getD k 0 := ⟨_, rfl⟩
  obtain ⟨ad, e1, hc⟩ := h_h.out k _ (hP_h.out.get hk)
  obtain rfl := Option.some.inj e1
  have hle := hP_h.out.le k hk
  have hsm := hP_h.out.same k hk
  have hrt := hP_h.out.root k hk
  rw [← hx] at hc hle hsm hrt
  have hkI : (k : Int) < (n : Int) := by omega
  by_cases hxk : x = (k : Int)
  · have hrk := (hrt hxk).symm.trans he
    rw [hxk] at hc
    have hx_h := lH hx; have hsm_h := lH hsm; have he_h := lH he; have hrk_h := lH hrk; clear hx hsm he hrk; clear hrt hxk
    go_wp2_with (fail)
    go_ret
    exact ⟨ret_int hrk_h.out, rfl⟩
  · obtain ⟨j, rfl⟩ : ∃ j : Nat, x = (j : Int) := ⟨x.toNat, by omega⟩
    rw [Int.toNat_natCast] at hsm
    have hjr := hsm.trans he
    have hx_h := lH hx; have hsm_h := lH hsm; have he_h := lH he; have hjr_h := lH hjr; clear hx hsm he hjr; clear hrt
    go_wp2_with (fail)
    go_roundw
    case rel => exact ⟨j, by omega, rfl, hjr_h.out, trivial⟩
    case measure => simp [intOf]; omega
set_option maxHeartbeats 2000000 in
theorem join_any (G : Addr) (n a b : Nat) (P C : List Int) (w : World) (h : IS w (some G) n P) (hP : Par n P C) (hC : Cls n C) (ha : a < n) (hb : b < n) :
  Calls Tryz.prog 120 #[.slice (some G) n n, .int .i64 a, .int .i64 b] w fun e w' => e = .returned (.tuple #[]) ∧ ∃ P', IS w' (some G) n P' ∧ Par n P' (relab (C.getD a 0) (C.getD b 0) C) ∧ Keeps (· ∈ fpA (some G)) w w' := by
 have hJ := hP.join hC ha hb
 have la := hC.le a ha
 have lb := hC.le b hb
 have r1 := root_any G n a P C w h.rd hP ha
 have r2 := root_any G n b P C w h.rd hP hb
 obtain ⟨x, hx⟩ : ∃ x, x = C.getD a 0 := ⟨_, rfl⟩
 obtain ⟨y, hy⟩ : ∃ y, y = C.getD b 0 := ⟨_, rfl⟩
 rw [← hx, ← hy] at hJ
 rw [← hx] at r1 la
 rw [← hy] at r2 lb
 rw [← hx, ← hy]
 obtain ⟨x, rfl⟩ : ∃ j : Nat, x = (j : Int) := ⟨x.toNat, by omega⟩
 obtain ⟨y, rfl⟩ : ∃ j : Nat, y = (j : Int) := ⟨y.toNat, by omega⟩
 clear hx hy
 have hmx : ∀ M : Nat, M < n → G = G ∧ (∃ y0, w.cell? (G.add M) = some (.int .i64 y0)) ∧ w.frozen? (G.add M) = false ∧ (∀ m : Int, IS (w.setCell (G.add M) (.int .i64 m)) (some G) n (P.set M m)) ∧ ∀ m : Int, Keeps (· ∈ fpA (some G)) w (w.setCell (G.add M) (.int .i64 m)) := fun M hM => by
  obtain ⟨ad, y0, hA, hy0, _, hc', hf'⟩ := h.at_ (j := M) (by rw [hP.len]; exact hM)
  obtain rfl := Option.some.inj hA
  exact ⟨rfl, ⟨y0, hc'⟩, hf' M, fun m => h.set (ad := G) rfl (j := M) m (by rw [hP.len]; exact hM), fun m => Keeps.setCell (S := (· ∈ fpA (some G))) (Keeps.refl _ w) (p := G.add M) (by rw [block_of_add]; simp) _⟩
 clear h hP hC
 by_cases hxy : (x : Int) < (y : Int)
 case pos =>
  obtain ⟨-, ⟨y0, hc'⟩, hfz, hset, hks⟩ := hmx y (by omega)
  have hset := hset (x : Int)
  have hks := hks (x : Int)
  have hMI : (y : Int) < (n : Int) := by omega
  rw [show max (x : Int) (y : Int) = (y : Int) by omega, show min (x : Int) (y : Int) = (x : Int) by omega, Int.toNat_natCast] at hJ
  have r1_h := lH r1; have r2_h := lH r2; have hJ_h := lH hJ; have hset_h := lH hset; have hks_h := lH hks; clear r1 r2 hJ hset hks; clear hmx la lb ha hb
  go_enter Tryz.func120, Tryz.ntmps120
  go_wp2_with (fail)
  refine (r1_h.out).mono ?_
  rintro e w' ⟨rfl, rfl⟩
  go_wp2_with (fail)
  refine (r2_h.out).mono ?_
  rintro e w' ⟨rfl, rfl⟩
  go_wp2_with (fail)
  all_goals first | omega | (go_end0; exact ⟨rfl, _, hset_h.out, hJ_h.out, hks_h.out⟩)
 by_cases hyx : (y : Int) < (x : Int)
 case pos =>
  obtain ⟨-, ⟨y0, hc'⟩, hfz, hset, hks⟩ := hmx x (by omega)
  have hset := hset (y : Int)
  have hks := hks (y : Int)
  have hMI : (x : Int) < (n : Int) := by omega
  rw [show max (x : Int) (y : Int) = (x : Int) by omega, show min (x : Int) (y : Int) = (y : Int) by omega, Int.toNat_natCast] at hJ
  have r1_h := lH r1; have r2_h := lH r2; have hJ_h := lH hJ; have hset_h := lH hset; have hks_h := lH hks; clear r1 r2 hJ hset hks; clear hmx la lb ha hb
  go_enter Tryz.func120, Tryz.ntmps120
  go_wp2_with (fail)
  refine (r1_h.out).mono ?_
  rintro e w' ⟨rfl, rfl⟩
  go_wp2_with (fail)
  refine (r2_h.out).mono ?_
  rintro e w' ⟨rfl, rfl⟩
  go_wp2_with (fail)
  all_goals first | omega | (go_end0; exact ⟨rfl, _, hset_h.out, hJ_h.out, hks_h.out⟩)
 obtain rfl : x = y := by omega
 obtain ⟨-, ⟨y0, hc'⟩, hfz, hset, hks⟩ := hmx x (by omega)
 have hset := hset (x : Int)
 have hks := hks (x : Int)
 have hMI : (x : Int) < (n : Int) := by omega
 rw [show max (x : Int) (x : Int) = (x : Int) by omega, show min (x : Int) (x : Int) = (x : Int) by omega, Int.toNat_natCast] at hJ
 have r1_h := lH r1; have r2_h := lH r2; have hJ_h := lH hJ; have hset_h := lH hset; have hks_h := lH hks; clear r1 r2 hJ hset hks; clear hmx la lb ha hb
 go_enter Tryz.func120, Tryz.ntmps120
 go_wp2_with (fail)
 refine (r1_h.out).mono ?_
 rintro e w' ⟨rfl, rfl⟩
 go_wp2_with (fail)
 refine (r2_h.out).mono ?_
 rintro e w' ⟨rfl, rfl⟩
 go_wp2_with (fail)
 all_goals first | omega | (go_end0; exact ⟨rfl, _, hset_h.out, hJ_h.out, hks_h.out⟩)
def clsK (n : Nat) (es : List Eg) (k : Nat) : List Int := joinsM (idW n) ((es.take k).flatMap pairsE)
def clsJ (D : List Int) (L : List Int) (j : Nat) : List Int := joinsM D ((L.take j).map fun w => (L.getD 0 0, w))
theorem clsK_zero (n : Nat) (es : List Eg) : clsK n es 0 = idW n := by simp [clsK, joinsM]
theorem clsJ_zero (D L : List Int) : clsJ D L 0 = D := by simp [clsJ, joinsM]
theorem clsK_step {n : Nat} {es : List Eg} {k : Nat} {e : Eg} (h : es[k]? = some e) : clsK n es (k + 1) = clsJ (clsK n es k) (e.2.2.1 ++ e.2.2.2) (e.2.2.1.length + e.2.2.2.length) := by
 unfold clsK clsJ
 have hL : (e.2.2.1 ++ e.2.2.2).take (e.2.2.1.length + e.2.2.2.length) = e.2.2.1 ++ e.2.2.2 := List.take_of_length_le (by simp)
 rw [hL, List.take_add_one, h, List.flatMap_append, joinsM_append]
 simp [pairsE]
theorem clsJ_step {D L : List Int} {j : Nat} {a b : Nat} (ha : L.getD 0 0 = (a : Int)) (h : L[j]? = some (b : Int)) : clsJ D L (j + 1) = relab ((clsJ D L j).getD a 0) ((clsJ D L j).getD b 0) (clsJ D L j) := by
 unfold clsJ
 rw [List.take_add_one, h, List.map_append, joinsM_append, ha]
 simp [joinsM]
theorem clsK_all (g : Gr) (n : Nat) (h : g.1 = (n : Int)) : clsK n g.2.1 g.2.1.length = clsG g := by
 unfold clsK clsG pairsG
 rw [List.take_length, h, Int.toNat_natCast]
theorem getD0_in {n : Nat} {L : List Int} (hin : ∀ x, x ∈ L → 0 ≤ x ∧ x < (n : Int)) (hl : 1 ≤ L.length) : ∃ a : Nat, L.getD 0 0 = (a : Int) ∧ a < n ∧ L[0]? = some (a : Int) := by
 cases L with
 | nil => simp at hl
 | cons x r =>
   have := hin x (by simp)
   exact ⟨x.toNat, by show x = _; omega, by omega, by rw [show ((x.toNat : Nat) : Int) = x by omega]; rfl⟩
theorem Cls.clsJ {n : Nat} {D : List Int} (hD : Cls n D) {L : List Int} (hin : ∀ x, x ∈ L → 0 ≤ x ∧ x < (n : Int)) (j : Nat) : Cls n (clsJ D L j) := by
 refine Cls.joins hD fun q hq => ?_
 obtain ⟨x, hx, rfl⟩ := List.mem_map.1 hq
 have hxL := List.mem_of_mem_take hx
 obtain ⟨a, h1, h2, _⟩ := getD0_in hin (by cases L with | nil => cases hxL | cons => simp)
 have := hin x hxL
 simp only [h1]
 omega
theorem Cls.clsK {n : Nat} {es : List Eg} (hin : inW (n : Int) (edW es) = true) : ∀ k, k ≤ es.length → Cls n (clsK n es k)
 | 0, _ => by rw [clsK_zero]; exact Cls.id n
 | k + 1, hk => by
   have h : es[k]? = some es[k] := List.getElem?_eq_getElem (by omega)
   rw [clsK_step h]
   have hm := mem_edW_of (List.mem_of_getElem? h)
   exact Cls.clsJ (Cls.clsK hin k (by omega)) (fun x hx => by
    rcases List.mem_append.1 hx with hx | hx
    · exact inW_iff.1 hin x (hm.1 x hx)
    · exact inW_iff.1 hin x (hm.2 x hx)) _
theorem nrM_skip {C : List Int} {k : Nat} (h : C.getD k 0 ≠ (k : Int)) : nrM C (k + 1) = nrM C k := by rw [nrM, if_neg h]; rfl
theorem nrM_new {C : List Int} {k : Nat} (h : C.getD k 0 = (k : Int)) : nrM C (k + 1) = nrM C k + 1 := by rw [nrM, if_pos h]
theorem numM_at {n : Nat} {C : List Int} (hC : Cls n C) {k r : Nat} (hk : k < n) (hr : C.getD k 0 = (r : Int)) : (numM C)[k]? = some (nrM C r : Int) := by
 rw [numM_get hC hk, hr, Int.toNat_natCast]
theorem numM_take {C : List Int} {k : Nat} {x : Int} (h : (numM C)[k]? = some x) : (numM C).take (k + 1) = (numM C).take k ++ [x] := by
 rw [List.take_add_one, h]; rfl
end Go.Proofs.YtjompikdkhhlgaaGreat
namespace Go.Proofs.YtjompikdkhhlgaaGreat
def giveL (o l : List Int) : List Int := l.foldl (fun o w => if o.contains w then o else o ++ [w]) o
def wiresE (e : Eg) : List Int := e.2.2.1 ++ e.2.2.2
def edgeAt (g : Gr) (e : Int) : Eg := g.2.1.getD e.toNat eg0
def atE (f : Eg → List Int) (es : List Eg) : Nat → Int → Int
 | 0, _ => -1
 | k + 1, w => if w ∈ f (es.getD k eg0) then (k : Int) else atE f es k w
def inE (e : Eg) : List Int := e.2.2.1
def outE (e : Eg) : List Int := e.2.2.2
def toE (g : Gr) (w : Int) : Int := atE inE g.2.1 g.2.1.length w
def fromE (g : Gr) (w : Int) : Int := atE outE g.2.1 g.2.1.length w
abbrev WE := List Int × List Int
def stepE (g : Gr) (s : WE) (e : Int) : WE := if e < 0 ∨ e ∈ s.2 then s else (giveL s.1 (wiresE (edgeAt g e)), s.2 ++ [e])
def roundW (g : Gr) (s : WE) (k : Nat) : WE := if k < s.1.length then stepE g (stepE g s (toE g (s.1.getD k 0))) (fromE g (s.1.getD k 0)) else s
def walkTo (g : Gr) (s : WE) : Nat → WE
 | 0 => s
 | k + 1 => roundW g (walkTo g s k) k
def finW (g : Gr) (s : WE) : WE := walkTo g s g.1.toNat
theorem giveL_append (o l m : List Int) : giveL o (l ++ m) = giveL (giveL o l) m := List.foldl_append
theorem giveL_one (o : List Int) (w : Int) : giveL o [w] = if o.contains w then o else o ++ [w] := rfl
theorem mem_giveL {x : Int} : ∀ {l o : List Int}, x ∈ giveL o l ↔ x ∈ o ∨ x ∈ l
 | [], o => by simp [giveL]
 | w :: r, o => by
   show x ∈ giveL (giveL o [w]) r ↔ _
   rw [mem_giveL (l := r), giveL_one]
   split
   · rename_i h
     have h' : w ∈ o := by simpa using h
     constructor
     · rintro (h | h)
       · exact .inl h
       · exact .inr (by simp [h])
     · rintro (h | h)
       · exact .inl h
       · rcases List.mem_cons.1 h with rfl | h
         · exact .inl h'
         · exact .inr h
   · simp [or_assoc]
theorem giveL_nodup : ∀ {l o : List Int}, o.Nodup → (giveL o l).Nodup
 | [], _, h => h
 | w :: r, o, h => by
   show (giveL (giveL o [w]) r).Nodup
   refine giveL_nodup (l := r) ?_
   rw [giveL_one]
   split
   · exact h
   · rename_i hc
     have h' : w ∉ o := by simpa using hc
     rw [List.nodup_append]
     refine ⟨h, by simp, fun a ha b hb => ?_⟩
     obtain rfl := List.mem_singleton.1 hb
     exact fun e => h' (e ▸ ha)
theorem giveL_pre : ∀ (l o : List Int), ∃ t, giveL o l = o ++ t
 | [], o => ⟨[], by simp [giveL]⟩
 | w :: r, o => by
   obtain ⟨t, ht⟩ := giveL_pre r (giveL o [w])
   show ∃ t, giveL (giveL o [w]) r = o ++ t
   rw [ht, giveL_one]
   split
   · exact ⟨t, rfl⟩
   · exact ⟨[w] ++ t, by simp⟩
theorem stepE_pre (g : Gr) (s : WE) (e : Int) : (∃ t, (stepE g s e).1 = s.1 ++ t) ∧ ∃ t, (stepE g s e).2 = s.2 ++ t := by
 unfold stepE
 split
 · exact ⟨⟨[], by simp⟩, ⟨[], by simp⟩⟩
 · exact ⟨giveL_pre _ _, ⟨[e], rfl⟩⟩
theorem roundW_pre (g : Gr) (s : WE) (k : Nat) : (∃ t, (roundW g s k).1 = s.1 ++ t) ∧ ∃ t, (roundW g s k).2 = s.2 ++ t := by
 unfold roundW
 split
 · obtain ⟨⟨t1, h1⟩, t2, h2⟩ := stepE_pre g s (toE g (s.1.getD k 0))
   obtain ⟨⟨t3, h3⟩, t4, h4⟩ := stepE_pre g (stepE g s (toE g (s.1.getD k 0))) (fromE g (s.1.getD k 0))
   rw [h3, h4, h1, h2]
   exact ⟨⟨t1 ++ t3, by simp⟩, ⟨t2 ++ t4, by simp⟩⟩
 · exact ⟨⟨[], by simp⟩, ⟨[], by simp⟩⟩
theorem walkTo_pre (g : Gr) (s : WE) (k : Nat) : ∀ d, (∃ t, (walkTo g s (k + d)).1 = (walkTo g s k).1 ++ t) ∧ ∃ t, (walkTo g s (k + d)).2 = (walkTo g s k).2 ++ t
 | 0 => ⟨⟨[], by simp⟩, ⟨[], by simp⟩⟩
 | d + 1 => by
   obtain ⟨⟨t1, h1⟩, t2, h2⟩ := walkTo_pre g s k d
   obtain ⟨⟨t3, h3⟩, t4, h4⟩ := roundW_pre g (walkTo g s (k + d)) (k + d)
   show (∃ t, (roundW g (walkTo g s (k + d)) (k + d)).1 = _) ∧ ∃ t, (roundW g (walkTo g s (k + d)) (k + d)).2 = _
   rw [h3, h4, h1, h2]
   exact ⟨⟨t1 ++ t3, by simp⟩, ⟨t2 ++ t4, by simp⟩⟩
theorem walkTo_stable {g : Gr} {s : WE} {k : Nat} (h : (walkTo g s k).1.length ≤ k) : ∀ d, walkTo g s (k + d) = walkTo g s k
 | 0 => rfl
 | d + 1 => by
   have ih := walkTo_stable h d
   show roundW g (walkTo g s (k + d)) (k + d) = _
   rw [ih]
   unfold roundW
   rw [if_neg (by omega)]
theorem atE_lt (f : Eg → List Int) (es : List Eg) (w : Int) : ∀ k, -1 ≤ atE f es k w ∧ atE f es k w < k
 | 0 => by simp [atE]
 | k + 1 => by
   have := atE_lt f es w k
   unfold atE
   split <;> omega
theorem atE_mem {f : Eg → List Int} {es : List Eg} {w : Int} : ∀ {k : Nat}, 0 ≤ atE f es k w → w ∈ f (es.getD (atE f es k w).toNat eg0)
 | 0, h => by simp [atE] at h
 | k + 1, h => by
   unfold atE at h ⊢
   split
   · rename_i hm
     simpa using hm
   · rename_i hm
     rw [if_neg hm] at h
     exact atE_mem h
theorem atE_hit {f : Eg → List Int} {es : List Eg} {w : Int} : ∀ {k i : Nat}, i < k → w ∈ f (es.getD i eg0) → (∀ j, j < k → w ∈ f (es.getD j eg0) → j = i) → atE f es k w = i
 | 0, _, h, _, _ => by omega
 | k + 1, i, h, hm, hu => by
   unfold atE
   split
   · rename_i hk
     rw [hu k (by omega) hk]
   · rename_i hk
     have : i ≠ k := fun e => hk (e ▸ hm)
     exact atE_hit (by omega) hm fun j hj => hu j (by omega)
theorem nodup_flat {f : Eg → List Int} {F : List Eg → List Int} (hF0 : F [] = []) (hF : ∀ e r, F (e :: r) = f e ++ F r) : ∀ {es : List Eg}, (F es).Nodup → ∀ {i j : Nat} {w : Int}, i < es.length → j < es.length → w ∈ f (es.getD i eg0) → w ∈ f (es.getD j eg0) → j = i
 | [], _, i, _, _, hi, _, _, _ => by simp at hi
 | e :: r, h, i, j, w, hi, hj, h1, h2 => by
   rw [hF, List.nodup_append] at h
   obtain ⟨_, hr, hd⟩ := h
   have key : ∀ {q : Nat}, q < r.length → w ∈ f (r.getD q eg0) → w ∈ F r := by
    clear h1 h2 hi hj hd hr
    intro q hq hm
    induction r generalizing q with
    | nil => simp at hq
    | cons a s ih =>
      rw [hF]
      cases q with
      | zero => exact List.mem_append_left _ hm
      | succ q => exact List.mem_append_right _ (ih (by simpa using hq) hm)
   cases i with
   | zero =>
     cases j with
     | zero => rfl
     | succ j => exact absurd rfl (hd w h1 w (key (by simpa using hj) h2))
   | succ i =>
     cases j with
     | zero => exact absurd rfl (hd w h2 w (key (by simpa using hi) h1))
     | succ j => exact congrArg (· + 1) (nodup_flat hF0 hF hr (by simpa using hi) (by simpa using hj) h1 h2)
structure Mono (g : Gr) (n : Nat) : Prop where
 hn : g.1 = (n : Int)
 n100 : n ≤ 100
 m60 : g.2.1.length ≤ 60
 i12 : g.2.2.1.length ≤ 12
 o12 : g.2.2.2.length ≤ 12
 inn : ∀ x, x ∈ t_allW g → 0 ≤ x ∧ x < (n : Int)
 org : (orgW g).Nodup
 dst : (dstW g).Nodup
 all : ∀ w : Nat, w < n → (w : Int) ∈ orgW g
 kind : ∀ e, e ∈ g.2.1 → egB e = true
section
variable {g : Gr} {n : Nat}
theorem edge_mem {i : Nat} (hi : i < g.2.1.length) : g.2.1.getD i eg0 ∈ g.2.1 := by
 rw [List.getD_eq_getElem?_getD, List.getElem?_eq_getElem hi]
 exact List.getElem_mem hi
theorem Mono.wires (h : Mono g n) {e : Int} (h0 : 0 ≤ e) (hm : e < (g.2.1.length : Int)) : ∀ w, w ∈ wiresE (edgeAt g e) → 0 ≤ w ∧ w < (n : Int) := by
 intro w hw
 refine h.inn w ?_
 have hi : e.toNat < g.2.1.length := by omega
 have := mem_edW_of (List.mem_of_getElem? (List.getElem?_eq_getElem hi))
 have e2 : edgeAt g e = g.2.1[e.toNat] := by unfold edgeAt; rw [List.getD_eq_getElem?_getD, List.getElem?_eq_getElem hi]; rfl
 rw [e2] at hw
 unfold t_allW
 refine List.mem_append_right _ (List.mem_append_right _ ?_)
 rcases List.mem_append.1 hw with hw | hw
 · exact this.1 w hw
 · exact this.2 w hw
theorem toE_rng (g : Gr) (w : Int) : -1 ≤ toE g w ∧ toE g w < (g.2.1.length : Int) := atE_lt _ _ _ _
theorem fromE_rng (g : Gr) (w : Int) : -1 ≤ fromE g w ∧ fromE g w < (g.2.1.length : Int) := atE_lt _ _ _ _
theorem toE_mem {g : Gr} {w : Int} (h : 0 ≤ toE g w) : w ∈ wiresE (edgeAt g (toE g w)) := List.mem_append_left _ (atE_mem h)
theorem fromE_mem {g : Gr} {w : Int} (h : 0 ≤ fromE g w) : w ∈ wiresE (edgeAt g (fromE g w)) := List.mem_append_right _ (atE_mem h)
theorem toE_hit (h : Mono g n) {i : Nat} (hi : i < g.2.1.length) {w : Int} (hw : w ∈ inE (g.2.1.getD i eg0)) : toE g w = i := by
 refine atE_hit hi hw fun j hj hjw => ?_
 have := h.dst
 unfold dstW at this
 exact nodup_flat (F := inpW) rfl (fun _ _ => rfl) (List.nodup_append.1 this).2.1 hi hj hw hjw
theorem fromE_hit (h : Mono g n) {i : Nat} (hi : i < g.2.1.length) {w : Int} (hw : w ∈ outE (g.2.1.getD i eg0)) : fromE g w = i := by
 refine atE_hit hi hw fun j hj hjw => ?_
 have := h.org
 unfold orgW at this
 exact nodup_flat (F := outW) rfl (fun _ _ => rfl) (List.nodup_append.1 this).2.1 hi hj hw hjw
theorem touch (h : Mono g n) {e w : Int} (h0 : 0 ≤ e) (hm : e < (g.2.1.length : Int)) (hw : w ∈ wiresE (edgeAt g e)) : toE g w = e ∨ fromE g w = e := by
 rcases List.mem_append.1 hw with hw | hw
 · exact .inl (by rw [toE_hit h (i := e.toNat) (by omega) hw]; omega)
 · exact .inr (by rw [fromE_hit h (i := e.toNat) (by omega) hw]; omega)
structure WInv (g : Gr) (n : Nat) (s : WE) : Prop where
 nd1 : s.1.Nodup
 rg1 : ∀ x, x ∈ s.1 → 0 ≤ x ∧ x < (n : Int)
 nd2 : s.2.Nodup
 rg2 : ∀ e, e ∈ s.2 → 0 ≤ e ∧ e < (g.2.1.length : Int)
 clo : ∀ e, e ∈ s.2 → ∀ w, w ∈ wiresE (edgeAt g e) → w ∈ s.1
theorem WInv.step (h : Mono g n) {s : WE} (hs : WInv g n s) {e : Int} (he : e < (g.2.1.length : Int)) : WInv g n (stepE g s e) := by
 unfold stepE
 split
 · exact hs
 · rename_i hne
   have h0 : 0 ≤ e := by omega
   have hni : e ∉ s.2 := fun hi => hne (.inr hi)
   refine ⟨giveL_nodup hs.nd1, fun x hx => ?_, ?_, fun f hf => ?_, fun f hf w hw => ?_⟩
   · rcases mem_giveL.1 hx with hx | hx
     · exact hs.rg1 x hx
     · exact h.wires h0 he x hx
   · rw [List.nodup_append]
     refine ⟨hs.nd2, by simp, fun a ha b hb => ?_⟩
     obtain rfl := List.mem_singleton.1 hb
     exact fun e => hni (e ▸ ha)
   · rcases List.mem_append.1 hf with hf | hf
     · exact hs.rg2 f hf
     · obtain rfl := List.mem_singleton.1 hf
       exact ⟨h0, he⟩
   · rcases List.mem_append.1 hf with hf | hf
     · exact mem_giveL.2 (.inl (hs.clo f hf w hw))
     · obtain rfl := List.mem_singleton.1 hf
       exact mem_giveL.2 (.inr hw)
theorem WInv.round (h : Mono g n) {s : WE} (hs : WInv g n s) (k : Nat) : WInv g n (roundW g s k) := by
 unfold roundW
 split
 · exact (hs.step h (toE_rng g _).2).step h (fromE_rng g _).2
 · exact hs
theorem WInv.walk (h : Mono g n) {s : WE} (hs : WInv g n s) : ∀ k, WInv g n (walkTo g s k)
 | 0 => hs
 | k + 1 => (hs.walk h k).round h k
theorem nodup_le {n : Nat} {l : List Int} (hn : l.Nodup) (h : ∀ k, k ∈ l → 0 ≤ k ∧ k < (n : Int)) : l.length ≤ n := by
 have := seenC_nodup hn h l.length (Nat.le_refl _)
 rw [← this]
 exact seenC_le n _
theorem WInv.le {s : WE} (hs : WInv g n s) : s.1.length ≤ n ∧ s.2.length ≤ g.2.1.length := ⟨nodup_le hs.nd1 hs.rg1, nodup_le hs.nd2 hs.rg2⟩
theorem finW_eq (h : Mono g n) {s : WE} {k : Nat} (hk : k ≤ n) (he : (walkTo g s k).1.length ≤ k) : finW g s = walkTo g s k := by
 unfold finW
 rw [h.hn, Int.toNat_natCast, show n = k + (n - k) by omega]
 exact walkTo_stable he _
theorem stepE_has {g : Gr} {s : WE} {e : Int} (h : 0 ≤ e) : e ∈ (stepE g s e).2 := by
 unfold stepE
 split
 · rename_i hc
   rcases hc with hc | hc
   · omega
   · exact hc
 · simp
theorem mem_pre {α : Type} {a b t : List α} {x : α} (h : b = a ++ t) (hx : x ∈ a) : x ∈ b := h ▸ List.mem_append_left _ hx
theorem stepE_sub {g : Gr} {s : WE} {e f : Int} (h : f ∈ s.2) : f ∈ (stepE g s e).2 := by
 obtain ⟨_, t, ht⟩ := stepE_pre g s e
 exact mem_pre ht h
theorem walk_seen {g : Gr} {s : WE} : ∀ k, ∀ i, i < k → i < (walkTo g s k).1.length → (0 ≤ toE g ((walkTo g s k).1.getD i 0) → toE g ((walkTo g s k).1.getD i 0) ∈ (walkTo g s k).2) ∧ (0 ≤ fromE g ((walkTo g s k).1.getD i 0) → fromE g ((walkTo g s k).1.getD i 0) ∈ (walkTo g s k).2)
 | 0, i, hi, _ => by omega
 | k + 1, i, hi, hl => by
   obtain ⟨⟨t1, h1⟩, t2, h2⟩ := roundW_pre g (walkTo g s k) k
   have e1 : (walkTo g s (k + 1)).1 = (walkTo g s k).1 ++ t1 := h1
   have e2 : (walkTo g s (k + 1)).2 = (walkTo g s k).2 ++ t2 := h2
   by_cases hik : i < k
   · by_cases hil : i < (walkTo g s k).1.length
     · obtain ⟨a, b⟩ := walk_seen (s := s) k i hik hil
       have e3 : (walkTo g s (k + 1)).1.getD i 0 = (walkTo g s k).1.getD i 0 := by
        rw [e1, List.getD_eq_getElem?_getD, List.getElem?_append_left hil, ← List.getD_eq_getElem?_getD]
       rw [e3]
       exact ⟨fun h => mem_pre e2 (a h), fun h => mem_pre e2 (b h)⟩
     · have e4 : walkTo g s (k + 1) = walkTo g s k := by
        show roundW g (walkTo g s k) k = _
        unfold roundW
        rw [if_neg (by omega)]
       rw [e4] at hl
       omega
   · obtain rfl : i = k := by omega
     by_cases hil : i < (walkTo g s i).1.length
     · have e3 : (walkTo g s (i + 1)).1.getD i 0 = (walkTo g s i).1.getD i 0 := by
        rw [e1, List.getD_eq_getElem?_getD, List.getElem?_append_left hil, ← List.getD_eq_getElem?_getD]
       have e4 : walkTo g s (i + 1) = stepE g (stepE g (walkTo g s i) (toE g ((walkTo g s i).1.getD i 0))) (fromE g ((walkTo g s i).1.getD i 0)) := by
        show roundW g (walkTo g s i) i = _
        unfold roundW
        rw [if_pos hil]
       rw [e3, e4]
       exact ⟨fun h => stepE_sub (stepE_has h), fun h => stepE_has h⟩
     · have e4 : walkTo g s (i + 1) = walkTo g s i := by
        show roundW g (walkTo g s i) i = _
        unfold roundW
        rw [if_neg (by omega)]
       rw [e4] at hl
       omega
theorem WInv.fin (h : Mono g n) {s : WE} (hs : WInv g n s) : WInv g n (finW g s) := hs.walk h _
theorem fin_seen (h : Mono g n) {s : WE} (hs : WInv g n s) {w : Int} (hw : w ∈ (finW g s).1) : (0 ≤ toE g w → toE g w ∈ (finW g s).2) ∧ (0 ≤ fromE g w → fromE g w ∈ (finW g s).2) := by
 obtain ⟨i, hi, rfl⟩ := List.getElem_of_mem hw
 have hl := (hs.fin h).le.1
 have := walk_seen (g := g) (s := s) g.1.toNat i (by rw [h.hn, Int.toNat_natCast]; exact Nat.lt_of_lt_of_le hi hl) hi
 have e : (walkTo g s g.1.toNat).1.getD i 0 = (finW g s).1[i] := by
  show (finW g s).1.getD i 0 = _
  rw [List.getD_eq_getElem?_getD, List.getElem?_eq_getElem hi]; rfl
 rw [e] at this
 exact this
theorem fin_edge (h : Mono g n) {s : WE} (hs : WInv g n s) {e w : Int} (h0 : 0 ≤ e) (hm : e < (g.2.1.length : Int)) (hw : w ∈ wiresE (edgeAt g e)) : e ∈ (finW g s).2 ↔ w ∈ (finW g s).1 := by
 constructor
 · intro he
   exact (hs.fin h).clo e he w hw
 · intro hf
   obtain ⟨a, b⟩ := fin_seen h hs hf
   rcases touch h h0 hm hw with e1 | e1
   · rw [← e1]; exact a (by omega)
   · rw [← e1]; exact b (by omega)
end
def clsW (g : Gr) (w : Int) : Int := (clsG g).getD w.toNat 0
theorem joins_eq {ps : List (Int × Int)} : ∀ {C : List Int} {a b : Nat}, a < C.length → b < C.length → C.getD a 0 = C.getD b 0 → (joinsM C ps).getD a 0 = (joinsM C ps).getD b 0 := by
 induction ps with
 | nil => intro C a b _ _ h; exact h
 | cons q r ih =>
   intro C a b ha hb h
   show (joinsM (relab _ _ C) r).getD a 0 = (joinsM (relab _ _ C) r).getD b 0
   refine ih (by rw [relab_length]; exact ha) (by rw [relab_length]; exact hb) ?_
   unfold relab
   rw [getD_map_lt ha, getD_map_lt hb, h]
theorem relV_both (x y : Int) : relV x y x = relV x y y := by unfold relV; split <;> split <;> omega
theorem joins_pair : ∀ {ps : List (Int × Int)} {C : List Int} {q : Int × Int}, q ∈ ps → q.1.toNat < C.length → q.2.toNat < C.length → (joinsM C ps).getD q.1.toNat 0 = (joinsM C ps).getD q.2.toNat 0
 | p :: r, C, q, hq, h1, h2 => by
   show (joinsM (relab _ _ C) r).getD _ 0 = (joinsM (relab _ _ C) r).getD _ 0
   rcases List.mem_cons.1 hq with rfl | hq
   · refine joins_eq (by rw [relab_length]; exact h1) (by rw [relab_length]; exact h2) ?_
     unfold relab
     rw [getD_map_lt h1, getD_map_lt h2]
     exact relV_both _ _
   · exact joins_pair hq (by rw [relab_length]; exact h1) (by rw [relab_length]; exact h2)
theorem joins_closed {n : Nat} {T : Nat → Prop} : ∀ {ps : List (Int × Int)} {C : List Int}, Cls n C → (∀ q, q ∈ ps → (0 ≤ q.1 ∧ q.1 < n) ∧ 0 ≤ q.2 ∧ q.2 < n) → (∀ q, q ∈ ps → (T q.1.toNat ↔ T q.2.toNat)) → (∀ a b, a < n → b < n → C.getD a 0 = C.getD b 0 → (T a ↔ T b)) →
  ∀ a b, a < n → b < n → (joinsM C ps).getD a 0 = (joinsM C ps).getD b 0 → (T a ↔ T b)
 | [], _, _, _, _, h, a, b, ha, hb, e => h a b ha hb e
 | p :: r, C, hC, hr, hT, h, a, b, ha, hb, e => by
   have hp := hr p (by simp)
   have h1 : p.1.toNat < n := by omega
   have h2 : p.2.toNat < n := by omega
   refine joins_closed (ps := r) (hC.join h1 h2) (fun q hq => hr q (by simp [hq])) (fun q hq => hT q (by simp [hq])) (fun a b ha hb e => ?_) a b ha hb e
   rw [relab_getD hC _ _ ha, relab_getD hC _ _ hb] at e
   have hq := hT p (by simp)
   -- each wire whose class is made one is on the pair's side
   have key : ∀ c, c < n → (C.getD c 0 = C.getD p.1.toNat 0 ∨ C.getD c 0 = C.getD p.2.toNat 0) → (T c ↔ T p.1.toNat) := fun c hc hcc => by
    rcases hcc with hcc | hcc
    · exact h c _ hc h1 hcc
    · exact (h c _ hc h2 hcc).trans hq.symm
   unfold relV at e
   by_cases ea : C.getD a 0 = max (C.getD p.1.toNat 0) (C.getD p.2.toNat 0) <;> by_cases eb : C.getD b 0 = max (C.getD p.1.toNat 0) (C.getD p.2.toNat 0)
   · exact h a b ha hb (ea.trans eb.symm)
   · rw [if_pos ea, if_neg eb] at e
     exact (key a ha (by omega)).trans (key b hb (by omega)).symm
   · rw [if_neg ea, if_pos eb] at e
     exact (key a ha (by omega)).trans (key b hb (by omega)).symm
   · rw [if_neg ea, if_neg eb] at e
     exact h a b ha hb e
section
variable {g : Gr} {n : Nat}
theorem pairsG_mem {q : Int × Int} (hq : q ∈ pairsG g) : ∃ i : Nat, i < g.2.1.length ∧ q.1 = (wiresE (g.2.1.getD i eg0)).getD 0 0 ∧ q.2 ∈ wiresE (g.2.1.getD i eg0) ∧ q.1 ∈ wiresE (g.2.1.getD i eg0) := by
 obtain ⟨e, he, hq⟩ := List.mem_flatMap.1 hq
 obtain ⟨w, hw, rfl⟩ := List.mem_map.1 hq
 obtain ⟨i, hi, rfl⟩ := List.getElem_of_mem he
 have e2 : g.2.1.getD i eg0 = g.2.1[i] := by rw [List.getD_eq_getElem?_getD, List.getElem?_eq_getElem hi]; rfl
 refine ⟨i, hi, ?_⟩
 rw [e2]
 refine ⟨rfl, hw, ?_⟩
 show (wiresE g.2.1[i]).getD 0 0 ∈ wiresE g.2.1[i]
 have hw' : w ∈ wiresE g.2.1[i] := hw
 revert hw'
 generalize wiresE g.2.1[i] = L
 intro hw'
 cases L with
 | nil => cases hw'
 | cons x r => simp
theorem Mono.pairs (h : Mono g n) : ∀ q, q ∈ pairsG g → (0 ≤ q.1 ∧ q.1 < n) ∧ 0 ≤ q.2 ∧ q.2 < n := by
 intro q hq
 obtain ⟨i, hi, _, h2, h1⟩ := pairsG_mem hq
 have hw := h.wires (e := (i : Int)) (by omega) (by omega)
 unfold edgeAt at hw
 rw [Int.toNat_natCast] at hw
 exact ⟨hw _ h1, hw _ h2⟩
theorem cls_edge (h : Mono g n) {e v w : Int} (h0 : 0 ≤ e) (hm : e < (g.2.1.length : Int)) (hv : v ∈ wiresE (edgeAt g e)) (hw : w ∈ wiresE (edgeAt g e)) : clsW g v = clsW g w := by
 have key : ∀ x, x ∈ wiresE (edgeAt g e) → clsW g ((wiresE (edgeAt g e)).getD 0 0) = clsW g x := fun x hx => by
  have hi : e.toNat < g.2.1.length := by omega
  have hq : ((wiresE (edgeAt g e)).getD 0 0, x) ∈ pairsG g := by
   refine List.mem_flatMap.2 ⟨edgeAt g e, edge_mem hi, List.mem_map.2 ⟨x, hx, rfl⟩⟩
  have hp := h.pairs _ hq
  unfold clsW clsG
  exact joins_pair hq (by rw [idW_length, h.hn]; omega) (by rw [idW_length, h.hn]; omega)
 exact (key v hv).symm.trans (key w hw)
theorem cls_closed (h : Mono g n) {T : Int → Prop} (hT : ∀ e v w, 0 ≤ e → e < (g.2.1.length : Int) → v ∈ wiresE (edgeAt g e) → w ∈ wiresE (edgeAt g e) → T v → T w) {a b : Int} (ha : 0 ≤ a ∧ a < (n : Int)) (hb : 0 ≤ b ∧ b < (n : Int)) (e : clsW g a = clsW g b) : T a ↔ T b := by
 have := joins_closed (n := n) (T := fun k => T (k : Int)) (ps := pairsG g) (C := idW n) (Cls.id n) h.pairs (fun q hq => by
  obtain ⟨i, hi, _, h2, h1⟩ := pairsG_mem hq
  have hp := h.pairs q hq
  have e1 : ((q.1.toNat : Nat) : Int) = q.1 := by omega
  have e2 : ((q.2.toNat : Nat) : Int) = q.2 := by omega
  have h1' : q.1 ∈ wiresE (edgeAt g (i : Int)) := by unfold edgeAt; rw [Int.toNat_natCast]; exact h1
  have h2' : q.2 ∈ wiresE (edgeAt g (i : Int)) := by unfold edgeAt; rw [Int.toNat_natCast]; exact h2
  show T _ ↔ T _
  rw [e1, e2]
  exact ⟨hT (i : Int) _ _ (by omega) (by omega) h1' h2', hT (i : Int) _ _ (by omega) (by omega) h2' h1'⟩) (fun a b ha hb e => by
  rw [idW_getD ha, idW_getD hb] at e
  rw [show a = b by omega]) a.toNat b.toNat (by omega) (by omega) (by
  unfold clsW clsG at e
  rw [h.hn, Int.toNat_natCast] at e
  exact e)
 show T a ↔ T b
 have e1 : ((a.toNat : Nat) : Int) = a := by omega
 have e2 : ((b.toNat : Nat) : Int) = b := by omega
 have this' : T ((a.toNat : Nat) : Int) ↔ T ((b.toNat : Nat) : Int) := this
 rwa [e1, e2] at this'
theorem step_cls (h : Mono g n) {S : Int → Prop} {s : WE} {e : Int} (he : e < (g.2.1.length : Int)) (hs : ∀ w, w ∈ s.1 → S (clsW g w)) (hw : 0 ≤ e → ∃ w, w ∈ s.1 ∧ w ∈ wiresE (edgeAt g e)) : ∀ w, w ∈ (stepE g s e).1 → S (clsW g w) := by
 unfold stepE
 split
 · exact hs
 · rename_i hc
   have h0 : 0 ≤ e := by omega
   intro w hm
   rcases mem_giveL.1 hm with hm | hm
   · exact hs w hm
   · obtain ⟨v, hv, hve⟩ := hw h0
     rw [← cls_edge h h0 he hve hm]
     exact hs v hv
theorem walk_cls (h : Mono g n) {S : Int → Prop} {s : WE} (hs : ∀ w, w ∈ s.1 → S (clsW g w)) : ∀ k, ∀ w, w ∈ (walkTo g s k).1 → S (clsW g w)
 | 0 => hs
 | k + 1 => by
   have ih := walk_cls h hs k
   show ∀ w, w ∈ (roundW g (walkTo g s k) k).1 → _
   unfold roundW
   split
   · rename_i hk
     obtain ⟨x, hx⟩ : ∃ x, x = (walkTo g s k).1.getD k 0 := ⟨_, rfl⟩
     have hxm : x ∈ (walkTo g s k).1 := by
      rw [hx, List.getD_eq_getElem?_getD, List.getElem?_eq_getElem hk]; exact List.getElem_mem hk
     rw [← hx]
     refine step_cls h (fromE_rng g x).2 (step_cls h (toE_rng g x).2 ih fun h0 => ⟨x, hxm, toE_mem h0⟩) fun h0 => ⟨x, ?_, fromE_mem h0⟩
     obtain ⟨⟨t, ht⟩, _⟩ := stepE_pre g (walkTo g s k) (toE g x)
     exact mem_pre ht hxm
   · exact ih
theorem fin_wire (h : Mono g n) {s : WE} (hs : WInv g n s) {w : Int} : w ∈ (finW g s).1 ↔ (0 ≤ w ∧ w < (n : Int)) ∧ ∃ v, v ∈ s.1 ∧ clsW g v = clsW g w := by
 have hI := hs.fin h
 constructor
 · intro hw
   exact ⟨hI.rg1 w hw, walk_cls h (S := fun c => ∃ v, v ∈ s.1 ∧ clsW g v = c) (fun v hv => ⟨v, hv, rfl⟩) _ w hw⟩
 · rintro ⟨hr, v, hv, e⟩
   have hv' : v ∈ (finW g s).1 := by
    obtain ⟨⟨t, ht⟩, _⟩ := walkTo_pre g s 0 g.1.toNat
    rw [Nat.zero_add] at ht
    exact mem_pre ht hv
   refine (cls_closed h (T := fun x => x ∈ (finW g s).1) (fun e a b h0 hm ha hb hT => ?_) (hs.rg1 v hv) hr e).1 hv'
   exact (fin_edge h hs h0 hm hb).1 ((fin_edge h hs h0 hm ha).2 hT)
end
end Go.Proofs.YtjompikdkhhlgaaGreat
namespace Go.Proofs.YtjompikdkhhlgaaGreat
def idx (l : List Int) (w : Int) : Int := ((l.idxOf w : Nat) : Int)
def codeE (wo : List Int) (e : Eg) : List Int := [e.1, e.2.1] ++ (wiresE e).map (idx wo)
def codeM (g : Gr) (s : WE) : List Int := s.2.flatMap fun e => codeE s.1 (edgeAt g e)
def startE (g : Gr) (e : Int) : WE := stepE g ([], []) e
def startO (g : Gr) : WE := (giveL [] (g.2.2.1 ++ g.2.2.2), [])
def fromM (g : Gr) (e : Int) : WE := finW g (startE g e)
def openM (g : Gr) : WE := finW g (startO g)
def lexI : List Int → List Int → Bool
 | _, [] => false
 | [], _ :: _ => true
 | a :: r, b :: s => if a = b then lexI r s else decide (a < b)
theorem lexI_irr : ∀ l : List Int, lexI l l = false
 | [] => rfl
 | a :: r => by rw [lexI, if_pos rfl]; exact lexI_irr r
theorem lexI_trans : ∀ {a b c : List Int}, lexI a b = true → lexI b c = true → lexI a c = true
 | _, _, [], _, h => by cases ‹List Int› <;> simp [lexI] at h
 | [], _, _ :: _, _, _ => rfl
 | _ :: _, [], _, h, _ => by simp [lexI] at h
 | x :: r, y :: s, z :: t, h1, h2 => by
   unfold lexI at h1 h2 ⊢
   by_cases e1 : x = y
   · by_cases e2 : y = z
     · rw [if_pos e1] at h1
       rw [if_pos e2] at h2
       rw [if_pos (e1.trans e2)]
       exact lexI_trans h1 h2
     · rw [if_neg e2] at h2
       rw [if_neg (fun e => e2 (e1 ▸ e)), e1]
       exact h2
   · rw [if_neg e1] at h1
     have h1' : x < y := of_decide_eq_true h1
     by_cases e2 : y = z
     · rw [if_neg (fun e => e1 (e.trans e2.symm)), ← e2]
       exact h1
     · rw [if_neg e2] at h2
       have h2' : y < z := of_decide_eq_true h2
       rw [if_neg (by omega)]
       exact decide_eq_true (by omega)
theorem lexI_tri : ∀ {a b : List Int}, a ≠ b → lexI a b = true ∨ lexI b a = true
 | [], [], h => absurd rfl h
 | [], _ :: _, _ => .inl rfl
 | _ :: _, [], _ => .inr rfl
 | x :: r, y :: s, h => by
   unfold lexI
   by_cases e : x = y
   · rw [if_pos e, if_pos e.symm]
     exact lexI_tri fun h2 => h (by rw [e, h2])
   · rw [if_neg e, if_neg (fun h2 => e h2.symm), decide_eq_true_eq, decide_eq_true_eq]
     omega
theorem lexI_asym {a b : List Int} (h : lexI a b = true) : lexI b a = false := by
 cases hc : lexI b a
 · rfl
 · have := lexI_trans h hc
   rw [lexI_irr] at this
   cases this
abbrev Prt := List Int × WE × Int
instance decPrt : DecidableEq Prt := inferInstance
def prtOf (g : Gr) (e : Int) : Prt := (codeM g (fromM g e), fromM g e, 1)
def prtNext (g : Gr) (b : Prt) (e : Int) : Prt := if (prtOf g e).1 = b.1 then (b.1, b.2.1, b.2.2 + 1) else if lexI (prtOf g e).1 b.1 then prtOf g e else b
def bestP (g : Gr) : List Int → Prt
 | [] => ([], ([], []), 0)
 | e :: r => r.foldl (prtNext g) (prtOf g e)
theorem bestP_snoc {g : Gr} {l : List Int} (h : l ≠ []) (e : Int) : bestP g (l ++ [e]) = prtNext g (bestP g l) e := by
 cases l with
 | nil => exact absurd rfl h
 | cons a r => simp [bestP, List.foldl_append]
theorem best_from (g : Gr) : ∀ {r : List Int} {b : Prt} {T : List Int}, (∃ e, e ∈ T ∧ b.1 = codeM g (fromM g e) ∧ b.2.1 = fromM g e) → (∀ e, e ∈ r → e ∈ T) → ∃ e, e ∈ T ∧ (r.foldl (prtNext g) b).1 = codeM g (fromM g e) ∧ (r.foldl (prtNext g) b).2.1 = fromM g e
 | [], _, _, h, _ => h
 | x :: r, b, T, h, hT => by
   show ∃ e, e ∈ T ∧ (r.foldl (prtNext g) (prtNext g b x)).1 = _ ∧ _
   refine best_from g (r := r) (b := prtNext g b x) ?_ fun e he => hT e (by simp [he])
   unfold prtNext
   split
   · exact h
   · split
     · exact ⟨x, hT x (by simp), rfl, rfl⟩
     · exact h
theorem bestP_from {g : Gr} {l : List Int} (h : l ≠ []) : ∃ e, e ∈ l ∧ (bestP g l).1 = codeM g (fromM g e) ∧ (bestP g l).2.1 = fromM g e := by
 cases l with
 | nil => exact absurd rfl h
 | cons a r => exact best_from g ⟨a, by simp, rfl, rfl⟩ fun e he => by simp [he]
theorem nextP_ways {g : Gr} {b : Prt} {e : Int} (h : 1 ≤ b.2.2) : 1 ≤ (prtNext g b e).2.2 ∧ (prtNext g b e).2.2 ≤ b.2.2 + 1 := by
 unfold prtNext
 split
 · exact ⟨by show (1 : Int) ≤ b.2.2 + 1; omega, Int.le_refl _⟩
 · split
   · exact ⟨Int.le_refl _, by show (1 : Int) ≤ b.2.2 + 1; omega⟩
   · exact ⟨h, by omega⟩
theorem bestTo_ways {g : Gr} : ∀ {r : List Int} {b : Prt}, 1 ≤ b.2.2 → 1 ≤ (r.foldl (prtNext g) b).2.2 ∧ (r.foldl (prtNext g) b).2.2 ≤ b.2.2 + r.length
 | [], b, h => ⟨h, by simp⟩
 | x :: r, b, h => by
   obtain ⟨h1, h2⟩ := nextP_ways (g := g) (e := x) h
   obtain ⟨h3, h4⟩ := bestTo_ways (g := g) (r := r) h1
   refine ⟨h3, ?_⟩
   show (r.foldl (prtNext g) (prtNext g b x)).2.2 ≤ _
   simp only [List.length_cons]
   omega
theorem bestP_ways {g : Gr} {l : List Int} : 0 ≤ (bestP g l).2.2 ∧ (bestP g l).2.2 ≤ l.length := by
 cases l with
 | nil => exact ⟨Int.le_refl _, Int.le_refl _⟩
 | cons a r =>
   have := bestTo_ways (g := g) (r := r) (b := prtOf g a) (Int.le_refl _)
   show 0 ≤ (r.foldl (prtNext g) (prtOf g a)).2.2 ∧ (r.foldl (prtNext g) (prtOf g a)).2.2 ≤ _
   have e : (prtOf g a).2.2 = 1 := rfl
   rw [e] at this
   simp only [List.length_cons]
   omega
def leastW (l : List Int) : Int := l.foldl min 100
theorem foldl_min : ∀ (l : List Int) (a : Int), (l.foldl min a ≤ a ∧ ∀ x, x ∈ l → l.foldl min a ≤ x) ∧ (l.foldl min a = a ∨ l.foldl min a ∈ l)
 | [], a => ⟨⟨Int.le_refl _, fun x hx => by cases hx⟩, .inl rfl⟩
 | y :: r, a => by
   obtain ⟨⟨h1, h2⟩, h3⟩ := foldl_min r (min a y)
   show ((r.foldl min (min a y) ≤ a ∧ _) ∧ _)
   refine ⟨⟨by omega, fun x hx => ?_⟩, ?_⟩
   · show r.foldl min (min a y) ≤ x
     rcases List.mem_cons.1 hx with rfl | hx
     · omega
     · exact h2 x hx
   · show r.foldl min (min a y) = a ∨ r.foldl min (min a y) ∈ y :: r
     rcases h3 with h3 | h3
     · rw [h3]
       by_cases h : a ≤ y
       · exact .inl (by omega)
       · exact .inr (by rw [show min a y = y by omega]; simp)
     · exact .inr (by simp [h3])
theorem leastW_mem {l : List Int} (h : l ≠ []) (hl : ∀ x, x ∈ l → x < 100) : leastW l ∈ l := by
 obtain ⟨⟨_, h2⟩, h3⟩ := foldl_min l 100
 rcases h3 with h3 | h3
 · cases l with
   | nil => exact absurd rfl h
   | cons a r =>
     have h4 := h2 a (by simp)
     have h5 := hl a (by simp)
     rw [h3] at h4
     omega
 · exact h3
def befP (a b : Prt) : Bool := if a.1 = b.1 then decide (leastW a.2.1.1 < leastW b.2.1.1) else lexI a.1 b.1
theorem befP_irr (a : Prt) : befP a a = false := by unfold befP; rw [if_pos rfl]; simp
theorem befP_trans {a b c : Prt} (h1 : befP a b = true) (h2 : befP b c = true) : befP a c = true := by
 unfold befP at h1 h2 ⊢
 by_cases e1 : a.1 = b.1
 · by_cases e2 : b.1 = c.1
   · rw [if_pos e1, decide_eq_true_eq] at h1
     rw [if_pos e2, decide_eq_true_eq] at h2
     rw [if_pos (e1.trans e2), decide_eq_true_eq]
     omega
   · rw [if_neg e2] at h2
     rw [if_neg (fun e => e2 (e1 ▸ e)), e1]
     exact h2
 · rw [if_neg e1] at h1
   by_cases e2 : b.1 = c.1
   · rw [if_neg (fun e => e1 (e.trans e2.symm)), ← e2]
     exact h1
   · rw [if_neg e2] at h2
     have h3 := lexI_trans h1 h2
     rw [if_neg (fun e => by rw [e, lexI_irr] at h3; cases h3)]
     exact h3
theorem befP_asym {a b : Prt} (h : befP a b = true) : befP b a = false := by
 cases hc : befP b a
 · rfl
 · have := befP_trans h hc
   rw [befP_irr] at this
   cases this
theorem befP_tri {a b : Prt} (h : leastW a.2.1.1 ≠ leastW b.2.1.1) : befP a b = true ∨ befP b a = true := by
 unfold befP
 by_cases e : a.1 = b.1
 · rw [if_pos e, if_pos e.symm, decide_eq_true_eq, decide_eq_true_eq]
   omega
 · rw [if_neg e, if_neg (fun h2 => e h2.symm)]
   exact lexI_tri e
def insP (b : Prt) : List Prt → List Prt
 | [] => [b]
 | x :: r => if befP b x then b :: x :: r else x :: insP b r
theorem insP_perm (b : Prt) : ∀ l, (insP b l).Perm (b :: l)
 | [] => List.Perm.refl _
 | x :: r => by
   unfold insP
   split
   · exact List.Perm.refl _
   · exact ((insP_perm b r).cons x).trans (List.Perm.swap _ _ _)
theorem insP_sorted {b : Prt} : ∀ {l : List Prt}, l.Pairwise (fun x y => befP x y = true) → (∀ x, x ∈ l → leastW x.2.1.1 ≠ leastW b.2.1.1) → (insP b l).Pairwise (fun x y => befP x y = true)
 | [], _, _ => List.pairwise_singleton _ _
 | x :: r, h, hd => by
   obtain ⟨h1, h2⟩ := List.pairwise_cons.1 h
   unfold insP
   split
   · rename_i hb
     refine List.pairwise_cons.2 ⟨fun y hy => ?_, h⟩
     rcases List.mem_cons.1 hy with rfl | hy
     · exact hb
     · exact befP_trans hb (h1 y hy)
   · rename_i hb
     refine List.pairwise_cons.2 ⟨fun y hy => ?_, insP_sorted h2 fun y hy => hd y (by simp [hy])⟩
     rcases List.mem_cons.1 ((insP_perm b r).mem_iff.1 hy) with rfl | hy
     · rcases befP_tri (hd x (by simp)) with h | h
       · exact h
       · exact absurd h hb
     · exact h1 y hy
def insK (b : Prt) : List Prt → Nat
 | [] => 0
 | x :: r => if befP b x then 0 else insK b r + 1
theorem insP_eq (b : Prt) : ∀ l, insP b l = l.take (insK b l) ++ b :: l.drop (insK b l)
 | [] => rfl
 | x :: r => by
   unfold insP insK
   split
   · rfl
   · rw [insP_eq b r]; rfl
theorem sorted_one : ∀ {l m : List Prt}, l.Perm m → l.Pairwise (fun x y => befP x y = true) → m.Pairwise (fun x y => befP x y = true) → l = m
 | [], m, h, _, _ => by
   have := h.symm.eq_nil
   exact this.symm
 | a :: r, [], h, _, _ => by
   have := h.eq_nil
   cases this
 | a :: r, b :: s, h, h1, h2 => by
   obtain ⟨h3, h4⟩ := List.pairwise_cons.1 h1
   obtain ⟨h5, h6⟩ := List.pairwise_cons.1 h2
   have e : a = b := by
    rcases List.mem_cons.1 (h.mem_iff.1 (List.mem_cons_self ..) : a ∈ b :: s) with e | ha
    · exact e
    · rcases List.mem_cons.1 (h.mem_iff.2 (List.mem_cons_self ..) : b ∈ a :: r) with e | hb
      · exact e.symm
      · have := befP_asym (h3 b hb)
        rw [h5 a ha] at this
        cases this
   subst e
   rw [sorted_one (List.Perm.cons_inv h) h4 h6]
def compE (g : Gr) (e : Int) : Int := clsW g ((wiresE (edgeAt g e)).getD 0 0)
def openC (g : Gr) (c : Int) : Prop := ∃ v, v ∈ (openM g).1 ∧ clsW g v = c
def grpTo (g : Gr) (c : Int) (k : Nat) : List Int := (idW k).filter fun e => decide (compE g e = c)
def grpC (g : Gr) (c : Int) : List Int := grpTo g c g.2.1.length
theorem idW_succ (k : Nat) : idW (k + 1) = idW k ++ [(k : Int)] := by simp [idW, List.range_succ]
theorem grpTo_succ (g : Gr) (c : Int) (k : Nat) : grpTo g c (k + 1) = grpTo g c k ++ if compE g (k : Int) = c then [(k : Int)] else [] := by
 unfold grpTo
 rw [idW_succ, List.filter_append]
 congr 1
 split
 · rename_i h; simp [h]
 · rename_i h; simp [h]
theorem mem_idW {x : Int} {k : Nat} : x ∈ idW k ↔ 0 ≤ x ∧ x < (k : Int) := by
 unfold idW
 rw [List.mem_map]
 constructor
 · rintro ⟨w, hw, rfl⟩
   have := List.mem_range.1 hw
   omega
 · intro h
   exact ⟨x.toNat, List.mem_range.2 (by omega), by omega⟩
theorem mem_grpTo {g : Gr} {c e : Int} {k : Nat} : e ∈ grpTo g c k ↔ (0 ≤ e ∧ e < (k : Int)) ∧ compE g e = c := by
 unfold grpTo
 rw [List.mem_filter, mem_idW, decide_eq_true_eq]
section
variable {g : Gr} {n : Nat}
theorem first_mem (h : Mono g n) {e : Int} (h0 : 0 ≤ e) (hm : e < (g.2.1.length : Int)) : (wiresE (edgeAt g e)).getD 0 0 ∈ wiresE (edgeAt g e) := by
 have hk := egB_len (h.kind _ (edge_mem (show e.toNat < g.2.1.length by omega)))
 have hl : 1 ≤ (wiresE (edgeAt g e)).length := by
  unfold wiresE edgeAt
  rw [List.length_append]
  exact hk.2
 revert hl
 generalize wiresE (edgeAt g e) = L
 intro hl
 cases L with
 | nil => simp at hl
 | cons x r => simp
theorem comp_of (h : Mono g n) {e w : Int} (h0 : 0 ≤ e) (hm : e < (g.2.1.length : Int)) (hw : w ∈ wiresE (edgeAt g e)) : clsW g w = compE g e := cls_edge h h0 hm hw (first_mem h h0 hm)
theorem inv_nil (g : Gr) (n : Nat) : WInv g n ([], []) := ⟨List.nodup_nil, fun x hx => (by cases hx), List.nodup_nil, fun x hx => (by cases hx), fun x hx => (by cases hx)⟩
theorem startE_inv (h : Mono g n) {e : Int} (hm : e < (g.2.1.length : Int)) : WInv g n (startE g e) := (inv_nil g n).step h hm
theorem startE_eq {e : Int} (h0 : 0 ≤ e) : startE g e = (giveL [] (wiresE (edgeAt g e)), [e]) := by
 unfold startE stepE
 rw [if_neg (by simp; omega)]
 rfl
theorem startO_inv (h : Mono g n) : WInv g n (startO g) := by
 refine ⟨giveL_nodup List.nodup_nil, fun x hx => ?_, List.nodup_nil, fun x hx => (by cases hx), fun x hx => (by cases hx)⟩
 rcases mem_giveL.1 hx with hx | hx
 · cases hx
 · refine h.inn x ?_
   unfold t_allW
   rcases List.mem_append.1 hx with hx | hx
   · exact List.mem_append_left _ hx
   · exact List.mem_append_right _ (List.mem_append_left _ hx)
theorem fromM_inv (h : Mono g n) {e : Int} (hm : e < (g.2.1.length : Int)) : WInv g n (fromM g e) := (startE_inv h hm).fin h
theorem openM_inv (h : Mono g n) : WInv g n (openM g) := (startO_inv h).fin h
theorem from_wire (h : Mono g n) {e w : Int} (h0 : 0 ≤ e) (hm : e < (g.2.1.length : Int)) : w ∈ (fromM g e).1 ↔ (0 ≤ w ∧ w < (n : Int)) ∧ clsW g w = compE g e := by
 unfold fromM
 rw [fin_wire h (startE_inv h hm), startE_eq h0]
 refine and_congr_right fun _ => ⟨?_, fun e2 => ?_⟩
 · rintro ⟨v, hv, e2⟩
   rcases mem_giveL.1 hv with hv | hv
   · cases hv
   · rw [← e2, comp_of h h0 hm hv]
 · exact ⟨_, mem_giveL.2 (.inr (first_mem h h0 hm)), e2.symm⟩
theorem from_edge (h : Mono g n) {e f : Int} (h0 : 0 ≤ e) (hm : e < (g.2.1.length : Int)) : f ∈ (fromM g e).2 ↔ (0 ≤ f ∧ f < (g.2.1.length : Int)) ∧ compE g f = compE g e := by
 constructor
 · intro hf
   have hr := (fromM_inv h hm).rg2 f hf
   have hw := (fin_edge h (startE_inv h hm) hr.1 hr.2 (first_mem h hr.1 hr.2)).1 hf
   exact ⟨hr, ((from_wire h h0 hm).1 hw).2⟩
 · rintro ⟨hr, e2⟩
   have hw := first_mem h hr.1 hr.2
   exact (fin_edge h (startE_inv h hm) hr.1 hr.2 hw).2 ((from_wire h h0 hm).2 ⟨h.wires hr.1 hr.2 _ hw, e2⟩)
theorem open_edge (h : Mono g n) {f : Int} (h0 : 0 ≤ f) (hm : f < (g.2.1.length : Int)) : f ∈ (openM g).2 ↔ openC g (compE g f) := by
 have hw := first_mem h h0 hm
 unfold openM
 rw [fin_edge h (startO_inv h) h0 hm hw]
 constructor
 · intro hf
   exact ⟨_, hf, rfl⟩
 · rintro ⟨v, hv, e⟩
   unfold openM at hv
   obtain ⟨_, u, hu, e2⟩ := (fin_wire h (startO_inv h)).1 hv
   exact (fin_wire h (startO_inv h)).2 ⟨h.wires h0 hm _ hw, u, hu, e2.trans e⟩
theorem open_wire (h : Mono g n) {w : Int} (hr : 0 ≤ w ∧ w < (n : Int)) : w ∈ (openM g).1 ↔ openC g (clsW g w) := by
 constructor
 · intro hw; exact ⟨w, hw, rfl⟩
 · rintro ⟨v, hv, e⟩
   unfold openM at hv ⊢
   obtain ⟨_, u, hu, e2⟩ := (fin_wire h (startO_inv h)).1 hv
   exact (fin_wire h (startO_inv h)).2 ⟨hr, u, hu, e2.trans e⟩
def refB (g : Gr) (e : Nat) : Nat → Prt
 | 0 => prtOf g (e : Int)
 | k + 1 => if e < k ∧ (k : Int) ∈ (refB g e k).2.1.2 then prtNext g (refB g e k) (k : Int) else refB g e k
theorem grpTo_nil {e k : Nat} (hle : ∀ j : Nat, j < e → compE g (j : Int) ≠ compE g (e : Int)) (hk : k ≤ e) : grpTo g (compE g (e : Int)) k = [] := by
 refine List.eq_nil_iff_forall_not_mem.2 fun x hx => ?_
 obtain ⟨hr, hc⟩ := mem_grpTo.1 hx
 refine hle x.toNat (by omega) ?_
 rw [show ((x.toNat : Nat) : Int) = x by omega]
 exact hc
theorem refB_to (h : Mono g n) {e : Nat} (he : e < g.2.1.length) (hle : ∀ j : Nat, j < e → compE g (j : Int) ≠ compE g (e : Int)) : ∀ k, k ≤ g.2.1.length → refB g e k = if k ≤ e then prtOf g (e : Int) else bestP g (grpTo g (compE g (e : Int)) k)
 | 0, _ => by rw [if_pos (by omega)]; rfl
 | k + 1, hk => by
   have ih := refB_to h he hle k (by omega)
   by_cases h1 : k < e
   · rw [refB, if_neg (fun x => absurd x.1 (by omega)), ih, if_pos (show k ≤ e by omega), if_pos (show k + 1 ≤ e by omega)]
   · by_cases h2 : k = e
     · subst h2
       rw [refB, if_neg (fun x => absurd x.1 (by omega)), ih, if_pos (Nat.le_refl _), if_neg (show ¬ k + 1 ≤ k by omega), grpTo_succ, grpTo_nil hle (Nat.le_refl _), if_pos rfl]
       rfl
     · rw [refB, ih, if_neg (show ¬ k ≤ e by omega), if_neg (show ¬ k + 1 ≤ e by omega), grpTo_succ]
       have hne : grpTo g (compE g (e : Int)) k ≠ [] := fun e0 => by
        have : (e : Int) ∈ grpTo g (compE g (e : Int)) k := mem_grpTo.2 ⟨by omega, rfl⟩
        rw [e0] at this
        cases this
       obtain ⟨f, hf, _, hf2⟩ := bestP_from (g := g) hne
       obtain ⟨hfr, hfc⟩ := mem_grpTo.1 hf
       have hmem : (k : Int) ∈ (bestP g (grpTo g (compE g (e : Int)) k)).2.1.2 ↔ compE g (k : Int) = compE g (e : Int) := by
        rw [hf2, from_edge h hfr.1 (by omega), hfc]
        exact ⟨fun x => x.2, fun x => ⟨⟨by omega, by omega⟩, x⟩⟩
       by_cases hc : compE g (k : Int) = compE g (e : Int)
       · rw [if_pos ⟨by omega, hmem.2 hc⟩, if_pos hc, bestP_snoc hne]
       · rw [if_neg (fun x => hc (hmem.1 x.2)), if_neg hc, List.append_nil]
theorem refB_all (h : Mono g n) {e : Nat} (he : e < g.2.1.length) (hle : ∀ j : Nat, j < e → compE g (j : Int) ≠ compE g (e : Int)) : refB g e g.2.1.length = bestP g (grpC g (compE g (e : Int))) := by
 rw [refB_to h he hle _ (Nat.le_refl _), if_neg (by omega)]
 rfl
def scanTo (g : Gr) : Nat → List Int × List Prt
 | 0 => ((openM g).2, [])
 | k + 1 => if (k : Int) ∈ (scanTo g k).1 then scanTo g k else ((scanTo g k).1 ++ (fromM g (k : Int)).2, insP (refB g k g.2.1.length) (scanTo g k).2)
def partsM (g : Gr) : List Prt := (scanTo g g.2.1.length).2
theorem scan_seen (h : Mono g n) : ∀ k, k ≤ g.2.1.length → ∀ f : Int, 0 ≤ f → f < (g.2.1.length : Int) → (f ∈ (scanTo g k).1 ↔ openC g (compE g f) ∨ ∃ j : Nat, j < k ∧ compE g (j : Int) = compE g f)
 | 0, _, f, h0, hm => by
   show f ∈ (openM g).2 ↔ _
   rw [open_edge h h0 hm]
   constructor
   · exact .inl
   · rintro (x | ⟨j, hj, _⟩)
     · exact x
     · omega
 | k + 1, hk, f, h0, hm => by
   have ih := scan_seen h k (by omega)
   rw [scanTo]
   split
   · rename_i hs
     rw [ih f h0 hm]
     have hk' := (ih (k : Int) (by omega) (by omega)).1 hs
     constructor
     · rintro (x | ⟨j, hj, e⟩)
       · exact .inl x
       · exact .inr ⟨j, by omega, e⟩
     · rintro (x | ⟨j, hj, e⟩)
       · exact .inl x
       · by_cases hjk : j < k
         · exact .inr ⟨j, hjk, e⟩
         · obtain rfl : j = k := by omega
           rcases hk' with x | ⟨i, hi, e2⟩
           · exact .inl (e ▸ x)
           · exact .inr ⟨i, hi, e2.trans e⟩
   · show f ∈ (scanTo g k).1 ++ _ ↔ _
     rw [List.mem_append, ih f h0 hm, from_edge h (by omega) (by omega)]
     constructor
     · rintro ((x | ⟨j, hj, e⟩) | ⟨_, e⟩)
       · exact .inl x
       · exact .inr ⟨j, by omega, e⟩
       · exact .inr ⟨k, by omega, e.symm⟩
     · rintro (x | ⟨j, hj, e⟩)
       · exact .inl (.inl x)
       · by_cases hjk : j < k
         · exact .inl (.inr ⟨j, hjk, e⟩)
         · obtain rfl : j = k := by omega
           exact .inr ⟨⟨h0, hm⟩, e.symm⟩
def repsTo (g : Gr) : Nat → List Int
 | 0 => []
 | k + 1 => if (k : Int) ∈ (scanTo g k).1 then repsTo g k else repsTo g k ++ [compE g (k : Int)]
theorem mem_reps (h : Mono g n) {c : Int} : ∀ k, k ≤ g.2.1.length → (c ∈ repsTo g k ↔ ¬ openC g c ∧ ∃ j : Nat, j < k ∧ compE g (j : Int) = c)
 | 0, _ => ⟨fun x => (by cases x), fun ⟨_, j, hj, _⟩ => (by omega)⟩
 | k + 1, hk => by
   have ih := mem_reps h (c := c) k (by omega)
   have hs := scan_seen h k (by omega) (k : Int) (by omega) (by omega)
   rw [repsTo]
   split
   · rename_i hin
     rw [ih]
     refine and_congr_right fun hno => ⟨fun ⟨j, hj, e⟩ => ⟨j, by omega, e⟩, fun ⟨j, hj, e⟩ => ?_⟩
     by_cases hjk : j < k
     · exact ⟨j, hjk, e⟩
     · obtain rfl : j = k := by omega
       rcases hs.1 hin with x | ⟨i, hi, e2⟩
       · exact absurd (e ▸ x) hno
       · exact ⟨i, hi, e2.trans e⟩
   · rename_i hout
     rw [List.mem_append, ih, List.mem_singleton]
     constructor
     · rintro (⟨hno, j, hj, e⟩ | rfl)
       · exact ⟨hno, j, by omega, e⟩
       · exact ⟨fun x => hout (hs.2 (.inl x)), k, by omega, rfl⟩
     · rintro ⟨hno, j, hj, e⟩
       by_cases hjk : j < k
       · exact .inl ⟨hno, j, hjk, e⟩
       · obtain rfl : j = k := by omega
         exact .inr e.symm
theorem reps_nodup (h : Mono g n) : ∀ k, k ≤ g.2.1.length → (repsTo g k).Nodup
 | 0, _ => List.nodup_nil
 | k + 1, hk => by
   have ih := reps_nodup h k (by omega)
   have hs := scan_seen h k (by omega) (k : Int) (by omega) (by omega)
   rw [repsTo]
   split
   · exact ih
   · rename_i hout
     rw [List.nodup_append]
     refine ⟨ih, by simp, fun a ha b hb => ?_⟩
     obtain rfl := List.mem_singleton.1 hb
     intro e
     subst e
     exact hout (hs.2 (.inr ((mem_reps h k (by omega)).1 ha).2))
theorem best_comp (_h : Mono g n) {c : Int} (hc : ∃ j : Nat, j < g.2.1.length ∧ compE g (j : Int) = c) : ∃ e : Int, (0 ≤ e ∧ e < (g.2.1.length : Int)) ∧ compE g e = c ∧ (bestP g (grpC g c)).1 = codeM g (fromM g e) ∧ (bestP g (grpC g c)).2.1 = fromM g e := by
 obtain ⟨j, hj, e⟩ := hc
 have hne : grpC g c ≠ [] := fun e0 => by
  have : (j : Int) ∈ grpC g c := mem_grpTo.2 ⟨by omega, e⟩
  rw [e0] at this
  cases this
 obtain ⟨f, hf, h1, h2⟩ := bestP_from (g := g) hne
 obtain ⟨hfr, hfc⟩ := mem_grpTo.1 hf
 exact ⟨f, hfr, hfc, h1, h2⟩
theorem best_least (h : Mono g n) {c : Int} (hc : ∃ j : Nat, j < g.2.1.length ∧ compE g (j : Int) = c) : clsW g (leastW (bestP g (grpC g c)).2.1.1) = c ∧ leastW (bestP g (grpC g c)).2.1.1 ∈ (bestP g (grpC g c)).2.1.1 := by
 obtain ⟨e, he, hec, _, h2⟩ := best_comp h hc
 rw [h2]
 have hne : (fromM g e).1 ≠ [] := fun e0 => by
  have := (from_wire h he.1 he.2).2 ⟨h.wires he.1 he.2 _ (first_mem h he.1 he.2), rfl⟩
  rw [e0] at this
  cases this
 have hm := leastW_mem hne fun x hx => by have := ((from_wire h he.1 he.2).1 hx).1; have := h.n100; omega
 exact ⟨((from_wire h he.1 he.2).1 hm).2.trans hec, hm⟩
theorem scan_parts (h : Mono g n) : ∀ k, k ≤ g.2.1.length → ((scanTo g k).2.Perm ((repsTo g k).map fun c => bestP g (grpC g c))) ∧ (scanTo g k).2.Pairwise (fun x y => befP x y = true)
 | 0, _ => ⟨List.Perm.refl _, List.Pairwise.nil⟩
 | k + 1, hk => by
   obtain ⟨ih1, ih2⟩ := scan_parts h k (by omega)
   have hs := scan_seen h k (by omega) (k : Int) (by omega) (by omega)
   rw [scanTo, repsTo]
   split
   · exact ⟨ih1, ih2⟩
   · rename_i hout
     have hle : ∀ j : Nat, j < k → compE g (j : Int) ≠ compE g (k : Int) := fun j hj e => hout (hs.2 (.inr ⟨j, hj, e⟩))
     show (insP (refB g k g.2.1.length) (scanTo g k).2).Perm _ ∧ (insP (refB g k g.2.1.length) (scanTo g k).2).Pairwise _
     rw [refB_all h (by omega) hle]
     refine ⟨((insP_perm _ _).trans (ih1.cons _)).trans ?_, insP_sorted ih2 fun x hx => ?_⟩
     · rw [List.map_append]
       exact (List.perm_append_comm (l₁ := [bestP g (grpC g (compE g (k : Int)))]) (l₂ := (repsTo g k).map fun c => bestP g (grpC g c)))
     · obtain ⟨c, hc, rfl⟩ := List.mem_map.1 (ih1.mem_iff.1 hx)
       obtain ⟨_, j, hj, e⟩ := (mem_reps h k (by omega)).1 hc
       intro e2
       have h1 := (best_least h (c := c) ⟨j, by omega, e⟩).1
       have h2 := (best_least h (c := compE g (k : Int)) ⟨k, by omega, rfl⟩).1
       rw [e2, h2] at h1
       exact hle j hj (e.trans h1.symm)
theorem nodup_perm {l m : List Int} (h1 : l.Nodup) (h2 : m.Nodup) (h : ∀ x, x ∈ l ↔ x ∈ m) : l.Perm m := by
 refine List.perm_iff_count.2 fun x => ?_
 by_cases hx : x ∈ l
 · rw [List.Nodup.count h1, List.Nodup.count h2, if_pos hx, if_pos ((h x).1 hx)]
 · rw [List.count_eq_zero.2 hx, List.count_eq_zero.2 fun hm => hx ((h x).2 hm)]
theorem parts_eq (h : Mono g n) {κ : List Int} (hnd : κ.Nodup) (hκ : ∀ c, c ∈ κ ↔ ¬ openC g c ∧ ∃ j : Nat, j < g.2.1.length ∧ compE g (j : Int) = c) {P : List Prt} (hP : P.Perm (κ.map fun c => bestP g (grpC g c))) (hs : P.Pairwise (fun x y => befP y x = false)) : P = partsM g := by
 obtain ⟨h1, h2⟩ := scan_parts h g.2.1.length (Nat.le_refl _)
 have hp : κ.Perm (repsTo g g.2.1.length) := nodup_perm hnd (reps_nodup h _ (Nat.le_refl _)) fun c => by rw [hκ, mem_reps h _ (Nat.le_refl _)]
 have hP2 : P.Perm (partsM g) := (hP.trans (hp.map _)).trans h1.symm
 refine sorted_one hP2 ?_ h2
 -- no two parts have one least wire
 have hap : (partsM g).Pairwise (fun x y => leastW x.2.1.1 ≠ leastW y.2.1.1) := by
  refine (h1.pairwise_iff (fun {_ _} hne => Ne.symm hne)).2 ?_
  rw [List.pairwise_map]
  refine (reps_nodup h _ (Nat.le_refl _)).imp_of_mem fun {a b} ha hb hne e => hne ?_
  have h3 := (best_least h ((mem_reps h _ (Nat.le_refl _)).1 ha).2).1
  have h4 := (best_least h ((mem_reps h _ (Nat.le_refl _)).1 hb).2).1
  rw [← h3, ← h4, e]
 have hap2 : P.Pairwise (fun x y => leastW x.2.1.1 ≠ leastW y.2.1.1) := (hP2.pairwise_iff (fun {_ _} hne => Ne.symm hne)).2 hap
 refine (hs.and hap2).imp fun {a b} ⟨h3, h4⟩ => ?_
 rcases befP_tri h4 with h5 | h5
 · exact h5
 · rw [h3] at h5; cases h5
end
end Go.Proofs.YtjompikdkhhlgaaGreat
namespace Go.Proofs.YtjompikdkhhlgaaGreat
def putN (arr : List Int) (off : Int) (o : List Int) : List Int := (List.range arr.length).map fun w : Nat => if (w : Int) ∈ o then off + idx o (w : Int) else arr.getD w 0
@[simp] theorem putN_length (arr : List Int) (off : Int) (o : List Int) : (putN arr off o).length = arr.length := by simp [putN]
theorem putN_getD {arr : List Int} {off : Int} {o : List Int} {w : Nat} (h : w < arr.length) : (putN arr off o).getD w 0 = if (w : Int) ∈ o then off + idx o (w : Int) else arr.getD w 0 := by simp [putN, List.getD, h]
theorem putN_nil (arr : List Int) (off : Int) : putN arr off [] = arr := by
 apply List.ext_getElem?
 intro i
 by_cases hi : i < arr.length
 · simp [putN, List.getD, hi]
 · rw [List.getElem?_eq_none (by simpa using hi), List.getElem?_eq_none (by simpa using hi)]
theorem idx_lt {l : List Int} {w : Int} (h : w ∈ l) : 0 ≤ idx l w ∧ idx l w < l.length := by
 unfold idx
 have := List.idxOf_lt_length_of_mem h
 omega
theorem idx_get {l : List Int} {w : Int} (h : w ∈ l) : l[(idx l w).toNat]? = some w := by
 unfold idx
 rw [Int.toNat_natCast, List.getElem?_eq_getElem (List.idxOf_lt_length_of_mem h)]
 rw [List.getElem_idxOf]
theorem idx_inj {l : List Int} {v w : Int} (hv : v ∈ l) (hw : w ∈ l) (h : idx l v = idx l w) : v = w := by
 have h1 := idx_get hv
 rw [h, idx_get hw] at h1
 exact (Option.some.inj h1).symm
theorem idx_at {l : List Int} (hn : l.Nodup) {k : Nat} {w : Int} (h : l[k]? = some w) : idx l w = k := by
 have hk := (List.getElem?_eq_some_iff.1 h).1
 have h1 := idx_get (List.mem_of_getElem? h)
 have h2 := (idx_lt (List.mem_of_getElem? h))
 have h3 := (List.getElem?_inj (i := (idx l w).toNat) (j := k) (by omega) hn).1 (h1.trans h.symm)
 omega
theorem idx_take {l : List Int} {k : Nat} {w : Int} (h : w ∈ l.take k) : idx (l.take k) w = idx l w := by
 have e : l = l.take k ++ l.drop k := (List.take_append_drop k l).symm
 unfold idx
 conv => rhs; rw [e]
 rw [List.idxOf_append, if_pos h]
theorem idx_append {l m : List Int} {w : Int} : idx (l ++ m) w = if w ∈ l then idx l w else l.length + idx m w := by
 unfold idx
 rw [List.idxOf_append]
 split
 · rfl
 · omega
theorem putN_step {arr : List Int} {off : Int} {o : List Int} (hn : o.Nodup) {k : Nat} {w : Nat} (h : o[k]? = some (w : Int)) : putN arr off (o.take (k + 1)) = (putN arr off (o.take k)).set w (off + k) := by
 have htk : o.take (k + 1) = o.take k ++ [(w : Int)] := by rw [List.take_add_one, h]; rfl
 have hnot : (w : Int) ∉ o.take k := fun hm => by
  obtain ⟨i, hi, e⟩ := List.getElem_of_mem hm
  rw [List.length_take] at hi
  have hk := (List.getElem?_eq_some_iff.1 h).1
  have e2 : o[i]? = some (w : Int) := by rw [← e, List.getElem_take, List.getElem?_eq_getElem]
  have := (List.getElem?_inj (i := i) (j := k) (by omega) hn).1 (e2.trans h.symm)
  omega
 apply List.ext_getElem?
 intro i
 by_cases hi : i < arr.length
 · rw [List.getElem?_set]
   by_cases e : w = i
   · subst e
     rw [if_pos rfl, if_pos (by simpa using hi)]
     simp only [putN, List.getElem?_map, List.getElem?_range hi, Option.map_some]
     have hm : (w : Int) ∈ o.take (k + 1) := by rw [htk]; simp
     rw [if_pos hm, idx_take hm, idx_at hn h]
   · rw [if_neg e]
     simp only [putN, List.getElem?_map, List.getElem?_range hi, Option.map_some]
     have hne : (i : Int) ≠ (w : Int) := fun e2 => e (by omega)
     by_cases hm : (i : Int) ∈ o.take k
     · have hm2 : (i : Int) ∈ o.take (k + 1) := by rw [htk]; simp [hm]
       rw [if_pos hm, if_pos hm2, idx_take hm, idx_take hm2]
     · have hm2 : (i : Int) ∉ o.take (k + 1) := by rw [htk]; simp [hm, hne]
       rw [if_neg hm, if_neg hm2]
 · rw [List.getElem?_eq_none (by simpa using hi), List.getElem?_eq_none (by simpa using hi)]
def putF (arr : List Int) (off : Int) (o : List Int) (left : Int → Bool) : List Int := (List.range arr.length).map fun w : Nat => if (w : Int) ∈ o ∧ left (w : Int) = false then off + idx o (w : Int) else arr.getD w 0
@[simp] theorem putF_length (arr : List Int) (off : Int) (o : List Int) (left : Int → Bool) : (putF arr off o left).length = arr.length := by simp [putF]
theorem putF_start {arr : List Int} {off : Int} {o : List Int} {left : Int → Bool} (h : ∀ w, w ∈ o → left w = true) : putF arr off o left = arr := by
 apply List.ext_getElem?
 intro i
 by_cases hi : i < arr.length
 · simp only [putF, List.getElem?_map, List.getElem?_range hi, Option.map_some]
   rw [if_neg (fun hh => by rw [h _ hh.1] at hh; exact absurd hh.2 (by simp))]
   simp [List.getD, hi]
 · rw [List.getElem?_eq_none (by simpa using hi), List.getElem?_eq_none (by simpa using hi)]
theorem putF_end {arr : List Int} {off : Int} {o : List Int} {left : Int → Bool} (h : ∀ w, left w = false) : putF arr off o left = putN arr off o := by
 unfold putF putN
 refine List.map_congr_left fun w _ => ?_
 simp [h]
theorem putF_step {arr : List Int} {off : Int} {o : List Int} {left left' : Int → Bool} {w : Nat} (hw : (w : Int) ∈ o) (hl : ∀ x, left' x = (left x && !decide (x = (w : Int)))) : putF arr off o left' = (putF arr off o left).set w (off + idx o (w : Int)) := by
 apply List.ext_getElem?
 intro i
 by_cases hi : i < arr.length
 · rw [List.getElem?_set]
   by_cases e : w = i
   · subst e
     rw [if_pos rfl, if_pos (by simpa using hi)]
     simp only [putF, List.getElem?_map, List.getElem?_range hi, Option.map_some]
     rw [if_pos ⟨hw, by rw [hl]; simp⟩]
   · rw [if_neg e]
     simp only [putF, List.getElem?_map, List.getElem?_range hi, Option.map_some]
     have hne : (i : Int) ≠ (w : Int) := fun e2 => e (by omega)
     rw [hl, decide_eq_false hne, Bool.not_false, Bool.and_true]
 · rw [List.getElem?_eq_none (by simpa using hi), List.getElem?_eq_none (by simpa using hi)]
abbrev Nums := List Int × List Int × Int × Int
def addN (t : Nums) (s : WE) : Nums := (putN t.1 t.2.2.1 s.1, putN t.2.1 t.2.2.2 s.2, t.2.2.1 + s.1.length, t.2.2.2 + s.2.length)
def cn0 (g : Gr) : Nums := addN (List.replicate g.1.toNat (-1), List.replicate g.2.1.length (-1), 0, 0) (openM g)
def cnTo (g : Gr) : Nat → Nums
 | 0 => cn0 g
 | k + 1 => addN (cnTo g k) ((partsM g).getD k ([], ([], []), 0)).2.1
def cnM (g : Gr) : List Int × List Int := ((cnTo g (partsM g).length).1, (cnTo g (partsM g).length).2.1)
def numsL (n : Nat) (W : List Int) : List Int := (List.range n).map fun w : Nat => if (w : Int) ∈ W then idx W (w : Int) else -1
theorem numsL_put {n : Nat} {W o : List Int} (h : ∀ w, w ∈ o → w ∉ W) : putN (numsL n W) W.length o = numsL n (W ++ o) := by
 apply List.ext_getElem?
 intro i
 by_cases hi : i < n
 · have e1 : (numsL n W).getD i 0 = if (i : Int) ∈ W then idx W (i : Int) else -1 := by simp [numsL, List.getD, hi]
   simp only [putN, List.getElem?_map, List.getElem?_range (show i < (numsL n W).length by simpa [numsL] using hi), Option.map_some, e1]
   simp only [numsL, List.getElem?_map, List.getElem?_range hi, Option.map_some, idx_append, List.mem_append]
   by_cases ho : (i : Int) ∈ o
   · have hW := h _ ho
     simp [ho, hW]
   · by_cases hW : (i : Int) ∈ W
     · simp [ho, hW]
     · simp [ho, hW]
 · rw [List.getElem?_eq_none (by simpa [numsL] using hi), List.getElem?_eq_none (by simpa [numsL] using hi)]
theorem numsL_zero (n : Nat) : numsL n [] = List.replicate n (-1) := by
 unfold numsL
 rw [List.eq_replicate_iff]
 refine ⟨by simp, fun x hx => ?_⟩
 obtain ⟨w, _, rfl⟩ := List.mem_map.1 hx
 simp
def ordW (g : Gr) (k : Nat) : List Int := (openM g).1 ++ ((partsM g).take k).flatMap fun b => b.2.1.1
def ordE (g : Gr) (k : Nat) : List Int := (openM g).2 ++ ((partsM g).take k).flatMap fun b => b.2.1.2
section
variable {g : Gr} {n : Nat}
theorem parts_of (h : Mono g n) {b : Prt} (hb : b ∈ partsM g) : ∃ c, ¬ openC g c ∧ (∃ j : Nat, j < g.2.1.length ∧ compE g (j : Int) = c) ∧ b = bestP g (grpC g c) := by
 obtain ⟨h1, _⟩ := scan_parts h g.2.1.length (Nat.le_refl _)
 obtain ⟨c, hc, rfl⟩ := List.mem_map.1 (h1.mem_iff.1 hb)
 have := (mem_reps h _ (Nat.le_refl _)).1 hc
 exact ⟨c, this.1, this.2, rfl⟩
theorem part_has (h : Mono g n) {c : Int} (hc : ∃ j : Nat, j < g.2.1.length ∧ compE g (j : Int) = c) : (bestP g (grpC g c)).2.1.1.Nodup ∧ (bestP g (grpC g c)).2.1.2.Nodup ∧ (∀ w, w ∈ (bestP g (grpC g c)).2.1.1 ↔ (0 ≤ w ∧ w < (n : Int)) ∧ clsW g w = c) ∧ (∀ e, e ∈ (bestP g (grpC g c)).2.1.2 ↔ (0 ≤ e ∧ e < (g.2.1.length : Int)) ∧ compE g e = c) := by
 obtain ⟨e, he, hec, _, h2⟩ := best_comp h hc
 rw [h2]
 have hi := fromM_inv h he.2
 refine ⟨hi.nd1, hi.nd2, fun w => ?_, fun f => ?_⟩
 · rw [from_wire h he.1 he.2, hec]
 · rw [from_edge h he.1 he.2, hec]
theorem parts_apart (h : Mono g n) : (partsM g).Pairwise (fun x y => (∀ w, w ∈ x.2.1.1 → w ∉ y.2.1.1) ∧ ∀ e, e ∈ x.2.1.2 → e ∉ y.2.1.2) := by
 obtain ⟨h1, _⟩ := scan_parts h g.2.1.length (Nat.le_refl _)
 refine (h1.pairwise_iff (fun {_ _} hne => ⟨fun w hw hw2 => hne.1 w hw2 hw, fun e he he2 => hne.2 e he2 he⟩)).2 ?_
 rw [List.pairwise_map]
 refine (reps_nodup h _ (Nat.le_refl _)).imp_of_mem fun {a b} ha hb hne => ?_
 have ka := part_has h ((mem_reps h _ (Nat.le_refl _)).1 ha).2
 have kb := part_has h ((mem_reps h _ (Nat.le_refl _)).1 hb).2
 exact ⟨fun w hw hw2 => hne (((ka.2.2.1 w).1 hw).2.symm.trans ((kb.2.2.1 w).1 hw2).2), fun e he he2 => hne (((ka.2.2.2 e).1 he).2.symm.trans ((kb.2.2.2 e).1 he2).2)⟩
theorem take_apart {L : List Prt} {f : Prt → List Int} (h : L.Pairwise fun x y => ∀ w, w ∈ f x → w ∉ f y) {k : Nat} {b : Prt} (hb : L[k]? = some b) : ∀ w, w ∈ f b → w ∉ (L.take k).flatMap f := by
 intro w hw hm
 obtain ⟨x, hx, hwx⟩ := List.mem_flatMap.1 hm
 obtain ⟨i, hi, rfl⟩ := List.getElem_of_mem hx
 rw [List.length_take] at hi
 have hk := (List.getElem?_eq_some_iff.1 hb).1
 have hbe := (List.getElem?_eq_some_iff.1 hb).2
 rw [List.getElem_take] at hwx
 have := (List.pairwise_iff_getElem.1 h) i k (by omega) hk (by omega) w hwx
 rw [hbe] at this
 exact this hw
theorem cnTo_eq (h : Mono g n) : ∀ k, k ≤ (partsM g).length → cnTo g k = (numsL n (ordW g k), numsL g.2.1.length (ordE g k), ((ordW g k).length : Int), ((ordE g k).length : Int))
 | 0, _ => by
   have e1 : putN (List.replicate n (-1)) 0 (openM g).1 = numsL n (openM g).1 := by
    have := numsL_put (n := n) (W := []) (o := (openM g).1) (by simp)
    rw [numsL_zero] at this
    exact this
   have e2 : putN (List.replicate g.2.1.length (-1)) 0 (openM g).2 = numsL g.2.1.length (openM g).2 := by
    have := numsL_put (n := g.2.1.length) (W := []) (o := (openM g).2) (by simp)
    rw [numsL_zero] at this
    exact this
   show addN _ _ = _
   unfold addN ordW ordE
   rw [h.hn, Int.toNat_natCast]
   simp only [List.take_zero, List.flatMap_nil, List.append_nil, Int.zero_add]
   rw [e1, e2]
 | k + 1, hk => by
   have hb : (partsM g)[k]? = some (partsM g)[k] := List.getElem?_eq_getElem (by omega)
   obtain ⟨c, hno, hc, he⟩ := parts_of h (List.mem_of_getElem? hb)
   have hp := part_has h hc
   rw [← he] at hp
   have hap := parts_apart h
   have ow : ∀ w, w ∈ (partsM g)[k].2.1.1 → w ∉ ordW g k := fun w hw hm => by
    rcases List.mem_append.1 hm with h1 | h1
    · exact hno ⟨w, h1, ((hp.2.2.1 w).1 hw).2⟩
    · exact take_apart (f := fun b => b.2.1.1) (hap.imp fun hh => hh.1) hb w hw h1
   have oe : ∀ e, e ∈ (partsM g)[k].2.1.2 → e ∉ ordE g k := fun e hw hm => by
    have hr := (hp.2.2.2 e).1 hw
    rcases List.mem_append.1 hm with h1 | h1
    · exact hno (hr.2 ▸ (open_edge h hr.1.1 hr.1.2).1 h1)
    · exact take_apart (f := fun b => b.2.1.2) (hap.imp fun hh => hh.2) hb e hw h1
   have e1 : ordW g (k + 1) = ordW g k ++ (partsM g)[k].2.1.1 := by unfold ordW; rw [List.take_add_one, hb, List.flatMap_append, List.append_assoc]; simp
   have e2 : ordE g (k + 1) = ordE g k ++ (partsM g)[k].2.1.2 := by unfold ordE; rw [List.take_add_one, hb, List.flatMap_append, List.append_assoc]; simp
   have eg : (partsM g).getD k ([], ([], []), 0) = (partsM g)[k] := by rw [List.getD_eq_getElem?_getD, hb]; rfl
   rw [cnTo, cnTo_eq h k (by omega), eg]
   unfold addN
   rw [numsL_put ow, numsL_put oe, e1, e2, List.length_append, List.length_append]
   simp
theorem flat_nodup {L : List Prt} {f : Prt → List Int} (h : L.Pairwise fun x y => ∀ w, w ∈ f x → w ∉ f y) (hf : ∀ b, b ∈ L → (f b).Nodup) : (L.flatMap f).Nodup := by
 induction L with
 | nil => simp
 | cons a r ih =>
   obtain ⟨h1, h2⟩ := List.pairwise_cons.1 h
   rw [List.flatMap_cons, List.nodup_append]
   refine ⟨hf a (by simp), ih h2 fun b hb => hf b (by simp [hb]), fun x hx y hy e => ?_⟩
   subst e
   obtain ⟨z, hz, hxz⟩ := List.mem_flatMap.1 hy
   exact h1 z hz x hx hxz
theorem ordW_all (h : Mono g n) : (ordW g (partsM g).length).Nodup ∧ ∀ w : Int, w ∈ ordW g (partsM g).length ↔ 0 ≤ w ∧ w < (n : Int) := by
 have hap := parts_apart h
 have hoi := openM_inv h
 obtain ⟨hs1, _⟩ := scan_parts h g.2.1.length (Nat.le_refl _)
 unfold ordW
 rw [List.take_length]
 constructor
 · rw [List.nodup_append]
   refine ⟨hoi.nd1, flat_nodup (f := fun b => b.2.1.1) (hap.imp fun hh => hh.1) (fun b hb => ?_), fun x hx y hy e => ?_⟩
   · obtain ⟨c, _, hc, rfl⟩ := parts_of h hb
     exact (part_has h hc).1
   · subst e
     obtain ⟨b, hb, hxb⟩ := List.mem_flatMap.1 hy
     obtain ⟨c, hno, hc, rfl⟩ := parts_of h hb
     exact hno ⟨x, hx, (((part_has h hc).2.2.1 x).1 hxb).2⟩
 · intro w
   constructor
   · intro hw
     rcases List.mem_append.1 hw with h1 | h1
     · exact hoi.rg1 w h1
     · obtain ⟨b, hb, hxb⟩ := List.mem_flatMap.1 h1
       obtain ⟨c, hno, hc, rfl⟩ := parts_of h hb
       exact (((part_has h hc).2.2.1 w).1 hxb).1
   · intro hr
     rw [List.mem_append]
     by_cases ho : openC g (clsW g w)
     · exact .inl ((open_wire h hr).2 ho)
     · right
       -- the wire comes out of an edge
       have hm := h.all w.toNat (by omega)
       rw [show ((w.toNat : Nat) : Int) = w by omega] at hm
       unfold orgW at hm
       rcases List.mem_append.1 hm with h1 | h1
       · exact absurd ⟨w, (by
          unfold openM
          refine (fin_wire h (startO_inv h)).2 ⟨hr, w, ?_, rfl⟩
          exact mem_giveL.2 (.inr (List.mem_append_left _ h1))), rfl⟩ ho
       · have key : ∀ es : List Eg, w ∈ outW es → ∃ i : Nat, i < es.length ∧ w ∈ outE (es.getD i eg0) := fun es => by
          induction es with
          | nil => intro hh; simp [outW] at hh
          | cons a r ih =>
            intro hh
            unfold outW at hh
            rcases List.mem_append.1 hh with h2 | h2
            · exact ⟨0, by simp, by simpa [outE] using h2⟩
            · obtain ⟨i, hi, hx⟩ := ih h2
              exact ⟨i + 1, by simpa using hi, by simpa using hx⟩
         obtain ⟨i, hi, hwi⟩ := key g.2.1 h1
         have hwe : w ∈ wiresE (edgeAt g (i : Int)) := by
          unfold wiresE edgeAt
          rw [Int.toNat_natCast]
          exact List.mem_append_right _ hwi
         have hcl := comp_of h (e := (i : Int)) (by omega) (by omega) hwe
         have hcex : ∃ j : Nat, j < g.2.1.length ∧ compE g (j : Int) = clsW g w := ⟨i, hi, hcl.symm⟩
         refine List.mem_flatMap.2 ⟨bestP g (grpC g (clsW g w)), ?_, ((part_has h hcex).2.2.1 w).2 ⟨hr, rfl⟩⟩
         exact hs1.mem_iff.2 (List.mem_map.2 ⟨_, (mem_reps h _ (Nat.le_refl _)).2 ⟨ho, hcex⟩, rfl⟩)
theorem ordE_all (h : Mono g n) : (ordE g (partsM g).length).Nodup ∧ ∀ e : Int, e ∈ ordE g (partsM g).length ↔ 0 ≤ e ∧ e < (g.2.1.length : Int) := by
 have hap := parts_apart h
 have hoi := openM_inv h
 obtain ⟨hs1, _⟩ := scan_parts h g.2.1.length (Nat.le_refl _)
 unfold ordE
 rw [List.take_length]
 constructor
 · rw [List.nodup_append]
   refine ⟨hoi.nd2, flat_nodup (f := fun b => b.2.1.2) (hap.imp fun hh => hh.2) (fun b hb => ?_), fun x hx y hy e => ?_⟩
   · obtain ⟨c, _, hc, rfl⟩ := parts_of h hb
     exact (part_has h hc).2.1
   · subst e
     obtain ⟨b, hb, hxb⟩ := List.mem_flatMap.1 hy
     obtain ⟨c, hno, hc, rfl⟩ := parts_of h hb
     have hr := ((part_has h hc).2.2.2 x).1 hxb
     exact hno (hr.2 ▸ (open_edge h hr.1.1 hr.1.2).1 hx)
 · intro e
   constructor
   · intro hw
     rcases List.mem_append.1 hw with h1 | h1
     · exact hoi.rg2 e h1
     · obtain ⟨b, hb, hxb⟩ := List.mem_flatMap.1 h1
       obtain ⟨c, hno, hc, rfl⟩ := parts_of h hb
       exact (((part_has h hc).2.2.2 e).1 hxb).1
   · intro hr
     rw [List.mem_append]
     by_cases ho : openC g (compE g e)
     · exact .inl ((open_edge h hr.1 hr.2).2 ho)
     · have hcex : ∃ j : Nat, j < g.2.1.length ∧ compE g (j : Int) = compE g e := ⟨e.toNat, by omega, by rw [show ((e.toNat : Nat) : Int) = e by omega]⟩
       exact .inr (List.mem_flatMap.2 ⟨bestP g (grpC g (compE g e)), hs1.mem_iff.2 (List.mem_map.2 ⟨_, (mem_reps h _ (Nat.le_refl _)).2 ⟨ho, hcex⟩, rfl⟩), ((part_has h hcex).2.2.2 e).2 ⟨hr, rfl⟩⟩)
theorem numsL_perm {n : Nat} {W : List Int} (hn : W.Nodup) (h : ∀ w : Int, w ∈ W ↔ 0 ≤ w ∧ w < (n : Int)) : permB (numsL n W) = true ∧ (numsL n W).length = n := by
 have hl : (numsL n W).length = n := by simp [numsL]
 have hWl : W.length = n := full_len hn (fun k hk => (h k).1 hk) fun w hw => (h _).2 (by omega)
 have e : numsL n W = (List.range n).map fun w : Nat => idx W (w : Int) := by
  unfold numsL
  refine List.map_congr_left fun w hw => ?_
  rw [if_pos ((h _).2 (by have := List.mem_range.1 hw; omega))]
 refine ⟨permB_of ?_ fun k hk => ?_, hl⟩
 · rw [e]
   rw [List.Nodup, List.pairwise_map]
   refine (List.nodup_range).imp_of_mem fun {a b} ha hb hne hab => hne ?_
   have := idx_inj ((h _).2 (by have := List.mem_range.1 ha; omega)) ((h _).2 (by have := List.mem_range.1 hb; omega)) hab
   omega
 · rw [hl]
   rw [e] at hk
   obtain ⟨w, hw, rfl⟩ := List.mem_map.1 hk
   have := idx_lt ((h (w : Int)).2 (by have := List.mem_range.1 hw; omega))
   omega
theorem cnM_perm (h : Mono g n) : (permB (cnM g).1 = true ∧ (cnM g).1.length = n) ∧ permB (cnM g).2 = true ∧ (cnM g).2.length = g.2.1.length := by
 unfold cnM
 rw [cnTo_eq h _ (Nat.le_refl _)]
 exact ⟨numsL_perm (ordW_all h).1 (ordW_all h).2, numsL_perm (ordE_all h).1 (ordE_all h).2⟩
end
open Go.RowKit
structure OIg (w0 w : World) (A : Option Addr) (cap : Nat) (l : List Int) : Prop where
 is : IS w A cap l
 new : Fresh w0.heap.size A
 below_ : Below w0.heap.size w0 w
theorem OIg.snoc {w0 w w2 : World} {A : Option Addr} {cap : Nat} {l : List Int} (h : OIg w0 w A cap l) {o : Obj} {x : Int} {A' : Option Addr} {cap' n : Nat} (hn : n = l.length + 1) (hs' : Sl w2 tInt 1 A' n cap' (ints l ++ [.int .i64 x])) (hA' : ∀ b, b ∈ fpA A' → b ∈ fpA A ∨ (w.alloc o).heap.size ≤ b) (hk : Keeps (· ∈ fpA A) (w.alloc o) w2) : OIg w0 w2 A' cap' (l ++ [x]) := by
 subst hn
 have hb := below_trans h.below_ ((Below.refl w.heap.size w).alloc (Nat.le_refl _) o) h.below_.size
 refine ⟨?_, fun b hb' => ?_, below_keeps hb hk hb.size h.new⟩
 · unfold IS
   have : ints (l ++ [x]) = ints l ++ [.int .i64 x] := by simp [ints]
   rw [this, List.length_append]; exact hs'
 · rcases hA' b hb' with h1 | h1
   · exact h.new b h1
   · have := hb.size; omega
theorem oig_alloc {w0 w : World} {A : Option Addr} {cap k : Nat} {l : List Int} (h : OIg w0 w A cap l) (hk : l.length = k) (o : Obj) : Sl (w.alloc o) tInt 1 A k cap (ints l) := by
 have := Sl.alloc h.is o; rwa [hk] at this
set_option maxRecDepth 100000 in
set_option maxHeartbeats 2000000 in
theorem hgList_any (A B : Option Addr) (a b p n : Nat) (l tw : List Int) (w : World) (hl : RdI w A l) (ht : RdI w B tw) (hp : l.length = p) (hn : tw.length = n) (hin : ∀ x, x ∈ l → 0 ≤ x ∧ x < (n : Int)) (hpb : p ≤ 1048576) :
  Calls Tryz.prog 101 #[.slice A p a, .slice B n b] w fun e w' => ∃ A' c', e = .returned (.slice A' p c') ∧ OIg w w' A' c' (mapL tw l) := by
 have hO0 : OIg w w none 0 (mapL tw []) := ⟨Sl.nil _ _ _, Fresh.none_ _, Below.refl _ _⟩
 have hp_h := lH hp; have hn_h := lH hn; have hin_h := lH hin; have hO0_h := lH hO0; have hl_h := lH hl; have ht_h := lH ht; clear hp hn hin hO0 hl ht
 go_enter Tryz.func101, Tryz.ntmps101
 go_wp2_with (fail)
 go_loopw [10, 5] (fun i v' wr => ∃ (k : Nat) (A' : Option Addr) (c' : Nat), k ≤ p ∧ i = .int .i64 k ∧ v' = .slice A' k c' ∧ OIg w wr A' c' (mapL tw (l.take k))) (fun i _ _ => p - (intOf i).toNat)
 case atStart => exact ⟨0, none, 0, Nat.zero_le _, rfl, rfl, by simpa using hO0_h.out⟩
 case round =>
  clear hO0_h
  obtain ⟨k, A', c', hk, rfl, rfl, hO⟩ := hrel
  by_cases hlt : k < p
  · obtain ⟨xd, x, rfl, hx, hxc⟩ := (hl_h.out.below hO.below_).at_ (j := k) (by rw [hp_h.out]; exact hlt)
    have hxb := hin_h.out x (List.mem_of_getElem? hx)
    obtain ⟨q, rfl⟩ : ∃ q : Nat, x = (q : Int) := ⟨x.toNat, by omega⟩
    have hqn : q < n := by omega
    obtain ⟨yd, y, rfl, hy, hyc⟩ := (ht_h.out.below hO.below_).at_ (j := q) (by rw [hn_h.out]; exact hqn)
    have hml : (mapL tw (l.take k)).length = k := by rw [mapL_length, List.length_take, hp_h.out]; omega
    have hst : mapL tw (l.take (k + 1)) = mapL tw (l.take k) ++ [y] := by rw [mapL_take_step hx]; simp [List.getD, hy]
    have hsl := fun (o : Obj) => oig_alloc hO hml o
    have hkI : (k : Int) < (p : Int) := by omega
    have hqI : (q : Int) < (n : Int) := by omega
    have hq0 : (0 : Int) ≤ (q : Int) := by omega
    clear hx hy hxb; have hml_h := lH hml; have hst_h := lH hst; have hsl_h := lH hsl; have hO_h := lH hO; clear hml hst hsl hO
    go_wp2_with (at_builtin; refine wpList_append_Sl _ rfl _ _ _ rfl 3 Tryz.underlying23 info_int rfl (by omega) rfl (hsl_h.out (.cells #[.int .i64 y] 3)) rfl (news := [.int .i64 y]) rfl (Sl.rdc (Sl.laid wr 3 1 1 #[.int .i64 y] (by unfold maxLen; omega) rfl)) (by intro u hu; simp at hu; subst hu; rfl) (by unfold maxLen; omega) (by omega) ?_; intro A3 c3 w3 hs3 hA3 hk3)
    have hO2 := hO_h.out.snoc (x := y) (by rw [hml_h.out]) hs3 hA3 hk3
    rw [← hst_h.out] at hO2
    clear hs3 hA3 hk3; have hO2_h := lH hO2; clear hO2
    go_roundw
    case rel => exact ⟨k + 1, A3, c3, by omega, by go_num, rfl, hO2_h.out⟩
    case measure => simp [intOf]; omega
  · obtain rfl : p = k := by omega
    rw [List.take_of_length_le (by rw [hp_h.out]; exact Nat.le_refl _)] at hO
    have hO_h := lH hO; clear hO
    go_wp2_with (fail)
    go_ret
    exact ⟨A', c', rfl, hO_h.out⟩
set_option maxRecDepth 100000 in
set_option maxHeartbeats 2000000 in
theorem chosenG_any (A B : Option Addr) (a b p n : Nat) (l tw : List Int) (w : World) (hl : RdI w A l) (ht : RdI w B tw) (hp : l.length = p) (hn : tw.length = n) (hin : ∀ x, x ∈ l → 0 ≤ x ∧ x < (n : Int)) (hpb : p ≤ 1048576) :
  Calls Tryz.prog 97 #[.slice B n b, .slice A p a] w fun e w' => ∃ A' c', e = .returned (.slice A' p c') ∧ OIg w w' A' c' (mapL tw l) := by
 have hp_h := lH hp; have hn_h := lH hn; have hin_h := lH hin; have hl_h := lH hl; have ht_h := lH ht; clear hp hn hin hl ht
 go_enter Tryz.func97, Tryz.ntmps97
 go_wp2_with (at_make; refine wpList_make_Sl _ rfl _ _ _ rfl 3 Tryz.underlying23 info_int 0 p rfl rfl rfl rfl (Nat.zero_le _) (by omega) (by unfold maxLen; omega) ?_; intro G w1 hs1 hG hb1)
 have hO0 : OIg w w1 (some G) p (mapL tw []) := ⟨by unfold IS; simpa [ints, mapL] using hs1, fun b hb => by simp at hb; subst hb; exact hG, hb1⟩
 clear hs1 hG hb1; have hO0_h := lH hO0; clear hO0
 go_loopw [13, 5] (fun i v' wr => ∃ (k : Nat) (A' : Option Addr) (c' : Nat), k ≤ p ∧ i = .int .i64 k ∧ v' = .slice A' k c' ∧ OIg w wr A' c' (mapL tw (l.take k))) (fun i _ _ => p - (intOf i).toNat)
 case atStart => exact ⟨0, some G, p, Nat.zero_le _, rfl, rfl, by simpa using hO0_h.out⟩
 case round =>
  clear hO0_h
  obtain ⟨k, A', c', hk, rfl, rfl, hO⟩ := hrel
  by_cases hlt : k < p
  · obtain ⟨xd, x, rfl, hx, hxc⟩ := (hl_h.out.below hO.below_).at_ (j := k) (by rw [hp_h.out]; exact hlt)
    have hxb := hin_h.out x (List.mem_of_getElem? hx)
    obtain ⟨q, rfl⟩ : ∃ q : Nat, x = (q : Int) := ⟨x.toNat, by omega⟩
    have hqn : q < n := by omega
    obtain ⟨yd, y, rfl, hy, hyc⟩ := (ht_h.out.below hO.below_).at_ (j := q) (by rw [hn_h.out]; exact hqn)
    have hml : (mapL tw (l.take k)).length = k := by rw [mapL_length, List.length_take, hp_h.out]; omega
    have hst : mapL tw (l.take (k + 1)) = mapL tw (l.take k) ++ [y] := by rw [mapL_take_step hx]; simp [List.getD, hy]
    have hsl := fun (o : Obj) => oig_alloc hO hml o
    have hkI : (k : Int) < (p : Int) := by omega
    have hqI : (q : Int) < (n : Int) := by omega
    have hq0 : (0 : Int) ≤ (q : Int) := by omega
    clear hx hy hxb; have hml_h := lH hml; have hst_h := lH hst; have hsl_h := lH hsl; have hO_h := lH hO; clear hml hst hsl hO
    go_wp2_with (at_builtin; refine wpList_append_Sl _ rfl _ _ _ rfl 3 Tryz.underlying23 info_int rfl (by omega) rfl (hsl_h.out (.cells #[.int .i64 y] 3)) rfl (news := [.int .i64 y]) rfl (Sl.rdc (Sl.laid wr 3 1 1 #[.int .i64 y] (by unfold maxLen; omega) rfl)) (by intro u hu; simp at hu; subst hu; rfl) (by unfold maxLen; omega) (by omega) ?_; intro A3 c3 w3 hs3 hA3 hk3)
    have hO2 := hO_h.out.snoc (x := y) (by rw [hml_h.out]) hs3 hA3 hk3
    rw [← hst_h.out] at hO2
    clear hs3 hA3 hk3; have hO2_h := lH hO2; clear hO2
    go_roundw
    case rel => exact ⟨k + 1, A3, c3, by omega, by go_num, rfl, hO2_h.out⟩
    case measure => simp [intOf]; omega
  · obtain rfl : p = k := by omega
    rw [List.take_of_length_le (by rw [hp_h.out]; exact Nat.le_refl _)] at hO
    have hO_h := lH hO; clear hO
    go_wp2_with (fail)
    go_ret
    exact ⟨A', c', rfl, hO_h.out⟩
theorem mapped_any (A B : Option Addr) (a b p n : Nat) (l tw : List Int) (w : World) (hl : RdI w A l) (ht : RdI w B tw) (hp : l.length = p) (hn : tw.length = n) (hin : ∀ x, x ∈ l → 0 ≤ x ∧ x < (n : Int)) (hpb : p ≤ 1048576) :
  Calls Tryz.prog 65 #[.slice A p a, .slice B n b] w fun e w' => ∃ A' c', e = .returned (.slice A' p c') ∧ OIg w w' A' c' (mapL tw l) := by
 have hC := chosenG_any A B a b p n l tw w hl ht hp hn hin hpb
 have hC_h := lH hC; have hl_h := lH hl; have ht_h := lH ht; have hp_h := lH hp; have hn_h := lH hn; have hin_h := lH hin; clear hC hl ht hp hn hin
 go_enter Tryz.func65, Tryz.ntmps65
 go_wp2_with (fail)
 refine (hC_h.out).mono ?_
 rintro e w1 ⟨A', c', rfl, hO⟩
 go_wp2_with (fail)
 go_ret
 exact ⟨A', c', rfl, hO⟩
section
variable {P : Program} {ops : Array Oper} {Q : Exit → Act → World → Prop} {md : Region.Mode} {z : Nat} {F : World → Prop}
def wpAnyZ (P : Program) (md : Region.Mode) (ops : Array Oper) (Q : Exit → Act → World → Prop) (z : Nat) (F : World → Prop) : Nat → Array Bool → Act → World → Prop
 | 0, listed, a, w => Region.ready md ops listed = [] ∧ Q .normal a w
 | fuel + 1, listed, a, w =>
   (Region.ready md ops listed = [] → Q .normal a w) ∧
   ∀ i ∈ Region.ready md ops listed, wpOp P ops Q i (fun a' w' => ((listed.setIfInBounds i true).getD z true = false → F w') ∧ wpAnyZ P md ops Q z F fuel (listed.setIfInBounds i true) a' w') a w
theorem wpAny_of_z : ∀ (fuel : Nat) (listed : Array Bool) (a : Act) (w : World), wpAnyZ P md ops Q z F fuel listed a w → wpAny P md ops Q fuel listed a w
 | 0, _, _, _, h => h
 | fuel + 1, _, _, _, h => ⟨h.1, fun i hi => wpOp_mono (fun a' w' h' => wpAny_of_z fuel _ a' w' h'.2) (h.2 i hi)⟩
end
section
variable {P : Program} {l : List Oper} {Q : Exit → Act → World → Prop} {md : Region.Mode} {z : Nat} {F : World → Prop}
theorem beginZ (z : Nat) (F : World → Prop) {id : Nat} {a : Act} {w : World} (hm : P.follows .mixedOrders = true) (h : wpAnyZ P .any l.toArray Q z F l.toArray.size (Array.replicate l.toArray.size false) a w.drew) : (Code.region id l.toArray true).wp P Q a w :=
 wp_region_any hm (wpAny_of_z _ _ _ _ h)
theorem beginZw (z : Nat) (F : World → Prop) {id : Nat} {a : Act} {w : World} (hm : P.follows .mixedOrders = true) (h : ∀ W1, W1 = w.drew → wpAnyZ P .any l.toArray Q z F l.toArray.size (Array.replicate l.toArray.size false) a W1) : (Code.region id l.toArray true).wp P Q a w :=
 beginZ z F hm (h _ rfl)
theorem oneZ (i : Nat) {o : Oper} {fuel : Nat} {listed : Array Bool} {a : Act} {w : World} {l' : List Oper} (hd : l.drop i = o :: l') (hr : Region.ready md l.toArray listed = [i]) (hw : Region.wanted o (yielded l.toArray a.tmps) = true)
  (h : ∀ K : Act → World → Prop, (∀ a' w', ((listed.setIfInBounds i true).getD z true = false → F w') → wpAnyZ P md l.toArray Q z F fuel (listed.setIfInBounds i true) a' w' → K a' w') → o.wp P a w K Q) : wpAnyZ P md l.toArray Q z F (fuel + 1) listed a w := by
 refine ⟨fun h0 => (by rw [hr] at h0; cases h0), fun j hj => ?_⟩
 rw [hr] at hj
 obtain rfl := List.mem_singleton.1 hj
 unfold wpOp
 simp only [at_drop hd, hw, if_true]
 exact .inl (h _ fun a' w' h1 h2 => ⟨h1, h2⟩)
theorem runZ (i : Nat) {o : Oper} {v : Value} {fuel : Nat} {listed : Array Bool} {a : Act} {w w1 : World} {l' : List Oper} (hd : l.drop i = o :: l') (hr : Region.ready md l.toArray listed = [i]) (hw : Region.wanted o (yielded l.toArray a.tmps) = true)
  (hrun : (execOp a.eval o).run P w = .ok (.value v) w1) (hS : (listed.setIfInBounds i true).getD z true = false → F w1) (h : wpAnyZ P md l.toArray Q z F fuel (listed.setIfInBounds i true) (a.put o.dst v) w1) : wpAnyZ P md l.toArray Q z F (fuel + 1) listed a w :=
 oneZ i hd hr hw fun K hK => by
  unfold Oper.wp
  rw [hrun]
  exact hK _ _ hS h
theorem callZ (i : Nat) {o : Oper} {f : FuncId} {args : Array Value} {fuel : Nat} {listed : Array Bool} {a : Act} {w : World} {l' : List Oper} (hd : l.drop i = o :: l') (hr : Region.ready md l.toArray listed = [i]) (hw : Region.wanted o (yielded l.toArray a.tmps) = true)
  (hrun : (execOp a.eval o).run P w = .ok (.enter f args) w)
  (h : Calls P f args w fun e w' => ∃ v, e = .returned v ∧ ((listed.setIfInBounds i true).getD z true = false → F w') ∧ wpAnyZ P md l.toArray Q z F fuel (listed.setIfInBounds i true) (a.put o.dst v) w') : wpAnyZ P md l.toArray Q z F (fuel + 1) listed a w := by
 refine oneZ i hd hr hw fun K hK => ?_
 unfold Oper.wp
 rw [hrun]
 exact h.mono fun e w' ⟨v, he, h1, h2⟩ => by subst he; exact hK _ _ h1 h2
theorem appZ (i : Nat) {o : Oper} {fuel : Nat} {listed : Array Bool} {a : Act} {w : World} {l' : List Oper} (hd : l.drop i = o :: l') (hr : Region.ready md l.toArray listed = [i]) (hw : Region.wanted o (yielded l.toArray a.tmps) = true)
  (s x : Operand) (t : TypeId) (ho : o.op = .call { callee := .builtin .append, args := #[s, x], argTypes := #[t, t] })
  (e : TypeId) {z0 : Value} {size bytes : Nat} (ht : P.underlying t = some (.slice e)) (hinfo : (P.info? e).map (fun i => (i.zero, i.size, i.bytes)) = some (some z0, size, bytes)) (hzs : z0.cells.size = size) (hsz : 0 < size)
  {A : Option Addr} {n cap : Nat} {xs : List Value} (he : a.eval s = .slice A n cap) (hs : Sl w e size A n cap xs)
  {B : Option Addr} {m c : Nat} {news : List Value} (hx : a.eval x = .slice B m c) (hl : news.length = m * size) (hrd : RdC w B news) (h1 : ∀ u ∈ news, u.oneCell' = true)
  (h63 : n + m ≤ maxLen) (hbytes : (n + m) * bytes ≤ 140737488355328)
  (h : ∀ A' cap' w', Sl w' e size A' (n + m) cap' (xs ++ news) → (∀ b, b ∈ fpA A' → b ∈ fpA A ∨ w.heap.size ≤ b) → Keeps (· ∈ fpA A) w w' → RdC w' A xs → ((listed.setIfInBounds i true).getD z true = false → F w') ∧ wpAnyZ P md l.toArray Q z F fuel (listed.setIfInBounds i true) (a.put o.dst (.slice A' (n + m) cap')) w') : wpAnyZ P md l.toArray Q z F (fuel + 1) listed a w := by
 obtain ⟨i', hi, hz, hz1, hz2⟩ := info_parts hinfo
 obtain ⟨A', cap', w', hrun, h2, h3, h4, h5⟩ := run_append_Sl_rd (P := P) w t o.type e i' z0 size bytes ht hi hz hz1 hz2 hzs hsz A n cap xs hs B m c news hl hrd h1 h63 hbytes
 obtain ⟨hS, hh⟩ := h A' cap' w' h2 h3 h4 h5
 refine runZ i hd hr hw (w1 := w') (v := .slice A' (n + m) cap') ?_ hS hh
 unfold execOp
 simp only [ho, resolve, invoke, builtin, Sem.run_bind, Sem.run_pure, Result.andThen_ok, List.map_toArray, List.map_cons, List.map_nil, he, hx, hrun]
theorem doneZ {fuel : Nat} {listed : Array Bool} {a : Act} {w : World} (hr : Region.ready md l.toArray listed = []) (h : Q .normal a w) : wpAnyZ P md l.toArray Q z F fuel listed a w := by
 cases fuel with
 | zero => exact ⟨hr, h⟩
 | succ f => exact ⟨fun _ => h, fun i hi => (by rw [hr] at hi; cases hi)⟩
end
section
variable {P : Program} {ops : Array Oper} {Q : Exit → Act → World → Prop} {md : Region.Mode} {z : Nat} {F : World → Prop}
theorem wpAnyZ_firstC {i : Nat} {oi : Oper} {v : Value} {C : List Nat} (hi : ops[i]? = some oi) (hsel : ∀ (j : Nat) (o : Oper) cs b, ops[j]? = some o → o.op ≠ .select cs b)
  (hQ : ∀ c a w, Q (.panic c) (a.put oi.dst v) w → Q (.panic c) a w) (hzC : z ∈ C) (hiC : ¬ i ∈ C) (hC : ∀ c ∈ C, ∃ oc, ops[c]? = some oc ∧ ∃ e ∈ oc.after, Region.binds md e = true ∧ (e.on = i ∨ e.on ∈ C)) :
  ∀ (fuel : Nat) (listed : Array Bool) (a : Act) (w : World), (∀ c ∈ C, listed.getD c true = false) →
    (∀ j oj, ops[j]? = some oj → j ≠ i → listed.getD j true = false → (∀ e ∈ oj.after, Region.binds md e = true → e.on ≠ i) → oi.apart ops oj = true) →
    i ∈ Region.ready md ops listed → YieldsIf P ops F oi v a → F w →
    wpAnyZ P md ops Q z F fuel (listed.setIfInBounds i true) (a.put oi.dst v) w → wpAnyZ P md ops Q z F (fuel + 1) listed a w := by
 intro fuel
 have hiz : i ≠ z := fun e => hiC (e ▸ hzC)
 induction fuel with
 | zero =>
   intro listed a w _ _ hr hy hS H
   refine ⟨fun h => (by rw [h] at hr; cases hr), fun j hj => ?_⟩
   by_cases hji : j = i
   · subst hji; exact hy.wpOp hi hS ⟨fun _ => hS, H⟩
   · have := ready_mono hj hji
     rw [H.1] at this
     cases this
 | succ fuel ih =>
   intro listed a w hlz hfree hr hy hS H
   refine ⟨fun h => (by rw [h] at hr; cases hr), fun j hj => ?_⟩
   by_cases hji : j = i
   · subst hji; exact hy.wpOp hi hS ⟨fun _ => hS, H⟩
   · have h1 := H.2 j (ready_mono hj hji)
     obtain ⟨hjun, oj, hoj, hall⟩ := mem_ready.1 hj
     have hblock : ∀ k, listed.getD k true = false → ∀ e ∈ oj.after, Region.binds md e = true → e.on ≠ k := fun k h0 e he hb heq => by
      have h1 := hall e he hb
      rw [heq] at h1
      rcases Nat.lt_or_ge k listed.size with h' | h'
      · simp [h'] at h0 h1; rw [h0] at h1; cases h1
      · simp [Array.getElem?_eq_none h'] at h1
     have hnot : ∀ e ∈ oj.after, Region.binds md e = true → e.on ≠ i := hblock i (mem_ready.1 hr).1
     have hjC : ¬ j ∈ C := fun hm => by
      obtain ⟨oc, hoc, e, he, hb, hon⟩ := hC j hm
      rw [hoj] at hoc
      obtain rfl := Option.some.inj hoc
      rcases hon with h | h
      · exact hnot e he hb h
      · exact hblock _ (hlz _ h) e he hb rfl
     have hjz : j ≠ z := fun e => hjC (e ▸ hzC)
     have h2 := wpOp_putIf hoj (hfree j oj hoj hji hjun hnot) (fun cs b => hsel i oi cs b hi) (fun cs b => hsel j oj cs b hoj) hQ hy h1
     have hfree' : ∀ k ok, ops[k]? = some ok → k ≠ i → (listed.setIfInBounds j true).getD k true = false →
       (∀ e ∈ ok.after, Region.binds md e = true → e.on ≠ i) → oi.apart ops ok = true := fun k ok hk hki hun hno => by
      refine hfree k ok hk hki ?_ hno
      by_cases hjk : j = k
      · subst hjk; exact hjun
      · rw [getD_set_ne true hjk] at hun; exact hun
     have hlz' : ∀ c ∈ C, (listed.setIfInBounds j true).getD c true = false := fun c hc => by
      have hjc : j ≠ c := fun e => hjC (by rw [e]; exact hc)
      rw [getD_set_ne true hjc]; exact hlz c hc
     have hlz2 : ((listed.setIfInBounds i true).setIfInBounds j true).getD z true = false := by rw [getD_set_ne true hjz, getD_set_ne true hiz]; exact hlz z hzC
     refine wpOp_mono (fun a' w' h3 => ⟨fun _ => h3.2.1 hlz2, ih (listed.setIfInBounds j true) a' w' hlz' hfree' (ready_mono hr (Ne.symm hji)) h3.1 (h3.2.1 hlz2) ?_⟩) h2
     rw [Array.setIfInBounds_comm _ _ hji]
     exact h3.2.2
def descC (md : Region.Mode) (ops : Array Oper) (i : Nat) : List Nat :=
 (List.range ops.size).foldl (fun acc k => if (i :: acc).any fun d => Region.waitsFor md ops k d then k :: acc else acc) []
def chainC (md : Region.Mode) (ops : Array Oper) (listed : Array Bool) (C : List Nat) (z i : Nat) : Bool :=
 C.contains z && !C.contains i && C.all fun c => !listed.getD c true && (i :: C).any fun d => Region.waitsFor md ops c d
end
section
variable {P : Program} {l : List Oper} {Q : Exit → Act → World → Prop} {md : Region.Mode} {z : Nat} {F : World → Prop}
theorem takeC (i : Nat) {oi : Oper} {v : Value} {fuel : Nat} {listed : Array Bool} {a : Act} {w : World} {l' : List Oper} (hd : l.drop i = oi :: l')
  (hs : Region.noSelect l.toArray = true) (hf : Region.free md l.toArray listed i = true) (hr : (Region.ready md l.toArray listed).contains i = true) (hz : chainC md l.toArray listed (descC md l.toArray i) z i = true)
  (hQ : ∀ c a w, Q (.panic c) (a.put oi.dst v) w → Q (.panic c) a w) (hS : F w) (hw : Region.wanted oi (yielded l.toArray a.tmps) = true) (hy : ∀ w, F w → (execOp a.eval oi).run P w = .ok (.value v) w)
  (h : wpAnyZ P md l.toArray Q z F fuel (listed.setIfInBounds i true) (a.put oi.dst v) w) : wpAnyZ P md l.toArray Q z F (fuel + 1) listed a w := by
 simp only [chainC, Bool.and_eq_true, Bool.not_eq_true', List.all_eq_true, List.any_eq_true] at hz
 obtain ⟨⟨h1, h2⟩, h3⟩ := hz
 refine wpAnyZ_firstC (C := descC md l.toArray i) (at_drop hd) (Region.noSelect_spec hs) hQ (by simpa using h1) (by simpa using h2) (fun c hc => ?_) fuel listed a w (fun c hc => (h3 c hc).1) (Region.free_spec (at_drop hd) hf) (by simpa using hr) (.inl ⟨hw, hy⟩) hS h
 obtain ⟨-, d, hd', hwt⟩ := h3 c hc
 obtain ⟨oz, hoz, e, he, hb, heq⟩ := Region.waitsFor_spec hwt
 refine ⟨oz, hoz, e, he, hb, ?_⟩
 rw [heq]
 rcases List.mem_cons.1 hd' with h | h
 · exact .inl h
 · exact .inr h
theorem tkC (i : Nat) {oi : Oper} (v : Value) {fuel : Nat} {listed : Array Bool} {a : Act} {w : World} {l' : List Oper} (hd : l.drop i = oi :: l') (hS : F w) (hy : ∀ w, F w → (execOp a.eval oi).run P w = .ok (.value v) w)
 (h : wpAnyZ P md l.toArray Q z F fuel (listed.setIfInBounds i true) (a.put oi.dst v) w) (hs : Region.noSelect l.toArray = true := by kernel_rfl) (hf : Region.free md l.toArray listed i = true := by kernel_rfl) (hr : (Region.ready md l.toArray listed).contains i = true := by kernel_rfl) (hz : chainC md l.toArray listed (descC md l.toArray i) z i = true := by kernel_rfl)
 (hQ : ∀ c a w, Q (.panic c) (a.put oi.dst v) w → Q (.panic c) a w := by exact fun _ _ _ h => h) (hw : Region.wanted oi (yielded l.toArray a.tmps) = true := by rfl) : wpAnyZ P md l.toArray Q z F (fuel + 1) listed a w := takeC i hd hs hf hr hz hQ hS hw hy h
end
end Go.Proofs.YtjompikdkhhlgaaGreat
