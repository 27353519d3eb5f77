/-
  What the texts above it need, part 4.
-/
import Derived.Test.YtjompikdkhhlgaaGreatDoorKWireValues3
import Derived.StillTail
namespace Go.Proofs.YtjompikdkhhlgaaGreatDoor
open Go.RowKit
theorem gvB_iff (k v : Int) : gvB k v = true ↔ ((k = 7 ∨ k = 13) ∧ 0 ≤ v ∧ v ≤ 96) ∨ (k ≠ 7 ∧ k ≠ 13 ∧ v = 0) := by
 unfold gvB hvB t_inB
 by_cases h : k = 7 ∨ k = 13
 · rw [decide_eq_true h, if_pos rfl, decide_eq_true_eq]
   constructor
   · intro h3; exact .inl ⟨h, h3⟩
   · intro h3; omega
 · rw [decide_eq_false h, if_neg (by simp), decide_eq_true_eq]
   constructor
   · intro h3; exact .inr ⟨by omega, by omega, h3⟩
   · intro h3; omega
theorem leafB_gv {k v : Int} (h1 : 3 ≤ k) (h2 : k ≤ 14) : leafB (k, v, noName) = gvB k v := by
 rw [Bool.eq_iff_iff, gvB_iff]
 unfold leafB
 simp only [decide_eq_true_eq]
 constructor
 · rintro ⟨-, h3⟩; omega
 · intro h3; exact ⟨trivial, by omega⟩
set_option maxHeartbeats 1000000 in
theorem t_l1All_any (A : Option Addr) (c n : Nat) (l : List Int) (lo hi : Int) (w : World) (h : RdI w A l) (hn : l.length = n) (hnb : n ≤ 17592186044416) :
  Calls Tryz.prog 28 #[.slice A n c, .int .i64 lo, .int .i64 hi] w fun e w' => e = .returned (.bool (l.all fun x => t_inB x lo hi)) ∧ w' = w := by
 obtain ⟨D, hD⟩ : ∃ D, D = l.all fun x => t_inB x lo hi := ⟨_, rfl⟩
 rw [← hD]
 have hD_h := lH hD; have hn_h := lH hn; clear hD hn
 go_enter Tryz.func28, Tryz.ntmps28
 go_wp2_with (fail)
 go_loop [11] (fun i => ∃ k : Nat, k ≤ n ∧ i = .int .i64 k ∧ (l.take k).all (fun x => t_inB x lo hi) = true) (fun i => n - (intOf i).toNat)
 case atStart => exact ⟨0, Nat.zero_le _, rfl, by simp⟩
 case round =>
  obtain ⟨k, hk, rfl, hall⟩ := hrel
  by_cases hlt : k < n
  · obtain ⟨ad, x, rfl, hx, hc⟩ := h.at_ (j := k) (by rw [hn_h.out]; exact hlt)
    have hkI : (k : Int) < (n : Int) := by omega
    have hC := t_l1In_any x lo hi w
    cases hb : t_inB x lo hi
    · rw [hb] at hC
      have hf : D = false := by
       rw [hD_h.out, Bool.eq_false_iff]
       intro hh
       have := List.all_eq_true.1 hh x (List.mem_of_getElem? hx)
       rw [hb] at this; cases this
      subst hf
      have hC_h := lH hC; have hall_h := lH hall; have hx_h := lH hx; clear hC hall hx; clear h hb
      go_wp2_with (fail)
      refine (hC_h.out).mono ?_
      rintro e w1 ⟨rfl, rfl⟩
      go_wp2_with (fail)
      go_ret
      exact ⟨rfl, rfl⟩
    · rw [hb] at hC
      have hst : (l.take (k + 1)).all (fun x => t_inB x lo hi) = true := by
       rw [List.take_add_one, hx, List.all_append, hall]; simp [hb]
      have hC_h := lH hC; have hst_h := lH hst; clear hC hst; clear h hb hall hx
      go_wp2_with (fail)
      refine (hC_h.out).mono ?_
      rintro e w1 ⟨rfl, rfl⟩
      go_wp2_with (fail)
      go_round
      case rel => exact ⟨k + 1, by omega, by go_num, hst_h.out⟩
      case measure => simp [intOf]; omega
  · obtain rfl : n = k := by omega
    have ht : D = true := by rw [hD_h.out, ← hall, List.take_of_length_le (by rw [hn_h.out]; exact Nat.le_refl _)]
    subst ht
    have hall_h := lH hall; clear hall; clear h
    go_wp2_with (fail)
    go_ret
    exact ⟨rfl, rfl⟩
set_option maxRecDepth 100000 in
set_option maxHeartbeats 4000000 in
theorem hgEdge_any (k v : Int) (B C : Option Addr) (b c : Nat) (l m : List Int) (n : Int) (w : World) (hB : RdI w B l) (hC : RdI w C m) (hl : l.length ≤ 1048576) (hm : m.length ≤ 1048576) (n0 : -1000000 ≤ n) (n1 : n ≤ 1000000) :
  Calls Tryz.prog 71 #[.agg #[.int .i64 k, .int .i64 v, .slice B l.length b, .slice C m.length c], .int .i64 n] w fun e w' => e = .returned (.bool (hgB n (k, v, l, m))) ∧ Below w.heap.size w w' := by
 obtain ⟨p, hp⟩ : ∃ p, p = l.length := ⟨_, rfl⟩
 obtain ⟨q, hq⟩ : ∃ q, q = m.length := ⟨_, rfl⟩
 have hA1 := fun (W : World) (hb : Below w.heap.size w W) => t_l1All_any B b p l 0 (n - 1) W (hB.below hb) hp.symm (by omega)
 have hA2 := fun (W : World) (hb : Below w.heap.size w W) => t_l1All_any C c q m 0 (n - 1) W (hC.below hb) hq.symm (by omega)
 obtain ⟨D, hD⟩ : ∃ D, D = hgB n (k, v, l, m) := ⟨_, rfl⟩
 have hDD : D = ((t_inB k 3 14 && (gvB k v && decide (((p : Int), (q : Int)) = kindTy k))) && ((l.all fun x => t_inB x 0 (n - 1)) && (m.all fun x => t_inB x 0 (n - 1)))) := by rw [hD, hp, hq]; rfl
 rw [← hD, ← hp, ← hq]
 obtain ⟨D1, hD1⟩ : ∃ D, D = l.all fun x => t_inB x 0 (n - 1) := ⟨_, rfl⟩
 obtain ⟨D2, hD2⟩ : ∃ D, D = m.all fun x => t_inB x 0 (n - 1) := ⟨_, rfl⟩
 simp only [← hD1] at hA1 hDD
 simp only [← hD2] at hA2 hDD
 have hkd : decide (((p : Int), (q : Int)) = kindTy k) = (((p : Int) == (kindTy k).1) && ((q : Int) == (kindTy k).2)) := by
  rw [Bool.eq_iff_iff]
  simp only [decide_eq_true_eq, Bool.and_eq_true, beq_iff_eq]
  exact ⟨fun h => ⟨congrArg Prod.fst h, congrArg Prod.snd h⟩, fun h => Prod.ext h.1 h.2⟩
 rw [hkd] at hDD
 have hTL := fun (W : World) => tmLeaf_any k v noName W
 have hIn := fun (W : World) => t_l1In_any k 3 14 W
 have hTK := fun (W : World) => tmKind_any k W
 obtain ⟨i1, hi1⟩ : ∃ i, i = (kindTy k).1 := ⟨_, rfl⟩
 obtain ⟨i2, hi2⟩ : ∃ i, i = (kindTy k).2 := ⟨_, rfl⟩
 simp only [← hi1, ← hi2] at hTK hDD
 have wn : IntKind.i64.wrap (n - 1) = n - 1 := IntWalk.i64_in _ (by omega)
 obtain ⟨W, hW, bW, k0⟩ : ∃ W, W = w.alloc (.cells #[.int .i64 k, .int .i64 v, .slice B p b, .slice C q c] tEd) ∧ Below w.heap.size w W ∧ W.heap[w.heap.size]? = some (.cells #[.int .i64 k, .int .i64 v, .slice B p b, .slice C q c] tEd) := ⟨_, rfl, t_below_alloc _ _, heap_alloc_new _ _⟩
 obtain ⟨⟨c0, c1, c2, c3⟩, f0, f1, f2, f3⟩ := t_box4 k0
 clear hB hC hD hkd hD1 hD2 hi1 hi2
 by_cases h0 : t_inB k 3 14 = true
 case neg =>
  have h0' : t_inB k 3 14 = false := by simpa using h0
  obtain rfl : D = false := by rw [hDD, h0']; rfl
  simp only [h0'] at hIn
  clear h0 h0' hDD; have hA1_h := lH hA1; have hA2_h := lH hA2; have hTL_h := lH hTL; have hIn_h := lH hIn; have hTK_h := lH hTK; have k0_h := lH k0; have bW_h := lH bW; have hp_h := lH hp; have hq_h := lH hq; clear hA1 hA2 hTL hIn hTK k0 bW hp hq
  go_enter Tryz.func71, Tryz.ntmps71
  go_upto_region 1 with (fail)
  rw [← hW]
  clear hW
  go_wp2_with (fail)
  refine (hIn_h.out _).mono ?_
  rintro e w1 ⟨rfl, rfl⟩
  go_wp2_with (fail)
  go_ret
  exact ⟨rfl, bW_h.out⟩
 have hb14 : 3 ≤ k ∧ k ≤ 14 := of_decide_eq_true h0
 have hlf0 := leafB_gv (v := v) hb14.1 hb14.2
 simp only [h0] at hIn
 rw [h0, Bool.true_and] at hDD
 by_cases h1 : gvB k v = true
 case neg =>
  have h1' : gvB k v = false := by simpa using h1
  obtain rfl : D = false := by rw [hDD, h1']; rfl
  have hlf : leafB (k, v, noName) = false := by rw [hlf0, h1']
  clear h0 h1 h1' hDD hlf0 hb14; have hA1_h := lH hA1; have hA2_h := lH hA2; have hTL_h := lH hTL; have hIn_h := lH hIn; have hTK_h := lH hTK; have k0_h := lH k0; have bW_h := lH bW; have hp_h := lH hp; have hq_h := lH hq; clear hA1 hA2 hTL hIn hTK k0 bW hp hq
  go_enter Tryz.func71, Tryz.ntmps71
  go_upto_region 1 with (fail)
  rw [← hW]
  clear hW
  go_wp2_with (fail)
  refine (hIn_h.out _).mono ?_
  rintro e w1 ⟨rfl, rfl⟩
  go_wp2_with (fail)
  refine (hTL_h.out _).mono ?_
  rintro e w2 ⟨lb, rfl, hlb, hb2⟩
  rw [hlf] at hlb
  subst hlb
  clear c0 c1 c2 c3 f0 f1 f2 f3
  have k2 := t_box_below k0_h.out hb2
  obtain ⟨⟨c0, c1, c2, c3⟩, f0, f1, f2, f3⟩ := t_box4 k2
  have hB2 := below_trans bW_h.out hb2 bW_h.out.size
  clear hb2 k2; have hB2_h := lH hB2; clear hB2
  go_wp2_with (fail)
  go_ret
  exact ⟨rfl, hB2_h.out⟩
 have hlf : leafB (k, v, noName) = true := by rw [hlf0, h1]
 rw [h1, Bool.true_and] at hDD
 clear h0 h1 hlf0 hb14
 by_cases h2 : (p : Int) = i1
 case neg =>
  have h2' : ((p : Int) == i1) = false := by rw [beq_eq_false_iff_ne]; exact h2
  obtain rfl : D = false := by rw [hDD, h2']; rfl
  clear h2 hDD; have hA1_h := lH hA1; have hA2_h := lH hA2; have hTL_h := lH hTL; have hIn_h := lH hIn; have hTK_h := lH hTK; have k0_h := lH k0; have bW_h := lH bW; have hp_h := lH hp; have hq_h := lH hq; clear hA1 hA2 hTL hIn hTK k0 bW hp hq
  go_enter Tryz.func71, Tryz.ntmps71
  go_upto_region 1 with (fail)
  rw [← hW]
  clear hW
  go_wp2_with (fail)
  refine (hIn_h.out _).mono ?_
  rintro e w1 ⟨rfl, rfl⟩
  go_wp2_with (fail)
  refine (hTL_h.out _).mono ?_
  rintro e w2 ⟨lb, rfl, hlb, hb2⟩
  rw [hlf] at hlb
  subst hlb
  clear c0 c1 c2 c3 f0 f1 f2 f3
  have k2 := t_box_below k0_h.out hb2
  obtain ⟨⟨c0, c1, c2, c3⟩, f0, f1, f2, f3⟩ := t_box4 k2
  have hB2 := below_trans bW_h.out hb2 bW_h.out.size
  clear hb2 k2; have hB2_h := lH hB2; clear hB2
  go_wp2_with (fail)
  refine (hTK_h.out _).mono ?_
  rintro e w3 ⟨rfl, rfl⟩
  go_wp2_with (fail)
  go_ret
  exact ⟨rfl, hB2_h.out⟩
 have h2' : ((p : Int) == i1) = true := by rw [beq_iff_eq]; exact h2
 rw [h2', Bool.true_and] at hDD
 clear h2
 by_cases h3 : (q : Int) = i2
 case neg =>
  have h3' : ((q : Int) == i2) = false := by rw [beq_eq_false_iff_ne]; exact h3
  obtain rfl : D = false := by rw [hDD, h3']; rfl
  clear h3 hDD; have hA1_h := lH hA1; have hA2_h := lH hA2; have hTL_h := lH hTL; have hIn_h := lH hIn; have hTK_h := lH hTK; have k0_h := lH k0; have bW_h := lH bW; have hp_h := lH hp; have hq_h := lH hq; clear hA1 hA2 hTL hIn hTK k0 bW hp hq
  go_enter Tryz.func71, Tryz.ntmps71
  go_upto_region 1 with (fail)
  rw [← hW]
  clear hW
  go_wp2_with (fail)
  refine (hIn_h.out _).mono ?_
  rintro e w1 ⟨rfl, rfl⟩
  go_wp2_with (fail)
  refine (hTL_h.out _).mono ?_
  rintro e w2 ⟨lb, rfl, hlb, hb2⟩
  rw [hlf] at hlb
  subst hlb
  clear c0 c1 c2 c3 f0 f1 f2 f3
  have k2 := t_box_below k0_h.out hb2
  obtain ⟨⟨c0, c1, c2, c3⟩, f0, f1, f2, f3⟩ := t_box4 k2
  have hB2 := below_trans bW_h.out hb2 bW_h.out.size
  clear hb2 k2; have hB2_h := lH hB2; clear hB2
  go_wp2_with (fail)
  refine (hTK_h.out _).mono ?_
  rintro e w3 ⟨rfl, rfl⟩
  go_wp2_with (fail)
  go_ret
  exact ⟨rfl, hB2_h.out⟩
 have h3' : ((q : Int) == i2) = true := by rw [beq_iff_eq]; exact h3
 rw [h3', Bool.true_and] at hDD
 clear h3
 cases D1
 case false =>
  obtain rfl : D = false := by rw [hDD]; rfl
  clear hDD; have hA1_h := lH hA1; have hA2_h := lH hA2; have hTL_h := lH hTL; have hIn_h := lH hIn; have hTK_h := lH hTK; have k0_h := lH k0; have bW_h := lH bW; have hp_h := lH hp; have hq_h := lH hq; clear hA1 hA2 hTL hIn hTK k0 bW hp hq
  go_enter Tryz.func71, Tryz.ntmps71
  go_upto_region 1 with (fail)
  rw [← hW]
  clear hW
  go_wp2_with (fail)
  refine (hIn_h.out _).mono ?_
  rintro e w1 ⟨rfl, rfl⟩
  go_wp2_with (fail)
  refine (hTL_h.out _).mono ?_
  rintro e w2 ⟨lb, rfl, hlb, hb2⟩
  rw [hlf] at hlb
  subst hlb
  clear c0 c1 c2 c3 f0 f1 f2 f3
  have k2 := t_box_below k0_h.out hb2
  obtain ⟨⟨c0, c1, c2, c3⟩, f0, f1, f2, f3⟩ := t_box4 k2
  have hB2 := below_trans bW_h.out hb2 bW_h.out.size
  clear hb2 k2; have hB2_h := lH hB2; clear hB2
  go_wp2_with (fail)
  refine (hTK_h.out _).mono ?_
  rintro e w3 ⟨rfl, rfl⟩
  go_wp2_with (fail)
  refine (hA1_h.out _ hB2_h.out).mono ?_
  rintro e w4 ⟨rfl, rfl⟩
  go_wp2_with (fail)
  go_ret
  exact ⟨rfl, hB2_h.out⟩
 obtain rfl : D = D2 := by rw [hDD]; rfl
 clear hDD; have hA1_h := lH hA1; have hA2_h := lH hA2; have hTL_h := lH hTL; have hIn_h := lH hIn; have hTK_h := lH hTK; have k0_h := lH k0; have bW_h := lH bW; have hp_h := lH hp; have hq_h := lH hq; clear hA1 hA2 hTL hIn hTK k0 bW hp hq
 go_enter Tryz.func71, Tryz.ntmps71
 go_upto_region 1 with (fail)
 rw [← hW]
 clear hW
 go_wp2_with (fail)
 refine (hIn_h.out _).mono ?_
 rintro e w1 ⟨rfl, rfl⟩
 go_wp2_with (fail)
 refine (hTL_h.out _).mono ?_
 rintro e w2 ⟨lb, rfl, hlb, hb2⟩
 rw [hlf] at hlb
 subst hlb
 clear c0 c1 c2 c3 f0 f1 f2 f3
 have k2 := t_box_below k0_h.out hb2
 obtain ⟨⟨c0, c1, c2, c3⟩, f0, f1, f2, f3⟩ := t_box4 k2
 have hB2 := below_trans bW_h.out hb2 bW_h.out.size
 clear hb2 k2; have hB2_h := lH hB2; clear hB2
 go_wp2_with (fail)
 refine (hTK_h.out _).mono ?_
 rintro e w3 ⟨rfl, rfl⟩
 go_wp2_with (fail)
 refine (hA1_h.out _ hB2_h.out).mono ?_
 rintro e w4 ⟨rfl, rfl⟩
 go_wp2_with (fail)
 refine (hA2_h.out _ hB2_h.out).mono ?_
 rintro e w4 ⟨rfl, rfl⟩
 go_wp2_with (fail)
 go_ret
 exact ⟨rfl, hB2_h.out⟩
theorem IS.getc {w : World} {A : Option Addr} {c n : Nat} {l : List Int} (h : IS w A c (cntM n l)) {q : Nat} (hq : q < n) : ∃ ad, A = some ad ∧ ad.block < w.heap.size ∧ w.cell? (ad.add q) = some (.int .i64 (l.count (q : Int) : Int)) ∧ w.frozen? (ad.add q) = false := by
 obtain ⟨ad, x, hA, hx, hb, hc, hf⟩ := h.at_ (j := q) (by rw [cntM_length]; exact hq)
 rw [cntM_get hq] at hx
 obtain rfl := Option.some.inj hx
 exact ⟨ad, hA, hb, hc, hf q⟩
theorem madeCnt (n : Nat) : ints (List.replicate n 0) = ints (cntM n []) := by rw [cntM_nil]
theorem inW_app_left {n : Int} {l m : List Int} (h : inW n (l ++ m) = true) : inW n l = true := by rw [inW_append] at h; simp at h; exact h.1
theorem inW_app_right {n : Int} {l m : List Int} (h : inW n (l ++ m) = true) : inW n m = true := by rw [inW_append] at h; simp at h; exact h.2
theorem inW_at {n : Nat} {l : List Int} (h : inW (n : Int) l = true) {k : Nat} {x : Int} (hx : l[k]? = some x) : ∃ q : Nat, x = (q : Int) ∧ q < n := by
 have := inW_iff.1 h x (List.mem_of_getElem? hx)
 exact ⟨x.toNat, by omega, by omega⟩
theorem mem_edW_of {l : List Eg} {e : Eg} (h : e ∈ l) : (∀ x, x ∈ e.2.2.1 → x ∈ edW l) ∧ ∀ x, x ∈ e.2.2.2 → x ∈ edW l := by
 induction l with
 | nil => cases h
 | cons a r ih =>
   rcases List.mem_cons.1 h with rfl | h
   · exact ⟨fun x hx => by simp [edW, hx], fun x hx => by simp [edW, hx]⟩
   · obtain ⟨h1, h2⟩ := ih h
     exact ⟨fun x hx => by simp [edW, h1 x hx], fun x hx => by simp [edW, h2 x hx]⟩
theorem out_len : ∀ (l : List Eg), (outW l).length + (inpW l).length + 2 * l.length = cntE l
 | [] => rfl
 | e :: r => by have := out_len r; simp only [outW, inpW, cntE, List.length_append, List.length_cons]; omega
theorem outW_take {es : List Eg} {k : Nat} {e : Eg} (h : es[k]? = some e) : outW (es.take (k + 1)) = outW (es.take k) ++ e.2.2.2 := by rw [List.take_add_one, h, outW_append]; simp [outW]
theorem inpW_take {es : List Eg} {k : Nat} {e : Eg} (h : es[k]? = some e) : inpW (es.take (k + 1)) = inpW (es.take k) ++ e.2.2.1 := by rw [List.take_add_one, h, inpW_append]; simp [inpW]
theorem outW_le (es : List Eg) (k : Nat) : (outW (es.take k)).length ≤ (outW es).length := by
 conv => rhs; rw [← List.take_append_drop k es, outW_append, List.length_append]
 omega
theorem inpW_le (es : List Eg) (k : Nat) : (inpW (es.take k)).length ≤ (inpW es).length := by
 conv => rhs; rw [← List.take_append_drop k es, inpW_append, List.length_append]
 omega
set_option maxRecDepth 100000 in
set_option maxHeartbeats 8000000 in
theorem hgCounts_any {v : Value} {g : Gr} (w : World) (n : Nat) (h : RdGr w v g) (ok : OkG g) (hgn : g.1 = (n : Int)) (hnb : n ≤ 1048576) (hin : inW (n : Int) (t_allW g) = true) :
  Calls Tryz.prog 72 #[v] w fun e w' => ∃ (A B : Option Addr) (a b : Nat), e = .returned (.tuple #[.slice A n a, .slice B n b]) ∧ IS w' A a (cntM n (orgW g)) ∧ IS w' B b (cntM n (dstW g)) ∧ Fresh w.heap.size A ∧ Fresh w.heap.size B ∧ Below w.heap.size w w' := by
 obtain ⟨A, c, hs, ⟨B, b, s⟩, ⟨C, d, t⟩, rfl, e1, e2, e3, hE, hRa, hRb⟩ := h
 obtain ⟨z, es, s0, t0⟩ := g
 have a1 : es = hs.map egOf := e1
 have a2 : s = s0 := e2
 have a3 : t = t0 := e3
 have a4 : z = (n : Int) := hgn
 subst a2 a3 a4
 have hin0 : inW (n : Int) (s ++ (t ++ edW es)) = true := hin
 have hinS := inW_app_left hin0
 have hinT := inW_app_left (inW_app_right hin0)
 have hinE := inW_app_right (inW_app_right hin0)
 have hlen1 : es.length ≤ 1048576 := ok.1.1
 have hlen2 : s.length ≤ 1048576 := ok.1.2.1
 have hlen3 : t.length ≤ 1048576 := ok.1.2.2
 have hcnt : cntE es ≤ 8388608 := by have : cntE es + s.length + t.length ≤ 8388608 := ok.2.2; omega
 have hol := out_len es
 have hXl : s.length + (outW es).length ≤ 20000000 ∧ t.length + (inpW es).length ≤ 20000000 := by omega
 obtain ⟨m, hm⟩ : ∃ m, m = hs.length := ⟨_, rfl⟩
 obtain ⟨p, hp⟩ : ∃ p, p = s.length := ⟨_, rfl⟩
 obtain ⟨r, hr⟩ : ∃ r, r = t.length := ⟨_, rfl⟩
 have hmes : es.length = m := by rw [a1, List.length_map, hm]
 have horg : orgW ((n : Int), es, s, t) = s ++ outW es := rfl
 have hdst : dstW ((n : Int), es, s, t) = t ++ inpW es := rfl
 rw [horg, hdst]
 show Calls Tryz.prog _ #[.agg #[.int .i64 (n : Int), .slice A hs.length c, .slice B s.length b, .slice C t.length d]] w _
 rw [← hm, ← hp, ← hr]
 have hRa0 : RdI w B s := hRa
 have hRb0 : RdI w C t := hRb
 obtain ⟨W, hW, bW, k0⟩ := (⟨_, rfl, t_below_alloc _ _, heap_alloc_new _ _⟩ : ∃ W, W = w.alloc (.cells #[.int .i64 (n : Int), .slice A m c, .slice B p b, .slice C r d] tGr) ∧ Below w.heap.size w W ∧ W.heap[w.heap.size]? = some (.cells #[.int .i64 (n : Int), .slice A m c, .slice B p b, .slice C r d] tGr))
 obtain ⟨⟨c0, c1, c2, c3⟩, f0, f1, f2, f3⟩ := t_box4 k0
 have hpb : (p : Int) ≤ 1048576 := by omega
 have hrb : (r : Int) ≤ 1048576 := by omega
 have hmb : (m : Int) ≤ 1048576 := by omega
 clear hRa hRb hin hin0 ok e1 e2 e3 hgn hlen1 hlen2 hlen3 hol horg hdst; have hE_h := lH hE; have hRa0_h := lH hRa0; have hRb0_h := lH hRb0; have a1_h := lH a1; have hinS_h := lH hinS; have hinT_h := lH hinT; have hinE_h := lH hinE; have hcnt_h := lH hcnt; have hm_h := lH hm; have hp_h := lH hp; have hr_h := lH hr; have hmes_h := lH hmes; have bW_h := lH bW; have k0_h := lH k0; have hXl_h := lH hXl; clear hE hRa0 hRb0 a1 hinS hinT hinE hcnt hm hp hr hmes bW k0 hXl
 go_enter Tryz.func72, Tryz.ntmps72
 go_upto_region 1 with (fail)
 rw [← hW]
 clear hW
 go_upto_region 2 with (at_make; refine wpList_make_Sl _ rfl _ _ _ rfl 3 Tryz.underlying23 info_int n n rfl rfl rfl rfl (Nat.le_refl _) (by omega) (by unfold maxLen; omega) ?_; intro G1 w2 hs2 hG1 hb2)
 have hi2 : IS w2 (some G1) n (cntM n []) := by unfold IS; rw [cntM_length, ← madeCnt, ← madeZeros]; exact hs2
 have k2 := t_box_below k0_h.out hb2
 have hB2 := below_trans bW_h.out hb2 bW_h.out.size
 have hWw2 := hb2.size
 clear hs2 c0 c1 c2 c3 f0 f1 f2 f3 hb2
 obtain ⟨⟨c0, c1, c2, c3⟩, f0, f1, f2, f3⟩ := t_box4 k2
 have hi2_h := lH hi2; have k2_h := lH k2; have hB2_h := lH hB2; clear hi2 k2 hB2
 go_upto_region 3 with (at_make; refine wpList_make_Sl _ rfl _ _ _ rfl 3 Tryz.underlying23 info_int n n rfl rfl rfl rfl (Nat.le_refl _) (by omega) (by unfold maxLen; omega) ?_; intro G2 w3 hs3 hG2 hb3)
 have hi3 : IS w3 (some G2) n (cntM n []) := by unfold IS; rw [cntM_length, ← madeCnt, ← madeZeros]; exact hs3
 have hi1 := hi2_h.out.below hb3
 have k3 := t_box_below k2_h.out hb3
 have hB3 := below_trans hB2_h.out hb3 hB2_h.out.size
 have hWs := bW_h.out.size
 have h2s := hB2_h.out.size
 have hG12 : G1.block ≠ G2.block := by have := hi2_h.out.lt G1.block (by simp); omega
 have hG1w : w.heap.size ≤ G1.block := by omega
 have hG2w : w.heap.size ≤ G2.block := by omega
 clear hs3 c0 c1 c2 c3 f0 f1 f2 f3 hb3 hi2_h k2_h
 obtain ⟨⟨c0, c1, c2, c3⟩, f0, f1, f2, f3⟩ := t_box4 k3
 have hi3_h := lH hi3; have hi1_h := lH hi1; have k3_h := lH k3; have hB3_h := lH hB3; have hG12_h := lH hG12; clear hi3 hi1 k3 hB3 hG12
 go_wp2_with (fail)
 clear c0 c1 c2 c3 f0 f1 f2 f3
 go_loopw [25] (fun i wr => ∃ k : Nat, k ≤ p ∧ i = .int .i64 k ∧ IS wr (some G1) n (cntM n (([] : List Int) ++ s.take k)) ∧ Keeps (fun b => b = G1.block) w3 wr) (fun i _ => p - (intOf i).toNat)
 case atStart => exact ⟨0, Nat.zero_le _, rfl, by simpa using hi1_h.out, Keeps.refl _ _⟩
 case round =>
  obtain ⟨j, hj, rfl, hIS, hkp⟩ := hrel
  have hBr := below_keeps hB3_h.out hkp hB3_h.out.size (fun b e => by omega)
  by_cases hlj : j < p
  · obtain ⟨xd, x, rfl, hx, hxc⟩ := (hRa0_h.out.below hBr).at_ (j := j) (by rw [← hp_h.out]; exact hlj)
    obtain ⟨q, rfl, hqn⟩ := inW_at hinS_h.out hx
    obtain ⟨gd, hgd, hgb, hgc, hgf⟩ := hIS.getc hqn
    obtain rfl := Option.some.inj hgd
    have hset := hIS.set rfl (j := q) (((([] : List Int) ++ s.take j).count (q : Int) : Int) + 1) (by rw [cntM_length]; exact hqn)
    rw [← cntM_step hqn, List.append_assoc, show s.take j ++ [(q : Int)] = s.take (j + 1) by rw [List.take_add_one, hx]; rfl] at hset
    have hks := hkp.setCell (p := G1.add q) (by rw [block_of_add]) (.int .i64 (((([] : List Int) ++ s.take j).count (q : Int) : Int) + 1))
    have hcl := count_le (([] : List Int) ++ s.take j) (q : Int)
    rw [List.length_append, List.length_take] at hcl
    try rw [List.length_nil] at hcl
    obtain ⟨cv, hcv⟩ : ∃ cv : Nat, cv = (([] : List Int) ++ s.take j).count (q : Int) := ⟨_, rfl⟩
    rw [← hcv] at hgc hset hks hcl
    have hcvb : cv ≤ 100000000 := by have := hXl_h.out; omega
    have hqI : (q : Int) < (n : Int) := by omega
    have hjI : (j : Int) < (p : Int) := by omega
    clear hIS hkp hx hcv hcl hgd; have hset_h := lH hset; have hks_h := lH hks; have hBr_h := lH hBr; clear hset hks hBr
    skip
    go_wp2_with (fail)
    go_roundw
    case rel => exact ⟨j + 1, by omega, by go_num, hset_h.out, hks_h.out⟩
    case measure => simp [intOf]; omega
  · obtain rfl : p = j := by omega
    have hIS2 : IS wr (some G1) n (cntM n (([] : List Int) ++ s)) := by rwa [List.take_of_length_le (by rw [← hp_h.out]; exact Nat.le_refl _)] at hIS
    clear hIS
    obtain ⟨w4, rfl⟩ : ∃ x, x = wr := ⟨_, rfl⟩
    have k4 := t_box_keeps k3_h.out hkp (by have := t_box_lt k0_h.out; omega)
    have hi4 := hi3_h.out.keeps hkp (fun b hb e => by have := hG12_h.out; simp at hb; omega)
    obtain ⟨⟨c0, c1, c2, c3⟩, f0, f1, f2, f3⟩ := t_box4 k4
    rw [List.nil_append] at hIS2
    clear hkp k3_h hi3_h hi1_h hB3_h; have hi4_h := lH hi4; have hIS2_h := lH hIS2; have k4_h := lH k4; have hBr_h := lH hBr; clear hi4 hIS2 k4 hBr
    go_wp2_with (fail)
    clear c0 c1 c2 c3 f0 f1 f2 f3
    go_loopw [39] (fun i wr => ∃ k : Nat, k ≤ r ∧ i = .int .i64 k ∧ IS wr (some G2) n (cntM n (([] : List Int) ++ t.take k)) ∧ Keeps (fun b => b = G2.block) w4 wr) (fun i _ => r - (intOf i).toNat)
    case atStart => exact ⟨0, Nat.zero_le _, rfl, by simpa using hi4_h.out, Keeps.refl _ _⟩
    case round =>
     obtain ⟨j, hj, rfl, hIS, hkp⟩ := hrel
     have hBr := below_keeps hBr_h.out hkp hBr_h.out.size (fun b e => by omega)
     by_cases hlj : j < r
     · obtain ⟨xd, x, rfl, hx, hxc⟩ := (hRb0_h.out.below hBr).at_ (j := j) (by rw [← hr_h.out]; exact hlj)
       obtain ⟨q, rfl, hqn⟩ := inW_at hinT_h.out hx
       obtain ⟨gd, hgd, hgb, hgc, hgf⟩ := hIS.getc hqn
       obtain rfl := Option.some.inj hgd
       have hset := hIS.set rfl (j := q) (((([] : List Int) ++ t.take j).count (q : Int) : Int) + 1) (by rw [cntM_length]; exact hqn)
       rw [← cntM_step hqn, List.append_assoc, show t.take j ++ [(q : Int)] = t.take (j + 1) by rw [List.take_add_one, hx]; rfl] at hset
       have hks := hkp.setCell (p := G2.add q) (by rw [block_of_add]) (.int .i64 (((([] : List Int) ++ t.take j).count (q : Int) : Int) + 1))
       have hcl := count_le (([] : List Int) ++ t.take j) (q : Int)
       rw [List.length_append, List.length_take] at hcl
       try rw [List.length_nil] at hcl
       obtain ⟨cv, hcv⟩ : ∃ cv : Nat, cv = (([] : List Int) ++ t.take j).count (q : Int) := ⟨_, rfl⟩
       rw [← hcv] at hgc hset hks hcl
       have hcvb : cv ≤ 100000000 := by have := hXl_h.out; omega
       have hqI : (q : Int) < (n : Int) := by omega
       have hjI : (j : Int) < (r : Int) := by omega
       clear hIS hkp hx hcv hcl hgd; have hset_h := lH hset; have hks_h := lH hks; have hBr_h := lH hBr; clear hset hks hBr
       skip
       go_wp2_with (fail)
       go_roundw
       case rel => exact ⟨j + 1, by omega, by go_num, hset_h.out, hks_h.out⟩
       case measure => simp [intOf]; omega
     · obtain rfl : r = j := by omega
       have hIS2 : IS wr (some G2) n (cntM n (([] : List Int) ++ t)) := by rwa [List.take_of_length_le (by rw [← hr_h.out]; exact Nat.le_refl _)] at hIS
       clear hIS
       obtain ⟨w5, rfl⟩ : ∃ x, x = wr := ⟨_, rfl⟩
       have k5 := t_box_keeps k4_h.out hkp (by have := t_box_lt k0_h.out; omega)
       have hi5 := hIS2_h.out.keeps hkp (fun b hb e => by have := hG12_h.out; simp at hb; omega)
       obtain ⟨⟨c0, c1, c2, c3⟩, f0, f1, f2, f3⟩ := t_box4 k5
       rw [List.nil_append] at hIS2
       have hB5 := hBr
       clear hkp k4_h hi4_h hIS2_h hBr hBr_h
       have hs0 : IS w5 (some G1) n (cntM n (s ++ outW (es.take 0))) := by simpa [outW] using hi5
       have ht0 : IS w5 (some G2) n (cntM n (t ++ inpW (es.take 0))) := by simpa [inpW] using hIS2
       clear hi5 hIS2; have hs0_h := lH hs0; have ht0_h := lH ht0; have k5_h := lH k5; have hB5_h := lH hB5; clear hs0 ht0 k5 hB5
       go_wp2_with (fail)
       clear c0 c1 c2 c3 f0 f1 f2 f3 k5_h
       go_loopw [53] (fun i wr => ∃ k : Nat, k ≤ m ∧ i = .int .i64 k ∧ IS wr (some G1) n (cntM n (s ++ outW (es.take k))) ∧ IS wr (some G2) n (cntM n (t ++ inpW (es.take k))) ∧ Below w.heap.size w wr) (fun i _ => m - (intOf i).toNat)
       case atStart => exact ⟨0, Nat.zero_le _, rfl, hs0_h.out, ht0_h.out, hB5_h.out⟩
       case round =>
        clear hs0_h ht0_h hB5_h
        obtain ⟨k, hk, rfl, hi1, hi2, hB6⟩ := hrel
        by_cases hlt : k < m
        · obtain ⟨ad, κ, vv, B1, b1, s1, C1, b2, t1, rfl, hn, ⟨d0, d1, d2, d3⟩, hr1, hr2⟩ := (hE_h.out.below hB6).at_ (j := k) (by rw [← hm_h.out]; exact hlt)
          have hek : es[k]? = some (κ, vv, s1, t1) := by rw [a1_h.out, List.getElem?_map, hn]; rfl
          obtain ⟨hm1, hm2⟩ := mem_edW_of (List.mem_of_getElem? hek)
          have hinA := inW_sub hinE_h.out hm1
          have hinB := inW_sub hinE_h.out hm2
          have htk1 := outW_take hek
          have htk2 := inpW_take hek
          have hle1 := outW_le es (k + 1)
          have hle2 := inpW_le es (k + 1)
          rw [htk1, List.length_append] at hle1
          rw [htk2, List.length_append] at hle2
          have hXl0 := hXl_h.out
          have hXl : (s ++ outW (es.take k)).length + t1.length ≤ 20000000 ∧ (t ++ inpW (es.take k)).length + s1.length ≤ 20000000 := by
           rw [List.length_append, List.length_append]
           have e1 : ((κ, vv, s1, t1) : Eg).2.2.2.length = t1.length := rfl
           have e2 : ((κ, vv, s1, t1) : Eg).2.2.1.length = s1.length := rfl
           omega
          obtain ⟨X, hX⟩ : ∃ X, X = s ++ outW (es.take k) := ⟨_, rfl⟩
          obtain ⟨Y, hY⟩ : ∃ Y, Y = t ++ inpW (es.take k) := ⟨_, rfl⟩
          rw [← hX] at hi1 hXl
          rw [← hY] at hi2 hXl
          obtain ⟨p1, hp1⟩ : ∃ p1, p1 = s1.length := ⟨_, rfl⟩
          obtain ⟨r1, hr1'⟩ : ∃ r1, r1 = t1.length := ⟨_, rfl⟩
          rw [← hp1] at d2
          rw [← hr1'] at d3
          have hp1b : (p1 : Int) ≤ 20000000 := by omega
          have hr1b : (r1 : Int) ≤ 20000000 := by omega
          have hkI : (k : Int) < (m : Int) := by omega
          obtain ⟨wo, rfl⟩ : ∃ x, x = wr := ⟨_, rfl⟩
          obtain ⟨W6, hW6, bW6, k6⟩ := (⟨_, rfl, t_below_alloc _ _, heap_alloc_new _ _⟩ : ∃ W, W = wo.alloc (.cells #[.int .i64 κ, .int .i64 vv, .slice B1 p1 b1, .slice C1 r1 b2] tEd) ∧ Below wo.heap.size wo W ∧ W.heap[wo.heap.size]? = some (.cells #[.int .i64 κ, .int .i64 vv, .slice B1 p1 b1, .slice C1 r1 b2] tEd))
          have hB7 := below_trans hB6 bW6 hB6.size
          have hj1 := hi1.below bW6
          have hj2 := hi2.below bW6
          have hq1 : G1.block < wo.heap.size := hi1.lt G1.block (by simp)
          have hq2 : G2.block < wo.heap.size := hi2.lt G2.block (by simp)
          have hrA : RdI w B1 s1 := (hE_h.out.2 _ (List.mem_of_getElem? hn)).1
          have hrB : RdI w C1 t1 := (hE_h.out.2 _ (List.mem_of_getElem? hn)).2
          obtain ⟨⟨c0, c1, c2, c3⟩, f0, f1, f2, f3⟩ := t_box4 k6
          clear hr1 hr2 hn hm1 hm2 hle1 hle2 hXl0 hi1 hi2 hek; have hr1_h := lH hr1'; clear hr1'; have hinA_h := lH hinA; have hinB_h := lH hinB; have htk1_h := lH htk1; have htk2_h := lH htk2; have hXl_h := lH hXl; have hX_h := lH hX; have hY_h := lH hY; have hp1_h := lH hp1; have bW6_h := lH bW6; have k6_h := lH k6; have hB7_h := lH hB7; have hj1_h := lH hj1; have hj2_h := lH hj2; have hrA_h := lH hrA; have hrB_h := lH hrB; have hB6_h := lH hB6; clear hinA hinB htk1 htk2 hXl hX hY hp1 bW6 k6 hB7 hj1 hj2 hrA hrB hB6
          go_upto_region 16 with (fail)
          rw [← hW6]
          clear hW6
          go_wp2_with (fail)
          clear c0 c1 c2 c3 f0 f1 f2 f3 d0 d1 d2 d3
          go_loopw [60] (fun i wr => ∃ k : Nat, k ≤ r1 ∧ i = .int .i64 k ∧ IS wr (some G1) n (cntM n (X ++ t1.take k)) ∧ Keeps (fun b => b = G1.block) W6 wr) (fun i _ => r1 - (intOf i).toNat)
          case atStart => exact ⟨0, Nat.zero_le _, rfl, by simpa using hj1_h.out, Keeps.refl _ _⟩
          case round =>
           obtain ⟨j, hj, rfl, hIS, hkp⟩ := hrel
           have hBr := below_keeps hB7_h.out hkp hB7_h.out.size (fun b e => by omega)
           by_cases hlj : j < r1
           · obtain ⟨xd, x, rfl, hx, hxc⟩ := (hrB_h.out.below hBr).at_ (j := j) (by rw [← hr1_h.out]; exact hlj)
             obtain ⟨q, rfl, hqn⟩ := inW_at hinB_h.out hx
             obtain ⟨gd, hgd, hgb, hgc, hgf⟩ := hIS.getc hqn
             obtain rfl := Option.some.inj hgd
             have hset := hIS.set rfl (j := q) (((X ++ t1.take j).count (q : Int) : Int) + 1) (by rw [cntM_length]; exact hqn)
             rw [← cntM_step hqn, List.append_assoc, show t1.take j ++ [(q : Int)] = t1.take (j + 1) by rw [List.take_add_one, hx]; rfl] at hset
             have hks := hkp.setCell (p := G1.add q) (by rw [block_of_add]) (.int .i64 (((X ++ t1.take j).count (q : Int) : Int) + 1))
             have hcl := count_le (X ++ t1.take j) (q : Int)
             rw [List.length_append, List.length_take] at hcl
             try rw [List.length_nil] at hcl
             obtain ⟨cv, hcv⟩ : ∃ cv : Nat, cv = (X ++ t1.take j).count (q : Int) := ⟨_, rfl⟩
             rw [← hcv] at hgc hset hks hcl
             have hcvb : cv ≤ 100000000 := by have := hXl_h.out; omega
             have hqI : (q : Int) < (n : Int) := by omega
             have hjI : (j : Int) < (r1 : Int) := by omega
             clear hIS hkp hx hcv hcl hgd; have hset_h := lH hset; have hks_h := lH hks; have hBr_h := lH hBr; clear hset hks hBr
             skip
             go_wp2_with (fail)
             go_roundw
             case rel => exact ⟨j + 1, by omega, by go_num, hset_h.out, hks_h.out⟩
             case measure => simp [intOf]; omega
           · obtain rfl : r1 = j := by omega
             have hIS2 : IS wr (some G1) n (cntM n (X ++ t1)) := by rwa [List.take_of_length_le (by rw [← hr1_h.out]; exact Nat.le_refl _)] at hIS
             clear hIS
             obtain ⟨w7, rfl⟩ : ∃ x, x = wr := ⟨_, rfl⟩
             have k7 := t_box_keeps k6_h.out hkp (by omega)
             have hj7 := hj2_h.out.keeps hkp (fun b hb e => by have := hG12_h.out; simp at hb; omega)
             obtain ⟨⟨c0, c1, c2, c3⟩, f0, f1, f2, f3⟩ := t_box4 k7
             have hB8 := hBr
             clear hkp k6_h hj1_h hj2_h hB7_h k7 hBr; have hj7_h := lH hj7; have hIS2_h := lH hIS2; have hB8_h := lH hB8; clear hj7 hIS2 hB8
             go_wp2_with (fail)
             clear c0 c1 c2 c3 f0 f1 f2 f3
             go_loopw [74] (fun i wr => ∃ k : Nat, k ≤ p1 ∧ i = .int .i64 k ∧ IS wr (some G2) n (cntM n (Y ++ s1.take k)) ∧ Keeps (fun b => b = G2.block) w7 wr) (fun i _ => p1 - (intOf i).toNat)
             case atStart => exact ⟨0, Nat.zero_le _, rfl, by simpa using hj7_h.out, Keeps.refl _ _⟩
             case round =>
              obtain ⟨j, hj, rfl, hIS, hkp⟩ := hrel
              have hBr := below_keeps hB8_h.out hkp hB8_h.out.size (fun b e => by omega)
              by_cases hlj : j < p1
              · obtain ⟨xd, x, rfl, hx, hxc⟩ := (hrA_h.out.below hBr).at_ (j := j) (by rw [← hp1_h.out]; exact hlj)
                obtain ⟨q, rfl, hqn⟩ := inW_at hinA_h.out hx
                obtain ⟨gd, hgd, hgb, hgc, hgf⟩ := hIS.getc hqn
                obtain rfl := Option.some.inj hgd
                have hset := hIS.set rfl (j := q) (((Y ++ s1.take j).count (q : Int) : Int) + 1) (by rw [cntM_length]; exact hqn)
                rw [← cntM_step hqn, List.append_assoc, show s1.take j ++ [(q : Int)] = s1.take (j + 1) by rw [List.take_add_one, hx]; rfl] at hset
                have hks := hkp.setCell (p := G2.add q) (by rw [block_of_add]) (.int .i64 (((Y ++ s1.take j).count (q : Int) : Int) + 1))
                have hcl := count_le (Y ++ s1.take j) (q : Int)
                rw [List.length_append, List.length_take] at hcl
                try rw [List.length_nil] at hcl
                obtain ⟨cv, hcv⟩ : ∃ cv : Nat, cv = (Y ++ s1.take j).count (q : Int) := ⟨_, rfl⟩
                rw [← hcv] at hgc hset hks hcl
                have hcvb : cv ≤ 100000000 := by have := hXl_h.out; omega
                have hqI : (q : Int) < (n : Int) := by omega
                have hjI : (j : Int) < (p1 : Int) := by omega
                clear hIS hkp hx hcv hcl hgd; have hset_h := lH hset; have hks_h := lH hks; have hBr_h := lH hBr; clear hset hks hBr
                skip
                go_wp2_with (fail)
                go_roundw
                case rel => exact ⟨j + 1, by omega, by go_num, hset_h.out, hks_h.out⟩
                case measure => simp [intOf]; omega
              · obtain rfl : p1 = j := by omega
                have hIS2 : IS wr (some G2) n (cntM n (Y ++ s1)) := by rwa [List.take_of_length_le (by rw [← hp1_h.out]; exact Nat.le_refl _)] at hIS
                clear hIS
                have hj8 := hIS2_h.out.keeps hkp (fun b hb e => by have := hG12_h.out; simp at hb; omega)
                have e1 : IS wr (some G1) n (cntM n (s ++ outW (es.take (k + 1)))) := by rw [htk1_h.out, ← List.append_assoc, ← hX_h.out]; exact hj8
                have e2 : IS wr (some G2) n (cntM n (t ++ inpW (es.take (k + 1)))) := by rw [htk2_h.out, ← List.append_assoc, ← hY_h.out]; exact hIS2
                clear hj8 hIS2 hkp; have e1_h := lH e1; have e2_h := lH e2; have hBr_h := lH hBr; clear e1 e2 hBr
                go_wp2_with (fail)
                go_roundw
                case rel => exact ⟨k + 1, by omega, by go_num, e1_h.out, e2_h.out, hBr_h.out⟩
                case measure => simp [intOf]; omega
        · obtain rfl : m = k := by omega
          rw [List.take_of_length_le (by rw [hmes_h.out]; exact Nat.le_refl _)] at hi1 hi2
          have hff1 : Fresh w.heap.size (some G1) := fun b hb => by simp at hb; omega
          have hff2 : Fresh w.heap.size (some G2) := fun b hb => by simp at hb; omega
          have hi1_h := lH hi1; have hi2_h := lH hi2; have hB6_h := lH hB6; have hff1_h := lH hff1; have hff2_h := lH hff2; clear hi1 hi2 hB6 hff1 hff2
          go_wp2_with (fail)
          go_ret2
          exact ⟨some G1, some G2, n, n, rfl, hi1_h.out, hi2_h.out, hff1_h.out, hff2_h.out, hB6_h.out⟩
theorem grB_eq (g : Gr) : grB g = (t_inB g.1 0 100 && (decide (g.2.1.length ≤ 60) && (decide (g.2.2.1.length ≤ 12) && (decide (g.2.2.2.length ≤ 12) && (inW g.1 g.2.2.1 && (inW g.1 g.2.2.2 && (g.2.1.all (hgB g.1) && fullW g.1 (t_allW g)))))))) := by
 unfold grB
 rw [hgB_all]
 have e : inW g.1 (t_allW g) = (inW g.1 g.2.2.1 && (inW g.1 g.2.2.2 && inW g.1 (edW g.2.1))) := by unfold t_allW; rw [inW_append, inW_append]
 rw [e]
 cases t_inB g.1 0 100 <;> cases decide (g.2.1.length ≤ 60) <;> cases decide (g.2.2.1.length ≤ 12) <;> cases decide (g.2.2.2.length ≤ 12) <;> cases inW g.1 g.2.2.1 <;> cases inW g.1 g.2.2.2 <;> cases g.2.1.all egB <;> cases inW g.1 (edW g.2.1) <;> cases fullW g.1 (t_allW g) <;> rfl
theorem count_zero {g : Gr} {k : Nat} : ((orgW g).count (k : Int) = 0 ∧ (dstW g).count (k : Int) = 0) ↔ (t_allW g).contains (k : Int) = false := by
 rw [List.count_eq_zero, List.count_eq_zero, Bool.eq_false_iff, ne_eq, List.contains_iff_mem, mem_allW]
 exact ⟨fun h hm => hm.elim h.1 h.2, fun h => ⟨fun a => h (.inl a), fun a => h (.inr a)⟩⟩
set_option maxRecDepth 100000 in
set_option maxHeartbeats 8000000 in
theorem hgValid_any {v : Value} {g : Gr} (w : World) (h : RdGr w v g) (ok : OkG g) :
  Calls Tryz.prog 48 #[v] w fun e w' => e = .returned (.bool (grB g)) ∧ Below w.heap.size w w' := by
 have hG0 := h
 obtain ⟨A, c, hs, ⟨B, b, s⟩, ⟨C, d, t⟩, rfl, e1, e2, e3, hE, hRa, hRb⟩ := h
 obtain ⟨z, es, s0, t0⟩ := g
 have a1 : es = hs.map egOf := e1
 have a2 : s = s0 := e2
 have a3 : t = t0 := e3
 subst a2 a3
 have hok := ok
 have hlen1 : es.length ≤ 1048576 := ok.1.1
 have hlen2 : s.length ≤ 1048576 := ok.1.2.1
 have hlen3 : t.length ≤ 1048576 := ok.1.2.2
 have hlE : ∀ x, x ∈ hs → x.2.2.1.2.2.length ≤ 1048576 ∧ x.2.2.2.2.2.length ≤ 1048576 := fun x hx => ok.2.1 _ (by show egOf x ∈ es; rw [a1]; exact List.mem_map_of_mem hx)
 obtain ⟨D, hD⟩ : ∃ D, D = grB (z, es, s, t) := ⟨_, rfl⟩
 have hDD := hD
 rw [grB_eq] at hDD
 simp only at hDD
 rw [← hD]
 obtain ⟨m, hm⟩ : ∃ m, m = hs.length := ⟨_, rfl⟩
 obtain ⟨p, hp⟩ : ∃ p, p = s.length := ⟨_, rfl⟩
 obtain ⟨r, hr⟩ : ∃ r, r = t.length := ⟨_, rfl⟩
 have hmes : es.length = m := by rw [a1, List.length_map, hm]
 have hRa0 : RdI w B s := hRa
 have hRb0 : RdI w C t := hRb
 rw [hmes, ← hp, ← hr] at hDD
 change RdGr w (.agg #[.int .i64 z, .slice A hs.length c, .slice B s.length b, .slice C t.length d]) (z, es, s, t) at hG0
 rw [← hm, ← hp, ← hr] at hG0
 show Calls Tryz.prog _ #[.agg #[.int .i64 z, .slice A hs.length c, .slice B s.length b, .slice C t.length d]] w _
 rw [← hm, ← hp, ← hr]
 obtain ⟨W, hW, bW, k0⟩ := (⟨_, rfl, t_below_alloc _ _, heap_alloc_new _ _⟩ : ∃ W, W = w.alloc (.cells #[.int .i64 z, .slice A m c, .slice B p b, .slice C r d] tGr) ∧ Below w.heap.size w W ∧ W.heap[w.heap.size]? = some (.cells #[.int .i64 z, .slice A m c, .slice B p b, .slice C r d] tGr))
 obtain ⟨⟨c0, c1, c2, c3⟩, f0, f1, f2, f3⟩ := t_box4 k0
 have hI := fun (W : World) => t_l1In_any z 0 100 W
 have hA1 := fun (W : World) (hb : Below w.heap.size w W) => t_l1All_any B b p s 0 (z - 1) W (RdI.below hRa0 hb) hp.symm (by omega)
 have hA2 := fun (W : World) (hb : Below w.heap.size w W) => t_l1All_any C d r t 0 (z - 1) W (RdI.below hRb0 hb) hr.symm (by omega)
 obtain ⟨D1, hD1⟩ : ∃ D, D = inW z s := ⟨_, rfl⟩
 obtain ⟨D2, hD2⟩ : ∃ D, D = inW z t := ⟨_, rfl⟩
 have hD1' : (s.all fun x => t_inB x 0 (z - 1)) = D1 := hD1.symm
 have hD2' : (t.all fun x => t_inB x 0 (z - 1)) = D2 := hD2.symm
 simp only [hD1'] at hA1
 simp only [hD2'] at hA2
 rw [← hD1, ← hD2] at hDD
 clear hRa hRb ok e1 e2 e3 hD1' hD2' hRa0 hRb0
 by_cases h0 : t_inB z 0 100 = true
 case neg =>
  have h0' : t_inB z 0 100 = false := by simpa using h0
  obtain rfl : D = false := by rw [hDD, h0']; rfl
  simp only [h0'] at hI
  clear h0 h0'; have hI_h := lH hI; have hA1_h := lH hA1; have hA2_h := lH hA2; have k0_h := lH k0; have bW_h := lH bW; have hm_h := lH hm; have hp_h := lH hp; have hr_h := lH hr; have hD_h := lH hD; have hDD_h := lH hDD; have hmes_h := lH hmes; have hlE_h := lH hlE; have hok_h := lH hok; have a1_h := lH a1; have hE_h := lH hE; have hG0_h := lH hG0; have hD1_h := lH hD1; have hD2_h := lH hD2; clear hI hA1 hA2 k0 bW hm hp hr hD hDD hmes hlE hok a1 hE hG0 hD1 hD2
  go_enter Tryz.func48, Tryz.ntmps48
  go_upto_region 1 with (fail)
  rw [← hW]
  clear hW
  go_wp2_with (fail)
  refine (hI_h.out _).mono ?_
  rintro e w1 ⟨rfl, rfl⟩
  go_wp2_with (fail)
  go_ret
  exact ⟨rfl, bW_h.out⟩
 have hz : 0 ≤ z ∧ z ≤ 100 := of_decide_eq_true h0
 simp only [h0] at hI
 rw [h0, Bool.true_and] at hDD
 clear h0
 have wz : IntKind.i64.wrap (z - 1) = z - 1 := IntWalk.i64_in _ (by omega)
 by_cases h1 : m ≤ 60
 case neg =>
  obtain rfl : D = false := by rw [hDD, decide_eq_false h1]; rfl
  have h1' : ¬ ((m : Int) ≤ 60) := by omega
  have hI_h := lH hI; have hA1_h := lH hA1; have hA2_h := lH hA2; have k0_h := lH k0; have bW_h := lH bW; have hm_h := lH hm; have hp_h := lH hp; have hr_h := lH hr; have hD_h := lH hD; have hDD_h := lH hDD; have hmes_h := lH hmes; have hlE_h := lH hlE; have hok_h := lH hok; have a1_h := lH a1; have hE_h := lH hE; have hG0_h := lH hG0; have hD1_h := lH hD1; have hD2_h := lH hD2; clear hI hA1 hA2 k0 bW hm hp hr hD hDD hmes hlE hok a1 hE hG0 hD1 hD2
  go_enter Tryz.func48, Tryz.ntmps48
  go_upto_region 1 with (fail)
  rw [← hW]
  clear hW
  go_wp2_with (fail)
  refine (hI_h.out _).mono ?_
  rintro e w1 ⟨rfl, rfl⟩
  go_wp2_with (fail)
  go_ret
  exact ⟨rfl, bW_h.out⟩
 rw [decide_eq_true h1, Bool.true_and] at hDD
 have h1' : (m : Int) ≤ 60 := by omega
 by_cases h2 : p ≤ 12
 case neg =>
  obtain rfl : D = false := by rw [hDD, decide_eq_false h2]; rfl
  have h2' : ¬ ((p : Int) ≤ 12) := by omega
  have hI_h := lH hI; have hA1_h := lH hA1; have hA2_h := lH hA2; have k0_h := lH k0; have bW_h := lH bW; have hm_h := lH hm; have hp_h := lH hp; have hr_h := lH hr; have hD_h := lH hD; have hDD_h := lH hDD; have hmes_h := lH hmes; have hlE_h := lH hlE; have hok_h := lH hok; have a1_h := lH a1; have hE_h := lH hE; have hG0_h := lH hG0; have hD1_h := lH hD1; have hD2_h := lH hD2; clear hI hA1 hA2 k0 bW hm hp hr hD hDD hmes hlE hok a1 hE hG0 hD1 hD2
  go_enter Tryz.func48, Tryz.ntmps48
  go_upto_region 1 with (fail)
  rw [← hW]
  clear hW
  go_wp2_with (fail)
  refine (hI_h.out _).mono ?_
  rintro e w1 ⟨rfl, rfl⟩
  go_wp2_with (fail)
  go_ret
  exact ⟨rfl, bW_h.out⟩
 rw [decide_eq_true h2, Bool.true_and] at hDD
 have h2' : (p : Int) ≤ 12 := by omega
 by_cases h3 : r ≤ 12
 case neg =>
  obtain rfl : D = false := by rw [hDD, decide_eq_false h3]; rfl
  have h3' : ¬ ((r : Int) ≤ 12) := by omega
  have hI_h := lH hI; have hA1_h := lH hA1; have hA2_h := lH hA2; have k0_h := lH k0; have bW_h := lH bW; have hm_h := lH hm; have hp_h := lH hp; have hr_h := lH hr; have hD_h := lH hD; have hDD_h := lH hDD; have hmes_h := lH hmes; have hlE_h := lH hlE; have hok_h := lH hok; have a1_h := lH a1; have hE_h := lH hE; have hG0_h := lH hG0; have hD1_h := lH hD1; have hD2_h := lH hD2; clear hI hA1 hA2 k0 bW hm hp hr hD hDD hmes hlE hok a1 hE hG0 hD1 hD2
  go_enter Tryz.func48, Tryz.ntmps48
  go_upto_region 1 with (fail)
  rw [← hW]
  clear hW
  go_wp2_with (fail)
  refine (hI_h.out _).mono ?_
  rintro e w1 ⟨rfl, rfl⟩
  go_wp2_with (fail)
  go_ret
  exact ⟨rfl, bW_h.out⟩
 rw [decide_eq_true h3, Bool.true_and] at hDD
 have h3' : (r : Int) ≤ 12 := by omega
 cases D1
 case false =>
  obtain rfl : D = false := by rw [hDD]; rfl
  have hI_h := lH hI; have hA1_h := lH hA1; have hA2_h := lH hA2; have k0_h := lH k0; have bW_h := lH bW; have hm_h := lH hm; have hp_h := lH hp; have hr_h := lH hr; have hD_h := lH hD; have hDD_h := lH hDD; have hmes_h := lH hmes; have hlE_h := lH hlE; have hok_h := lH hok; have a1_h := lH a1; have hE_h := lH hE; have hG0_h := lH hG0; have hD1_h := lH hD1; have hD2_h := lH hD2; clear hI hA1 hA2 k0 bW hm hp hr hD hDD hmes hlE hok a1 hE hG0 hD1 hD2
  go_enter Tryz.func48, Tryz.ntmps48
  go_upto_region 1 with (fail)
  rw [← hW]
  clear hW
  go_wp2_with (fail)
  refine (hI_h.out _).mono ?_
  rintro e w1 ⟨rfl, rfl⟩
  go_wp2_with (fail)
  refine (hA1_h.out _ bW_h.out).mono ?_
  rintro e w1 ⟨rfl, rfl⟩
  go_wp2_with (fail)
  go_ret
  exact ⟨rfl, bW_h.out⟩
 rw [Bool.true_and] at hDD
 cases D2
 case false =>
  obtain rfl : D = false := by rw [hDD]; rfl
  have hI_h := lH hI; have hA1_h := lH hA1; have hA2_h := lH hA2; have k0_h := lH k0; have bW_h := lH bW; have hm_h := lH hm; have hp_h := lH hp; have hr_h := lH hr; have hD_h := lH hD; have hDD_h := lH hDD; have hmes_h := lH hmes; have hlE_h := lH hlE; have hok_h := lH hok; have a1_h := lH a1; have hE_h := lH hE; have hG0_h := lH hG0; have hD1_h := lH hD1; have hD2_h := lH hD2; clear hI hA1 hA2 k0 bW hm hp hr hD hDD hmes hlE hok a1 hE hG0 hD1 hD2
  go_enter Tryz.func48, Tryz.ntmps48
  go_upto_region 1 with (fail)
  rw [← hW]
  clear hW
  go_wp2_with (fail)
  refine (hI_h.out _).mono ?_
  rintro e w1 ⟨rfl, rfl⟩
  go_wp2_with (fail)
  refine (hA1_h.out _ bW_h.out).mono ?_
  rintro e w1 ⟨rfl, rfl⟩
  go_wp2_with (fail)
  refine (hA2_h.out _ bW_h.out).mono ?_
  rintro e w1 ⟨rfl, rfl⟩
  go_wp2_with (fail)
  go_ret
  exact ⟨rfl, bW_h.out⟩
 rw [Bool.true_and] at hDD
 have hI_h := lH hI; have hA1_h := lH hA1; have hA2_h := lH hA2; have k0_h := lH k0; have bW_h := lH bW; have hm_h := lH hm; have hp_h := lH hp; have hr_h := lH hr; have hD_h := lH hD; have hDD_h := lH hDD; have hmes_h := lH hmes; have hlE_h := lH hlE; have hok_h := lH hok; have a1_h := lH a1; have hE_h := lH hE; have hG0_h := lH hG0; have hD1_h := lH hD1; have hD2_h := lH hD2; clear hI hA1 hA2 k0 bW hm hp hr hD hDD hmes hlE hok a1 hE hG0 hD1 hD2
 go_enter Tryz.func48, Tryz.ntmps48
 go_upto_region 1 with (fail)
 rw [← hW]
 clear hW
 go_wp2_with (fail)
 refine (hI_h.out _).mono ?_
 rintro e w1 ⟨rfl, rfl⟩
 go_wp2_with (fail)
 refine (hA1_h.out _ bW_h.out).mono ?_
 rintro e w1 ⟨rfl, rfl⟩
 go_wp2_with (fail)
 refine (hA2_h.out _ bW_h.out).mono ?_
 rintro e w1 ⟨rfl, rfl⟩
 obtain ⟨W, rfl⟩ : ∃ x, x = w1 := ⟨_, rfl⟩
 go_wp2_with (fail)
 clear c0 c1 c2 c3 f0 f1 f2 f3
 go_loopw [51] (fun i wr => ∃ k : Nat, k ≤ m ∧ i = .int .i64 k ∧ (es.take k).all (hgB z) = true ∧ Below W.heap.size W wr) (fun i _ => m - (intOf i).toNat)
 case atStart => exact ⟨0, Nat.zero_le _, rfl, by simp, Below.refl _ _⟩
 case round =>
  obtain ⟨k, hk, rfl, hall, hB1⟩ := hrel
  have kr := t_box_below k0_h.out hB1
  have hBw := below_trans bW_h.out hB1 bW_h.out.size
  by_cases hlt : k < m
  · obtain ⟨ad, κ, vv, B1, b1, s1, C1, b2, t1, rfl, hn, ⟨d0, d1, d2, d3⟩, hr1, hr2⟩ := (hE_h.out.below hBw).at_ (j := k) (by rw [← hm_h.out]; exact hlt)
    have hek : es[k]? = some (κ, vv, s1, t1) := by rw [a1_h.out, List.getElem?_map, hn]; rfl
    have hln := hlE_h.out _ (List.mem_of_getElem? hn)
    obtain ⟨wo, rfl⟩ : ∃ x, x = wr := ⟨_, rfl⟩
    have hC := fun (W' : World) (hb : Below wo.heap.size wo W') => hgEdge_any κ vv B1 C1 b1 b2 s1 t1 z W' (hr1.below hb) (hr2.below hb) hln.1 hln.2 (by omega) (by omega)
    obtain ⟨p1, hp1⟩ : ∃ p1, p1 = s1.length := ⟨_, rfl⟩
    obtain ⟨r1, hr1'⟩ : ∃ r1, r1 = t1.length := ⟨_, rfl⟩
    simp only [← hp1, ← hr1'] at hC
    rw [← hp1] at d2
    rw [← hr1'] at d3
    obtain ⟨W6, hW6, bW6, k6⟩ := (⟨_, rfl, t_below_alloc _ _, heap_alloc_new _ _⟩ : ∃ W, W = wo.alloc (.cells #[.int .i64 κ, .int .i64 vv, .slice B1 p1 b1, .slice C1 r1 b2] tEd) ∧ Below wo.heap.size wo W ∧ W.heap[wo.heap.size]? = some (.cells #[.int .i64 κ, .int .i64 vv, .slice B1 p1 b1, .slice C1 r1 b2] tEd))
    have hCW := hC W6 bW6
    have hkI : (k : Int) < (m : Int) := by omega
    have kr6 := t_box_below kr bW6
    have hBW6 := below_trans hB1 bW6 hB1.size
    obtain ⟨⟨c0, c1, c2, c3⟩, f0, f1, f2, f3⟩ := t_box4 k6
    obtain ⟨⟨y0, y1, y2, y3⟩, g0, g1, g2, g3⟩ := t_box4 kr6
    obtain ⟨H, hH⟩ : ∃ H, H = hgB z (κ, vv, s1, t1) := ⟨_, rfl⟩
    rw [← hH] at hCW
    have hr1_h := lH hr1'; clear hr1' hr1 hr2 hn hln hC kr hB1 kr6; have hCW_h := lH hCW; have hek_h := lH hek; have hall_h := lH hall; have hp1_h := lH hp1; have bW6_h := lH bW6; have k6_h := lH k6; have hBW6_h := lH hBW6; have hBw_h := lH hBw; have hH_h := lH hH; clear hCW hek hall hp1 bW6 k6 hBW6 hBw hH
    go_upto_region 6 with (fail)
    rw [← hW6]
    clear hW6
    go_wp2_with (fail)
    refine (hCW_h.out).mono ?_
    rintro e w7 ⟨rfl, hb7⟩
    have hB8 := below_trans hBW6_h.out hb7 hBW6_h.out.size
    clear hb7 c0 c1 c2 c3 f0 f1 f2 f3 y0 y1 y2 y3 g0 g1 g2 g3 d0 d1 d2 d3
    cases H
    · have hf : D = false := by
       rw [hDD_h.out, show es.all (hgB z) = false from ?_]; rfl
       rw [Bool.eq_false_iff]
       intro hh
       have := List.all_eq_true.1 hh _ (List.mem_of_getElem? hek_h.out)
       rw [← hH_h.out] at this; cases this
      subst hf
      have hBz := below_trans bW_h.out hB8 bW_h.out.size
      have hB8_h := lH hB8; have hBz_h := lH hBz; clear hB8 hBz
      go_wp2_with (fail)
      go_ret
      exact ⟨rfl, hBz_h.out⟩
    · have hall2 : (es.take (k + 1)).all (hgB z) = true := by rw [List.take_add_one, hek_h.out, List.all_append, hall_h.out]; simp [← hH_h.out]
      have hB8_h := lH hB8; have hall2_h := lH hall2; clear hB8 hall2
      go_wp2_with (fail)
      go_roundw
      case rel => exact ⟨k + 1, by omega, by go_num, hall2_h.out, hB8_h.out⟩
      case measure => simp [intOf]; omega
  · obtain rfl : m = k := by omega
    rw [List.take_of_length_le (by rw [hmes_h.out]; exact Nat.le_refl _)] at hall
    have hD3 := hDD_h.out
    rw [hall, Bool.true_and] at hD3
    obtain ⟨n, rfl⟩ : ∃ n : Nat, z = (n : Int) := ⟨z.toNat, by omega⟩
    have hD4 : D = (List.range n).all fun w : Nat => (t_allW ((n : Int), es, s, t)).contains (w : Int) := by rw [hD3]; rfl
    have hinW : inW (n : Int) (t_allW ((n : Int), es, s, t)) = true := by
     have h3 : inW (n : Int) (edW es) = true := by have := hgB_all (n : Int) es; rw [hall] at this; simp at this; exact this.2
     show inW (n : Int) (s ++ (t ++ edW es)) = true
     rw [inW_append, inW_append, ← hD1_h.out, ← hD2_h.out, h3]; rfl
    have hC := hgCounts_any wr n (hG0_h.out.below hBw) hok_h.out rfl (by omega) hinW
    obtain ⟨O, hO⟩ : ∃ O, O = orgW ((n : Int), es, s, t) := ⟨_, rfl⟩
    obtain ⟨T, hT⟩ : ∃ T, T = dstW ((n : Int), es, s, t) := ⟨_, rfl⟩
    obtain ⟨L, hL⟩ : ∃ L, L = t_allW ((n : Int), es, s, t) := ⟨_, rfl⟩
    have hcz := fun k : Nat => count_zero (g := ((n : Int), es, s, t)) (k := k)
    have hOl : O.length + T.length ≤ 20000000 := by
     have h1 := out_len es
     have h2 : cntE es + s.length + t.length ≤ 8388608 := hok_h.out.2.2
     have h3 : O.length = s.length + (outW es).length := by rw [hO]; show (s ++ outW es).length = _; rw [List.length_append]
     have h4 : T.length = t.length + (inpW es).length := by rw [hT]; show (t ++ inpW es).length = _; rw [List.length_append]
     omega
    rw [← hO, ← hT] at hC
    simp only [← hO, ← hT, ← hL] at hcz
    rw [← hL] at hD4
    obtain ⟨⟨y0, y1, y2, y3⟩, g0, g1, g2, g3⟩ := t_box4 kr
    clear hall hD3 kr hB1 hinW hD_h hD1_h hD2_h hDD_h; have hC_h := lH hC; have hO_h := lH hO; have hT_h := lH hT; have hL_h := lH hL; have hcz_h := lH hcz; have hD4_h := lH hD4; have hBw_h := lH hBw; have hOl_h := lH hOl; clear hC hO hT hL hcz hD4 hBw hOl
    go_wp2_with (fail)
    refine (hC_h.out).mono ?_
    rintro e w8 ⟨A8, B8, a8, b8, rfl, hI8, hJ8, -, -, hb8⟩
    have hB9 := below_trans hBw_h.out hb8 hBw_h.out.size
    clear y0 y1 y2 y3 g0 g1 g2 g3 hb8; have hB9_h := lH hB9; clear hB9
    go_wp2_with (fail)
    go_loopw [68] (fun i wr => ∃ (k nq : Nat), k ≤ n ∧ i = .int .i64 k ∧ (∀ q : Nat, q < k → L.contains (q : Int) = true) ∧ wr = w8.drewN nq) (fun i _ => n - (intOf i).toNat)
    case atStart => exact ⟨0, 0, Nat.zero_le _, rfl, fun q hq => by omega, rfl⟩
    case round =>
     obtain ⟨k, nq, hk, rfl, hall, hwr⟩ := hrel
     by_cases hlt : k < n
     · obtain ⟨gd, rfl, hgb, hgc, -⟩ := hI8.getc hlt
       obtain ⟨jd, rfl, hjb, hjc, -⟩ := hJ8.getc hlt
       have e1 : wr.cell? (gd.add k) = some (.int .i64 (O.count (k : Int) : Int)) := by rw [hwr]; exact hgc
       have e2 : wr.cell? (jd.add k) = some (.int .i64 (T.count (k : Int) : Int)) := by rw [hwr]; exact hjc
       have l1 := count_le O (k : Int)
       have l2 := count_le T (k : Int)
       obtain ⟨x, hx⟩ : ∃ x, x = O.count (k : Int) := ⟨_, rfl⟩
       obtain ⟨y, hy⟩ : ∃ y, y = T.count (k : Int) := ⟨_, rfl⟩
       rw [← hx] at e1 l1
       rw [← hy] at e2 l2
       have hcz1 := hcz_h.out k
       rw [← hx, ← hy] at hcz1
       have hkI : (k : Int) < (n : Int) := by omega
       have hxb : x ≤ 20000000 := by have := hOl_h.out; omega
       have hyb : y ≤ 20000000 := by have := hOl_h.out; omega
       clear hgc hjc hx hy l1 l2
       by_cases hc : L.contains (k : Int) = true
       · have hne : ¬ (x = 0 ∧ y = 0) := fun h => by rw [hcz1.1 h] at hc; cases hc
         have hb0 : ((x : Int) + (y : Int) == 0) = false := by rw [beq_eq_false_iff_ne]; omega
         have hall2 : ∀ q : Nat, q < k + 1 → L.contains (q : Int) = true := fun q hq => by
          by_cases h : q < k
          · exact hall q h
          · obtain rfl : q = k := by omega
            exact hc
         clear hne hcz1 hc hall; have hall2_h := lH hall2; have hwr_h := lH hwr; have hI8_h := lH hI8; have hJ8_h := lH hJ8; clear hall2 hwr hI8 hJ8
         go_wp2_with (fail)
         go_quiet (fail)
         go_wp2_with (fail)
         go_roundw
         case rel => exact ⟨k + 1, _, by omega, by go_num, hall2_h.out, by rw [hwr_h.out]; exact World.drewN_drewN _ _ _⟩
         case measure => simp [intOf]; omega
       · have hc' : L.contains (k : Int) = false := by simpa using hc
         obtain ⟨rfl, rfl⟩ := hcz1.2 hc'
         have hf : D = false := by
          rw [hD4_h.out, Bool.eq_false_iff]
          intro hh
          have := List.all_eq_true.1 hh k (List.mem_range.2 hlt)
          rw [hc'] at this; cases this
         subst hf
         have hBf : Below w.heap.size w wr := by rw [hwr]; exact below_drewN hB9_h.out nq
         clear hcz1 hc hc' hall; have hwr_h := lH hwr; have hI8_h := lH hI8; have hJ8_h := lH hJ8; have hBf_h := lH hBf; clear hwr hI8 hJ8 hBf
         go_wp2_with (fail)
         go_quiet (fail)
         go_wp2_with (fail)
         go_ret
         exact ⟨rfl, below_drewN hBf_h.out _⟩
     · obtain rfl : n = k := by omega
       have ht : D = true := by
        rw [hD4_h.out]
        exact List.all_eq_true.2 fun q hq => hall q (List.mem_range.1 hq)
       subst ht
       have hBf : Below w.heap.size w wr := by rw [hwr]; exact below_drewN hB9_h.out nq
       clear hall; have hwr_h := lH hwr; have hI8_h := lH hI8; have hJ8_h := lH hJ8; have hBf_h := lH hBf; clear hwr hI8 hJ8 hBf
       go_wp2_with (fail)
       go_ret
       exact ⟨rfl, hBf_h.out⟩
structure OIg (w0 w : World) (A : Option Addr) (cap : Nat) (l : List Int) : Prop where
 is : IS w A cap l
 new : Fresh w0.heap.size A
 below_ : Below w0.heap.size w0 w
theorem OIg.snoc {w0 w w2 : World} {A : Option Addr} {cap : Nat} {l : List Int} (h : OIg w0 w A cap l) {o : Obj} {x : Int} {A' : Option Addr} {cap' n : Nat} (hn : n = l.length + 1) (hs' : Sl w2 tInt 1 A' n cap' (ints l ++ [.int .i64 x])) (hA' : ∀ b, b ∈ fpA A' → b ∈ fpA A ∨ (w.alloc o).heap.size ≤ b) (hk : Keeps (· ∈ fpA A) (w.alloc o) w2) : OIg w0 w2 A' cap' (l ++ [x]) := by
 subst hn
 have hb := below_trans h.below_ ((Below.refl w.heap.size w).alloc (Nat.le_refl _) o) h.below_.size
 refine ⟨?_, fun b hb' => ?_, below_keeps hb hk hb.size h.new⟩
 · unfold IS
   have : ints (l ++ [x]) = ints l ++ [.int .i64 x] := by simp [ints]
   rw [this, List.length_append]; exact hs'
 · rcases hA' b hb' with h1 | h1
   · exact h.new b h1
   · have := hb.size; omega
theorem oig_alloc {w0 w : World} {A : Option Addr} {cap k : Nat} {l : List Int} (h : OIg w0 w A cap l) (hk : l.length = k) (o : Obj) : Sl (w.alloc o) tInt 1 A k cap (ints l) := by
 have := Sl.alloc h.is o; rwa [hk] at this
set_option maxRecDepth 100000 in
set_option maxHeartbeats 2000000 in
theorem hgList_any (A B : Option Addr) (a b p n : Nat) (l tw : List Int) (w : World) (hl : RdI w A l) (ht : RdI w B tw) (hp : l.length = p) (hn : tw.length = n) (hin : ∀ x, x ∈ l → 0 ≤ x ∧ x < (n : Int)) (hpb : p ≤ 1048576) :
  Calls Tryz.prog 31 #[.slice A p a, .slice B n b] w fun e w' => ∃ A' c', e = .returned (.slice A' p c') ∧ OIg w w' A' c' (mapL tw l) := by
 have hO0 : OIg w w none 0 (mapL tw []) := ⟨Sl.nil _ _ _, Fresh.none_ _, Below.refl _ _⟩
 have hp_h := lH hp; have hn_h := lH hn; have hin_h := lH hin; have hO0_h := lH hO0; have hl_h := lH hl; have ht_h := lH ht; clear hp hn hin hO0 hl ht
 go_enter Tryz.func31, Tryz.ntmps31
 go_wp2_with (fail)
 go_loopw [10, 5] (fun i v' wr => ∃ (k : Nat) (A' : Option Addr) (c' : Nat), k ≤ p ∧ i = .int .i64 k ∧ v' = .slice A' k c' ∧ OIg w wr A' c' (mapL tw (l.take k))) (fun i _ _ => p - (intOf i).toNat)
 case atStart => exact ⟨0, none, 0, Nat.zero_le _, rfl, rfl, by simpa using hO0_h.out⟩
 case round =>
  clear hO0_h
  obtain ⟨k, A', c', hk, rfl, rfl, hO⟩ := hrel
  by_cases hlt : k < p
  · obtain ⟨xd, x, rfl, hx, hxc⟩ := (hl_h.out.below hO.below_).at_ (j := k) (by rw [hp_h.out]; exact hlt)
    have hxb := hin_h.out x (List.mem_of_getElem? hx)
    obtain ⟨q, rfl⟩ : ∃ q : Nat, x = (q : Int) := ⟨x.toNat, by omega⟩
    have hqn : q < n := by omega
    obtain ⟨yd, y, rfl, hy, hyc⟩ := (ht_h.out.below hO.below_).at_ (j := q) (by rw [hn_h.out]; exact hqn)
    have hml : (mapL tw (l.take k)).length = k := by rw [mapL_length, List.length_take, hp_h.out]; omega
    have hst : mapL tw (l.take (k + 1)) = mapL tw (l.take k) ++ [y] := by rw [mapL_take_step hx]; simp [List.getD, hy]
    have hsl := fun (o : Obj) => oig_alloc hO hml o
    have hkI : (k : Int) < (p : Int) := by omega
    have hqI : (q : Int) < (n : Int) := by omega
    have hq0 : (0 : Int) ≤ (q : Int) := by omega
    clear hx hy hxb; have hml_h := lH hml; have hst_h := lH hst; have hsl_h := lH hsl; have hO_h := lH hO; clear hml hst hsl hO
    go_wp2_with (at_builtin; refine wpList_append_Sl _ rfl _ _ _ rfl 3 Tryz.underlying23 info_int rfl (by omega) rfl (hsl_h.out (.cells #[.int .i64 y] 3)) rfl (news := [.int .i64 y]) rfl (Sl.rdc (Sl.laid wr 3 1 1 #[.int .i64 y] (by unfold maxLen; omega) rfl)) (by intro u hu; simp at hu; subst hu; rfl) (by unfold maxLen; omega) (by omega) ?_; intro A3 c3 w3 hs3 hA3 hk3)
    have hO2 := hO_h.out.snoc (x := y) (by rw [hml_h.out]) hs3 hA3 hk3
    rw [← hst_h.out] at hO2
    clear hs3 hA3 hk3; have hO2_h := lH hO2; clear hO2
    go_roundw
    case rel => exact ⟨k + 1, A3, c3, by omega, by go_num, rfl, hO2_h.out⟩
    case measure => simp [intOf]; omega
  · obtain rfl : p = k := by omega
    rw [List.take_of_length_le (by rw [hp_h.out]; exact Nat.le_refl _)] at hO
    have hO_h := lH hO; clear hO
    go_wp2_with (fail)
    go_ret
    exact ⟨A', c', rfl, hO_h.out⟩
def gOverB (p : Int) (g : Gr) : Bool := fieldB p && (grB g && g.2.1.all fun e => decide (e.2.1 < p))
def dnAskB (p : Int) (g : Gr) : Bool := gOverB p g && g.2.1.all fun e => noDl e.1
def dnEqs (p : Int) (g : Gr) : List (List Int) := g.2.1.flatMap (dnRowsM p g.1.toNat)
theorem allE_no {f : Eg → Bool} {l : List Eg} {k : Nat} {e : Eg} (h : l[k]? = some e) (hn : f e = false) : l.all f = false := by
 rw [List.all_eq_false]
 exact ⟨e, List.mem_of_getElem? h, by simp [hn]⟩
theorem allE_yes {f : Eg → Bool} {l : List Eg} (h : ∀ j e, l[j]? = some e → j < l.length → f e = true) : l.all f = true := by
 rw [List.all_eq_true]
 intro n hn
 obtain ⟨j, hj⟩ := List.mem_iff_getElem?.1 hn
 exact h j n hj (List.getElem?_eq_some_iff.1 hj).1
set_option maxRecDepth 100000 in
set_option maxHeartbeats 2000000 in
theorem hgGood_any (p : Int) {v : Value} {g : Gr} (w : World) (h : RdGr w v g) (ok : OkG g) :
  Calls Tryz.prog 26 #[.int .i64 p, v] w fun e w' => e = .returned (.bool (gOverB p g)) ∧ Below w.heap.size w w' := by
 obtain ⟨A, c, hs, ⟨B, b, s⟩, ⟨C, d, t⟩, rfl, e1, e2, e3, hE, hRa, hRb⟩ := id h
 obtain ⟨z, es, s0, t0⟩ := g
 have a1 : es = hs.map egOf := e1
 have a2 : s = s0 := e2
 have a3 : t = t0 := e3
 subst a2 a3
 clear e1 e2 e3
 obtain ⟨m, hm⟩ : ∃ m, m = hs.length := ⟨_, rfl⟩
 have hmes : es.length = m := by rw [a1, List.length_map, hm]
 have hm20 : m ≤ 1048576 := by rw [← hmes]; exact ok.1.1
 change RdGr w (.agg #[.int .i64 z, .slice A hs.length c, .slice B s.length b, .slice C t.length d]) (z, es, s, t) at h
 show Calls Tryz.prog _ #[.int .i64 p, .agg #[.int .i64 z, .slice A hs.length c, .slice B s.length b, .slice C t.length d]] w _
 rw [← hm] at h ⊢
 obtain ⟨W, hW, bW, k0⟩ := (⟨_, rfl, below_alloc _ _, heap_alloc_new _ _⟩ : ∃ W, W = w.alloc (.cells #[.int .i64 z, .slice A m c, .slice B s.length b, .slice C t.length d] tGr) ∧ Below w.heap.size w W ∧ W.heap[w.heap.size]? = some (.cells #[.int .i64 z, .slice A m c, .slice B s.length b, .slice C t.length d] tGr))
 obtain ⟨⟨c0, c1, c2, c3⟩, f0, f1, f2, f3⟩ := box4 k0
 have hV := fun W' (hb : Below w.heap.size w W') => hgValid_any W' (h.below hb) ok
 have hG := fun W' => fdGood_any p W'
 obtain ⟨D, hD⟩ : ∃ D, D = gOverB p (z, es, s, t) := ⟨_, rfl⟩
 rw [← hD]
 unfold gOverB at hD
 clear h
 by_cases hf : fieldB p = true
 · simp only [hf] at hG
   rw [hf, Bool.true_and] at hD
   by_cases hg : grB (z, es, s, t) = true
   · simp only [hg] at hV
     rw [hg, Bool.true_and] at hD
     have hDD : (es.all (fun e : Eg => decide (e.2.1 < p)) = true) → D = true := fun h => by rw [hD]; exact h
     have hDN : (es.all (fun e : Eg => decide (e.2.1 < p)) = false) → D = false := fun h => by rw [hD]; exact h
     clear hf hg hD ok; have hV_h := lH hV; have hG_h := lH hG; have hm_h := lH hm; have hmes_h := lH hmes; have a1_h := lH a1; have hE_h := lH hE; have k0_h := lH k0; have bW_h := lH bW; have hDD_h := lH hDD; have hDN_h := lH hDN; clear hV hG hm hmes a1 hE k0 bW hDD hDN
     go_enter Tryz.func26, Tryz.ntmps26
     go_upto_region 1 with (fail)
     rw [← hW]
     clear hW
     go_wp2_with (fail)
     refine (hG_h.out _).mono ?_
     rintro e w' ⟨rfl, rfl⟩
     go_wp2_with (fail)
     refine (hV_h.out _ bW_h.out).mono ?_
     rintro e wq ⟨rfl, hb1⟩
     clear c0 c1 c2 c3 f0 f1 f2 f3
     have hbq := below_trans bW_h.out hb1 bW_h.out.size
     have hE := hE_h.out.below hbq
     replace k0_h := lH (box_below k0_h.out hb1)
     clear hb1; have hbq_h := lH hbq; have hE_h := lH hE; clear hbq hE
     obtain ⟨⟨c0, c1, c2, c3⟩, f0, f1, f2, f3⟩ := box4 k0_h.out
     go_wp2_with (fail)
     clear c0 c1 c2 c3 f0 f1 f2 f3
     go_loopw [18] (fun i wr => ∃ k : Nat, k ≤ m ∧ i = .int .i64 k ∧ Below wq.heap.size wq wr ∧ ∀ (j : Nat) (e : Eg), es[j]? = some e → j < k → (fun e : Eg => decide (e.2.1 < p)) e = true) (fun i _ => m - (intOf i).toNat)
     case atStart => exact ⟨0, Nat.zero_le _, rfl, Below.refl _ _, fun j e _ h => absurd h (Nat.not_lt_zero j)⟩
     case round =>
      obtain ⟨k, hk, rfl, hbr, hall⟩ := hrel
      obtain ⟨wo, rfl⟩ : ∃ x, x = wr := ⟨_, rfl⟩
      by_cases hlt : k < m
      · obtain ⟨ad, κ, v, B', b', l, C', c', mm, rfl, hx, ⟨d0, d1, d2, d3⟩, _, _⟩ := (hE_h.out.below hbr).at_ (j := k) (by rw [← hm_h.out]; exact hlt)
        have hxe : es[k]? = some (κ, v, l, mm) := by rw [a1_h.out, List.getElem?_map, hx]; rfl
        have hkI : (k : Int) < (m : Int) := by omega
        have hbo := below_trans hbq_h.out hbr hbq_h.out.size
        have hba := below_trans hbo (below_alloc wo (.cells #[.int .i64 κ, .int .i64 v, .slice B' l.length b', .slice C' mm.length c'] tEd)) hbo.size
        have hbr2 := below_trans hbr (below_alloc wo (.cells #[.int .i64 κ, .int .i64 v, .slice B' l.length b', .slice C' mm.length c'] tEd)) hbr.size
        have hnx : ∀ (e : Eg), (fun e : Eg => decide (e.2.1 < p)) (κ, v, l, mm) = true → es[k]? = some e → (fun e : Eg => decide (e.2.1 < p)) e = true := fun e he h2 => by rw [hxe] at h2; obtain rfl := Option.some.inj h2; exact he
        have hall2 : (fun e : Eg => decide (e.2.1 < p)) (κ, v, l, mm) = true → ∀ (j : Nat) (e : Eg), es[j]? = some e → j < k + 1 → (fun e : Eg => decide (e.2.1 < p)) e = true := fun he j e h2 h3 => by
         rcases Nat.lt_or_ge j k with h4 | h4
         · exact hall j e h2 h4
         · obtain rfl : j = k := by omega
           exact hnx e he h2
        clear hx hall hnx
        by_cases hv : v < p
        · have hvn : ¬ v ≥ p := by omega
          have hall3 := hall2 (decide_eq_true hv)
          clear hall2 hv; have hall3_h := lH hall3; have hbr2_h := lH hbr2; have hbr_h := lH hbr; have hba_h := lH hba; have hbo_h := lH hbo; have hxe_h := lH hxe; clear hall3 hbr2 hbr hba hbo hxe
          go_wp2_with (fail)
          go_roundw
          case rel => exact ⟨k + 1, by omega, by go_num, hbr2_h.out, hall3_h.out⟩
          case measure => simp [intOf]; omega
        · have hvn : v ≥ p := by omega
          have hfin := hDN_h.out (allE_no hxe (decide_eq_false hv))
          subst hfin
          clear hall2 hv; have hbr2_h := lH hbr2; have hbr_h := lH hbr; have hba_h := lH hba; have hbo_h := lH hbo; have hxe_h := lH hxe; clear hbr2 hbr hba hbo hxe
          go_wp2_with (fail)
          go_ret
          exact ⟨rfl, hba_h.out⟩
      · obtain rfl : m = k := by omega
        have hyes := allE_yes (f := (fun e : Eg => decide (e.2.1 < p))) (l := es) fun j e h1 h2 => hall j e h1 (by rw [← hmes_h.out]; exact h2)
        have hbo := below_trans hbq_h.out hbr hbq_h.out.size
        have hfin := hDD_h.out hyes
        subst hfin
        clear hall; have hbo_h := lH hbo; clear hbo
        go_wp2_with (fail)
        go_ret
        exact ⟨rfl, hbo_h.out⟩
   · have hg' : grB (z, es, s, t) = false := by simpa using hg
     simp only [hg'] at hV
     rw [hg', Bool.false_and] at hD
     subst hD
     clear hf hg hg' ok; have hV_h := lH hV; have hG_h := lH hG; have k0_h := lH k0; have bW_h := lH bW; have hm_h := lH hm; have hmes_h := lH hmes; have a1_h := lH a1; have hE_h := lH hE; clear hV hG k0 bW hm hmes a1 hE
     go_enter Tryz.func26, Tryz.ntmps26
     go_upto_region 1 with (fail)
     rw [← hW]
     clear hW
     go_wp2_with (fail)
     refine (hG_h.out _).mono ?_
     rintro e w' ⟨rfl, rfl⟩
     go_wp2_with (fail)
     refine (hV_h.out _ bW_h.out).mono ?_
     rintro e wq ⟨rfl, hb1⟩
     go_wp2_with (fail)
     go_ret
     exact ⟨rfl, below_trans bW_h.out hb1 bW_h.out.size⟩
 · have hf' : fieldB p = false := by simpa using hf
   simp only [hf'] at hG
   rw [hf', Bool.false_and] at hD
   subst hD
   clear hf hf' ok hV; have hG_h := lH hG; have k0_h := lH k0; have bW_h := lH bW; have hm_h := lH hm; have hmes_h := lH hmes; have a1_h := lH a1; have hE_h := lH hE; clear hG k0 bW hm hmes a1 hE
   go_enter Tryz.func26, Tryz.ntmps26
   go_upto_region 1 with (fail)
   rw [← hW]
   clear hW
   go_wp2_with (fail)
   refine (hG_h.out _).mono ?_
   rintro e w' ⟨rfl, rfl⟩
   go_wp2_with (fail)
   go_ret
   exact ⟨rfl, bW_h.out⟩
set_option maxRecDepth 100000 in
set_option maxHeartbeats 2000000 in
theorem dnAsked_any (p : Int) {v : Value} {g : Gr} (w : World) (h : RdGr w v g) (ok : OkG g) :
  Calls Tryz.prog 16 #[.int .i64 p, v] w fun e w' => e = .returned (.bool (dnAskB p g)) ∧ Below w.heap.size w w' := by
 obtain ⟨A, c, hs, ⟨B, b, s⟩, ⟨C, d, t⟩, rfl, e1, e2, e3, hE, hRa, hRb⟩ := id h
 obtain ⟨z, es, s0, t0⟩ := g
 have a1 : es = hs.map egOf := e1
 have a2 : s = s0 := e2
 have a3 : t = t0 := e3
 subst a2 a3
 clear e1 e2 e3
 obtain ⟨m, hm⟩ : ∃ m, m = hs.length := ⟨_, rfl⟩
 have hmes : es.length = m := by rw [a1, List.length_map, hm]
 have hm20 : m ≤ 1048576 := by rw [← hmes]; exact ok.1.1
 change RdGr w (.agg #[.int .i64 z, .slice A hs.length c, .slice B s.length b, .slice C t.length d]) (z, es, s, t) at h
 show Calls Tryz.prog _ #[.int .i64 p, .agg #[.int .i64 z, .slice A hs.length c, .slice B s.length b, .slice C t.length d]] w _
 rw [← hm] at h ⊢
 obtain ⟨W, hW, bW, k0⟩ := (⟨_, rfl, below_alloc _ _, heap_alloc_new _ _⟩ : ∃ W, W = w.alloc (.cells #[.int .i64 z, .slice A m c, .slice B s.length b, .slice C t.length d] tGr) ∧ Below w.heap.size w W ∧ W.heap[w.heap.size]? = some (.cells #[.int .i64 z, .slice A m c, .slice B s.length b, .slice C t.length d] tGr))
 obtain ⟨⟨c0, c1, c2, c3⟩, f0, f1, f2, f3⟩ := box4 k0
 have hV := fun W' (hb : Below w.heap.size w W') => hgGood_any p W' (h.below hb) ok
 obtain ⟨D, hD⟩ : ∃ D, D = dnAskB p (z, es, s, t) := ⟨_, rfl⟩
 rw [← hD]
 unfold dnAskB at hD
 clear h
 by_cases hg : gOverB p (z, es, s, t) = true
 · simp only [hg] at hV
   rw [hg, Bool.true_and] at hD
   have hDD : (es.all (fun e : Eg => noDl e.1) = true) → D = true := fun h => by rw [hD]; exact h
   have hDN : (es.all (fun e : Eg => noDl e.1) = false) → D = false := fun h => by rw [hD]; exact h
   clear hg hD ok; have hV_h := lH hV; have hm_h := lH hm; have hmes_h := lH hmes; have a1_h := lH a1; have hE_h := lH hE; have k0_h := lH k0; have bW_h := lH bW; have hDD_h := lH hDD; have hDN_h := lH hDN; clear hV hm hmes a1 hE k0 bW hDD hDN
   go_enter Tryz.func16, Tryz.ntmps16
   go_upto_region 1 with (fail)
   rw [← hW]
   clear hW
   go_wp2_with (fail)
   refine (hV_h.out _ bW_h.out).mono ?_
   rintro e wq ⟨rfl, hb1⟩
   clear c0 c1 c2 c3 f0 f1 f2 f3
   have hbq := below_trans bW_h.out hb1 bW_h.out.size
   have hE := hE_h.out.below hbq
   replace k0_h := lH (box_below k0_h.out hb1)
   clear hb1; have hbq_h := lH hbq; have hE_h := lH hE; clear hbq hE
   obtain ⟨⟨c0, c1, c2, c3⟩, f0, f1, f2, f3⟩ := box4 k0_h.out
   go_wp2_with (fail)
   clear c0 c1 c2 c3 f0 f1 f2 f3
   go_loopw [14] (fun i wr => ∃ k : Nat, k ≤ m ∧ i = .int .i64 k ∧ Below wq.heap.size wq wr ∧ ∀ (j : Nat) (e : Eg), es[j]? = some e → j < k → (fun e : Eg => noDl e.1) e = true) (fun i _ => m - (intOf i).toNat)
   case atStart => exact ⟨0, Nat.zero_le _, rfl, Below.refl _ _, fun j e _ h => absurd h (Nat.not_lt_zero j)⟩
   case round =>
    obtain ⟨k, hk, rfl, hbr, hall⟩ := hrel
    obtain ⟨wo, rfl⟩ : ∃ x, x = wr := ⟨_, rfl⟩
    by_cases hlt : k < m
    · obtain ⟨ad, κ, v, B', b', l, C', c', mm, rfl, hx, ⟨d0, d1, d2, d3⟩, _, _⟩ := (hE_h.out.below hbr).at_ (j := k) (by rw [← hm_h.out]; exact hlt)
      have hxe : es[k]? = some (κ, v, l, mm) := by rw [a1_h.out, List.getElem?_map, hx]; rfl
      have hkI : (k : Int) < (m : Int) := by omega
      have hbo := below_trans hbq_h.out hbr hbq_h.out.size
      have hba := below_trans hbo (below_alloc wo (.cells #[.int .i64 κ, .int .i64 v, .slice B' l.length b', .slice C' mm.length c'] tEd)) hbo.size
      have hbr2 := below_trans hbr (below_alloc wo (.cells #[.int .i64 κ, .int .i64 v, .slice B' l.length b', .slice C' mm.length c'] tEd)) hbr.size
      have hnx : ∀ (e : Eg), (fun e : Eg => noDl e.1) (κ, v, l, mm) = true → es[k]? = some e → (fun e : Eg => noDl e.1) e = true := fun e he h2 => by rw [hxe] at h2; obtain rfl := Option.some.inj h2; exact he
      have hall2 : (fun e : Eg => noDl e.1) (κ, v, l, mm) = true → ∀ (j : Nat) (e : Eg), es[j]? = some e → j < k + 1 → (fun e : Eg => noDl e.1) e = true := fun he j e h2 h3 => by
       rcases Nat.lt_or_ge j k with h4 | h4
       · exact hall j e h2 h4
       · obtain rfl : j = k := by omega
         exact hnx e he h2
      clear hx hall hnx
      have hT := fun W' => dnTimeless_any κ W'
      by_cases hv : noDl κ = true
      · simp only [hv] at hT
        have hall3 := hall2 hv
        clear hall2 hv; have hall3_h := lH hall3; have hbr2_h := lH hbr2; have hbr_h := lH hbr; have hba_h := lH hba; have hbo_h := lH hbo; have hxe_h := lH hxe; have hT_h := lH hT; clear hall3 hbr2 hbr hba hbo hxe hT
        go_wp2_with (fail)
        refine (hT_h.out _).mono ?_
        rintro e w' ⟨rfl, hw'⟩
        subst hw'
        go_wp2_with (fail)
        go_roundw
        case rel => exact ⟨k + 1, by omega, by go_num, hbr2_h.out, hall3_h.out⟩
        case measure => simp [intOf]; omega
      · have hv' : noDl κ = false := by simpa using hv
        simp only [hv'] at hT
        have hfin := hDN_h.out (allE_no hxe hv')
        subst hfin
        clear hall2 hv hv'; have hbr2_h := lH hbr2; have hbr_h := lH hbr; have hba_h := lH hba; have hbo_h := lH hbo; have hxe_h := lH hxe; have hT_h := lH hT; clear hbr2 hbr hba hbo hxe hT
        go_wp2_with (fail)
        refine (hT_h.out _).mono ?_
        rintro e w' ⟨rfl, hw'⟩
        subst hw'
        go_wp2_with (fail)
        go_ret
        exact ⟨rfl, hba_h.out⟩
    · obtain rfl : m = k := by omega
      have hyes := allE_yes (f := (fun e : Eg => noDl e.1)) (l := es) fun j e h1 h2 => hall j e h1 (by rw [← hmes_h.out]; exact h2)
      have hbo := below_trans hbq_h.out hbr hbq_h.out.size
      have hfin := hDD_h.out hyes
      subst hfin
      clear hall; have hbo_h := lH hbo; clear hbo
      go_wp2_with (fail)
      go_ret
      exact ⟨rfl, hbo_h.out⟩
 · have hg' : gOverB p (z, es, s, t) = false := by simpa using hg
   simp only [hg'] at hV
   rw [hg', Bool.false_and] at hD
   subst hD
   clear hg hg' ok; have hV_h := lH hV; have k0_h := lH k0; have bW_h := lH bW; have hm_h := lH hm; have hmes_h := lH hmes; have a1_h := lH a1; have hE_h := lH hE; clear hV k0 bW hm hmes a1 hE
   go_enter Tryz.func16, Tryz.ntmps16
   go_upto_region 1 with (fail)
   rw [← hW]
   clear hW
   go_wp2_with (fail)
   refine (hV_h.out _ bW_h.out).mono ?_
   rintro e wq ⟨rfl, hb1⟩
   go_wp2_with (fail)
   go_ret
   exact ⟨rfl, below_trans bW_h.out hb1 bW_h.out.size⟩
set_option maxRecDepth 100000 in
set_option maxHeartbeats 1000000 in
theorem mxLess_any (p q : Int) (A B : Option Addr) (ca cb n : Nat) (v f : List Int) (w : World) (hA : IS w A ca v) (hB : RdI w B f) (hd : ∀ b, b ∈ fpA B → b ∉ fpA A) (hvn : v.length = n) (hfn : f.length = n) (hn : n ≤ 1048576)
  (h0 : 0 < p) (h97 : p ≤ 97) (hv : ∀ x, x ∈ v → 0 ≤ x ∧ x < p) (hf : ∀ x, x ∈ f → 0 ≤ x ∧ x < p) (hq : 0 ≤ q ∧ q < p) :
  Calls Tryz.prog 37 #[.int .i64 p, .slice A n ca, .slice B n cb, .int .i64 q] w fun e w' => e = .returned (.tuple #[]) ∧ Wr w w' A (ints (addT p v (-q) f)) := by
 have hal : (addT p v (-q) f).length = n := by rw [addT_length, hvn]
 have hst : Wr w w A (ints ((addT p v (-q) f).take 0 ++ v.drop 0)) := by simpa using Wr.start hA
 have HAL := lH hal; have HVN := lH hvn; have HFN := lH hfn; have HST := lH hst; have HV := lH hv; have HF := lH hf; have HD := lH hd; clear hal hvn hfn hst hv hf hd
 go_enter Tryz.func37, Tryz.ntmps37
 go_wp2_with (fail)
 go_loopw [11] (fun i wr => ∃ k : Nat, k ≤ n ∧ i = .int .i64 k ∧ Wr w wr A (ints ((addT p v (-q) f).take k ++ v.drop k))) (fun i _ => n - (intOf i).toNat)
 case atStart => exact ⟨0, Nat.zero_le _, rfl, HST.out⟩
 case round =>
  clear HST
  obtain ⟨k, hk, rfl, hw⟩ := hrel
  have hll : ((addT p v (-q) f).take k ++ v.drop k).length = n := by rw [List.length_append, List.length_take, List.length_drop, HAL.out, HVN.out]; omega
  by_cases hlt : k < n
  · obtain ⟨bd, y, hB', hy, hcb⟩ := (hB.keeps hw.1 HD.out).at_ (j := k) (by rw [HFN.out]; exact hlt)
    have his : IS wr A ca ((addT p v (-q) f).take k ++ v.drop k) := by
     have := hw.sl hA (by rw [ints_length, hll, HVN.out, Nat.mul_one])
     unfold IS; rw [hll]; rwa [HVN.out] at this
    obtain ⟨ad, x, hA', hx, hbl, hca, hf'⟩ := his.at_ (j := k) (by rw [hll]; exact hlt)
    rw [get_take_drop (by simp) (by rw [HVN.out]; omega)] at hx
    have hfz := hf' k
    have hxb := HV.out x (List.mem_of_getElem? hx)
    have hyb := HF.out y (List.mem_of_getElem? hy)
    have hw2 := hw.set hA' (j := k) (by rw [ints_length, hll]; exact hlt) (.int .i64 ((x - q * y % p) % p))
    have e1 : (x - q * y % p) % p = (x + -q * y) % p := sub_mod_mul p x q y
    rw [show ints (((addT p v (-q) f).take k ++ v.drop k)) = ints (((addT p v (-q) f).take k ++ v.drop k)) from rfl, ints_set, e1, take_append_step (by simp) (addT_get hx hy), ← e1] at hw2
    have hw3 : Wr w (wr.drew.setCell (ad.add k) (.int .i64 ((x - q * y % p) % p))) A (ints ((addT p v (-q) f).take (k + 1) ++ v.drop (k + 1))) := hw2.drew
    have HW := lH hw3
    have hz0 : 0 ≤ q * y % p := Int.emod_nonneg _ (by omega)
    have hz1 : q * y % p < p := Int.emod_lt_of_pos _ h0
    obtain ⟨z, hz⟩ : ∃ z, z = q * y % p := ⟨_, rfl⟩
    have C1 := lH (stillC2 (fdMul_any p q y wr.drew h0 hq.1 (by omega) hyb.1 (by omega)))
    have C2 := fdSub_any p x z wr.drew h0 h97 hxb.1 (by omega) (by omega) (by omega)
    rw [← hz] at C1 HW
    have C2' := lH (stillC2 C2)
    have hkn : (k : Int) < (n : Int) := by omega
    subst hA'
    subst hB'
    clear hw2 hw3 hx hy hw his hA hB hll hf' hz hz0 hz1 e1 C2
    go_wp2_with (fail)
    refine wp_region_still_tail 16 (by kernel_rfl) (by kernel_rfl) ?_
    simp only [List.take_succ_cons, List.take_zero, List.drop_succ_cons, List.drop_zero]
    change wpStill _ _ wr.drew (fun a' => wpList _ _ _ _ a' wr.drew) _ _
    have d1 : wr.drew.cell? (bd.add k) = some (.int .i64 y) := hcb
    have d2 : wr.drew.cell? (ad.add k) = some (.int .i64 x) := hca
    repeat still_step
    still_call C1.out
    repeat still_step
    still_call C2'.out
    repeat still_step
    refine wpStill_nil ?_
    go_wp2_with (fail)
    go_roundw
    case rel => exact ⟨k + 1, by omega, by go_num, HW.out⟩
    case measure => simp [intOf]; omega
  · obtain rfl : n = k := by omega
    have hw2 : Wr w wr A (ints (addT p v (-q) f)) := by
     have := hw
     rwa [List.take_of_length_le (by rw [HAL.out]; omega), List.drop_of_length_le (by rw [HVN.out]; omega), List.append_nil] at this
    have HW := lH hw2; clear hw hll hA hB hw2
    go_wp2_with (fail)
    go_end0
    exact ⟨rfl, HW.out⟩
set_option maxRecDepth 100000 in
set_option maxHeartbeats 2000000 in
theorem spSum_any (p : Int) (n m : Nat) (A B : Option Addr) (c cb : Nat) (hs : List Hd) (x : List Int) (L : List (List Int)) (w : World) (h : RdR w A hs) (hL : hs.map (fun h : Hd => h.2.2) = L) (hLm : L.length = m) (hx : RdI w B x) (hxl : x.length = m) (hxr : Res p x) (hmat : Mat p L.length n L) (h0 : 0 < p) (h97 : p ≤ 97) (hml : m ≤ 1048576) (hn : n ≤ 1048576) :
  Calls Tryz.prog 33 #[.int .i64 p, .int .i64 n, .slice A m c, .slice B m cb] w (RetI w (cmbTo p n x L m)) := by
 have hcl := cmbTo_length p n x L
 have hcr := cmbTo_res h0 n x L
 have hhl : hs.length = m := by rw [← hLm, ← hL, List.length_map]
 have h_h := lH h; have hL_h := lH hL; have hLm_h := lH hLm; have hx_h := lH hx; have hxl_h := lH hxl; have hxr_h := lH hxr; have hmat_h := lH hmat; have hcl_h := lH hcl; have hcr_h := lH hcr; have hhl_h := lH hhl; clear h hL hLm hx hxl hxr hmat hcl hcr hhl
 go_enter Tryz.func33, Tryz.ntmps33
 go_wp2_with (at_make; refine wpList_make_Sl _ rfl _ _ _ rfl 3 Tryz.underlying23 info_int n n rfl rfl rfl rfl (Nat.le_refl _) (by omega) (by unfold maxLen; omega) ?_; intro G w1 hs1 hG hb1)
 have hst : IS w1 (some G) n (cmbTo p n x L 0) := by unfold IS; rw [hcl_h.out]; show Sl _ _ _ _ _ _ (ints (List.replicate n 0)); rw [← madeZeros]; simpa using hs1
 clear hs1
 have hfG : Fresh w.heap.size (some G) := fun b hb => by
  obtain rfl : b = G.block := by simpa using hb
  exact hG
 have hst_h := lH hst; have hG_h := lH hG; have hb1_h := lH hb1; have hfG_h := lH hfG; clear hst hG hb1 hfG
 go_loopw [18] (fun i wr => ∃ k : Nat, k ≤ m ∧ i = .int .i64 k ∧ IS wr (some G) n (cmbTo p n x L k) ∧ Below w.heap.size w wr) (fun i _ => m - (intOf i).toNat)
 case atStart => exact ⟨0, Nat.zero_le _, rfl, hst_h.out, hb1_h.out⟩
 case round =>
  clear hst_h hb1_h
  obtain ⟨k, hk, rfl, his, hbr⟩ := hrel
  by_cases hlt : k < m
  · obtain ⟨ad, C, d, u, rfl, hu, hcu, hrd⟩ := (h_h.out.below hbr).at_ (k := k) (by rw [hhl_h.out]; exact hlt)
    have hLu : L[k]? = some u := by rw [← hL_h.out, List.getElem?_map, hu]; rfl
    have hgu : L.getD k [] = u := by rw [List.getD_eq_getElem?_getD, hLu]; rfl
    have hur := hmat_h.out.row u (List.mem_of_getElem? hLu)
    have hrd0 := h_h.out.2 _ (List.mem_of_getElem? hu)
    have hrd0 : RdI w C u := hrd0
    have hgy : x[k]? = some (x.getD k 0) := by rw [List.getD_eq_getElem?_getD, List.getElem?_eq_getElem (by rw [hxl_h.out]; exact hlt)]; rfl
    obtain ⟨y, hy⟩ : ∃ y, y = x.getD k 0 := ⟨_, rfl⟩
    rw [← hy] at hgy
    have hyb := hxr_h.out y (List.mem_of_getElem? hgy)
    have hstep : addT p (cmbTo p n x L k) y u = cmbTo p n x L (k + 1) := by rw [cmbTo, hy, hgu]
    have hul := hur.1
    have hur := hur.2
    rw [hul] at hcu
    have hkI : (k : Int) < (m : Int) := by omega
    obtain ⟨V, hV⟩ : ∃ V, V = cmbTo p n x L k := ⟨_, rfl⟩
    have hVl : V.length = n := by rw [hV]; exact hcl_h.out k
    have hVr : Res p V := by rw [hV]; exact hcr_h.out k
    rw [← hV] at his hstep
    obtain ⟨wo, rfl⟩ : ∃ z, z = wr := ⟨_, rfl⟩
    have hst2 : IS wo (some G) n ((addT p V y u).take 0 ++ V.drop 0) := by simpa using his
    have hal : (addT p V y u).length = n := by rw [addT_length, hVl]
    have hyb_h := lH hyb; have hur_h := lH hur; have hul_h := lH hul; have hrd0_h := lH hrd0; have hstep_h := lH hstep; have hV_h := lH hV; have hVl_h := lH hVl; have hVr_h := lH hVr; have hst2_h := lH hst2; have hbr_h := lH hbr; have hal_h := lH hal; have hgy_h := lH hgy; have hgu_h := lH hgu; have hLu_h := lH hLu; have hu_h := lH hu; clear hyb hur hul hrd0 hstep hV hVl hVr hst2 hbr hal hgy hgu hLu hu; clear his hrd hy
    go_wp2_with (fail)
    go_loopw [25] (fun i wr => ∃ j : Nat, j ≤ n ∧ i = .int .i64 j ∧ IS wr (some G) n ((addT p V y u).take j ++ V.drop j) ∧ Below w.heap.size w wr) (fun i _ => n - (intOf i).toNat)
    case atStart => exact ⟨0, Nat.zero_le _, rfl, hst2_h.out, hbr_h.out⟩
    case round =>
     clear hst2_h hbr_h
     obtain ⟨j, hj, rfl, his, hbr⟩ := hrel
     have hll : ((addT p V y u).take j ++ V.drop j).length = n := by rw [List.length_append, List.length_take, List.length_drop, hal_h.out, hVl_h.out]; omega
     by_cases hlt2 : j < n
     · obtain ⟨cd, z, rfl, hz, hcz⟩ := (hrd0_h.out.below hbr).at_ (j := j) (by rw [hul_h.out]; exact hlt2)
       obtain ⟨gd, v, hA, hv, hblt, hcv, hf⟩ := his.at_ (j := j) (by rw [hll]; exact hlt2)
       obtain rfl := Option.some.inj hA
       rw [get_take_drop (by simp) (by rw [hVl_h.out]; omega)] at hv
       obtain ⟨bd, y', rfl, hy', hcy⟩ := (hx_h.out.below hbr).at_ (j := k) (by rw [hxl_h.out]; exact hlt)
       obtain rfl : y' = y := by have := hgy_h.out; rw [hy'] at this; exact Option.some.inj this
       have hfz := hf j
       have hvb := hVr_h.out v (List.mem_of_getElem? hv)
       have hzb := hur_h.out z (List.mem_of_getElem? hz)
       have hyb := hyb_h.out
       have hbd := below_trans hbr (below_drewN (Below.refl wr.heap.size wr) 1) hbr.size
       have hset := (his.below (below_drewN (Below.refl wr.heap.size wr) 1)).set rfl ((v + y' * z) % p) (j := j) (by rw [hll]; exact hlt2)
       rw [take_append_step (by simp) (addT_get hv hz)] at hset
       have hset : IS (wr.drew.setCell (G.add j) (.int .i64 ((v + y' * z) % p))) (some G) n ((addT p V y' u).take (j + 1) ++ V.drop (j + 1)) := hset
       have hbs : Below w.heap.size w (wr.drew.setCell (G.add j) (.int .i64 ((v + y' * z) % p))) := hbd.setCell (p := G.add j) (by rw [block_of_add]; exact hG_h.out) (.int .i64 ((v + y' * z) % p))
       have d1 : wr.drew.cell? (cd.add j) = some (.int .i64 z) := hcz
       have d2 : wr.drew.cell? (G.add j) = some (.int .i64 v) := hcv
       have d3 : wr.drew.cell? (bd.add k) = some (.int .i64 y') := hcy
       have d4 : wr.drew.frozen? (G.add j) = false := hf j
       have hjI : (j : Int) < (n : Int) := by omega
       have hzy := Int.mul_le_mul (show y' ≤ 96 by omega) (show z ≤ 96 by omega) (by omega) (by omega)
       have hzy0 := Int.mul_nonneg hyb.1 hzb.1
       have e1 : IntKind.i64.wrap (y' * z) = y' * z := IntWalk.i64_in _ (by omega)
       have e2 : IntKind.i64.wrap (v + y' * z) = v + y' * z := IntWalk.i64_in _ (by omega)
       have e3 : (p == 0) = false := by rw [beq_eq_false_iff_ne]; omega
       have e4 : 0 ≤ v + y' * z := by omega
       have e5 : (v + y' * z).tmod p = (v + y' * z) % p := Int.tmod_eq_emod_of_nonneg e4
       have e6 : ¬ p = 0 := by omega
       have hset_h := lH hset; have hbs_h := lH hbs; clear hset hbs; clear his hv hf hz hy' hbr hll hzy hzy0 hyb hblt hbd
       go_wp2_with (fail)
       refine wp_region_still_tail 16 (by kernel_rfl) (by kernel_rfl) ?_
       simp only [List.take_succ_cons, List.take_zero, List.drop_succ_cons, List.drop_zero]
       change wpStill _ _ wr.drew (fun a' => wpList _ _ _ _ a' wr.drew) _ _
       clear hcz hcv hcy hfz
       repeat still_step
       refine wpStill_nil ?_
       go_wp2_with (fail)
       go_roundw
       case rel => exact ⟨j + 1, by omega, by go_num, hset_h.out, hbs_h.out⟩
       case measure => simp [intOf]; omega
     · obtain rfl : n = j := by omega
       have hfin : IS wr (some G) n (cmbTo p n x L (k + 1)) := by
        rw [← hstep_h.out]
        have := his
        rwa [List.take_of_length_le (by rw [hal_h.out]; exact Nat.le_refl _), List.drop_of_length_le (by rw [hVl_h.out]; exact Nat.le_refl _), List.append_nil] at this
       have hfin_h := lH hfin; have hbr_h := lH hbr; clear hfin hbr; clear his hll
       go_wp2_with (fail)
       go_roundw
       case rel => exact ⟨k + 1, by omega, by go_num, hfin_h.out, hbr_h.out⟩
       case measure => simp [intOf]; omega
  · obtain rfl : m = k := by omega
    have his_h := lH his; have hbr_h := lH hbr; clear his hbr
    go_wp2_with (fail)
    go_ret
    exact ⟨some G, n, by rw [hcl_h.out]; rfl, his_h.out, hfG_h.out, hbr_h.out⟩
section
variable {P : Program} {ops : Array Oper} {Q : Exit → Act → World → Prop} {md : Region.Mode} {z : Nat} {F : World → Prop}
def wpAnyZ (P : Program) (md : Region.Mode) (ops : Array Oper) (Q : Exit → Act → World → Prop) (z : Nat) (F : World → Prop) : Nat → Array Bool → Act → World → Prop
 | 0, listed, a, w => Region.ready md ops listed = [] ∧ Q .normal a w
 | fuel + 1, listed, a, w =>
   (Region.ready md ops listed = [] → Q .normal a w) ∧
   ∀ i ∈ Region.ready md ops listed, wpOp P ops Q i (fun a' w' => ((listed.setIfInBounds i true).getD z true = false → F w') ∧ wpAnyZ P md ops Q z F fuel (listed.setIfInBounds i true) a' w') a w
theorem wpAny_of_z : ∀ (fuel : Nat) (listed : Array Bool) (a : Act) (w : World), wpAnyZ P md ops Q z F fuel listed a w → wpAny P md ops Q fuel listed a w
 | 0, _, _, _, h => h
 | fuel + 1, _, _, _, h => ⟨h.1, fun i hi => wpOp_mono (fun a' w' h' => wpAny_of_z fuel _ a' w' h'.2) (h.2 i hi)⟩
end
section
variable {P : Program} {l : List Oper} {Q : Exit → Act → World → Prop} {md : Region.Mode} {z : Nat} {F : World → Prop}
theorem beginZ (z : Nat) (F : World → Prop) {id : Nat} {a : Act} {w : World} (hm : P.follows .mixedOrders = true) (h : wpAnyZ P .any l.toArray Q z F l.toArray.size (Array.replicate l.toArray.size false) a w.drew) : (Code.region id l.toArray true).wp P Q a w :=
 wp_region_any hm (wpAny_of_z _ _ _ _ h)
theorem beginZw (z : Nat) (F : World → Prop) {id : Nat} {a : Act} {w : World} (hm : P.follows .mixedOrders = true) (h : ∀ W1, W1 = w.drew → wpAnyZ P .any l.toArray Q z F l.toArray.size (Array.replicate l.toArray.size false) a W1) : (Code.region id l.toArray true).wp P Q a w :=
 beginZ z F hm (h _ rfl)
theorem oneZ (i : Nat) {o : Oper} {fuel : Nat} {listed : Array Bool} {a : Act} {w : World} {l' : List Oper} (hd : l.drop i = o :: l') (hr : Region.ready md l.toArray listed = [i]) (hw : Region.wanted o (yielded l.toArray a.tmps) = true)
  (h : ∀ K : Act → World → Prop, (∀ a' w', ((listed.setIfInBounds i true).getD z true = false → F w') → wpAnyZ P md l.toArray Q z F fuel (listed.setIfInBounds i true) a' w' → K a' w') → o.wp P a w K Q) : wpAnyZ P md l.toArray Q z F (fuel + 1) listed a w := by
 refine ⟨fun h0 => (by rw [hr] at h0; cases h0), fun j hj => ?_⟩
 rw [hr] at hj
 obtain rfl := List.mem_singleton.1 hj
 unfold wpOp
 simp only [at_drop hd, hw, if_true]
 exact .inl (h _ fun a' w' h1 h2 => ⟨h1, h2⟩)
theorem runZ (i : Nat) {o : Oper} {v : Value} {fuel : Nat} {listed : Array Bool} {a : Act} {w w1 : World} {l' : List Oper} (hd : l.drop i = o :: l') (hr : Region.ready md l.toArray listed = [i]) (hw : Region.wanted o (yielded l.toArray a.tmps) = true)
  (hrun : (execOp a.eval o).run P w = .ok (.value v) w1) (hS : (listed.setIfInBounds i true).getD z true = false → F w1) (h : wpAnyZ P md l.toArray Q z F fuel (listed.setIfInBounds i true) (a.put o.dst v) w1) : wpAnyZ P md l.toArray Q z F (fuel + 1) listed a w :=
 oneZ i hd hr hw fun K hK => by
  unfold Oper.wp
  rw [hrun]
  exact hK _ _ hS h
theorem callZ (i : Nat) {o : Oper} {f : FuncId} {args : Array Value} {fuel : Nat} {listed : Array Bool} {a : Act} {w : World} {l' : List Oper} (hd : l.drop i = o :: l') (hr : Region.ready md l.toArray listed = [i]) (hw : Region.wanted o (yielded l.toArray a.tmps) = true)
  (hrun : (execOp a.eval o).run P w = .ok (.enter f args) w)
  (h : Calls P f args w fun e w' => ∃ v, e = .returned v ∧ ((listed.setIfInBounds i true).getD z true = false → F w') ∧ wpAnyZ P md l.toArray Q z F fuel (listed.setIfInBounds i true) (a.put o.dst v) w') : wpAnyZ P md l.toArray Q z F (fuel + 1) listed a w := by
 refine oneZ i hd hr hw fun K hK => ?_
 unfold Oper.wp
 rw [hrun]
 exact h.mono fun e w' ⟨v, he, h1, h2⟩ => by subst he; exact hK _ _ h1 h2
theorem appZ (i : Nat) {o : Oper} {fuel : Nat} {listed : Array Bool} {a : Act} {w : World} {l' : List Oper} (hd : l.drop i = o :: l') (hr : Region.ready md l.toArray listed = [i]) (hw : Region.wanted o (yielded l.toArray a.tmps) = true)
  (s x : Operand) (t : TypeId) (ho : o.op = .call { callee := .builtin .append, args := #[s, x], argTypes := #[t, t] })
  (e : TypeId) {z0 : Value} {size bytes : Nat} (ht : P.underlying t = some (.slice e)) (hinfo : (P.info? e).map (fun i => (i.zero, i.size, i.bytes)) = some (some z0, size, bytes)) (hzs : z0.cells.size = size) (hsz : 0 < size)
  {A : Option Addr} {n cap : Nat} {xs : List Value} (he : a.eval s = .slice A n cap) (hs : Sl w e size A n cap xs)
  {B : Option Addr} {m c : Nat} {news : List Value} (hx : a.eval x = .slice B m c) (hl : news.length = m * size) (hrd : RdC w B news) (h1 : ∀ u ∈ news, u.oneCell' = true)
  (h63 : n + m ≤ maxLen) (hbytes : (n + m) * bytes ≤ 140737488355328)
  (h : ∀ A' cap' w', Sl w' e size A' (n + m) cap' (xs ++ news) → (∀ b, b ∈ fpA A' → b ∈ fpA A ∨ w.heap.size ≤ b) → Keeps (· ∈ fpA A) w w' → RdC w' A xs → ((listed.setIfInBounds i true).getD z true = false → F w') ∧ wpAnyZ P md l.toArray Q z F fuel (listed.setIfInBounds i true) (a.put o.dst (.slice A' (n + m) cap')) w') : wpAnyZ P md l.toArray Q z F (fuel + 1) listed a w := by
 obtain ⟨i', hi, hz, hz1, hz2⟩ := info_parts hinfo
 obtain ⟨A', cap', w', hrun, h2, h3, h4, h5⟩ := run_append_Sl_rd (P := P) w t o.type e i' z0 size bytes ht hi hz hz1 hz2 hzs hsz A n cap xs hs B m c news hl hrd h1 h63 hbytes
 obtain ⟨hS, hh⟩ := h A' cap' w' h2 h3 h4 h5
 refine runZ i hd hr hw (w1 := w') (v := .slice A' (n + m) cap') ?_ hS hh
 unfold execOp
 simp only [ho, resolve, invoke, builtin, Sem.run_bind, Sem.run_pure, Result.andThen_ok, List.map_toArray, List.map_cons, List.map_nil, he, hx, hrun]
theorem doneZ {fuel : Nat} {listed : Array Bool} {a : Act} {w : World} (hr : Region.ready md l.toArray listed = []) (h : Q .normal a w) : wpAnyZ P md l.toArray Q z F fuel listed a w := by
 cases fuel with
 | zero => exact ⟨hr, h⟩
 | succ f => exact ⟨fun _ => h, fun i hi => (by rw [hr] at hi; cases hi)⟩
end
section
variable {P : Program} {ops : Array Oper} {Q : Exit → Act → World → Prop} {md : Region.Mode} {z : Nat} {F : World → Prop}
theorem wpAnyZ_firstC {i : Nat} {oi : Oper} {v : Value} {C : List Nat} (hi : ops[i]? = some oi) (hsel : ∀ (j : Nat) (o : Oper) cs b, ops[j]? = some o → o.op ≠ .select cs b)
  (hQ : ∀ c a w, Q (.panic c) (a.put oi.dst v) w → Q (.panic c) a w) (hzC : z ∈ C) (hiC : ¬ i ∈ C) (hC : ∀ c ∈ C, ∃ oc, ops[c]? = some oc ∧ ∃ e ∈ oc.after, Region.binds md e = true ∧ (e.on = i ∨ e.on ∈ C)) :
  ∀ (fuel : Nat) (listed : Array Bool) (a : Act) (w : World), (∀ c ∈ C, listed.getD c true = false) →
    (∀ j oj, ops[j]? = some oj → j ≠ i → listed.getD j true = false → (∀ e ∈ oj.after, Region.binds md e = true → e.on ≠ i) → oi.apart ops oj = true) →
    i ∈ Region.ready md ops listed → YieldsIf P ops F oi v a → F w →
    wpAnyZ P md ops Q z F fuel (listed.setIfInBounds i true) (a.put oi.dst v) w → wpAnyZ P md ops Q z F (fuel + 1) listed a w := by
 intro fuel
 have hiz : i ≠ z := fun e => hiC (e ▸ hzC)
 induction fuel with
 | zero =>
   intro listed a w _ _ hr hy hS H
   refine ⟨fun h => (by rw [h] at hr; cases hr), fun j hj => ?_⟩
   by_cases hji : j = i
   · subst hji; exact hy.wpOp hi hS ⟨fun _ => hS, H⟩
   · have := ready_mono hj hji
     rw [H.1] at this
     cases this
 | succ fuel ih =>
   intro listed a w hlz hfree hr hy hS H
   refine ⟨fun h => (by rw [h] at hr; cases hr), fun j hj => ?_⟩
   by_cases hji : j = i
   · subst hji; exact hy.wpOp hi hS ⟨fun _ => hS, H⟩
   · have h1 := H.2 j (ready_mono hj hji)
     obtain ⟨hjun, oj, hoj, hall⟩ := mem_ready.1 hj
     have hblock : ∀ k, listed.getD k true = false → ∀ e ∈ oj.after, Region.binds md e = true → e.on ≠ k := fun k h0 e he hb heq => by
      have h1 := hall e he hb
      rw [heq] at h1
      rcases Nat.lt_or_ge k listed.size with h' | h'
      · simp [h'] at h0 h1; rw [h0] at h1; cases h1
      · simp [Array.getElem?_eq_none h'] at h1
     have hnot : ∀ e ∈ oj.after, Region.binds md e = true → e.on ≠ i := hblock i (mem_ready.1 hr).1
     have hjC : ¬ j ∈ C := fun hm => by
      obtain ⟨oc, hoc, e, he, hb, hon⟩ := hC j hm
      rw [hoj] at hoc
      obtain rfl := Option.some.inj hoc
      rcases hon with h | h
      · exact hnot e he hb h
      · exact hblock _ (hlz _ h) e he hb rfl
     have hjz : j ≠ z := fun e => hjC (e ▸ hzC)
     have h2 := wpOp_putIf hoj (hfree j oj hoj hji hjun hnot) (fun cs b => hsel i oi cs b hi) (fun cs b => hsel j oj cs b hoj) hQ hy h1
     have hfree' : ∀ k ok, ops[k]? = some ok → k ≠ i → (listed.setIfInBounds j true).getD k true = false →
       (∀ e ∈ ok.after, Region.binds md e = true → e.on ≠ i) → oi.apart ops ok = true := fun k ok hk hki hun hno => by
      refine hfree k ok hk hki ?_ hno
      by_cases hjk : j = k
      · subst hjk; exact hjun
      · rw [getD_set_ne true hjk] at hun; exact hun
     have hlz' : ∀ c ∈ C, (listed.setIfInBounds j true).getD c true = false := fun c hc => by
      have hjc : j ≠ c := fun e => hjC (by rw [e]; exact hc)
      rw [getD_set_ne true hjc]; exact hlz c hc
     have hlz2 : ((listed.setIfInBounds i true).setIfInBounds j true).getD z true = false := by rw [getD_set_ne true hjz, getD_set_ne true hiz]; exact hlz z hzC
     refine wpOp_mono (fun a' w' h3 => ⟨fun _ => h3.2.1 hlz2, ih (listed.setIfInBounds j true) a' w' hlz' hfree' (ready_mono hr (Ne.symm hji)) h3.1 (h3.2.1 hlz2) ?_⟩) h2
     rw [Array.setIfInBounds_comm _ _ hji]
     exact h3.2.2
def descC (md : Region.Mode) (ops : Array Oper) (i : Nat) : List Nat :=
 (List.range ops.size).foldl (fun acc k => if (i :: acc).any fun d => Region.waitsFor md ops k d then k :: acc else acc) []
def chainC (md : Region.Mode) (ops : Array Oper) (listed : Array Bool) (C : List Nat) (z i : Nat) : Bool :=
 C.contains z && !C.contains i && C.all fun c => !listed.getD c true && (i :: C).any fun d => Region.waitsFor md ops c d
end
section
variable {P : Program} {l : List Oper} {Q : Exit → Act → World → Prop} {md : Region.Mode} {z : Nat} {F : World → Prop}
theorem takeC (i : Nat) {oi : Oper} {v : Value} {fuel : Nat} {listed : Array Bool} {a : Act} {w : World} {l' : List Oper} (hd : l.drop i = oi :: l')
  (hs : Region.noSelect l.toArray = true) (hf : Region.free md l.toArray listed i = true) (hr : (Region.ready md l.toArray listed).contains i = true) (hz : chainC md l.toArray listed (descC md l.toArray i) z i = true)
  (hQ : ∀ c a w, Q (.panic c) (a.put oi.dst v) w → Q (.panic c) a w) (hS : F w) (hw : Region.wanted oi (yielded l.toArray a.tmps) = true) (hy : ∀ w, F w → (execOp a.eval oi).run P w = .ok (.value v) w)
  (h : wpAnyZ P md l.toArray Q z F fuel (listed.setIfInBounds i true) (a.put oi.dst v) w) : wpAnyZ P md l.toArray Q z F (fuel + 1) listed a w := by
 simp only [chainC, Bool.and_eq_true, Bool.not_eq_true', List.all_eq_true, List.any_eq_true] at hz
 obtain ⟨⟨h1, h2⟩, h3⟩ := hz
 refine wpAnyZ_firstC (C := descC md l.toArray i) (at_drop hd) (Region.noSelect_spec hs) hQ (by simpa using h1) (by simpa using h2) (fun c hc => ?_) fuel listed a w (fun c hc => (h3 c hc).1) (Region.free_spec (at_drop hd) hf) (by simpa using hr) (.inl ⟨hw, hy⟩) hS h
 obtain ⟨-, d, hd', hwt⟩ := h3 c hc
 obtain ⟨oz, hoz, e, he, hb, heq⟩ := Region.waitsFor_spec hwt
 refine ⟨oz, hoz, e, he, hb, ?_⟩
 rw [heq]
 rcases List.mem_cons.1 hd' with h | h
 · exact .inl h
 · exact .inr h
theorem tkC (i : Nat) {oi : Oper} (v : Value) {fuel : Nat} {listed : Array Bool} {a : Act} {w : World} {l' : List Oper} (hd : l.drop i = oi :: l') (hS : F w) (hy : ∀ w, F w → (execOp a.eval oi).run P w = .ok (.value v) w)
 (h : wpAnyZ P md l.toArray Q z F fuel (listed.setIfInBounds i true) (a.put oi.dst v) w) (hs : Region.noSelect l.toArray = true := by kernel_rfl) (hf : Region.free md l.toArray listed i = true := by kernel_rfl) (hr : (Region.ready md l.toArray listed).contains i = true := by kernel_rfl) (hz : chainC md l.toArray listed (descC md l.toArray i) z i = true := by kernel_rfl)
 (hQ : ∀ c a w, Q (.panic c) (a.put oi.dst v) w → Q (.panic c) a w := by exact fun _ _ _ h => h) (hw : Region.wanted oi (yielded l.toArray a.tmps) = true := by rfl) : wpAnyZ P md l.toArray Q z F (fuel + 1) listed a w := takeC i hd hs hf hr hz hQ hS hw hy h
end
theorem OM.grow {w0 w w1 w2 : World} {A : Option Addr} {cap : Nat} {L : List (List Int)} (h : OM w0 w A cap L) {i : Nat} (hi : i < L.length) {ad : Addr} (hA : A = some ad) {B : Option Addr} {n c : Nat} (hc : w.cell? (ad.add i) = some (.slice B n c)) (hb : Below w.heap.size w w1) {B' : Option Addr} {c' : Nat} {l' : List Int} (hx : IS w2 B' c' l') (hf1 : ∀ b, b ∈ fpA B' → b ∈ fpA B ∨ w.heap.size ≤ b) (hkB : Keeps (· ∈ fpA B) w1 w2) :
  OM w0 (w2.setCell (ad.add i) (.slice B' l'.length c')) A cap (L.set i l') := by
 subst hA
 obtain ⟨hs, rfl, hO, hf, h0⟩ := h
 have hi' : i < hs.length := by simpa using hi
 obtain ⟨ad', B0, c0, l0, hA', hx0, hc', _, _⟩ := hO.get (i := i) hi'
 obtain rfl := Option.some.inj hA'
 rw [hc] at hc'
 injection hc' with hc'
 injection hc' with e1 e2 e3
 subst e1
 have hm0 := List.mem_of_getElem? hx0
 have hAl : ∀ b, b ∈ fpA (some ad) → b < w.heap.size := fun b hb' => hO.sl.lt b hb'
 have hRl : ∀ y, y ∈ hs → (∀ b, b ∈ fpA y.1 → b < w.heap.size) := fun y hy b hb' => (hO.rows y hy).lt b hb'
 have hBA : ∀ b, b ∈ fpA B → ¬ b ∈ fpA (some ad) := fun b hb' => hO.outer _ hm0 b hb'
 have hk : Keeps (· ∈ fpA (some ad)) w2 (w2.setCell (ad.add i) (.slice B' l'.length c')) := (Keeps.refl _ w2).setCell (p := ad.add i) (by rw [block_of_add]; simp) _
 have hget : ∀ (k : Nat) (x : Hd), (hs.set i (B', c', l'))[k]? = some x → (k = i ∧ x = (B', c', l')) ∨ (k ≠ i ∧ hs[k]? = some x) := by
  intro k x hx
  rw [List.getElem?_set] at hx
  split at hx
  · rename_i hk; subst hk
    simp at hx
    exact .inl ⟨rfl, hx.symm⟩
  · rename_i hk; exact .inr ⟨fun e => hk e.symm, hx⟩
 have hsz := h0.size
 have hbs := hb.size
 refine ⟨hs.set i (B', c', l'), by rw [List.map_set], ⟨?_, fun x hx' => ?_, ?_, fun x hx' b hb1 hb2 => ?_⟩, fun b hb' => ?_, ?_⟩
 · have := ((hO.sl.below hb).keeps hkB (fun b hb1 hb2 => hBA b hb2 hb1)).set (ad := ad) rfl i (Hd.val (B', c', l')) (by simpa using hi')
   rw [← List.map_set] at this
   rw [List.length_set]; exact this
 · obtain ⟨k, hk', rfl⟩ := List.getElem_of_mem hx'
   rcases hget k _ (List.getElem?_eq_getElem hk') with ⟨_, e⟩ | ⟨hne, e⟩
   · rw [e]
     exact hx.keeps hk fun b hb' hb'' => by
      rcases hf1 b hb' with h1 | h1
      · exact hBA b h1 hb''
      · have := hAl b hb''
        omega
   · exact ((hO.rows _ (List.mem_of_getElem? e)).below hb |>.keeps hkB (fun b hb1 hb2 => hO.apart_get e hx0 hne b hb1 hb2)).keeps hk fun b hb' => hO.outer _ (List.mem_of_getElem? e) b hb'
 · refine List.pairwise_iff_getElem.2 fun a b ha hb' hab c'' h1 h2 => ?_
   rcases hget a _ (List.getElem?_eq_getElem ha) with ⟨ea, e1⟩ | ⟨ea, e1⟩ <;> rcases hget b _ (List.getElem?_eq_getElem hb') with ⟨eb, e2⟩ | ⟨eb, e2⟩
   · omega
   · rw [e1] at h1
     have h3 := hRl _ (List.mem_of_getElem? e2) c'' h2
     rcases hf1 c'' h1 with h4 | h4
     · exact hO.apart_get e2 hx0 eb c'' h2 h4
     · omega
   · rw [e2] at h2
     have h3 := hRl _ (List.mem_of_getElem? e1) c'' h1
     rcases hf1 c'' h2 with h4 | h4
     · exact hO.apart_get e1 hx0 ea c'' h1 h4
     · omega
   · exact hO.apart_get e1 e2 (by omega) c'' h1 h2
 · rcases List.mem_or_eq_of_mem_set hx' with hx' | hx'
   · exact hO.outer x hx' b hb1 hb2
   · subst hx'
     rcases hf1 b hb1 with h1 | h1
     · exact hBA b h1 hb2
     · have := hAl b hb2
       omega
 · rcases List.mem_append.1 hb' with hb' | hb'
   · exact hf b (List.mem_append_left _ hb')
   · obtain ⟨y, hy, hb'⟩ := mem_fpR.1 hb'
     rcases List.mem_or_eq_of_mem_set hy with hy | hy
     · exact hf b (List.mem_append_right _ (mem_fpR.2 ⟨_, hy, hb'⟩))
     · subst hy
       rcases hf1 b hb' with h1 | h1
       · exact hf b (List.mem_append_right _ (mem_fpR.2 ⟨_, hm0, h1⟩))
       · omega
 · have hB2 := below_keeps (below_trans h0 hb hsz) hkB (by omega) fun b hb' => hf b (List.mem_append_right _ (mem_fpR.2 ⟨_, hm0, hb'⟩))
   exact below_keeps hB2 hk hB2.size fun b hb' => hf b (List.mem_append_left _ hb')
theorem IS.ne_out {w : World} {A B : Option Addr} {c n cap : Nat} {l : List Int} {xs : List Value} (h : IS w A c l) (h' : Sl w 23 1 B n cap xs) : ∀ x, x ∈ fpA A → x ∉ fpA B := by
 intro x hx hx'
 rcases h.2.2.2 with ⟨rfl, _⟩ | ⟨g, off, cur, rfl, hg, _⟩
 · simp at hx
 rcases h'.2.2.2 with ⟨rfl, _⟩ | ⟨g', off', cur', rfl, hg', _⟩
 · simp at hx'
 simp at hx hx'
 subst hx
 subst hx'
 rw [hg] at hg'
 injection hg' with hg'
 injection hg' with _ h2 _
 exact absurd h2 (by decide)
structure RwI (w0 w : World) (A : Option Addr) (cap : Nat) (hs : List Hd) : Prop where
 sl : Sl w 23 1 A hs.length cap (hs.map Hd.val)
 rows : ∀ x, x ∈ hs → IS w x.1 x.2.1 x.2.2
 new : ∀ b, b ∈ fpA A → w0.heap.size ≤ b
 below_ : Below w0.heap.size w0 w
theorem RwI.nil (w0 w : World) (hb : Below w0.heap.size w0 w) : RwI w0 w none 0 [] := ⟨Sl.nil _ _ _, fun x hx => (by cases hx), fun b hb' => (by simp at hb'), hb⟩
theorem RwI.below {w0 w w' : World} {A : Option Addr} {cap : Nat} {hs : List Hd} (h : RwI w0 w A cap hs) (hb : Below w.heap.size w w') : RwI w0 w' A cap hs :=
 ⟨h.sl.below hb, fun x hx => (h.rows x hx).below hb, h.new, below_trans h.below_ hb h.below_.size⟩
theorem RwI.rdr {w0 w : World} {A : Option Addr} {cap : Nat} {hs : List Hd} (h : RwI w0 w A cap hs) : RdR w A hs :=
 ⟨fun i x hi => by obtain ⟨ad, hA, _, hc, _⟩ := h.sl.cell (j := i) (u := x.val) (by simp [hi]); exact ⟨ad, hA, by simpa using hc⟩, fun x hx => (h.rows x hx).rd⟩
theorem RwI.app {w0 w w1 w2 : World} {A : Option Addr} {cap : Nat} {hs ys : List Hd} (h : RwI w0 w A cap hs) (hb : Below w.heap.size w w1) (hy : ∀ x, x ∈ ys → IS w1 x.1 x.2.1 x.2.2) {A' : Option Addr} {cap' n : Nat} (hn : n = hs.length + ys.length) (hs' : Sl w2 23 1 A' n cap' (hs.map Hd.val ++ ys.map Hd.val)) (hA' : ∀ b, b ∈ fpA A' → b ∈ fpA A ∨ w1.heap.size ≤ b) (hk : Keeps (· ∈ fpA A) w1 w2) : RwI w0 w2 A' cap' (hs ++ ys) := by
 subst hn
 have h1 := h.below hb
 refine ⟨by rw [List.length_append, List.map_append]; exact hs', fun x hx => ?_, fun b hb' => ?_, below_keeps h1.below_ hk h1.below_.size h.new⟩
 · rcases List.mem_append.1 hx with hx | hx
   · exact (h1.rows x hx).keeps hk ((h1.rows x hx).ne_out h1.sl)
   · exact (hy x hx).keeps hk ((hy x hx).ne_out h1.sl)
 · rcases hA' b hb' with h2 | h2
   · exact h.new b h2
   · have := h1.below_.size; omega
theorem mem_edWd {es : List Eg} {e : Eg} (he : e ∈ es) {x : Int} (hx : x ∈ e.2.2.1 ++ e.2.2.2) : x ∈ edW es := by
 induction es with
 | nil => cases he
 | cons a r ih =>
   unfold edW
   rcases List.mem_cons.1 he with rfl | he
   · rcases List.mem_append.1 hx with h | h
     · exact List.mem_append_left _ h
     · exact List.mem_append_right _ (List.mem_append_left _ h)
   · exact List.mem_append_right _ (List.mem_append_right _ (ih he))
structure DnOk (p : Int) (g : Gr) : Prop where
 fld : fieldB p = true
 lo : 0 ≤ g.1
 hi : g.1 ≤ 100
 len : g.2.1.length ≤ 60
 li : g.2.2.1.length ≤ 12
 lo' : g.2.2.2.length ≤ 12
 ends : ∀ x, x ∈ g.2.2.1 ++ g.2.2.2 → 0 ≤ x ∧ x < g.1
 edge : ∀ e, e ∈ g.2.1 → (3 ≤ e.1 ∧ e.1 ≤ 14) ∧ ((e.2.2.1.length : Int), (e.2.2.2.length : Int)) = kindTy e.1 ∧ (∀ x, x ∈ e.2.2.1 ++ e.2.2.2 → 0 ≤ x ∧ x < g.1) ∧ 0 ≤ e.2.1 ∧ e.2.1 < p ∧ e.1 ≠ 8 ∧ e.1 ≠ 14
theorem DnOk.of {p : Int} {g : Gr} (h : dnAskB p g = true) : DnOk p g := by
 unfold dnAskB gOverB grB at h
 simp only [Bool.and_eq_true, List.all_eq_true, decide_eq_true_eq] at h
 obtain ⟨⟨h1, ⟨⟨h2, h3, h4, h5⟩, h6, h7, _⟩, h8⟩, h9⟩ := h
 unfold t_inB at h2
 have h2 := of_decide_eq_true h2
 have hw := inW_iff.1 h7
 refine ⟨h1, h2.1, h2.2, h3, h4, h5, fun x hx => hw x ?_, fun e he => ?_⟩
 · unfold t_allW
   rcases List.mem_append.1 hx with h | h
   · exact List.mem_append_left _ h
   · exact List.mem_append_right _ (List.mem_append_left _ h)
 · have h10 := h6 e he
   unfold egB at h10
   simp only [Bool.and_eq_true, decide_eq_true_eq] at h10
   obtain ⟨k1, k2, k3⟩ := h10
   unfold t_inB at k1
   have k1 := of_decide_eq_true k1
   have h11 := h9 e he
   unfold noDl at h11
   simp only [Bool.and_eq_true, decide_eq_true_eq] at h11
   refine ⟨k1, k3, fun x hx => hw x ?_, ?_, h8 e he, h11.1, h11.2⟩
   · unfold t_allW
     exact List.mem_append_right _ (List.mem_append_right _ (mem_edWd he hx))
   · unfold gvB at k2
     split at k2
     · unfold t_inB at k2
       exact (of_decide_eq_true k2).1
     · have := of_decide_eq_true k2; omega
theorem dnRowsM_len (p : Int) (n : Nat) (e : Eg) : (dnRowsM p n e).length ≤ 2 := by
 unfold dnRowsM
 repeat' split
 all_goals simp
theorem dnRowsM_mat {p : Int} (hp : 0 < p) (n : Nat) (e : Eg) : ∀ v, v ∈ dnRowsM p n e → v.length = n ∧ Res p v := by
 have h : ∀ a b, (sprV p n a b).length = n ∧ Res p (sprV p n a b) := fun a b => ⟨sprTo_length _ _ _ _ _, sprTo_res hp _ _ _ _⟩
 intro v hv
 unfold dnRowsM at hv
 split at hv
 · simp only [List.mem_cons, List.not_mem_nil, or_false] at hv
   rcases hv with rfl | rfl <;> exact h _ _
 · split at hv
   · simp only [List.mem_cons, List.not_mem_nil, or_false] at hv
     subst hv; exact h _ _
   · split at hv
     · simp only [List.mem_cons, List.not_mem_nil, or_false] at hv
       subst hv; exact h _ _
     · split at hv
       · simp only [List.mem_cons, List.not_mem_nil, or_false] at hv
         subst hv; exact h _ _
       · cases hv
theorem eqs_mat {p : Int} (hp : 0 < p) (n : Nat) (es : List Eg) : Mat p (es.flatMap (dnRowsM p n)).length n (es.flatMap (dnRowsM p n)) := ⟨rfl, fun v hv => by
 obtain ⟨e, _, hv⟩ := List.mem_flatMap.1 hv
 exact dnRowsM_mat hp n e v hv⟩
theorem rdc_vals {w : World} {A : Option Addr} {hs : List Hd} (h : RdR w A hs) : RdC w A (hs.map Hd.val) := fun j u hj => by
 rw [List.getElem?_map] at hj
 cases hx : hs[j]? with
 | none => rw [hx] at hj; cases hj
 | some x =>
   rw [hx] at hj
   obtain rfl : x.val = u := by simpa using hj
   exact h.1 j x hx
theorem vals_one (hs : List Hd) : ∀ u ∈ hs.map Hd.val, u.oneCell' = true := fun u hu => by
 obtain ⟨x, _, rfl⟩ := List.mem_map.1 hu
 exact Hd.val_one x
set_option maxRecDepth 100000 in
set_option maxHeartbeats 2000000 in
theorem dnValues_any (p : Int) {v : Value} {g : Gr} (w : World) (h : RdGr w v g) (ok : OkG g) (hd : DnOk p g) :
  Calls Tryz.prog 30 #[.int .i64 p, v] w (RetSS w (nullM p g.1.toNat (dnEqs p g))) := by
 obtain ⟨A, c, hs, ⟨B, b, s⟩, ⟨C, d, t⟩, rfl, e1, e2, e3, hE, hRa, hRb⟩ := id h
 obtain ⟨z, es, s0, t0⟩ := g
 have a1 : es = hs.map egOf := e1
 have a2 : s = s0 := e2
 have a3 : t = t0 := e3
 subst a2 a3
 clear e1 e2 e3
 obtain ⟨m, hm⟩ : ∃ m, m = hs.length := ⟨_, rfl⟩
 have hmes : es.length = m := by rw [a1, List.length_map, hm]
 have hm20 : m ≤ 1048576 := by rw [← hmes]; exact ok.1.1
 change RdGr w (.agg #[.int .i64 z, .slice A hs.length c, .slice B s.length b, .slice C t.length d]) (z, es, s, t) at h
 show Calls Tryz.prog _ #[.int .i64 p, .agg #[.int .i64 z, .slice A hs.length c, .slice B s.length b, .slice C t.length d]] w _
 rw [← hm] at h ⊢
 obtain ⟨W, hW, bW, k0⟩ := (⟨_, rfl, below_alloc _ _, heap_alloc_new _ _⟩ : ∃ W, W = w.alloc (.cells #[.int .i64 z, .slice A m c, .slice B s.length b, .slice C t.length d] tGr) ∧ Below w.heap.size w W ∧ W.heap[w.heap.size]? = some (.cells #[.int .i64 z, .slice A m c, .slice B s.length b, .slice C t.length d] tGr))
 obtain ⟨⟨c0, c1, c2, c3⟩, f0, f1, f2, f3⟩ := box4 k0
 obtain ⟨n, hn⟩ : ∃ n, n = z.toNat := ⟨_, rfl⟩
 have hz0 : 0 ≤ z := hd.lo
 have hz1 : z ≤ 100 := hd.hi
 have hzn : z = (n : Int) := by omega
 have hpb := fieldB_bounds hd.fld
 have hes60 : m ≤ 60 := by rw [← hmes]; exact hd.len
 have hedge : ∀ e, e ∈ es → (3 ≤ e.1 ∧ e.1 ≤ 14) ∧ ((e.2.2.1.length : Int), (e.2.2.2.length : Int)) = kindTy e.1 ∧ (∀ x, x ∈ e.2.2.1 ++ e.2.2.2 → 0 ≤ x ∧ x < (n : Int)) ∧ 0 ≤ e.2.1 ∧ e.2.1 < p := fun e he => by
  obtain ⟨x1, x2, x3, x4, x5, _⟩ := hd.edge e he
  exact ⟨x1, x2, fun x hx => by rw [← hzn]; exact x3 x hx, x4, x5⟩
 have hmat := eqs_mat (p := p) (by omega) n es
 obtain ⟨X, hX⟩ : ∃ X, X = es.flatMap (dnRowsM p n) := ⟨_, rfl⟩
 rw [← hX] at hmat
 have hXE : dnEqs p (z, es, s, t) = X := by rw [hX, hn]; rfl
 rw [hXE]
 show Calls Tryz.prog _ _ w (RetSS w (nullM p z.toNat X))
 rw [← hn]
 have hE0 := hE.below bW
 have hfld := hd.fld
 have hN0 := RwI.nil W W (Below.refl _ _)
 have hn100 : n ≤ 100 := by omega
 clear h hd ok hE hRa hRb hz0 hz1
 subst hzn
 clear hn; have hm_h := lH hm; have hmes_h := lH hmes; have a1_h := lH a1; have hE0_h := lH hE0; have k0_h := lH k0; have bW_h := lH bW; have hedge_h := lH hedge; have hmat_h := lH hmat; have hX_h := lH hX; have hfld_h := lH hfld; have hN0_h := lH hN0; have hpb_h := lH hpb; clear hm hmes a1 hE0 k0 bW hedge hmat hX hfld hN0 hpb
 go_enter Tryz.func30, Tryz.ntmps30
 go_upto_region 1 with (fail)
 rw [← hW]
 clear hW
 go_wp2_with (fail)
 clear c0 c1 c2 c3 f0 f1 f2 f3
 go_loopw [11, 5] (fun i v wr => ∃ (k : Nat) (A' : Option Addr) (c' : Nat) (ys : List Hd) (q : Nat), k ≤ m ∧ i = .int .i64 k ∧ v = .slice A' q c' ∧ ys.length = q ∧ q ≤ 2 * k ∧ ys.map (fun h : Hd => h.2.2) = (es.take k).flatMap (dnRowsM p n) ∧ RwI W wr A' c' ys) (fun i _ _ => m - (intOf i).toNat)
 case atStart => exact ⟨0, none, 0, [], 0, Nat.zero_le _, rfl, rfl, rfl, Nat.zero_le _, rfl, hN0_h.out⟩
 case round =>
  clear hN0_h
  obtain ⟨k, A', c', ys, q, hk, rfl, rfl, hyl, hq2, hym, hO⟩ := hrel
  obtain ⟨wo, rfl⟩ : ∃ x, x = wr := ⟨_, rfl⟩
  have hbr := hO.below_
  by_cases hlt : k < m
  · obtain ⟨ad, κ, v, B', b', l, C', e', mm, rfl, hx, ⟨d0, d1, d2, d3⟩, hrl, hrm⟩ := (hE0_h.out.below hbr).at_ (j := k) (by rw [← hm_h.out]; exact hlt)
    have hxe : es[k]? = some (κ, v, l, mm) := by rw [a1_h.out, List.getElem?_map, hx]; rfl
    have hkI : (k : Int) < (m : Int) := by omega
    obtain ⟨x1, x2, x3, x4, x5⟩ := hedge_h.out _ (List.mem_of_getElem? hxe)
    obtain ⟨wN, hwN⟩ : ∃ wN, wN = wo.alloc (.cells #[.int .i64 κ, .int .i64 v, .slice B' l.length b', .slice C' mm.length e'] tEd) := ⟨_, rfl⟩
    have hbN : Below wo.heap.size wo wN := by rw [hwN]; exact below_alloc _ _
    have kN : wN.heap[wo.heap.size]? = some (.cells #[.int .i64 κ, .int .i64 v, .slice B' l.length b', .slice C' mm.length e'] tEd) := by rw [hwN]; exact heap_alloc_new _ _
    have hC := dnRows_any p n κ v B' C' b' e' l mm wN (hrl.below hbN) (hrm.below hbN) x1 x2 x3 x4 x5 hpb_h.out.1 hpb_h.out.2 (by omega)
    have hkt : (es.take (k + 1)).flatMap (dnRowsM p n) = (es.take k).flatMap (dnRowsM p n) ++ dnRowsM p n (κ, v, l, mm) := by rw [List.take_add_one, hxe]; simp
    have hR2 := dnRowsM_len p n (κ, v, l, mm)
    obtain ⟨L, hL⟩ : ∃ L, L = dnRowsM p n (κ, v, l, mm) := ⟨_, rfl⟩
    rw [← hL] at hC hkt hR2
    obtain ⟨r, hr⟩ : ∃ r, r = L.length := ⟨_, rfl⟩
    unfold RetRc at hC
    rw [← hr] at hC hR2
    have k0r := box_below (box_below k0_h.out hbr) hbN
    obtain ⟨⟨c0, c1, c2, c3⟩, f0, f1, f2, f3⟩ := box4 k0r
    obtain ⟨⟨g0, g1, g2, g3⟩, j0, j1, j2, j3⟩ := box4 kN
    have k0w := box_below k0_h.out hbr
    clear hx hrl hrm x1 x2 x3 x4 x5 hL k0r; have hC_h := lH hC; have hkt_h := lH hkt; have hr_h := lH hr; have hbN_h := lH hbN; have kN_h := lH kN; have hxe_h := lH hxe; have hyl_h := lH hyl; have hym_h := lH hym; have hO_h := lH hO; have hbr_h := lH hbr; have k0w_h := lH k0w; clear hC hkt hr hbN kN hxe hyl hym hO hbr k0w
    go_upto_region 5 with (fail)
    rw [← hwN]
    clear hwN d0 d1 d2 d3
    go_wp2_with (fail)
    refine (hC_h.out).mono ?_
    rintro e w3 ⟨vr, rfl, ⟨A5, c5, hs5, rfl, hl5, hm5, hr5, hi5⟩, hb3⟩
    clear c0 c1 c2 c3 f0 f1 f2 f3 g0 g1 g2 g3 j0 j1 j2 j3
    have hba := below_trans hbN_h.out hb3 hbN_h.out.size
    have hsl : Sl w3 23 1 A' q c' (ys.map Hd.val) := by
     have := hO_h.out.sl.below hba
     rwa [hyl_h.out] at this
    have hnl : (hs5.map Hd.val).length = r * 1 := by rw [List.length_map, hl5, Nat.mul_one]
    have hrdc := rdc_vals hr5
    have hba_h := lH hba; have hsl_h := lH hsl; have hnl_h := lH hnl; have hrdc_h := lH hrdc; have hm5_h := lH hm5; have hi5_h := lH hi5; have hl5_h := lH hl5; have hb3_h := lH hb3; clear hba hsl hnl hrdc hm5 hi5 hl5 hb3; clear hr5
    go_wp2_with (at_builtin; refine wpList_append_Sl _ rfl _ _ _ rfl 23 Tryz.underlying52 info_ints rfl (by omega) rfl hsl_h.out rfl hnl_h.out hrdc_h.out (vals_one hs5) (by unfold maxLen; omega) (by omega) ?_; intro A3 c3' w5 hsA3 hA3 hkA3)
    have hO2 := hO_h.out.app hba_h.out (ys := hs5) hi5_h.out (n := q + r) (by rw [hyl_h.out, hl5_h.out]) hsA3 hA3 hkA3
    clear hsA3 hA3 hkA3; have hO2_h := lH hO2; clear hO2
    go_roundw
    case rel => exact ⟨k + 1, A3, c3', ys ++ hs5, q + r, by omega, by go_num, rfl, by rw [List.length_append, hyl_h.out, hl5_h.out], by omega, by rw [List.map_append, hym_h.out, hkt_h.out, hm5_h.out], hO2_h.out⟩
    case measure => simp [intOf]; omega
  · obtain rfl : m = k := by omega
    have hym2 : ys.map (fun h : Hd => h.2.2) = X := by rw [hym, List.take_of_length_le (by rw [hmes_h.out]; exact Nat.le_refl _), hX_h.out]
    have hXl : X.length = q := by rw [← hym2, List.length_map, hyl]
    have hC := spNull_any p n A' c' ys wo hO.rdr hfld_h.out (by rw [hym2, hyl]; have := hmat_h.out; rwa [hXl] at this) (by omega) (by omega)
    rw [hym2, hyl] at hC
    have k0r := box_below k0_h.out hbr
    obtain ⟨⟨c0, c1, c2, c3⟩, f0, f1, f2, f3⟩ := box4 k0r
    have hbf := below_trans bW_h.out hbr bW_h.out.size
    clear hym hO k0r hXl hym2 hyl hbr; have hC_h := lH hC; have hbf_h := lH hbf; clear hC hbf
    go_wp2_with (fail)
    refine (hC_h.out).mono ?_
    rintro e w1 hret
    obtain ⟨A1, c1', rfl, hO1⟩ := hret.om
    have hfin := hret.mono hbf_h.out
    go_wp2_with (fail)
    go_ret
    exact hfin
abbrev tMat : TypeId := 55
def OMx (w0 : World) (bx : Nat) (w : World) (A : Option Addr) (cap : Nat) (L : List (List Int)) : Prop :=
 ∃ hs : List Hd, L = hs.map (fun h : Hd => h.2.2) ∧ OwR w A cap hs ∧ (∀ b, b ∈ fpA A ++ fpR hs → w0.heap.size ≤ b ∧ b ≠ bx) ∧ Below w0.heap.size w0 w ∧ w0.heap.size ≤ bx ∧ bx < w.heap.size
section
variable {w0 w w' : World} {bx : Nat} {A : Option Addr} {cap : Nat} {L : List (List Int)}
theorem OMx.om (h : OMx w0 bx w A cap L) : OM w0 w A cap L := by
 obtain ⟨hs, hL, hO, hf, h0, _⟩ := h
 exact ⟨hs, hL, hO, fun b hb => (hf b hb).1, h0⟩
theorem OMx.below_ (h : OMx w0 bx w A cap L) : Below w0.heap.size w0 w := h.om.below_
theorem OMx.nil (h0 : Below w0.heap.size w0 w) (h1 : w0.heap.size ≤ bx) (h2 : bx < w.heap.size) : OMx w0 bx w none 0 [] :=
 ⟨[], rfl, OwR.nil w, fun b hb => by simp [fpR] at hb, h0, h1, h2⟩
theorem OMx.below (h : OMx w0 bx w A cap L) (hb : Below w.heap.size w w') : OMx w0 bx w' A cap L := by
 obtain ⟨hs, hL, hO, hf, h0, h1, h2⟩ := h
 exact ⟨hs, hL, hO.below hb, hf, below_trans h0 hb h0.size, h1, Nat.lt_of_lt_of_le h2 hb.size⟩
theorem OMx.store (h : OMx w0 bx w A cap L) (hk : Keeps (· = bx) w w') : OMx w0 bx w' A cap L := by
 obtain ⟨hs, hL, hO, hf, h0, h1, h2⟩ := h
 exact ⟨hs, hL, hO.keeps hk fun b hb e => (hf b hb).2 e, hf, below_keeps h0 hk h0.size fun k e => by subst e; exact h1, h1, Nat.lt_of_lt_of_le h2 hk.size⟩
theorem OMx.snoc {w1 w2 : World} {hs : List Hd} (hL : L = hs.map (fun h : Hd => h.2.2)) (hO : OwR w A cap hs) (hf : ∀ b, b ∈ fpA A ++ fpR hs → w0.heap.size ≤ b ∧ b ≠ bx) (h0 : Below w0.heap.size w0 w) (h1 : w0.heap.size ≤ bx) (h2 : bx < w.heap.size) {l : List Int} {B : Option Addr} {c : Nat} (hb : Below w.heap.size w w1) (hx : IS w1 B c l) (hf1 : Fresh w.heap.size B)
  {A' : Option Addr} {cap' n : Nat} (hn : n = hs.length + 1) (hs' : Sl w2 23 1 A' n cap' (hs.map Hd.val ++ [.slice B l.length c])) (hA' : ∀ b, b ∈ fpA A' → b ∈ fpA A ∨ w1.heap.size ≤ b) (hk : Keeps (· ∈ fpA A) w1 w2) : OMx w0 bx w2 A' cap' (L ++ [l]) := by
 subst hL hn
 have hbw := below_trans h0 hb h0.size
 have hz := hb.size
 have hz2 := hk.size
 refine ⟨hs ++ [(B, c, l)], by simp, hO.snoc hb (x := (B, c, l)) hx hf1 (by simpa [Hd.val] using hs') hA' hk, fun b hb' => ?_, below_keeps hbw hk hbw.size fun b hb' => (hf b (List.mem_append_left _ hb')).1, h1, by omega⟩
 rcases List.mem_append.1 hb' with hb' | hb'
 · rcases hA' b hb' with h3 | h3
   · exact hf b (List.mem_append_left _ h3)
   · have := hbw.size; omega
 · rcases fpR_snoc hs (B, c, l) b hb' with h3 | h3
   · exact hf b (List.mem_append_right _ h3)
   · have := hf1 b h3; have := h0.size; omega
end
section
variable {P : Program}
theorem run_makeOpM {o : Oper} {a : Act} {w : World} (lo c : Operand) (t : TypeId) (ho : o.op = .makeSlice t lo c) (e : TypeId) {z : Value} {size bytes : Nat} (ht : P.underlying t = some (.slice e)) (hinfo : (P.info? e).map (fun i => (i.zero, i.size, i.bytes)) = some (some z, size, bytes))
  (n : Nat) (hel : a.eval lo = .int .i64 (n : Int)) (hec : a.eval c = .int .i64 (n : Int)) (hbytes : bytes * n ≤ 281474976710656) (h63 : n ≤ maxLen) :
  (execOp a.eval o).run P w = .ok (.value (.slice (some ⟨w.heap.size, 0, none⟩) n n)) (w.alloc (.cells (madeCells z.cells (n * size)) e)) := by
 obtain ⟨i, hi, hz, hz1, hz2⟩ := info_parts hinfo
 subst hz1 hz2
 have h63' : (n : Int) ≤ 9223372036854775807 := by simp only [maxLen] at h63; omega
 have hb' : (i.bytes : Int) * (n : Int) ≤ 281474976710656 := by
  have h : ((i.bytes * n : Nat) : Int) ≤ 281474976710656 := by omega
  rwa [Int.natCast_mul] at h
 have hrun := run_make (P := P) w t e i z ht hi hz .i64 .i64 n n (by omega) (by omega) hb' h63'
 simp only [Int.toNat_natCast] at hrun
 simp only [execOp, ho, hel, hec, hrun, Sem.run_bind, Sem.run_pure, Result.andThen_ok]
end
def RetMx (w : World) (m : Nat) (L : List (List Int)) (e : Ending) (w' : World) : Prop :=
 ∃ A cap hs, e = .returned (.agg #[.int .i64 (m : Int), .slice A L.length cap]) ∧ L = hs.map (fun h : Hd => h.2.2) ∧ OwR w' A cap hs ∧ (∀ b, b ∈ fpA A ++ fpR hs → w.heap.size ≤ b) ∧ Below w.heap.size w w'
theorem madeIntsM (w : World) (n : Nat) (h : n ≤ maxLen) : IS (w.alloc (.cells (madeCells (Value.int .i64 0).cells (n * 1)) 3)) (some ⟨w.heap.size, 0, none⟩) n (List.replicate n 0) := by
 rw [Nat.mul_one]
 exact IS.made w n h
set_option maxRecDepth 100000 in
set_option maxHeartbeats 4000000 in
theorem mxZero_any (n m : Nat) (w : World) (hn : n ≤ 1000) (hm : m ≤ 1000) :
  Calls Tryz.prog 53 #[.int .i64 (n : Int), .int .i64 (m : Int)] w (RetMx w m (List.replicate n (List.replicate m 0))) := by
 obtain ⟨W, hW, b0, k0⟩ := (⟨_, rfl, below_alloc _ _, heap_alloc_new _ _⟩ : ∃ W, W = w.alloc (.cells #[.int .i64 0, .slice none 0 0] tMat) ∧ Below w.heap.size w W ∧ W.heap[w.heap.size]? = some (.cells #[.int .i64 0, .slice none 0 0] tMat))
 have b0_h := lH b0; have k0_h := lH k0; clear b0 k0
 go_enter Tryz.func53, Tryz.ntmps53
 go_upto_region 1 with (fail)
 rw [← hW]
 have hWz : W.heap.size = w.heap.size + 1 := by rw [hW]; simp
 clear hW
 go_wp2_with (at_make; refine wpList_make_Sl _ rfl _ _ _ rfl 23 Tryz.underlying52 info_ints n n rfl rfl rfl rfl (Nat.le_refl _) (by omega) (by unfold maxLen; omega) ?_; intro G w1 hs1 hG hb1)
 have hGl : G.block < w1.heap.size := hs1.lt G.block (by simp)
 obtain ⟨W2, hW2⟩ : ∃ W2, W2 = w1.alloc (.cells #[.int .i64 (m : Int), .slice (some G) n n] tMat) := ⟨_, rfl⟩
 rw [← hW2]
 have b2 : Below w1.heap.size w1 W2 := by rw [hW2]; exact below_alloc _ _
 have k5 : W2.heap[w1.heap.size]? = some (.cells #[.int .i64 (m : Int), .slice (some G) n n] tMat) := by rw [hW2]; exact heap_alloc_new _ _
 have k4 := box_below (box_below k0_h.out hb1) b2
 have hbW2 := below_trans (below_trans b0_h.out hb1 b0_h.out.size) b2 (by have := hb1.size; omega)
 have his0 : Sl W2 23 1 (some G) n n ((List.replicate n nilHd).map Hd.val) := by
  have := hs1.below b2
  rw [← madeNils]; simpa using this
 have hz2 := b2.size
 have hz1 := hb1.size
 clear hW2 hs1; have b2_h := lH b2; have k5_h := lH k5; have k4_h := lH k4; have hbW2_h := lH hbW2; have his0_h := lH his0; have hb1_h := lH hb1; clear b2 k5 k4 hbW2 his0 hb1
 go_loopw [14] (fun i wr => ∃ (k : Nat) (ys : List Hd), k = ys.length ∧ k ≤ n ∧ i = .int .i64 k ∧ ys.map (fun h : Hd => h.2.2) = List.replicate k (List.replicate m 0) ∧ Sl wr 23 1 (some G) n n ((ys ++ List.replicate (n - k) nilHd).map Hd.val) ∧ NewR wr W2.heap.size ys ∧ Below w.heap.size w wr ∧ W2.heap.size ≤ wr.heap.size ∧
  wr.heap[w1.heap.size]? = some (.cells #[.int .i64 (m : Int), .slice (some G) n n] tMat) ∧ wr.heap[w.heap.size]? = some (.cells #[.int .i64 0, .slice none 0 0] tMat)) (fun i _ => n - (intOf i).toNat)
 case atStart => exact ⟨0, [], rfl, Nat.zero_le _, rfl, rfl, by simpa using his0_h.out, NewR.nil _ _, hbW2_h.out, Nat.le_refl _, k5_h.out, k4_h.out⟩
 case round =>
  clear his0_h k5_h k4_h hbW2_h b2_h
  obtain ⟨k, ys, hk, hkn, rfl, hys, his, hnew, hb, hsz, kx, ky⟩ := hrel
  obtain ⟨wo, rfl⟩ : ∃ x, x = wr := ⟨_, rfl⟩
  by_cases hlt : k < n
  · have hnk : (k : Int) < (n : Int) := by omega
    have hbd : Below wo.heap.size wo wo.drew := below_drewN (Below.refl _ _) 1
    obtain ⟨w3, hw3⟩ : ∃ w3, w3 = wo.drew.alloc (.cells (madeCells (Value.int .i64 0).cells (m * 1)) 3) := ⟨_, rfl⟩
    have hb3' : Below wo.drew.heap.size wo.drew w3 := by rw [hw3]; exact below_alloc _ _
    have hb3 : Below wo.heap.size wo w3 := below_trans hbd hb3' hbd.size
    have hdz : wo.drew.heap.size = wo.heap.size := rfl
    have h1 : IS w3 (some ⟨wo.drew.heap.size, 0, none⟩) m (List.replicate m 0) := by rw [hw3]; exact madeIntsM wo.drew m (by unfold maxLen; omega)
    have hf1 : Fresh wo.heap.size (some ⟨wo.drew.heap.size, 0, none⟩) := fun b hb => by
     have : b = wo.drew.heap.size := by simpa using hb
     omega
    have his3 := his.below hb3
    have hset := his3.set (ad := G) rfl k (Hd.val (some ⟨wo.drew.heap.size, 0, none⟩, m, List.replicate m 0)) (by rw [List.length_map, List.length_append, List.length_replicate, ← hk]; omega)
    obtain ⟨G', hGe, _, hcg, hfz'⟩ := his3.cell (j := k) (u := nilHd.val) (by rw [List.getElem?_map, List.getElem?_append_right (by omega), List.getElem?_replicate, if_pos (by omega)]; rfl)
    obtain rfl := Option.some.inj hGe
    have hfz := hfz' k
    rw [← List.map_set] at hset
    have hst : (ys ++ List.replicate (n - k) nilHd).set k (some ⟨wo.drew.heap.size, 0, none⟩, m, List.replicate m 0) = (ys ++ [(some ⟨wo.drew.heap.size, 0, none⟩, m, List.replicate m 0)]) ++ List.replicate (n - (k + 1)) nilHd := by
     have := set_replicate_step ys (some ⟨wo.drew.heap.size, 0, none⟩, m, List.replicate m 0) nilHd (n := n) (by rw [← hk]; exact hlt)
     rw [← hk] at this; exact this
    rw [hst] at hset
    have hval : Hd.val (some ⟨wo.drew.heap.size, 0, none⟩, m, List.replicate m 0) = .slice (some ⟨wo.drew.heap.size, 0, none⟩) m m := by simp [Hd.val]
    rw [hval] at hset
    have hkp := (Keeps.refl (fun b => b = G.block) w3).setCell (p := G.add k) (by rw [block_of_add]) (.slice (some ⟨wo.drew.heap.size, 0, none⟩) m m)
    have hnw := (hnew.snoc (x := (some ⟨wo.drew.heap.size, 0, none⟩, m, List.replicate m 0)) hb3 hsz h1 hf1).keeps (w' := w3.setCell (G.add k) (.slice (some ⟨wo.drew.heap.size, 0, none⟩) m m)) (S := fun b => b = G.block) hkp (fun b hb e => by omega)
    have hb5 : Below w.heap.size w (w3.setCell (G.add k) (.slice (some ⟨wo.drew.heap.size, 0, none⟩) m m)) := (below_trans hb hb3 hb.size).setCell (p := G.add k) (by rw [block_of_add]; omega) _
    have hys5 : (ys ++ [((some ⟨wo.drew.heap.size, 0, none⟩, m, List.replicate m 0) : Hd)]).map (fun h : Hd => h.2.2) = List.replicate (k + 1) (List.replicate m 0) := by
     rw [List.map_append, hys, List.replicate_succ']; rfl
    have hs5 : W2.heap.size ≤ (w3.setCell (G.add k) (.slice (some ⟨wo.drew.heap.size, 0, none⟩) m m)).heap.size := by have := hb3.size; have := hkp.size; omega
    have kxd := box_below kx hbd
    have kx3 := box_below kx hb3
    have kx5 := box_keeps kx3 hkp (by omega)
    have ky5 := box_keeps (box_below ky hb3) hkp (by omega)
    have hkl : (ys ++ [((some ⟨wo.drew.heap.size, 0, none⟩, m, List.replicate m 0) : Hd)]).length = k + 1 := by rw [List.length_append, ← hk]; rfl
    obtain ⟨⟨e0, e1⟩, e2, e3⟩ := box2 kx
    clear hst his3 his hfz' hGe hval hkp hys hnew hb h1 hf1 hbd hb3 hb3' ky hk kx hdz; have hset_h := lH hset; have hnw_h := lH hnw; have hb5_h := lH hb5; have hys5_h := lH hys5; have hs5_h := lH hs5; have kxd_h := lH kxd; have kx3_h := lH kx3; have kx5_h := lH kx5; have ky5_h := lH ky5; have hkl_h := lH hkl; clear hset hnw hb5 hys5 hs5 kxd kx3 kx5 ky5 hkl
    go_wp2_with (fail)
    clear e0 e1 e2 e3
    refine beginH (fun w' => w'.heap[w1.heap.size]? = some (.cells #[.int .i64 (m : Int), .slice (some G) n n] tMat)) (by kernel_rfl) ?_
    refine tkH 0 ?_ rfl kxd_h.out (fun W' hW' => ?_) ?_; rotate_left; · (obtain ⟨⟨x0, x1⟩, x2, x3⟩ := box2 hW'; clear hW'; go_simp; first | done | with_reducible rfl)
    simp only [Act.put, nS]
    refine tkH 1 ?_ rfl kxd_h.out (fun W' hW' => ?_) ?_; rotate_left; · (obtain ⟨⟨x0, x1⟩, x2, x3⟩ := box2 hW'; clear hW'; go_simp; first | done | with_reducible rfl)
    simp only [Act.put, nS]
    refine tkH 2 ?_ rfl kxd_h.out (fun W' hW' => ?_) ?_; rotate_left; · (obtain ⟨⟨x0, x1⟩, x2, x3⟩ := box2 hW'; clear hW'; go_simp; first | done | with_reducible rfl)
    simp only [Act.put, nS]
    refine tkH 3 ?_ rfl kxd_h.out (fun W' hW' => ?_) ?_; rotate_left; · (obtain ⟨⟨x0, x1⟩, x2, x3⟩ := box2 hW'; clear hW'; go_simp; first | done | with_reducible rfl)
    simp only [Act.put, nS]
    refine runH 4 rfl (by kernel_rfl) (by rfl) (run_makeOpM _ _ _ rfl 3 Tryz.underlying23 info_int m rfl rfl (by omega) (by unfold maxLen; omega)) (by rw [← hw3]; exact kx3_h.out) ?_
    simp only [Act.put, nS]
    rw [← hw3]
    clear hw3
    refine tkH 5 ?_ rfl kx3_h.out (fun W' hW' => ?_) ?_; rotate_left; · (skip; clear hW'; go_simp; first | done | with_reducible rfl)
    simp only [Act.put, nS]
    refine oneH 6 rfl (by kernel_rfl) (by rfl) (fun K hK => ?_)
    go_simp
    refine hK _ _ kx5_h.out ?_
    clear hK K
    refine doneH (by kernel_rfl) ?_
    go_wp2_with (fail)
    go_roundw
    case rel => exact ⟨k + 1, _, hkl_h.out.symm, by omega, by go_num, hys5_h.out, hset_h.out, hnw_h.out, hb5_h.out, hs5_h.out, kx5_h.out, ky5_h.out⟩
    case measure => simp [intOf]; omega
  · obtain rfl : k = n := by omega
    rw [Nat.sub_self, List.replicate_zero, List.append_nil] at his
    obtain ⟨⟨e0, e1⟩, e2, e3⟩ := box2 kx
    obtain ⟨⟨g0, g1⟩, g2, g3⟩ := box2 ky
    obtain ⟨s1, s2⟩ := set2 (a := .int .i64 (m : Int)) (b := .slice (some G) k k) ky
    have hb9 := below_keeps hb s2 hb.size (fun b hb => by omega)
    have hb10 := hb1_h.out.size
    have hO : OwR wo (some G) k ys := ⟨by rw [← hk]; exact his, hnew.rows, hnew.apart, fun x hx b hb1 hb2 => by
     have := hnew.new x hx b hb1
     simp at hb2
     omega⟩
    have hfr : ∀ b, b ∈ fpA (some G) ++ fpR ys → w.heap.size + 1 ≤ b := fun b hb' => by
     rcases List.mem_append.1 hb' with hb' | hb'
     · simp at hb'; omega
     · obtain ⟨x, hx, hb'⟩ := mem_fpR.1 hb'
       have := hnew.new x hx b hb'
       omega
    have hO9 := hO.keeps s2 (fun b hb e => by have := hfr b hb; omega)
    clear hO his hnew hb kx ky; have s1_h := lH s1; have s2_h := lH s2; have hb9_h := lH hb9; have hO9_h := lH hO9; have hfr_h := lH hfr; have hys_h := lH hys; have hk_h := lH hk; clear s1 s2 hb9 hO9 hfr hys hk
    go_wp2_with (fail)
    refine bodyPost_ret (results_cell_row rfl _ _ w.heap.size _ _ (0, 0) _ rfl s1_h.out Tryz.underlying55 rfl (by kernel_rfl)) rfl ?_
    exact ⟨some G, k, ys, by rw [List.length_replicate], hys_h.out.symm, hO9_h.out, fun b hb => by have := hfr_h.out b hb; omega, hb9_h.out⟩
def MX (Sp : Nat → Prop) (w : World) (A : Option Addr) (cap : Nat) (L : List (List Int)) : Prop :=
 ∃ hs : List Hd, L = hs.map (fun h : Hd => h.2.2) ∧ OwR w A cap hs ∧ ∀ b, b ∈ fpA A ++ fpR hs → Sp b
section
variable {Sp : Nat → Prop} {w w' : World} {A : Option Addr} {cap : Nat} {L : List (List Int)}
theorem MX.of_own {w0 : World} {hs : List Hd} (hO : OwR w A cap hs) (hf : ∀ b, b ∈ fpA A ++ fpR hs → w0.heap.size ≤ b) : MX (fun b => w0.heap.size ≤ b ∧ b < w.heap.size) w A cap (hs.map fun h : Hd => h.2.2) := ⟨hs, rfl, hO, fun b hb => ⟨hf b hb, hO.lt b hb⟩⟩
theorem MX.below (h : MX Sp w A cap L) (hb : Below w.heap.size w w') : MX Sp w' A cap L := by
 obtain ⟨hs, hL, hO, hf⟩ := h
 exact ⟨hs, hL, hO.below hb, hf⟩
theorem MX.keeps (h : MX Sp w A cap L) {S : Nat → Prop} (hk : Keeps S w w') (hS : ∀ b, Sp b → ¬ S b) : MX Sp w' A cap L := by
 obtain ⟨hs, hL, hO, hf⟩ := h
 exact ⟨hs, hL, hO.keeps hk fun b hb => hS b (hf b hb), hf⟩
theorem MX.rd (h : MX Sp w A cap L) : ∃ hs : List Hd, L = hs.map (fun h : Hd => h.2.2) ∧ RdR w A hs := by
 obtain ⟨hs, hL, hO, hf⟩ := h
 exact ⟨hs, hL, hO.rd⟩
theorem MX.get (h : MX Sp w A cap L) {i : Nat} (hi' : i < L.length) : ∃ ad B c, A = some ad ∧ w.cell? (ad.add i) = some (.slice B (L.getD i []).length c) ∧ w.frozen? (ad.add i) = false ∧ IS w B c (L.getD i []) ∧ ∀ b, b ∈ fpA B → Sp b := by
 obtain ⟨hs, rfl, hO, hf⟩ := h
 obtain ⟨ad, B, c, l, hA, hx, hc, hz, hI⟩ := hO.get (i := i) (by simpa using hi')
 rw [getD_map_hd hx]
 exact ⟨ad, B, c, hA, hc, hz, hI, fun b hb => hf b (List.mem_append_right _ (mem_fpR.2 ⟨_, List.mem_of_getElem? hx, hb⟩))⟩
theorem MX.wr (h : MX Sp w A cap L) {i : Nat} (hi' : i < L.length) {ad : Addr} (hA : A = some ad) {B : Option Addr} {n c : Nat} (hc : w.cell? (ad.add i) = some (.slice B n c)) {l' : List Int} (hl : l'.length = (L.getD i []).length) (hw : Wr w w' B (ints l')) :
  MX Sp w' A cap (L.set i l') ∧ Keeps Sp w w' := by
 obtain ⟨hs, rfl, hO, hf⟩ := h
 obtain ⟨ad', B', c', l, hA', hx, hc', hz, hI⟩ := hO.get (i := i) (by simpa using hi')
 rw [hA] at hA'
 obtain rfl := Option.some.inj hA'
 rw [hc] at hc'
 injection hc' with hc'
 injection hc' with e1 e2 e3
 subst e1
 rw [getD_map_hd hx] at hl
 have hm := List.mem_of_getElem? hx
 refine ⟨⟨hs.set i (B, c', l'), by rw [List.map_set], hO.wr hx hw hl, fun b hb => ?_⟩, hw.1.mono fun b _ hb => hf b (List.mem_append_right _ (mem_fpR.2 ⟨_, hm, hb⟩))⟩
 rcases List.mem_append.1 hb with hb | hb
 · exact hf b (List.mem_append_left _ hb)
 · exact hf b (List.mem_append_right _ (fpR_set hx b hb))
theorem MX.set (h : MX Sp w A cap L) {i : Nat} (hi' : i < L.length) {ad : Addr} (hA : A = some ad) {bd : Addr} {n c : Nat} (hc : w.cell? (ad.add i) = some (.slice (some bd) n c)) {j : Nat} (hj : j < (L.getD i []).length) (x : Int) :
  MX Sp (w.setCell (bd.add j) (.int .i64 x)) A cap (L.set i ((L.getD i []).set j x)) ∧ Keeps Sp w (w.setCell (bd.add j) (.int .i64 x)) := by
 obtain ⟨ad', B, c', hA', hc', _, hI, _⟩ := h.get hi'
 rw [hA] at hA'
 obtain rfl := Option.some.inj hA'
 have hc2 := hc'
 rw [hc] at hc2
 injection hc2 with hc2
 injection hc2 with e1 e2 e3
 exact h.wr hi' hA hc (by simp) (IS.wr1 (e1 ▸ hI) rfl hj x)
theorem MX.swap (h : MX Sp w A cap L) {r k : Nat} (hr : r < L.length) (hk : k < L.length) {ad : Addr} (hA : A = some ad) {V U : Value} (hV : w.cell? (ad.add k) = some V) (hU : w.cell? (ad.add r) = some U) :
  MX Sp ((w.setCell (ad.add r) V).setCell (ad.add k) U) A cap (swapL L r k) ∧ Keeps Sp w ((w.setCell (ad.add r) V).setCell (ad.add k) U) := by
 obtain ⟨hs, rfl, hO, hf⟩ := h
 have hr' : r < hs.length := by simpa using hr
 have hk' : k < hs.length := by simpa using hk
 have cellOf : ∀ i (hi : i < hs.length) X, w.cell? (ad.add i) = some X → X = hs[i].val := by
  intro i hi X hX
  obtain ⟨ad', B, c, l, hA', hx, hc, _⟩ := hO.get (i := i) hi
  rw [hA] at hA'
  obtain rfl := Option.some.inj hA'
  rw [hX] at hc
  rw [List.getElem?_eq_getElem hi] at hx
  rw [Option.some.inj hx]
  exact Option.some.inj hc
 rw [cellOf k hk' V hV, cellOf r hr' U hU]
 have hp := swapH_perm hr' hk'
 refine ⟨⟨_, (swapH_map hr' hk').symm, hO.swap hr' hk' hA, fun b hb => ?_⟩, ?_⟩
 · rcases List.mem_append.1 hb with hb | hb
   · exact hf b (List.mem_append_left _ hb)
   · exact hf b (List.mem_append_right _ (fpR_perm hp b hb))
 · have hkp : Keeps (· ∈ fpA A) w ((w.setCell (ad.add r) hs[k].val).setCell (ad.add k) hs[r].val) :=
    ((Keeps.refl _ w).setCell (p := ad.add r) (by rw [block_of_add, hA]; simp) _).setCell (p := ad.add k) (by rw [block_of_add, hA]; simp) _
   exact hkp.mono fun b _ hb => hf b (List.mem_append_left _ hb)
theorem MX.mono {Tp : Nat → Prop} (h : MX Sp w A cap L) (hS : ∀ b, Sp b → Tp b) : MX Tp w A cap L := by
 obtain ⟨hs, hL, hO, hf⟩ := h
 exact ⟨hs, hL, hO, fun b hb => hS b (hf b hb)⟩
end
theorem setM {w : World} {B : Nat} {t : TypeId} {x y b : Value} (h : w.heap[B]? = some (.cells #[x, y] t)) : (w.setCell ⟨B, 1, none⟩ b).heap[B]? = some (.cells #[x, b] t) ∧ Keeps (· = B) w (w.setCell ⟨B, 1, none⟩ b) := by
 refine ⟨by simp [World.setCell, Array.getElem?_modify, h], ?_⟩
 exact (Keeps.refl (fun x => x = B) w).setCell (p := ⟨B, 1, none⟩) rfl _
set_option maxRecDepth 100000 in
set_option maxHeartbeats 4000000 in
theorem mxCopy_any (N m : Nat) (A : Option Addr) (c : Nat) (hs : List Hd) (w : World) (h : RdR w A hs) (hN : hs.length = N) (hN' : N ≤ 1000) (hrow : ∀ x, x ∈ hs → x.2.2.length = m) (hm : m ≤ 1000) :
  Calls Tryz.prog 74 #[.agg #[.int .i64 (m : Int), .slice A N c]] w (RetMx w m (hs.map fun h : Hd => h.2.2)) := by
 obtain ⟨L, hLh⟩ : ∃ L, L = hs.map fun h : Hd => h.2.2 := ⟨_, rfl⟩
 rw [← hLh]
 have hLl : L.length = N := by rw [hLh, List.length_map, hN]
 obtain ⟨W0, hW0, bW0, k0, k1⟩ := alloc2 w (.cells #[.int .i64 (m : Int), .slice A N c] tMat) (.cells #[.int .i64 0, .slice none 0 0] tMat)
 obtain ⟨W, hW, b1, k2⟩ := (⟨_, rfl, below_alloc _ _, heap_alloc_new _ _⟩ : ∃ W, W = W0.alloc (.cells #[.int .i64 (m : Int), .slice none 0 0] tMat) ∧ Below W0.heap.size W0 W ∧ W.heap[W0.heap.size]? = some (.cells #[.int .i64 (m : Int), .slice none 0 0] tMat))
 obtain ⟨bx, hbx⟩ : ∃ bx, bx = W0.heap.size := ⟨_, rfl⟩
 have hbx1 : bx = w.heap.size + 1 + 1 := by rw [hbx, hW0]; simp
 rw [← hbx] at k2
 have hnil : OMx W0 bx W none 0 (L.take 0) := OMx.nil b1 (by omega) (box_lt k2)
 have k0W := box_below k0 b1
 have bW0_h := lH bW0; have k0_h := lH k0; have k1_h := lH k1; have b1_h := lH b1; have k2_h := lH k2; have hnil_h := lH hnil; have hbx1_h := lH hbx1; have h_h := lH h; have hN_h := lH hN; have hrow_h := lH hrow; have hLh_h := lH hLh; have hLl_h := lH hLl; have k0W_h := lH k0W; clear bW0 k0 k1 b1 k2 hnil hbx1 h hN hrow hLh hLl k0W
 go_enter Tryz.func74, Tryz.ntmps74
 go_upto_region 2 with (fail)
 rw [← hW0, ← hW, ← hbx1_h.out]
 have hbx_h := lH hbx; clear hW0 hW hbx
 obtain ⟨⟨e0, e1⟩, e2, e3⟩ := box2 k0W_h.out
 go_wp2_with (fail)
 clear e0 e1 e2 e3
 go_loopw [12] (fun i wr => ∃ (k q : Nat) (A1 : Option Addr) (c1 : Nat), k ≤ N ∧ i = .int .i64 k ∧ q = k ∧ wr.heap[bx]? = some (.cells #[.int .i64 (m : Int), .slice A1 q c1] tMat) ∧ OMx W0 bx wr A1 c1 (L.take k)) (fun i _ => N - (intOf i).toNat)
 case atStart => exact ⟨0, 0, none, 0, Nat.zero_le _, rfl, rfl, k2_h.out, hnil_h.out⟩
 case round =>
  clear hnil_h k2_h
  obtain ⟨k, q, A1, c1, hk, rfl, hq, kx, hOM⟩ := hrel
  obtain ⟨wo, rfl⟩ : ∃ x, x = wr := ⟨_, rfl⟩
  have hbo := below_trans bW0_h.out hOM.below_ bW0_h.out.size
  by_cases hlt : k < N
  · have hkI : (k : Int) < (N : Int) := by omega
    have hq12 : q ≤ 1000 := by omega
    obtain ⟨ad, C, d, l, rfl, hx, hc, hri⟩ := (h_h.out.below hbo).at_ (k := k) (by rw [hN_h.out]; exact hlt)
    have hlx : L[k]? = some l := by rw [hLh_h.out, List.getElem?_map, hx]; rfl
    have hll : l.length = m := hrow_h.out _ (List.mem_of_getElem? hx)
    rw [hll] at hc
    have hU := fun (W' : World) (hb : Below wo.heap.size wo W') => l1Own_any C d l W' (hri.below hb) (by omega)
    rw [hll] at hU
    have htk : L.take k ++ [l] = L.take (k + 1) := by rw [List.take_add_one, hlx]; rfl
    have hbd : Below wo.heap.size wo wo.drew := below_drewN (Below.refl _ _) 1
    clear hx hlx hri hbo; have kx_h := lH kx; have hOM_h := lH hOM; have hU_h := lH hU; have htk_h := lH htk; have hbd_h := lH hbd; have hq_h := lH hq; have hll_h := lH hll; clear kx hOM hU htk hbd hq hll
    go_wp2_with (fail)
    refine beginZw 7 (fun w' => w'.heap[bx]? = some (.cells #[.int .i64 (m : Int), .slice A1 q c1] tMat)) (by kernel_rfl) (fun W1 hW1 => ?_)
    have hB := hbd_h.out
    rw [← hW1] at hB
    clear hW1
    have hF := box_below kx_h.out hB
    have hF_h := lH hF; have hB_h := lH hB; clear hF hB
    refine tkC 0 ?_ rfl hF_h.out (fun W' hW' => ?_) ?_; rotate_left; · (obtain ⟨⟨x0, x1⟩, x2, x3⟩ := box2 hW'; clear hW'; go_simp; first | done | with_reducible rfl)
    simp only [Act.put, nS]
    refine tkC 1 ?_ rfl hF_h.out (fun W' hW' => ?_) ?_; rotate_left; · (obtain ⟨⟨x0, x1⟩, x2, x3⟩ := box2 hW'; clear hW'; go_simp; first | done | with_reducible rfl)
    simp only [Act.put, nS]
    refine tkC 2 ?_ rfl hF_h.out (fun W' hW' => ?_) ?_; rotate_left; · (obtain ⟨⟨x0, x1⟩, x2, x3⟩ := box2 hW'; clear hW'; go_simp; first | done | with_reducible rfl)
    simp only [Act.put, nS]
    refine callZ 3 (f := ?f1) (args := ?args1) rfl (by kernel_rfl) (by rfl) ?hrun1 ?hcall1
    case hrun1 => (go_simp; first | done | with_reducible rfl | (constructor <;> with_reducible rfl))
    case hcall1 =>
     refine (hU_h.out _ hB_h.out).mono ?_
     rintro e w4 ⟨A7, c7, rfl, hi7, hf7, hb4⟩
     rw [hll_h.out]
     replace hF_h := lH (box_below hF_h.out hb4)
     have hB4 := below_trans hB_h.out hb4 hB_h.out.size
     have hfA7 : Fresh wo.heap.size A7 := fun b hb => by have := hf7 b hb; have := hB_h.out.size; omega
     refine ⟨_, rfl, fun _ => hF_h.out, ?_⟩
     simp only [Act.put, nS]
     have hal := below_alloc w4 (.cells #[.slice A7 m c7] 23)
     have hba := below_trans hB4 hal hB4.size
     have hF4 := box_below hF_h.out hal
     obtain ⟨ys, hLy, hOy, hfy, h0y, h1y, h2y⟩ := hOM_h.out
     have hyl : ys.length = q := by have := congrArg List.length hLy; rw [List.length_map, List.length_take, hLl_h.out] at this; have := hq_h.out; omega
     have hsl : Sl (w4.alloc (.cells #[.slice A7 m c7] 23)) 23 1 A1 q c1 (ys.map Hd.val) := by
      have := (hOy.sl.below hB4).alloc (.cells #[.slice A7 m c7] 23)
      rwa [hyl] at this
     have hi8 := hi7.below hal
     have hF4_h := lH hF4; have hba_h := lH hba; have hal_h := lH hal; have hsl_h := lH hsl; have hi8_h := lH hi8; have hfA7_h := lH hfA7; have hLy_h := lH hLy; have hOy_h := lH hOy; have hfy_h := lH hfy; have h0y_h := lH h0y; have hyl_h := lH hyl; have hB4_h := lH hB4; clear hF4 hba hal hsl hi8 hfA7 hLy hOy hfy h0y hyl hB4
     refine oneZ 4 rfl (by kernel_rfl) (by rfl) (fun K hK => ?_)
     go_simp
     refine hK _ _ (fun _ => hF4_h.out) ?_
     clear hK K
     refine appZ 5 rfl (by kernel_rfl) (by rfl) _ _ _ rfl 23 Tryz.underlying52 info_ints rfl (by omega) rfl hsl_h.out rfl (news := [.slice A7 m c7]) rfl (Sl.rdc (Sl.laid w4 23 1 1 #[.slice A7 m c7] (by unfold maxLen; omega) rfl)) (by intro u hu; simp at hu; subst hu; rfl) (by unfold maxLen; omega) (by omega) ?_
     intro A6 c6 w6 hsA6 hA6 hkA6 hrdA6
     clear hrdA6
     have hO6 := OMx.snoc (l := l) (w1 := w4.alloc (.cells #[.slice A7 m c7] 23)) hLy_h.out hOy_h.out hfy_h.out h0y_h.out h1y h2y hba_h.out hi8_h.out hfA7_h.out (by rw [hyl_h.out]) (by rw [hll_h.out]; exact hsA6) hA6 hkA6
     have hF7 := box_keeps hF4_h.out hkA6 (fun h => (hfy_h.out _ (List.mem_append_left _ h)).2 rfl)
     refine ⟨fun _ => hF7, ?_⟩
     obtain ⟨s1, s2⟩ := setM (b := .slice A6 (q + 1) c6) hF7
     have hO7 := hO6.store s2
     rw [htk_h.out] at hO7
     obtain ⟨⟨x0, x1⟩, x3, x4⟩ := box2 hF7
     clear hsA6 hA6 hkA6 hO6 s2; have hF7_h := lH hF7; have hO7_h := lH hO7; have s1_h := lH s1; clear hF7 hO7 s1
     simp only [Act.put, nS]
     refine tkC 6 ?_ rfl hF7_h.out (fun W' hW' => ?_) ?_; rotate_left; · (skip; clear hW'; go_simp; first | done | with_reducible rfl)
     simp only [Act.put, nS]
     refine oneZ 7 rfl (by kernel_rfl) (by rfl) (fun K hK => ?_)
     go_simp
     refine hK _ _ (fun h => by cases h) ?_
     clear hK K
     refine doneZ (by kernel_rfl) ?_
     go_wp2_with (fail)
     go_roundw
     case rel => exact ⟨k + 1, q + 1, A6, c6, by omega, by go_num, by have := hq_h.out; omega, s1_h.out, hO7_h.out⟩
     case measure => simp [intOf]; omega
  · obtain rfl : N = k := by omega
    obtain rfl : N = q := hq.symm
    have hO2 : OMx W0 bx wo A1 c1 L := by have := hOM; rwa [List.take_of_length_le (by rw [hLl_h.out]; exact Nat.le_refl _)] at this
    have k0r := box_below k1_h.out hO2.below_
    obtain ⟨⟨x0, x1⟩, x3, x4⟩ := box2 kx
    obtain ⟨⟨y0, y1⟩, y3, y4⟩ := box2 k0r
    obtain ⟨s1, s2⟩ := set2 (a := .int .i64 (m : Int)) (b := .slice A1 N c1) k0r
    have hz0 : w.heap.size + 1 < W0.heap.size := by have := hbx_h.out; have := hbx1_h.out; omega
    have hbw := below_keeps hbo s2 hbo.size (fun k hk => by omega)
    obtain ⟨gs, g1, g2, g3, _, _, _⟩ := hO2
    have g5 := g2.keeps s2 (fun b hb e => by have := (g3 b hb).1; omega)
    have g6 : ∀ b, b ∈ fpA A1 ++ fpR gs → w.heap.size ≤ b := fun b hb => by have := (g3 b hb).1; omega
    clear hOM kx k0r s2 hbo g2 g3; have s1_h := lH s1; have hbw_h := lH hbw; have g1_h := lH g1; have g5_h := lH g5; have g6_h := lH g6; clear s1 hbw g1 g5 g6
    go_wp2_with (fail)
    refine bodyPost_ret (results_cell_row rfl _ _ (w.heap.size + 1) _ _ (0, 0) _ rfl s1_h.out Tryz.underlying55 rfl (by kernel_rfl)) rfl ?_
    exact ⟨A1, c1, gs, by rw [hLl_h.out], g1_h.out, g5_h.out, g6_h.out, hbw_h.out⟩
def idTo (n k : Nat) : List (List Int) := (List.range n).map fun i => if i < k then unitV n i else List.replicate n 0
@[simp] theorem idTo_length (n k : Nat) : (idTo n k).length = n := by simp [idTo]
theorem idTo_get {n k i : Nat} (hi : i < n) : (idTo n k).getD i [] = if i < k then unitV n i else List.replicate n 0 := by simp [idTo, List.getD, hi]
theorem idTo_zero (n : Nat) : idTo n 0 = List.replicate n (List.replicate n 0) := by
 unfold idTo
 rw [List.eq_replicate_iff]
 refine ⟨by simp, fun v hv => ?_⟩
 obtain ⟨i, _, rfl⟩ := List.mem_map.1 hv
 simp
theorem idTo_all (n : Nat) : idTo n n = idM n := by
 unfold idTo idM
 exact List.map_congr_left fun i hi => by simp [List.mem_range.1 hi]
theorem unit_set {n i : Nat} : (List.replicate n (0 : Int)).set i 1 = unitV n i := by
 apply List.ext_getElem?
 intro k
 by_cases hk : k < n
 · unfold unitV
   rw [List.getElem?_set, List.getElem?_map, List.getElem?_range hk]
   by_cases h : i = k
   · subst h; simp [hk]
   · simp [h, hk]; intro e; exact absurd e.symm h
 · unfold unitV
   rw [List.getElem?_eq_none (by simpa using hk), List.getElem?_eq_none (by simpa using hk)]
theorem idTo_step {n k : Nat} (hk : k < n) : (idTo n k).set k (((idTo n k).getD k []).set k 1) = idTo n (k + 1) := by
 rw [idTo_get hk, if_neg (Nat.lt_irrefl k), unit_set]
 apply List.ext_getElem?
 intro j
 unfold idTo
 rw [List.getElem?_set, List.length_map, List.length_range]
 by_cases hj : j < n
 · rw [List.getElem?_map, List.getElem?_map, List.getElem?_range hj]
   by_cases h : k = j
   · subst h; simp [hk]
   · rw [if_neg h]
     by_cases h2 : j < k
     · simp [h2, (by omega : j < k + 1)]
     · simp [h2]
       intro h3
       exact absurd h3 (by omega)
 · rw [List.getElem?_eq_none (by simpa using hj), List.getElem?_eq_none (by simpa using hj), if_neg (by omega)]
set_option maxRecDepth 100000 in
set_option maxHeartbeats 4000000 in
theorem mxId_any (n : Nat) (w : World) (hn : n ≤ 1000) :
  Calls Tryz.prog 75 #[.int .i64 (n : Int)] w (RetMx w n (idM n)) := by
 obtain ⟨W, hW, b0, k0⟩ := (⟨_, rfl, below_alloc _ _, heap_alloc_new _ _⟩ : ∃ W, W = w.alloc (.cells #[.int .i64 0, .slice none 0 0] tMat) ∧ Below w.heap.size w W ∧ W.heap[w.heap.size]? = some (.cells #[.int .i64 0, .slice none 0 0] tMat))
 have hWz : W.heap.size = w.heap.size + 1 := by rw [hW]; simp
 have hZ := fun (W' : World) => mxZero_any n n W' hn hn
 have b0_h := lH b0; have k0_h := lH k0; have hZ_h := lH hZ; clear b0 k0 hZ
 go_enter Tryz.func75, Tryz.ntmps75
 go_upto_region 1 with (fail)
 rw [← hW]
 clear hW
 go_wp2_with (fail)
 refine (hZ_h.out _).mono ?_
 rintro e w1 ⟨A, c, hs, rfl, hL, hO, hf, hb1⟩
 rw [List.length_replicate]
 have hM := MX.of_own hO hf
 rw [← hL, ← idTo_zero] at hM
 obtain ⟨W2, hW2⟩ : ∃ W2, W2 = w1.alloc (.cells #[.int .i64 (n : Int), .slice A n c] tMat) := ⟨_, rfl⟩
 have b2 : Below w1.heap.size w1 W2 := by rw [hW2]; exact below_alloc _ _
 have k5 : W2.heap[w1.heap.size]? = some (.cells #[.int .i64 (n : Int), .slice A n c] tMat) := by rw [hW2]; exact heap_alloc_new _ _
 have k4 := box_below (box_below k0_h.out hb1) b2
 have hz1 := hb1.size
 have hbW2 := below_trans (below_trans b0_h.out hb1 b0_h.out.size) b2 (by omega)
 have hM2 := hM.below b2
 clear hL hO hf hM hb1 b2; have k5_h := lH k5; have k4_h := lH k4; have hbW2_h := lH hbW2; have hM2_h := lH hM2; clear k5 k4 hbW2 hM2
 go_upto_region 3 with (fail)
 rw [← hW2]
 clear hW2
 go_loopw [4] (fun i wr => ∃ (k : Nat), k ≤ n ∧ i = .int .i64 k ∧ MX (fun b => W.heap.size ≤ b ∧ b < w1.heap.size) wr A c (idTo n k) ∧ Below w.heap.size w wr ∧ wr.heap[w1.heap.size]? = some (.cells #[.int .i64 (n : Int), .slice A n c] tMat) ∧ wr.heap[w.heap.size]? = some (.cells #[.int .i64 0, .slice none 0 0] tMat)) (fun i _ => n - (intOf i).toNat)
 case atStart => exact ⟨0, Nat.zero_le _, rfl, hM2_h.out, hbW2_h.out, k5_h.out, k4_h.out⟩
 case round =>
  clear hM2_h hbW2_h k5_h k4_h
  obtain ⟨k, hk, rfl, hM, hb, kx, ky⟩ := hrel
  obtain ⟨wo, rfl⟩ : ∃ x, x = wr := ⟨_, rfl⟩
  obtain ⟨⟨e0, e1⟩, e2, e3⟩ := box2 kx
  by_cases hlt : k < n
  · have hnk : (k : Int) < (n : Int) := by omega
    obtain ⟨ad, B, cb, rfl, hc, hz, hI, hsp⟩ := hM.get (i := k) (by simpa using hlt)
    have hgl : ((idTo n k).getD k []).length = n := by rw [idTo_get hlt]; split <;> simp [unitV]
    obtain ⟨bd, y, rfl, _, _, hcy, hfy⟩ := hI.at_ (j := k) (by rw [hgl]; exact hlt)
    have hfy := hfy k
    obtain ⟨hs1, hs2⟩ := hM.set (i := k) (by simpa using hlt) rfl hc (j := k) (by rw [hgl]; exact hlt) 1
    rw [idTo_step hlt] at hs1
    rw [hgl] at hc
    have hb' := below_keeps hb hs2 hb.size (fun b hb => by have := hb.1; omega)
    have kx' := box_keeps kx hs2 (fun h => by have := h.2; omega)
    have ky' := box_keeps ky hs2 (fun h => by have := h.1; omega)
    clear hM hI hgl hs2 hb kx ky hsp; have hs1_h := lH hs1; have hb'_h := lH hb'; have kx'_h := lH kx'; have ky'_h := lH ky'; clear hs1 hb' kx' ky'
    go_wp2_with (fail)
    go_roundw
    case rel => exact ⟨k + 1, by omega, by go_num, hs1_h.out, hb'_h.out, kx'_h.out, ky'_h.out⟩
    case measure => simp [intOf]; omega
  · obtain rfl : k = n := by omega
    rw [idTo_all] at hM
    obtain ⟨⟨g0, g1⟩, g2, g3⟩ := box2 ky
    obtain ⟨s1, s2⟩ := set2 (a := .int .i64 (k : Int)) (b := .slice A k c) ky
    have hb9 := below_keeps hb s2 hb.size (fun b hb => by omega)
    have hM9 := hM.keeps s2 (fun b h1 e => by have := h1.1; have := h1.2; omega)
    have hil : (idM k).length = k := by simp [idM]
    clear hM hb kx ky; have s1_h := lH s1; have s2_h := lH s2; have hb9_h := lH hb9; have hM9_h := lH hM9; have hil_h := lH hil; clear s1 s2 hb9 hM9 hil
    go_wp2_with (fail)
    refine bodyPost_ret (results_cell_row rfl _ _ w.heap.size _ _ (0, 0) _ rfl s1_h.out Tryz.underlying55 rfl (by kernel_rfl)) rfl ?_
    obtain ⟨hs, h1, h2, h3⟩ := hM9_h.out
    exact ⟨A, c, hs, by rw [hil_h.out], h1, h2, fun b hb => by have := (h3 b hb).1; omega, hb9_h.out⟩
theorem scaleV_at {p k : Int} {v : List Int} {j : Nat} {x : Int} (h : v[j]? = some x) : (scaleV p k v)[j]? = some (x * k % p) := by simp [scaleV, h]
set_option maxRecDepth 100000 in
set_option maxHeartbeats 1000000 in
theorem mxScale_any (p q : Int) (A : Option Addr) (ca n : Nat) (v : List Int) (w : World) (hA : IS w A ca v) (hvn : v.length = n) (hn : n ≤ 1048576)
  (h0 : 0 < p) (h97 : p ≤ 97) (hv : ∀ x, x ∈ v → 0 ≤ x ∧ x < p) (hq : 0 ≤ q ∧ q < p) :
  Calls Tryz.prog 76 #[.int .i64 p, .slice A n ca, .int .i64 q] w fun e w' => e = .returned (.tuple #[]) ∧ Wr w w' A (ints (scaleV p q v)) := by
 have hal : (scaleV p q v).length = n := by simp [scaleV, hvn]
 have hst : Wr w w A (ints ((scaleV p q v).take 0 ++ v.drop 0)) := by simpa using Wr.start hA
 have HAL := lH hal; have HVN := lH hvn; have HST := lH hst; have HV := lH hv; clear hal hvn hst hv
 go_enter Tryz.func76, Tryz.ntmps76
 go_wp2_with (fail)
 go_loopw [9] (fun i wr => ∃ k : Nat, k ≤ n ∧ i = .int .i64 k ∧ Wr w wr A (ints ((scaleV p q v).take k ++ v.drop k))) (fun i _ => n - (intOf i).toNat)
 case atStart => exact ⟨0, Nat.zero_le _, rfl, HST.out⟩
 case round =>
  clear HST
  obtain ⟨k, hk, rfl, hw⟩ := hrel
  have hll : ((scaleV p q v).take k ++ v.drop k).length = n := by rw [List.length_append, List.length_take, List.length_drop, HAL.out, HVN.out]; omega
  by_cases hlt : k < n
  · have his : IS wr A ca ((scaleV p q v).take k ++ v.drop k) := by
     have := hw.sl hA (by rw [ints_length, hll, HVN.out, Nat.mul_one])
     unfold IS; rw [hll]; rwa [HVN.out] at this
    obtain ⟨ad, x, hA', hx, hbl, hca, hf'⟩ := his.at_ (j := k) (by rw [hll]; exact hlt)
    rw [get_take_drop (by rw [HAL.out, HVN.out]) (by rw [HVN.out]; omega)] at hx
    have hfz := hf' k
    have hxb := HV.out x (List.mem_of_getElem? hx)
    have hw2 := hw.set hA' (j := k) (by rw [ints_length, hll]; exact hlt) (.int .i64 (x * q % p))
    rw [ints_set, take_append_step (by rw [HAL.out, HVN.out]) (scaleV_at hx)] at hw2
    have HW := lH hw2
    have hC := fdMul_any p x q wr h0 hxb.1 (by omega) hq.1 (by omega)
    have hkn : (k : Int) < (n : Int) := by omega
    subst hA'
    clear hw2 hx hw his hA hll hf'; have hC_h := lH hC; clear hC
    go_wp2_with (fail)
    refine (hC_h.out).mono ?_
    rintro e w' ⟨rfl, hw'⟩
    subst w'
    go_wp2_with (fail)
    go_roundw
    case rel => exact ⟨k + 1, by omega, by go_num, HW.out⟩
    case measure => simp [intOf]; omega
  · obtain rfl : n = k := by omega
    have hw2 : Wr w wr A (ints (scaleV p q v)) := by
     have := hw
     rwa [List.take_of_length_le (by rw [HAL.out]; omega), List.drop_of_length_le (by rw [HVN.out]; omega), List.append_nil] at this
    have HW := lH hw2; clear hw hll hA hw2
    go_wp2_with (fail)
    go_end0
    exact ⟨rfl, HW.out⟩
structure BoxS where
 i : Nat
 d : Tmp
 obj : Obj
def putB (a : Act) (bs : List (BoxS × Nat)) : Act := bs.foldl (fun a x => a.put (some x.1.d) (.pointer (some ⟨x.2, 0, none⟩))) a
theorem putB_put (bs : List (BoxS × Nat)) (d : Tmp) (v : Value) : ∀ (a : Act), (∀ x ∈ bs, x.1.d ≠ d) → (putB a bs).put (some d) v = putB (a.put (some d) v) bs := by
 induction bs with
 | nil => intro a _; rfl
 | cons x r ih =>
   intro a h
   show (putB (a.put _ _) r).put _ _ = putB ((a.put _ _).put _ _) r
   rw [ih _ (fun y hy => h y (List.mem_cons_of_mem _ hy)), Act.put_comm a _ _ (fun e he => by obtain rfl := Option.some.inj he; intro h2; exact h x (by simp) (Option.some.inj h2).symm)]
theorem putB_perm {bs cs : List (BoxS × Nat)} (hp : bs.Perm cs) (hn : (bs.map (·.1.d)).Nodup) (a : Act) : putB a bs = putB a cs := by
 unfold putB
 refine List.Perm.foldl_eq' hp (fun x hx y hy z => ?_) a
 by_cases e : x = y
 · subst e; rfl
 · refine Act.put_comm z _ _ (fun d hd h2 => ?_)
   have hd' : x.1.d = y.1.d := by rw [Option.some.inj hd, Option.some.inj h2]
   clear hp
   induction bs with
   | nil => cases hx
   | cons b r ih =>
     simp only [List.map_cons, List.nodup_cons, List.mem_map, not_exists, not_and] at hn
     rcases List.mem_cons.1 hx with h1 | h1 <;> rcases List.mem_cons.1 hy with h3 | h3
     · exact e (h1.trans h3.symm)
     · subst h1; exact hn.1 y h3 hd'.symm
     · subst h3; exact hn.1 x h1 hd'
     · exact ih hn.2 h1 h3
theorem perm_lift : ∀ (zs : List BoxS) (bs : List (BoxS × Nat)), (bs.map (·.1)).Perm zs → ∃ cs, bs.Perm cs ∧ cs.map (·.1) = zs
 | [], bs, h => by
   have : bs = [] := by simpa using h.eq_nil
   exact ⟨[], by rw [this], rfl⟩
 | z :: zs, bs, h => by
   have hz : z ∈ bs.map (·.1) := h.symm.subset (by simp)
   obtain ⟨x, hx, rfl⟩ := List.mem_map.1 hz
   obtain ⟨s, t, rfl⟩ := List.append_of_mem hx
   have h2 : ((s ++ t).map (·.1)).Perm zs := by
    have : ((s ++ x :: t).map (·.1)).Perm (x.1 :: (s ++ t).map (·.1)) := by simp only [List.map_append, List.map_cons]; exact List.perm_middle
    exact (this.symm.trans h).cons_inv
   obtain ⟨cs, hc, he⟩ := perm_lift zs (s ++ t) h2
   exact ⟨x :: cs, List.perm_middle.trans (hc.cons x), by simp [he]⟩
theorem erase_split : ∀ (ps : List BoxS) (j : Nat), j ∈ ps.map (·.i) → ∃ s z t, ps = s ++ z :: t ∧ z.i = j ∧ (ps.map (·.i)).erase j = (s ++ t).map (·.i)
 | [], _, h => by cases h
 | p :: ps, j, h => by
   by_cases e : p.i = j
   · exact ⟨[], p, ps, rfl, e, by rw [List.map_cons, e, List.erase_cons_head]; rfl⟩
   · have h' : j ∈ ps.map (·.i) := by
      rw [List.map_cons] at h
      rcases List.mem_cons.1 h with h | h
      · exact absurd h.symm e
      · exact h
     obtain ⟨s, z, t, h1, h2, h3⟩ := erase_split ps j h'
     exact ⟨p :: s, z, t, by rw [h1]; rfl, h2, by rw [List.map_cons, List.erase_cons_tail (by simpa using e), h3]; rfl⟩
theorem boxB {w w' : World} {B : Nat} {o : Obj} (h : w.heap[B]? = some o) (hb : Below w.heap.size w w') : w'.heap[B]? = some o := (hb.block B (Array.getElem?_eq_some_iff.1 h).1).trans h
section
variable {P : Program} {l : List Oper} {Q : Exit → Act → World → Prop} {md : Region.Mode} {S : World → Prop}
def rdyB (md : Region.Mode) (ops : Array Oper) (fin : Array Bool) : Nat → Array Bool → List Nat → List Nat → Bool
 | 0, L, cs, ps => cs.isEmpty && ps.isEmpty && L.toList == fin.toList
 | n + 1, L, cs, ps =>
   !(Region.ready md ops L).isEmpty && (Region.ready md ops L).all fun j =>
     (match cs with | c :: cs' => c == j && rdyB md ops fin n (L.setIfInBounds j true) cs' ps | [] => false) || (ps.contains j && rdyB md ops fin n (L.setIfInBounds j true) cs (ps.erase j))
def callsB (P : Program) (ops : Array Oper) (zs : List BoxS) (w : World) (R : List Value → World → Prop) (K : Act → List Value → Prop) : List (Nat × Tmp) → Act → List Value → Prop
 | [], A, vs => K A vs
 | c :: cs, A, vs => ∃ o f args, ops[c.1]? = some o ∧ o.dst = some c.2 ∧ (zs.all fun z => !(o.looksAt ops).contains z.d && z.d != c.2) = true ∧ Region.wanted o (yielded ops A.tmps) = true ∧
     (∀ w', (execOp A.eval o).run P w' = .ok (.enter f args) w') ∧
     (∀ w', Below w.heap.size w w' → R vs w' → Calls P f args w' fun e w'' => ∃ v, e = .returned v ∧ Below w'.heap.size w' w'' ∧ R (vs ++ [v]) w'') ∧ ∀ v, callsB P ops zs w R K cs (A.put (some c.2) v) (vs ++ [v])
theorem callsB_cons {ops : Array Oper} {zs : List BoxS} {w : World} {R : List Value → World → Prop} {K : Act → List Value → Prop} {c : Nat × Tmp} {cs : List (Nat × Tmp)} {A : Act} {vs : List Value} {o : Oper} {f : FuncId} {args : Array Value} (ho : ops[c.1]? = some o) (hd : o.dst = some c.2) (hap : (zs.all fun z => !(o.looksAt ops).contains z.d && z.d != c.2) = true) (hw : Region.wanted o (yielded ops A.tmps) = true)
  (hrun : ∀ w', (execOp A.eval o).run P w' = .ok (.enter f args) w') (hcall : ∀ w', Below w.heap.size w w' → R vs w' → Calls P f args w' fun e w'' => ∃ v, e = .returned v ∧ Below w'.heap.size w' w'' ∧ R (vs ++ [v]) w'') (h : ∀ v, callsB P ops zs w R K cs (A.put (some c.2) v) (vs ++ [v])) : callsB P ops zs w R K (c :: cs) A vs :=
 ⟨o, f, args, ho, hd, hap, hw, hrun, hcall, h⟩
theorem wanted_putB {o : Oper} {ops : Array Oper} (bs : List (BoxS × Nat)) : ∀ (a : Act), (∀ x ∈ bs, x.1.d ∉ o.looksAt ops) → Region.wanted o (yielded ops (putB a bs).tmps) = Region.wanted o (yielded ops a.tmps) := by
 induction bs with
 | nil => intro a _; rfl
 | cons x r ih =>
   intro a h
   show Region.wanted o (yielded ops (putB (a.put _ _) r).tmps) = _
   rw [ih _ (fun y hy => h y (List.mem_cons_of_mem _ hy)), wanted_put o a _ _ (fun d hd => by obtain rfl := Option.some.inj hd; exact h x (by simp))]
theorem execOp_putB {o : Oper} {ops : Array Oper} (hs : ∀ cs b, o.op ≠ .select cs b) (bs : List (BoxS × Nat)) : ∀ (a : Act), (∀ x ∈ bs, x.1.d ∉ o.looksAt ops) → execOp (putB a bs).eval o = execOp a.eval o := by
 induction bs with
 | nil => intro a _; rfl
 | cons x r ih =>
   intro a h
   show execOp (putB (a.put _ _) r).eval o = _
   rw [ih _ (fun y hy => h y (List.mem_cons_of_mem _ hy)), execOp_put (ops := ops) o hs a _ _ (fun d hd => by obtain rfl := Option.some.inj hd; exact h x (by simp))]
theorem callsBoxes {zs : List BoxS} {w : World} {R : List Value → World → Prop} {fuel : Nat} {fin : Array Bool} (hsel : Region.noSelect l.toArray = true) (hnd : (zs.map (·.d)).Nodup)
  (hstab : ∀ vs w' w'', R vs w' → Below w'.heap.size w' w'' → R vs w'') (hS : ∀ w', Below w.heap.size w w' → S w')
  (hz : ∀ z ∈ zs, ∃ o, l.toArray[z.i]? = some o ∧ o.dst = some z.d ∧ o.guard = none ∧ ∀ (a : Act) w, (execOp a.eval o).run P w = .ok (.value (.pointer (some ⟨w.heap.size, 0, none⟩))) (w.alloc z.obj)) :
  ∀ (n : Nat) (listed : Array Bool) (cs : List (Nat × Tmp)) (ps : List BoxS) (A : Act) (vs : List Value) (bs : List (BoxS × Nat)) (w' : World),
    rdyB md l.toArray fin n listed (cs.map (·.1)) (ps.map (·.i)) = true → (bs.map (·.1) ++ ps).Perm zs → Below w.heap.size w w' → R vs w' →
    (∀ x ∈ bs, w'.heap[x.2]? = some x.1.obj ∧ w.heap.size ≤ x.2) → (bs.map (·.2)).Nodup →
    callsB P l.toArray zs w R (fun A vs => ∀ (bs : List (BoxS × Nat)) w', bs.map (·.1) = zs → Below w.heap.size w w' → R vs w' → (∀ x ∈ bs, w'.heap[x.2]? = some x.1.obj ∧ w.heap.size ≤ x.2) → (bs.map (·.2)).Nodup → wpAnyH P md l.toArray Q S fuel fin (putB A bs) w') cs A vs →
    wpAnyH P md l.toArray Q S (fuel + n) listed (putB A bs) w' := by
 intro n
 induction n with
 | zero =>
   intro listed cs ps A vs bs w' hr hp hb hR hbx hnb hc
   simp only [rdyB, Bool.and_eq_true, List.isEmpty_iff, List.map_eq_nil_iff, beq_iff_eq] at hr
   obtain ⟨⟨rfl, rfl⟩, hl⟩ := hr
   have hl' : listed = fin := by cases listed; cases fin; simp at hl; rw [hl]
   rw [List.append_nil] at hp
   obtain ⟨cs', h1, h2⟩ := perm_lift zs bs hp
   have hnd' : (bs.map (·.1.d)).Nodup := by
    have : (bs.map (·.1.d)).Perm (zs.map (·.d)) := by have h := hp.map (·.d); rw [List.map_map] at h; exact h
    exact this.symm.nodup hnd
   rw [putB_perm h1 hnd' A, hl']
   exact hc cs' w' h2 hb hR (fun x hx => hbx x (h1.symm.subset hx)) ((h1.map (·.2)).nodup hnb)
 | succ n ih =>
   intro listed cs ps A vs bs w' hr hp hb hR hbx hnb hc
   simp only [rdyB, Bool.and_eq_true, Bool.not_eq_true', List.all_eq_true, Bool.or_eq_true] at hr
   refine wpAnyH_all rfl (fun h => by rw [h] at hr; simp at hr) fun j hj => ?_
   have hbz : ∀ x ∈ bs, x.1 ∈ zs := fun x hx => hp.subset (List.mem_append_left _ (List.mem_map.2 ⟨x, hx, rfl⟩))
   rcases hr.2 j hj with h | h
   · cases cs with
     | nil => cases h
     | cons c cs =>
       simp only [List.map_cons, Bool.and_eq_true, beq_iff_eq] at h
       obtain ⟨hcj, hr'⟩ := h
       obtain ⟨o, f, args, ho, hd, hap, hw, hrun, hcall, hrest⟩ := hc
       rw [hcj] at ho
       simp only [List.all_eq_true, Bool.and_eq_true, Bool.not_eq_true', bne_iff_ne] at hap
       have h1 : ∀ x ∈ bs, x.1.d ∉ o.looksAt l.toArray := fun x hx => by have := (hap _ (hbz x hx)).1; simpa using this
       have h2 : ∀ x ∈ bs, x.1.d ≠ c.2 := fun x hx => (hap _ (hbz x hx)).2
       unfold wpOp
       simp only [ho, wanted_putB bs A h1, hw, if_true]
       refine .inl ?_
       unfold Oper.wp
       rw [execOp_putB (fun cs b => Region.noSelect_spec hsel j o cs b ho) bs A h1, hrun]
       refine (hcall w' hb hR).mono fun e w'' ⟨v, he, hb2, hR2⟩ => ?_
       subst he
       rw [hd]
       have hb3 := below_trans hb hb2 hb.size
       refine ⟨hS _ hb3, ?_⟩
       rw [putB_put bs c.2 v A h2]
       exact ih _ cs ps _ _ bs w'' hr' hp hb3 hR2 (fun x hx => ⟨boxB (hbx x hx).1 hb2, (hbx x hx).2⟩) hnb (hrest v)
   · simp only [List.contains_eq_mem, decide_eq_true_eq] at h
     obtain ⟨hm, hr'⟩ := h
     obtain ⟨s, z, t, rfl, hzi, hse⟩ := erase_split ps j hm
     rw [hse] at hr'
     obtain ⟨o, ho, hd, hg, hrun⟩ := hz z (hp.subset (List.mem_append_right _ (by simp)))
     rw [hzi] at ho
     have hw : ∀ y, Region.wanted o y = true := fun y => by unfold Region.wanted; rw [hg]
     unfold wpOp
     simp only [ho, hw, if_true]
     refine .inl ?_
     unfold Oper.wp
     rw [hrun]
     have hal := (Below.refl w'.heap.size w').alloc (Nat.le_refl _) z.obj
     have hb3 := below_trans hb hal hb.size
     refine ⟨hS _ hb3, ?_⟩
     rw [hd, show (putB A bs).put (some z.d) (.pointer (some ⟨w'.heap.size, 0, none⟩)) = putB A (bs ++ [(z, w'.heap.size)]) by simp [putB]]
     have hlt : ∀ x ∈ bs, x.2 < w'.heap.size := fun x hx => (Array.getElem?_eq_some_iff.1 (hbx x hx).1).1
     refine ih _ cs (s ++ t) A vs _ _ hr' ?_ hb3 (hstab _ _ _ hR hal) (fun x hx => ?_) ?_ hc
     · refine List.Perm.trans ?_ hp
       simp only [List.map_append, List.map_cons, List.map_nil, List.append_assoc, List.cons_append, List.nil_append]
       exact (List.perm_middle.symm).append_left _
     · rcases List.mem_append.1 hx with hx | hx
       · exact ⟨boxB (hbx x hx).1 hal, (hbx x hx).2⟩
       · obtain rfl := List.mem_singleton.1 hx
         exact ⟨heap_alloc_new w' z.obj, hb.size⟩
     · simp only [List.map_append, List.map_cons, List.map_nil]
       rw [List.nodup_append]
       refine ⟨hnb, by simp, fun x hx y hy => ?_⟩
       obtain ⟨q, hq, rfl⟩ := List.mem_map.1 hx
       have := hlt q hq
       have := List.mem_singleton.1 hy
       omega
end
theorem setCell_comm (w : World) {a b : Addr} (h : a.block ≠ b.block) (x y : Value) : (w.setCell a x).setCell b y = (w.setCell b y).setCell a x := by
 unfold World.setCell
 congr 1
 apply Array.ext_getElem?
 intro i
 simp only [Array.getElem?_modify]
 by_cases h1 : a.block = i <;> by_cases h2 : b.block = i
 · exact absurd (h1.trans h2.symm) h
 · simp [h1, h2]
 · simp [h1, h2]
 · simp [h1, h2]
theorem allocM (w : World) (o o' o'' : Obj) : ∃ W, W = ((w.alloc o).alloc o').alloc o'' ∧ Below w.heap.size w W ∧ W.heap[w.heap.size]? = some o ∧ W.heap[w.heap.size + 1]? = some o' ∧ W.heap[w.heap.size + 1 + 1]? = some o'' := by
 refine ⟨_, rfl, (((Below.refl _ _).alloc (Nat.le_refl _) _).alloc (by simp) _).alloc (by simp; omega) _, ?_, ?_, ?_⟩
 · have h1 := heap_alloc_new w o
   have h2 := box_below h1 (below_alloc (w.alloc o) o')
   exact box_below h2 (below_alloc _ o'')
 · have h1 := heap_alloc_new (w.alloc o) o'
   have e : (w.alloc o).heap.size = w.heap.size + 1 := by simp
   rw [e] at h1
   exact box_below h1 (below_alloc _ o'')
 · have h1 := heap_alloc_new ((w.alloc o).alloc o') o''
   have e : ((w.alloc o).alloc o').heap.size = w.heap.size + 1 + 1 := by simp
   rw [e] at h1
   exact h1
theorem Sl.ne_cellsM {w : World} {e t : TypeId} {sz n c b : Nat} {A : Option Addr} {xs : List Value} {cs : Array Value} (h : Sl w e sz A n c xs) (hb : w.heap[b]? = some (.cells cs t)) (he : e ≠ t) : ∀ x, x ∈ fpA A → x ≠ b := by
 intro x hx e'
 subst e'
 rcases h.2.2.2 with ⟨rfl, _⟩ | ⟨g, off, cur, rfl, hg, _⟩
 · simp at hx
 · simp at hx
   subst hx
   rw [hb] at hg
   injection hg with hg
   injection hg with _ h2 _
   exact he h2.symm
theorem OwR.ne_cells {w : World} {A : Option Addr} {c b : Nat} {hs : List Hd} {cs : Array Value} (h : OwR w A c hs) (hb : w.heap[b]? = some (.cells cs tMat)) : b ∉ fpA A ++ fpR hs := by
 intro hx
 rcases List.mem_append.1 hx with h1 | h1
 · exact h.sl.ne_cellsM hb (by decide) b h1 rfl
 · obtain ⟨y, hy, h2⟩ := mem_fpR.1 h1
   exact Sl.ne_cellsM (h.rows y hy) hb (by decide) b h2 rfl
theorem MX.get2 {Sp : Nat → Prop} {w : World} {A : Option Addr} {cap : Nat} {L : List (List Int)} (h : MX Sp w A cap L) {i k : Nat} (hi : i < L.length) (hk : k < L.length) (hne : i ≠ k) : ∃ ad B c D d, A = some ad ∧ w.cell? (ad.add i) = some (.slice B (L.getD i []).length c) ∧ w.cell? (ad.add k) = some (.slice D (L.getD k []).length d) ∧ IS w B c (L.getD i []) ∧ IS w D d (L.getD k []) ∧ ∀ b, b ∈ fpA D → b ∉ fpA B := by
 obtain ⟨hs, rfl, hO, hf⟩ := h
 obtain ⟨ad, B, c, l, hA, hx, hc, _, hI⟩ := hO.get (i := i) (by simpa using hi)
 obtain ⟨ad', D, d, l', hA', hx', hc', _, hI'⟩ := hO.get (i := k) (by simpa using hk)
 rw [hA] at hA'
 obtain rfl := Option.some.inj hA'
 rw [getD_map_hd hx, getD_map_hd hx']
 exact ⟨ad, B, c, D, d, hA, hc, hc', hI, hI', hO.apart_get hx' hx (fun e => hne e.symm)⟩
theorem swapL_symm (L : List (List Int)) {r k : Nat} (h : r ≠ k) : swapL L r k = swapL L k r := by
 unfold swapL
 rw [List.set_comm _ _ h]
theorem MX.blk {Sp : Nat → Prop} {w : World} {ad : Addr} {cap : Nat} {L : List (List Int)} (h : MX Sp w (some ad) cap L) : Sp ad.block := by
 obtain ⟨hs, _, _, hf⟩ := h
 exact hf _ (by simp)
theorem off_add (a : Addr) (n : Nat) : (a.add n).off = a.off + n := by
 unfold Addr.add
 split
 · rename_i h; subst h; rfl
 · rfl
theorem add_ne (a : Addr) {i j : Nat} (h : i ≠ j) : a.add i ≠ a.add j := by
 intro e
 have e1 : (a.add i).off = (a.add j).off := congrArg Addr.off e
 rw [off_add, off_add] at e1
 omega
theorem blk_ne {a b : Addr} (h : a.block ≠ b.block) (i j : Nat) : a.add i ≠ b.add j := fun e => h (by have := congrArg Addr.block e; rwa [block_of_add, block_of_add] at this)
theorem results_cell2_tmp2 {P : Program} {fn : Func} {p q u v : Tmp} {ty : TypeId} (h : fn.results = #[.cell p ty, .cell q ty, .tmp u, .tmp v]) (tmps : Array Value) (w : World) (g g' : Nat) (t : TypeId) (cs cs' : Array Value) (fr fr' : Nat × Nat) (d : TypeDesc)
  (hp : tmps.getD p undef = .pointer (some ⟨g, 0, none⟩)) (hg : w.heap[g]? = some (.cells cs t fr)) (hq : tmps.getD q undef = .pointer (some ⟨g', 0, none⟩)) (hg' : w.heap[g']? = some (.cells cs' t fr'))
  (hu : P.underlying ty = some d) (hd : (match d with | .struct _ | .array _ _ => true | _ => false) = true) (hi : (P.info? ty).map (·.size) = some cs.size) (hi' : (P.info? ty).map (·.size) = some cs'.size) :
  (results fn tmps).run P w = .ok (.tuple #[.agg cs, .agg cs', tmps.getD u undef, tmps.getD v undef]) w := by
 have hp' : tmps[p]?.getD undef = .pointer (some ⟨g, 0, none⟩) := by simpa using hp
 have hq' : tmps[q]?.getD undef = .pointer (some ⟨g', 0, none⟩) := by simpa using hq
 simp [results, h, hp', hq', asAddr, run_loadVar_row w g t ty cs fr d hg hu hd hi, run_loadVar_row w g' t ty cs' fr' d hg' hu hd hi']
structure MrS (w0 : World) (F1 F2 : List Nat) (B8 B9 n m : Nat) (va : Value) (Aa At : Option Addr) (ca ct : Nat) (MA MT : List (List Int)) (w : World) : Prop where
 lo : Below w0.heap.size w0 w
 k3 : w.heap[w0.heap.size]? = some (.cells #[.int .i64 (n : Int), va] tMat)
 k4 : w.heap[w0.heap.size + 1]? = some (.cells #[.int .i64 0, .slice none 0 0] tMat)
 k5 : w.heap[w0.heap.size + 1 + 1]? = some (.cells #[.int .i64 0, .slice none 0 0] tMat)
 k8 : w.heap[B8]? = some (.cells #[.int .i64 (n : Int), .slice Aa m ca] tMat)
 k9 : w.heap[B9]? = some (.cells #[.int .i64 (m : Int), .slice At m ct] tMat)
 a : MX (· ∈ F1) w Aa ca MA
 t : MX (· ∈ F2) w At ct MT
structure MrF (w0 : World) (F1 F2 : List Nat) (B8 B9 : Nat) : Prop where
 ap : ∀ b, b ∈ F1 → b ∉ F2
 l1 : ∀ b, b ∈ F1 → w0.heap.size ≤ b
 l2 : ∀ b, b ∈ F2 → w0.heap.size ≤ b
 n1 : ∀ b, b = w0.heap.size ∨ b = w0.heap.size + 1 ∨ b = w0.heap.size + 1 + 1 ∨ b = B8 ∨ b = B9 → b ∉ F1 ∧ b ∉ F2
section
variable {w0 w w' : World} {F1 F2 : List Nat} {B8 B9 n m : Nat} {va : Value} {Aa At : Option Addr} {ca ct : Nat} {MA MT MA' MT' : List (List Int)}
theorem MrS.below (h : MrS w0 F1 F2 B8 B9 n m va Aa At ca ct MA MT w) (hb : Below w.heap.size w w') : MrS w0 F1 F2 B8 B9 n m va Aa At ca ct MA MT w' :=
 ⟨below_trans h.lo hb h.lo.size, box_below h.k3 hb, box_below h.k4 hb, box_below h.k5 hb, box_below h.k8 hb, box_below h.k9 hb, h.a.below hb, h.t.below hb⟩
theorem MrS.setA (h : MrS w0 F1 F2 B8 B9 n m va Aa At ca ct MA MT w) (F : MrF w0 F1 F2 B8 B9) (hm : MX (· ∈ F1) w' Aa ca MA') (hk : Keeps (· ∈ F1) w w') : MrS w0 F1 F2 B8 B9 n m va Aa At ca ct MA' MT w' :=
 ⟨below_keeps h.lo hk h.lo.size F.l1, box_keeps h.k3 hk (F.n1 _ (.inl rfl)).1, box_keeps h.k4 hk (F.n1 _ (.inr (.inl rfl))).1, box_keeps h.k5 hk (F.n1 _ (.inr (.inr (.inl rfl)))).1, box_keeps h.k8 hk (F.n1 _ (.inr (.inr (.inr (.inl rfl))))).1, box_keeps h.k9 hk (F.n1 _ (.inr (.inr (.inr (.inr rfl))))).1, hm, h.t.keeps hk fun b hb hc => F.ap b hc hb⟩
theorem MrS.setT (h : MrS w0 F1 F2 B8 B9 n m va Aa At ca ct MA MT w) (F : MrF w0 F1 F2 B8 B9) (hm : MX (· ∈ F2) w' At ct MT') (hk : Keeps (· ∈ F2) w w') : MrS w0 F1 F2 B8 B9 n m va Aa At ca ct MA MT' w' :=
 ⟨below_keeps h.lo hk h.lo.size F.l2, box_keeps h.k3 hk (F.n1 _ (.inl rfl)).2, box_keeps h.k4 hk (F.n1 _ (.inr (.inl rfl))).2, box_keeps h.k5 hk (F.n1 _ (.inr (.inr (.inl rfl)))).2, box_keeps h.k8 hk (F.n1 _ (.inr (.inr (.inr (.inl rfl))))).2, box_keeps h.k9 hk (F.n1 _ (.inr (.inr (.inr (.inr rfl))))).2, h.a.keeps hk fun b hb hc => F.ap b hb hc, hm⟩
end
def RetMr (w : World) (n m : Nat) (s : Nat × List (List Int) × List (List Int)) (e : Ending) (w' : World) : Prop :=
 ∃ Aa ca hsa At ct hst, ∃ det : Int, e = .returned (.tuple #[.agg #[.int .i64 (n : Int), .slice Aa m ca], .agg #[.int .i64 (m : Int), .slice At m ct], .int .i64 (s.1 : Int), .int .i64 det]) ∧ s.2.1 = hsa.map (fun h : Hd => h.2.2) ∧ OwR w' Aa ca hsa ∧ s.2.2 = hst.map (fun h : Hd => h.2.2) ∧ OwR w' At ct hst ∧ (∀ b, b ∈ fpA Aa ++ fpR hsa → w.heap.size ≤ b) ∧ (∀ b, b ∈ fpA At ++ fpR hst → w.heap.size ≤ b) ∧ Below w.heap.size w w'
def MrR (w1 : World) (n m : Nat) (L : List (List Int)) (vs : List Value) (w' : World) : Prop :=
 vs = [] ∨ (∃ Aa ca hsa, vs = [.agg #[.int .i64 (n : Int), .slice Aa m ca]] ∧ L = hsa.map (fun h : Hd => h.2.2) ∧ OwR w' Aa ca hsa ∧ ∀ b, b ∈ fpA Aa ++ fpR hsa → w1.heap.size ≤ b) ∨
  ∃ Aa ca hsa At ct hst, vs = [.agg #[.int .i64 (n : Int), .slice Aa m ca], .agg #[.int .i64 (m : Int), .slice At m ct]] ∧ L = hsa.map (fun h : Hd => h.2.2) ∧ OwR w' Aa ca hsa ∧ idM m = hst.map (fun h : Hd => h.2.2) ∧ OwR w' At ct hst ∧ (∀ b, b ∈ fpA Aa ++ fpR hsa → w1.heap.size ≤ b) ∧ (∀ b, b ∈ fpA At ++ fpR hst → w1.heap.size ≤ b) ∧ ∀ b, b ∈ fpA Aa ++ fpR hsa → b ∉ fpA At ++ fpR hst
theorem idM_len (m : Nat) : (idM m).length = m := by simp [idM]
set_option maxRecDepth 100000 in
set_option maxHeartbeats 8000000 in
theorem mxReduce_any (p : Int) (n m : Nat) (A : Option Addr) (c : Nat) (hs : List Hd) (w : World) (h : RdR w A hs) (hm : hs.length = m) (hp : fieldB p = true) (hMat : Mat p m n (hs.map fun h : Hd => h.2.2)) (hm' : m ≤ 1000) (hn' : n ≤ 1000) :
  Calls Tryz.prog 51 #[.int .i64 p, .agg #[.int .i64 (n : Int), .slice A m c]] w (RetMr w n m (redTo p (hs.map fun h : Hd => h.2.2) (idM m) n)) := by
 obtain ⟨L, hLh⟩ : ∃ L, L = hs.map fun h : Hd => h.2.2 := ⟨_, rfl⟩
 have hrow : ∀ x, x ∈ hs → x.2.2.length = n := fun x hx => (hMat.row _ (List.mem_map.2 ⟨x, hx, rfl⟩)).1
 have hRc := fun (W' : World) (hb : Below w.heap.size w W') => mxCopy_any m n A c hs W' (h.below hb) hm hm' hrow hn'
 rw [← hLh] at hMat hRc ⊢
 have hpb := fieldB_bounds hp
 have hRi := fun (W' : World) => mxId_any m W' hm'
 have hLl := hMat.len
 have hRc2 : ∀ (W' : World), Below w.heap.size w W' → Calls Tryz.prog 74 #[.agg #[.int .i64 (n : Int), .slice A m c]] W' fun e w2 => ∃ A1 c1 gs, e = .returned (.agg #[.int .i64 (n : Int), .slice A1 m c1]) ∧ L = gs.map (fun h : Hd => h.2.2) ∧ OwR w2 A1 c1 gs ∧ (∀ b, b ∈ fpA A1 ++ fpR gs → W'.heap.size ≤ b) ∧ Below W'.heap.size W' w2 := fun W' hb => (hRc W' hb).mono fun e w2 ⟨A1, c1, gs, h1, h2, h3, h4, h5⟩ => by
  rw [hLl] at h1
  exact ⟨A1, c1, gs, h1, h2, h3, h4, h5⟩
 have hRi2 : ∀ (W' : World), Calls Tryz.prog 75 #[.int .i64 (m : Int)] W' fun e w2 => ∃ A1 c1 gs, e = .returned (.agg #[.int .i64 (m : Int), .slice A1 m c1]) ∧ idM m = gs.map (fun h : Hd => h.2.2) ∧ OwR w2 A1 c1 gs ∧ (∀ b, b ∈ fpA A1 ++ fpR gs → W'.heap.size ≤ b) ∧ Below W'.heap.size W' w2 := fun W' => (hRi W').mono fun e w2 ⟨A1, c1, gs, h1, h2, h3, h4, h5⟩ => by
  rw [idM_len] at h1
  exact ⟨A1, c1, gs, h1, h2, h3, h4, h5⟩
 obtain ⟨W, hW, bW, k3, k4, k5⟩ := allocM w (.cells #[.int .i64 (n : Int), .slice A m c] tMat) (.cells #[.int .i64 0, .slice none 0 0] tMat) (.cells #[.int .i64 0, .slice none 0 0] tMat)
 clear hRc hRi; have hRc2_h := lH hRc2; have hRi2_h := lH hRi2; have bW_h := lH bW; have k3_h := lH k3; have k4_h := lH k4; have k5_h := lH k5; have h_h := lH h; have hm_h := lH hm; have hrow_h := lH hrow; have hLh_h := lH hLh; have hMat_h := lH hMat; have hLl_h := lH hLl; have hp_h := lH hp; clear hRc2 hRi2 bW k3 k4 k5 h hm hrow hLh hMat hLl hp
 go_enter Tryz.func51, Tryz.ntmps51
 go_upto_region 1 with (fail)
 rw [← hW]
 clear hW
 refine beginH (fun w' => w'.heap[w.heap.size]? = some (.cells #[.int .i64 (n : Int), .slice A m c] tMat)) (by kernel_rfl) ?_
 have hbd : Below W.heap.size W W.drew := below_drewN (Below.refl _ _) 1
 generalize W.drew = W1 at hbd ⊢
 have k31 := box_below k3_h.out hbd
 have k41 := box_below k4_h.out hbd
 have k51 := box_below k5_h.out hbd
 have hB1 := below_trans bW_h.out hbd bW_h.out.size
 clear hbd k3_h k4_h k5_h bW_h; have k31_h := lH k31; have k41_h := lH k41; have k51_h := lH k51; have hB1_h := lH hB1; clear k31 k41 k51 hB1
 refine tkH 0 ?_ rfl k31_h.out (fun W' hW' => ?_) ?_; rotate_left; · (obtain ⟨⟨x0, x1⟩, x2, x3⟩ := box2 hW'; clear hW'; go_simp; first | done | with_reducible rfl)
 simp only [Act.put, nS]
 refine tkH 2 ?_ rfl k31_h.out (fun W' hW' => ?_) ?_; rotate_left; · (obtain ⟨⟨x0, x1⟩, x2, x3⟩ := box2 hW'; clear hW'; go_simp; first | done | with_reducible rfl)
 simp only [Act.put, nS]
 refine tkH 3 ?_ rfl k31_h.out (fun W' hW' => ?_) ?_; rotate_left; · (obtain ⟨⟨x0, x1⟩, x2, x3⟩ := box2 hW'; clear hW'; go_simp; first | done | with_reducible rfl)
 simp only [Act.put, nS]
 refine tkH 4 ?_ rfl k31_h.out (fun W' hW' => ?_) ?_; rotate_left; · (obtain ⟨⟨x0, x1⟩, x2, x3⟩ := box2 hW'; clear hW'; go_simp; first | done | with_reducible rfl)
 simp only [Act.put, nS]
 refine callsBoxes (fuel := 2) (w := W1) (R := MrR W1 n m L) (fin := #[true, true, true, true, true, true, true, true, false, false]) (zs := [⟨6, 8, .cells #[.int .i64 0, .slice none 0 0] tMat⟩, ⟨7, 9, .cells #[.int .i64 0, .slice none 0 0] tMat⟩]) (by kernel_rfl) (by decide) (fun vs w' w'' h hb => ?hst) (fun w' hb => box_below k31_h.out hb) ?hz 4 _ [(1, 20), (5, 24)] [⟨6, 8, .cells #[.int .i64 0, .slice none 0 0] tMat⟩, ⟨7, 9, .cells #[.int .i64 0, .slice none 0 0] tMat⟩] _ [] [] W1 (by kernel_rfl) (List.Perm.refl _) (Below.refl _ _) (.inl rfl) (by simp) (by simp) ?hc
 case hst =>
  rcases h with h | ⟨Aa, ca, hsa, h1, h2, h3, h4⟩ | ⟨Aa, ca, hsa, At, ct, hst, h1, h2, h3, h4, h5, h6⟩
  · exact .inl h
  · exact .inr (.inl ⟨Aa, ca, hsa, h1, h2, h3.below hb, h4⟩)
  · exact .inr (.inr ⟨Aa, ca, hsa, At, ct, hst, h1, h2, h3.below hb, h4, h5.below hb, h6⟩)
 case hz =>
  intro z hz
  simp only [List.mem_cons, List.not_mem_nil, or_false] at hz
  rcases hz with rfl | rfl
  · exact ⟨_, rfl, rfl, rfl, fun a w => (by kernel_rfl)⟩
  · exact ⟨_, rfl, rfl, rfl, fun a w => (by kernel_rfl)⟩
 case hc =>
  refine callsB_cons (f := ?f1) (args := ?a1) rfl rfl (by kernel_rfl) (by rfl) (fun w' => ?r1) (fun w' hb _ => ?c1) (fun v1 => ?k1)
  case r1 => (go_simp; first | done | with_reducible rfl | (constructor <;> with_reducible rfl))
  case c1 =>
   refine (hRc2_h.out w' (below_trans hB1_h.out hb hB1_h.out.size)).mono ?_
   rintro e w2 ⟨A1, c1, gs, rfl, hL, hO, hf, hb2⟩
   exact ⟨_, rfl, hb2, .inr (.inl ⟨A1, c1, gs, rfl, hL, hO, fun b hb' => Nat.le_trans hb.size (hf b hb')⟩)⟩
  case k1 =>
  refine callsB_cons (f := ?f2) (args := ?a2) rfl rfl (by kernel_rfl) (by rfl) (fun w' => ?r2) (fun w' hb hR => ?c2) (fun v2 bs w2 hbs hb2 hR hbx hnd => ?rest)
  case r2 => (go_simp; first | done | with_reducible rfl | (constructor <;> with_reducible rfl))
  case c2 =>
   obtain ⟨Aa, ca, hsa, rfl, hL, hO, hf⟩ : ∃ Aa ca hsa, v1 = .agg #[.int .i64 (n : Int), .slice Aa m ca] ∧ L = hsa.map (fun h : Hd => h.2.2) ∧ OwR w' Aa ca hsa ∧ ∀ b, b ∈ fpA Aa ++ fpR hsa → W1.heap.size ≤ b := by
    rcases hR with h | ⟨Aa, ca, hsa, h1, h2, h3, h4⟩ | ⟨Aa, ca, hsa, At, ct, hst, h1, h2, h3, h4, h5, h6⟩
    · cases h
    · simp at h1; exact ⟨Aa, ca, hsa, h1, h2, h3, h4⟩
    · simp at h1
   refine (hRi2_h.out w').mono ?_
   rintro e w2 ⟨A1, c1, gs, rfl, hL2, hO2, hf2, hb2⟩
   refine ⟨_, rfl, hb2, .inr (.inr ⟨Aa, ca, hsa, A1, c1, gs, rfl, hL, hO.below hb2, hL2, hO2, hf, fun b hb' => Nat.le_trans hb.size (hf2 b hb'), fun b h1 h2 => ?_⟩)⟩
   have h3 := hO.lt b h1
   have h4 := hf2 b h2
   omega
  case rest =>
   obtain ⟨Aa, ca, hsa, At, ct, hst, rfl, rfl, hL, hO, hL2, hO2, hf1, hf2, hap⟩ : ∃ Aa ca hsa At ct hst, v1 = .agg #[.int .i64 (n : Int), .slice Aa m ca] ∧ v2 = .agg #[.int .i64 (m : Int), .slice At m ct] ∧ L = hsa.map (fun h : Hd => h.2.2) ∧ OwR w2 Aa ca hsa ∧ idM m = hst.map (fun h : Hd => h.2.2) ∧ OwR w2 At ct hst ∧ (∀ b, b ∈ fpA Aa ++ fpR hsa → W1.heap.size ≤ b) ∧ (∀ b, b ∈ fpA At ++ fpR hst → W1.heap.size ≤ b) ∧ ∀ b, b ∈ fpA Aa ++ fpR hsa → b ∉ fpA At ++ fpR hst := by
    rcases hR with h | ⟨Aa, ca, hsa, h1, h2, h3, h4⟩ | ⟨Aa, ca, hsa, At, ct, hst, h1, h2, h3, h4, h5, h6, h7, h8⟩
    · cases h
    · simp at h1
    · simp at h1; exact ⟨Aa, ca, hsa, At, ct, hst, h1.1, h1.2, h2, h3, h4, h5, h6, h7, h8⟩
   match bs, hbs with
   | [(zz1, B8), (zz2, B9)], hbs =>
     simp only [List.map_cons, List.map_nil, List.cons.injEq, and_true] at hbs
     obtain ⟨rfl, rfl⟩ := hbs
     obtain ⟨x1, x2⟩ := hbx _ (List.mem_cons_self ..)
     obtain ⟨x3, x4⟩ := hbx _ (List.mem_cons_of_mem _ (List.mem_cons_self ..))
     have hne : B8 ≠ B9 := by simpa using hnd
     simp only at x1 x2 x3 x4
     clear hbx hnd hbs hR
     have k32 := box_below k31_h.out hb2
     have k42 := box_below k41_h.out hb2
     have k52 := box_below k51_h.out hb2
     have hB2 := below_trans hB1_h.out hb2 hB1_h.out.size
     have hz1 := box_lt k51_h.out
     obtain ⟨F1, hF1⟩ : ∃ F, F = fpA Aa ++ fpR hsa := ⟨_, rfl⟩
     obtain ⟨F2, hF2⟩ : ∃ F, F = fpA At ++ fpR hst := ⟨_, rfl⟩
     have hFF : MrF w F1 F2 B8 B9 := by
      refine ⟨fun b hb => by rw [hF2]; exact hap b (hF1 ▸ hb), fun b hb => ?_, fun b hb => ?_, fun b hb => ?_⟩
      · have := hf1 b (hF1 ▸ hb); omega
      · have := hf2 b (hF2 ▸ hb); omega
      · rw [hF1, hF2]
        rcases hb with rfl | rfl | rfl | rfl | rfl
        · exact ⟨hO.ne_cells k32, hO2.ne_cells k32⟩
        · exact ⟨hO.ne_cells k42, hO2.ne_cells k42⟩
        · exact ⟨hO.ne_cells k52, hO2.ne_cells k52⟩
        · exact ⟨hO.ne_cells x1, hO2.ne_cells x1⟩
        · exact ⟨hO.ne_cells x3, hO2.ne_cells x3⟩
     obtain ⟨s1, s2⟩ := set2 (a := .int .i64 (n : Int)) (b := .slice Aa m ca) x1
     have x5 := box_keeps x3 s2 (fun e => hne e.symm)
     obtain ⟨s3, s4⟩ := set2 (a := .int .i64 (m : Int)) (b := .slice At m ct) x5
     have s5 := box_keeps s1 s4 hne
     have hS2 := box_keeps k32 s2 (by omega)
     have hS3 := box_keeps hS2 s4 (by omega)
     have hMA : MX (· ∈ F1) ((((w2.setCell ⟨B8, 0, none⟩ (.int .i64 (n : Int))).setCell ⟨B8, 1, none⟩ (.slice Aa m ca)).setCell ⟨B9, 0, none⟩ (.int .i64 (m : Int))).setCell ⟨B9, 1, none⟩ (.slice At m ct)) Aa ca L := by
      have h1 : MX (· ∈ F1) w2 Aa ca L := ⟨hsa, hL, hO, fun b hb => hF1 ▸ hb⟩
      have h2 := h1.keeps s2 (fun b hb e => (hFF.n1 b (.inr (.inr (.inr (.inl e))))).1 hb)
      exact h2.keeps s4 (fun b hb e => (hFF.n1 b (.inr (.inr (.inr (.inr e))))).1 hb)
     have hMT : MX (· ∈ F2) ((((w2.setCell ⟨B8, 0, none⟩ (.int .i64 (n : Int))).setCell ⟨B8, 1, none⟩ (.slice Aa m ca)).setCell ⟨B9, 0, none⟩ (.int .i64 (m : Int))).setCell ⟨B9, 1, none⟩ (.slice At m ct)) At ct (idM m) := by
      have h1 : MX (· ∈ F2) w2 At ct (idM m) := ⟨hst, hL2, hO2, fun b hb => hF2 ▸ hb⟩
      have h2 := h1.keeps s2 (fun b hb e => (hFF.n1 b (.inr (.inr (.inr (.inl e))))).2 hb)
      exact h2.keeps s4 (fun b hb e => (hFF.n1 b (.inr (.inr (.inr (.inr e))))).2 hb)
     have hBB := below_keeps (below_keeps hB2 s2 hB2.size (fun k hk => by omega)) s4 (by have := s2.size; have := hB2.size; omega) (fun k hk => by omega)
     have hS4 := box_keeps (box_keeps k42 s2 (by omega)) s4 (by omega)
     have hS5 := box_keeps (box_keeps k52 s2 (by omega)) s4 (by omega)
     have hMS : MrS w F1 F2 B8 B9 n m (.slice A m c) Aa At ca ct L (idM m) ((((w2.setCell ⟨B8, 0, none⟩ (.int .i64 (n : Int))).setCell ⟨B8, 1, none⟩ (.slice Aa m ca)).setCell ⟨B9, 0, none⟩ (.int .i64 (m : Int))).setCell ⟨B9, 1, none⟩ (.slice At m ct)) :=
      ⟨hBB, hS3, hS4, hS5, s5, s3, hMA, hMT⟩
     obtain ⟨⟨c0, c1'⟩, c3, c4⟩ := box2 x1
     obtain ⟨⟨d0, d1⟩, d3, d4⟩ := box2 x5
     clear hMA hMT hBB hS4 hS5 hO hO2 hL hL2 hf1 hf2 hap hF1 hF2 k32 k42 k52 hB2 s1 s2 s3 s4 s5 x1 x3 x5; have hMS_h := lH hMS; have hS2_h := lH hS2; have hS3_h := lH hS3; have hFF_h := lH hFF; have hne_h := lH hne; have hb2_h := lH hb2; have x2_h := lH x2; have x4_h := lH x4; clear hMS hS2 hS3 hFF hne hb2 x2 x4
     simp only [putB, List.foldl_cons, List.foldl_nil]
     simp only [Act.put, nS]
     refine oneH 8 rfl (by kernel_rfl) (by rfl) (fun K hK => ?_)
     go_simp
     refine hK _ _ hS2_h.out ?_
     clear hK K
     refine oneH 9 rfl (by kernel_rfl) (by rfl) (fun K hK => ?_)
     go_simp
     refine hK _ _ hS3_h.out ?_
     clear hK K
     refine doneH (by kernel_rfl) ?_
     obtain ⟨W5, hW5⟩ : ∃ W5, W5 = (((w2.setCell ⟨B8, 0, none⟩ (.int .i64 (n : Int))).setCell ⟨B8, 1, none⟩ (.slice Aa m ca)).setCell ⟨B9, 0, none⟩ (.int .i64 (m : Int))).setCell ⟨B9, 1, none⟩ (.slice At m ct) := ⟨_, rfl⟩
     rw [← hW5] at hMS_h ⊢
     clear hW5 c0 c1' c3 c4 d0 d1 d3 d4 hS2_h hS3_h
     obtain ⟨⟨c0, c1'⟩, c2, c3⟩ := box2 hMS_h.out.k8
     go_wp2_with (fail)
     clear c0 c1' c2 c3
     go_loopw [12, 10, 11] (fun jv rv dv wr => ∃ (col R : Nat) (det : Int) (MA MT : List (List Int)), col ≤ n ∧ jv = .int .i64 col ∧ rv = .int .i64 R ∧ dv = .int .i64 det ∧ (0 ≤ det ∧ det < p) ∧ (redTo p L (idM m) col).1 = R ∧ (redTo p L (idM m) col).2.1 = MA ∧ (redTo p L (idM m) col).2.2 = MT ∧ MrS w F1 F2 B8 B9 n m (.slice A m c) Aa At ca ct MA MT wr) (fun jv _ _ _ => n - (intOf jv).toNat)
     case atStart => exact ⟨0, 0, 1, L, idM m, Nat.zero_le _, rfl, rfl, rfl, by omega, rfl, rfl, rfl, hMS_h.out⟩
     case round =>
      clear hMS_h
      obtain ⟨col, R, det, MA, MT, hcol, rfl, rfl, rfl, hdet, hR, hMA, hMT, hMS⟩ := hrel
      obtain ⟨hMm, hRm⟩ := redTo_mat hp_h.out hMat_h.out (idM m) hcol
      have hTm := redTo_mat3 hp_h.out hMat_h.out (idM_mat (by omega) m) col hcol
      rw [hMA] at hMm
      rw [hR] at hRm
      rw [hMT] at hTm
      obtain ⟨wo, rfl⟩ : ∃ x, x = wr := ⟨_, rfl⟩
      have hAl := hMm.len
      have hTl := hTm.len
      obtain ⟨⟨c0, c1'⟩, c2, c3⟩ := box2 hMS.k8
      obtain ⟨⟨d0, d1⟩, d2, d3⟩ := box2 hMS.k9
      obtain ⟨⟨e0, e1⟩, e2, e3⟩ := box2 hMS.k3
      have hR_h := lH hR; have hMA_h := lH hMA; have hMT_h := lH hMT; have hMm_h := lH hMm; have hTm_h := lH hTm; have hAl_h := lH hAl; have hTl_h := lH hTl; have hMS_h := lH hMS; clear hR hMA hMT hMm hTm hAl hTl hMS
      by_cases hcn : col < n
      case pos =>
       have hcI : (col : Int) < (n : Int) := by omega
       go_wp2_with (fail)
       go_loop [13] (fun v => ∃ q : Nat, R ≤ q ∧ q ≤ m ∧ v = .int .i64 q ∧ pvFrom MA col (m - q) q = pvFrom MA col (m - R) R) (fun v => m - (intOf v).toNat)
       case atStart => exact ⟨R, Nat.le_refl _, hRm, rfl, rfl⟩
       case round =>
        obtain ⟨q, hRq, hqm, rfl, hpv⟩ := hrel
        have HPV := lH hpv; clear hpv
        by_cases hlt : q < m
        · obtain ⟨ad, B, d, hA', hcq, hfq, hIq, hBs⟩ := hMS_h.out.a.get (i := q) (by rw [hAl_h.out]; exact hlt)
          have hrl := (hMm_h.out.get hlt).1
          obtain ⟨bd, x, hB, hx, _, hcx, _⟩ := hIq.at_ (j := col) (by rw [hrl]; exact hcn)
          have hxe : x = en MA q col := by unfold en; simp [List.getD] at hx ⊢; rw [hx]; rfl
          have hxb := hMm_h.out.en (by omega) hlt col
          rw [← hxe] at hxb
          rw [hrl] at hcq
          have HXE := lH hxe
          have hqI : (q : Int) < (m : Int) := by omega
          subst hA'
          subst hB
          clear hBs
          by_cases hx0 : x = 0
          · subst hx0
            have hpn := pvFrom_eq hlt HXE.out.symm
            have HPN := lH hpn; clear hpn hxe hIq hrl hx hfq
            go_wp2_with (fail)
            go_round
            case rel => exact ⟨q + 1, by omega, by omega, by go_num, by rw [← HPN.out]; exact HPV.out⟩
            case measure => simp [intOf]; omega
          · have hx1 : (x == 0) = false := by rw [beq_eq_false_iff_ne]; exact hx0
            have hpn : pvFrom MA col (m - R) R = q := by rw [← HPV.out]; exact pvFrom_hit hlt (by rw [← HXE.out]; exact hx0)
            have HPN := lH hpn
            have hqb : ((q : Int) == (m : Int)) = false := by rw [beq_eq_false_iff_ne]; omega
            have hfq_h := lH hfq; clear hpn HPV hxe hIq hrl hx hfq
            go_upto_if 57 with (fail)
            go_cut [11] (fun dv wx => ∃ det' : Int, dv = .int .i64 det' ∧ (0 ≤ det' ∧ det' < p) ∧ MrS w F1 F2 B8 B9 n m (.slice A m c) (some ad) At ca ct (swapL MA R q) (swapL MT R q) wx)
            case first =>
             by_cases hqR : R < q
             · have hRq' : (R : Int) < (q : Int) := by omega
               have hRm' : R < m := by omega
               obtain ⟨td, Tq, tq, hT1, htq, _⟩ := hMS_h.out.t.get (i := q) (by rw [hTl_h.out]; exact hlt)
               subst hT1
               rw [(hTm_h.out.get hlt).1] at htq
               go_wp2_with (fail)
               go_quiet (fail)
               go_wp2_with (fail)
               refine wp_region_still_tail 9 (by kernel_rfl) (by kernel_rfl) ?_
               simp only [List.take_succ_cons, List.take_zero, List.drop_succ_cons, List.drop_zero]
               change wpStill _ _ (wo.drewN nq).drew (fun a' => wpList _ _ _ _ a' (wo.drewN nq).drew) _ _
               have hMV : MrS w F1 F2 B8 B9 n m (.slice A m c) (some ad) (some td) ca ct MA MT (wo.drewN nq).drew := hMS_h.out.below (below_drewN (below_drewN (Below.refl _ _) nq) 1)
               have hcqV : (wo.drewN nq).drew.cell? (ad.add q) = some (.slice (some bd) n d) := hcq
               have htqV : (wo.drewN nq).drew.cell? (td.add q) = some (.slice Tq m tq) := htq
               have hfqV : (wo.drewN nq).drew.frozen? (ad.add q) = false := hfq_h.out
               clear hcq htq hcx c0 c1' c2 c3 d0 d1 d2 d3 e0 e1 e2 e3
               generalize (wo.drewN nq).drew = V0 at hMV hcqV htqV hfqV ⊢
               obtain ⟨ad2, BR, cR, hA2, hcR, hfR, _⟩ := hMV.a.get (i := R) (by rw [hAl_h.out]; exact hRm')
               obtain rfl := Option.some.inj hA2
               obtain ⟨td2, TR, tR, hT2, htR, hgR, _⟩ := hMV.t.get (i := R) (by rw [hTl_h.out]; exact hRm')
               obtain rfl := Option.some.inj hT2
               obtain ⟨td3, _, _, hT3, _, hgq, _⟩ := hMV.t.get (i := q) (by rw [hTl_h.out]; exact hlt)
               obtain rfl := Option.some.inj hT3
               rw [(hMm_h.out.get hRm').1] at hcR
               rw [(hTm_h.out.get hRm').1] at htR
               have b1 : ad.block ∈ F1 := hMV.a.blk
               have b2 : td.block ∈ F2 := hMV.t.blk
               have hbl : ad.block ≠ td.block := fun e => hFF_h.out.ap _ b1 (e ▸ b2)
               -- the worlds on the way
               obtain ⟨U1, hU1⟩ : ∃ U, U = V0.setCell (ad.add q) (.slice BR n cR) := ⟨_, rfl⟩
               obtain ⟨V1, hV1⟩ : ∃ U, U = U1.drew := ⟨_, rfl⟩
               obtain ⟨U2, hU2⟩ : ∃ U, U = V1.setCell (td.add q) (.slice TR m tR) := ⟨_, rfl⟩
               obtain ⟨U3, hU3⟩ : ∃ U, U = U2.setCell (ad.add R) (.slice (some bd) n d) := ⟨_, rfl⟩
               obtain ⟨U4, hU4⟩ : ∃ U, U = U3.setCell (td.add R) (.slice Tq m tq) := ⟨_, rfl⟩
               have q1 : V1.cell? (ad.add R) = some (.slice BR n cR) := by rw [hV1, hU1]; show (V0.setCell _ _).cell? _ = _; rw [World.cell?_setCell_other _ _ _ _ (add_ne ad (by omega))]; exact hcR
               have q2 : V1.cell? (td.add q) = some (.slice Tq m tq) := by rw [hV1, hU1]; show (V0.setCell _ _).cell? _ = _; rw [World.cell?_setCell_other _ _ _ _ (blk_ne hbl _ _)]; exact htqV
               have q3 : V1.cell? (td.add R) = some (.slice TR m tR) := by rw [hV1, hU1]; show (V0.setCell _ _).cell? _ = _; rw [World.cell?_setCell_other _ _ _ _ (blk_ne hbl _ _)]; exact htR
               have q4 : U2.cell? (ad.add R) = some (.slice BR n cR) := by rw [hU2, World.cell?_setCell_other _ _ _ _ (fun e => blk_ne hbl _ _ e.symm)]; exact q1
               have q5 : U2.cell? (td.add R) = some (.slice TR m tR) := by rw [hU2, World.cell?_setCell_other _ _ _ _ (add_ne td (by omega))]; exact q3
               have q6 : U3.cell? (td.add R) = some (.slice TR m tR) := by rw [hU3, World.cell?_setCell_other _ _ _ _ (blk_ne hbl _ _)]; exact q5
               have g1 : ∀ k, V1.frozen? (ad.add k) = V0.frozen? (ad.add k) ∧ V1.frozen? (td.add k) = V0.frozen? (td.add k) := fun k => by rw [hV1, hU1]; show (V0.setCell _ _).frozen? _ = _ ∧ (V0.setCell _ _).frozen? _ = _; rw [World.frozen?_setCell, World.frozen?_setCell]; exact ⟨rfl, rfl⟩
               have g2 : ∀ k, U2.frozen? (ad.add k) = V0.frozen? (ad.add k) ∧ U2.frozen? (td.add k) = V0.frozen? (td.add k) := fun k => by rw [hU2, World.frozen?_setCell, World.frozen?_setCell]; exact g1 k
               have g3 : ∀ k, U3.frozen? (ad.add k) = V0.frozen? (ad.add k) ∧ U3.frozen? (td.add k) = V0.frozen? (td.add k) := fun k => by rw [hU3, World.frozen?_setCell, World.frozen?_setCell]; exact g2 k
               have f1 : V1.frozen? (td.add q) = false := (g1 q).2.trans hgq
               have f2 : U2.frozen? (ad.add R) = false := (g2 R).1.trans hfR
               have f3 : U3.frozen? (td.add R) = false := (g3 R).2.trans hgR
               have K1 : Keeps (· ∈ F1) V0 V1 := by rw [hV1, hU1]; exact ((Keeps.refl _ _).setCell (by rw [block_of_add]; exact b1) _).drew
               have K2 : Keeps (· ∈ F2) V1 U2 := by rw [hU2]; exact (Keeps.refl _ _).setCell (by rw [block_of_add]; exact b2) _
               have K3 : Keeps (· ∈ F1) U2 U3 := by rw [hU3]; exact (Keeps.refl _ _).setCell (by rw [block_of_add]; exact b1) _
               have k91 := box_keeps hMV.k9 K1 (hFF_h.out.n1 _ (.inr (.inr (.inr (.inr rfl))))).1
               have k81 := box_keeps hMV.k8 K1 (hFF_h.out.n1 _ (.inr (.inr (.inr (.inl rfl))))).1
               have k82 := box_keeps k81 K2 (hFF_h.out.n1 _ (.inr (.inr (.inr (.inl rfl))))).2
               have k92 := box_keeps k91 K2 (hFF_h.out.n1 _ (.inr (.inr (.inr (.inr rfl))))).2
               have k93 := box_keeps k92 K3 (hFF_h.out.n1 _ (.inr (.inr (.inr (.inr rfl))))).1
               have hEnd : MrS w F1 F2 B8 B9 n m (.slice A m c) (some ad) (some td) ca ct (swapL MA R q) (swapL MT R q) U4 := by
                have e4 : U4 = ((((V0.setCell (ad.add q) (.slice BR n cR)).setCell (ad.add R) (.slice (some bd) n d)).setCell (td.add q) (.slice TR m tR)).setCell (td.add R) (.slice Tq m tq)).drew := by
                 rw [hU4, hU3, hU2, hV1, hU1]
                 show World.drew ((((V0.setCell (ad.add q) (.slice BR n cR)).setCell (td.add q) (.slice TR m tR)).setCell (ad.add R) (.slice (some bd) n d)).setCell (td.add R) (.slice Tq m tq)) = _
                 rw [setCell_comm _ (a := td.add q) (b := ad.add R) (by rw [block_of_add, block_of_add]; exact fun e => hbl e.symm)]
                rw [e4]
                obtain ⟨p1, p2⟩ := hMV.a.swap (r := q) (k := R) (by rw [hAl_h.out]; exact hlt) (by rw [hAl_h.out]; exact hRm') rfl hcR hcqV
                rw [swapL_symm _ (show q ≠ R by omega)] at p1
                have r1 := hMV.setA hFF_h.out p1 p2
                have e5 : ((V0.setCell (ad.add q) (.slice BR n cR)).setCell (ad.add R) (.slice (some bd) n d)).cell? (td.add R) = some (.slice TR m tR) := by
                 rw [World.cell?_setCell_other _ _ _ _ (blk_ne hbl _ _), World.cell?_setCell_other _ _ _ _ (blk_ne hbl _ _)]; exact htR
                have e6 : ((V0.setCell (ad.add q) (.slice BR n cR)).setCell (ad.add R) (.slice (some bd) n d)).cell? (td.add q) = some (.slice Tq m tq) := by
                 rw [World.cell?_setCell_other _ _ _ _ (blk_ne hbl _ _), World.cell?_setCell_other _ _ _ _ (blk_ne hbl _ _)]; exact htqV
                obtain ⟨p3, p4⟩ := r1.t.swap (r := q) (k := R) (by rw [hTl_h.out]; exact hlt) (by rw [hTl_h.out]; exact hRm') rfl e5 e6
                rw [swapL_symm _ (show q ≠ R by omega)] at p3
                exact (r1.setT hFF_h.out p3 p4).below (below_drewN (Below.refl _ _) 1)
               have hN := fun W' => fdNeg_any p det W' (by omega) hpb.2 hdet.1 hdet.2
               have k80 := hMV.k8
               obtain ⟨⟨c0, c1'⟩, c2, c3⟩ := box2 k80
               clear g1 g2 g3 K1 K2 K3 htR hgR hgq k80 htqV; have hV1_h := lH hV1; have hU2_h := lH hU2; have hU3_h := lH hU3; have hU4_h := lH hU4; clear hV1 hU2 hU3 hU4; have q1_h := lH q1; have q2_h := lH q2; have q3_h := lH q3; have q4_h := lH q4; have q5_h := lH q5; have q6_h := lH q6; have f1_h := lH f1; have f2_h := lH f2; have f3_h := lH f3; have k81_h := lH k81; have k91_h := lH k91; have k82_h := lH k82; have k92_h := lH k92; have k93_h := lH k93; have hEnd_h := lH hEnd; have hN_h := lH hN; have b1_h := lH b1; have b2_h := lH b2; have hbl_h := lH hbl; have hMV_h := lH hMV; have hfR_h := lH hfR; clear q1 q2 q3 q4 q5 q6 f1 f2 f3 k81 k91 k82 k92 k93 hEnd hN b1 b2 hbl hMV hfR
               repeat still_step
               refine wpStill_nil ?_
               go_upto_region 13 with (fail)
               rw [← hU1]
               clear hU1 c0 c1' c2 c3 hcR hcqV hfqV
               refine wp_region_still_tail 9 (by kernel_rfl) (by kernel_rfl) ?_
               simp only [List.take_succ_cons, List.take_zero, List.drop_succ_cons, List.drop_zero]
               change wpStill _ _ U1.drew (fun a' => wpList _ _ _ _ a' U1.drew) _ _
               rw [← hV1_h.out]
               obtain ⟨⟨c0, c1'⟩, c2, c3⟩ := box2 k91_h.out
               have r1 := q2_h.out
               have r2 := q3_h.out
               have r3 := f1_h.out
               repeat still_step
               refine wpStill_nil ?_
               go_upto_region 14 with (fail)
               rw [← hU2_h.out]
               clear c0 c1' c2 c3 r1 r2 r3
               obtain ⟨⟨c0, c1'⟩, c2, c3⟩ := box2 k82_h.out
               have r1 := q4_h.out
               have r2 := f2_h.out
               go_upto_region 15 with (fail)
               rw [← hU3_h.out]
               clear c0 c1' c2 c3 r1 r2
               obtain ⟨⟨c0, c1'⟩, c2, c3⟩ := box2 k93_h.out
               have r1 := q6_h.out
               have r2 := f3_h.out
               go_upto_region 16 with (fail)
               rw [← hU4_h.out]
               clear c0 c1' c2 c3 r1 r2
               go_wp2_with (fail)
               refine (hN_h.out _).mono ?_
               rintro e w6 ⟨rfl, hw6⟩
               subst w6
               go_wp2_with (fail)
               go_meet
               exact ⟨_, rfl, ⟨Int.emod_nonneg _ (by omega), Int.emod_lt_of_pos _ (by omega)⟩, hEnd_h.out⟩
             · obtain rfl : R = q := by omega
               go_wp2_with (fail)
               go_meet
               exact ⟨det, rfl, hdet, by rw [swapL_self, swapL_self]; exact hMS_h.out⟩
            case rest =>
             obtain ⟨det', rfl, hdet', hMS2⟩ := hcut
             obtain ⟨w7, rfl⟩ : ∃ x, x = wc := ⟨_, rfl⟩
             have hRm' : R < m := by omega
             obtain ⟨SA, hSA⟩ : ∃ X, X = swapL MA R q := ⟨_, rfl⟩
             obtain ⟨ST, hST⟩ : ∃ X, X = swapL MT R q := ⟨_, rfl⟩
             have hSm := hMm_h.out.swap (r := R) (k := q) hRm' hlt
             have hTm2 := hTm_h.out.swap (r := R) (k := q) hRm' hlt
             have hSx : en SA R col = x := by
              rw [HXE.out, hSA]; unfold en
              rw [swapL_get (by rw [hAl_h.out]; omega) (by rw [hAl_h.out]; omega)]
              by_cases e : R = q
              · rw [if_pos e, e]
              · rw [if_neg e, if_pos rfl]
             rw [← hSA] at hMS2 hSm
             rw [← hST] at hMS2 hTm2
             obtain ⟨ad3, B3, c3', hA3, hc3, hf3, hI3, _⟩ := hMS2.a.get (i := R) (by rw [hSm.len]; omega)
             obtain rfl := Option.some.inj hA3
             have hl3 := (hSm.get hRm').1
             obtain ⟨b3, y, hB3, hy, _, hcy, _⟩ := hI3.at_ (j := col) (by rw [hl3]; exact hcn)
             have hyx : y = x := by rw [← hSx]; unfold en; simp [List.getD] at hy ⊢; rw [hy]; rfl
             have hSx_e : en MA q col = y := by rw [hyx]; exact HXE.out.symm
             subst hyx
             subst hB3
             rw [hl3] at hc3
             have hy1 : 1 ≤ y := by omega
             have hy2 : y < p := hxb.2
             obtain ⟨iv, hiv⟩ : ∃ iv, iv = invM p y := ⟨_, rfl⟩
             have hinv := invM_spec hp_h.out hy1 hy2
             rw [← hiv] at hinv
             have hiv1 := hinv.2.1
             have hiv2 := hinv.2.2
             have hI := fun W' => fdInv_any p y W' hp_h.out hy1 hy2
             rw [← hiv] at hI
             have hMul := fun W' => fdMul_any p det' y W' (by omega) hdet'.1 (by omega) (by omega) (by omega)
             have hde0 := Int.emod_nonneg (det' * y) (show p ≠ 0 by omega)
             have hde1 := Int.emod_lt_of_pos (det' * y) (show 0 < p by omega)
             -- the row of A, scaled
             have hRlen := hl3
             have hRres := (hSm.get hRm').2
             have hScA := fun W' (h' : IS W' (some b3) c3' (SA.getD R [])) => mxScale_any p iv (some b3) c3' n (SA.getD R []) W' h' hl3 (by omega) (by omega) hpb.2 hRres ⟨by omega, hiv2⟩
             obtain ⟨⟨c0, c1'⟩, c2, c3⟩ := box2 hMS2.k8
             clear hcq hcx hx1 hx0 hdet hxb hf3 hinv hy hA3; have hSA_h := lH hSA; have hST_h := lH hST; have hSm_h := lH hSm; have hTm2_h := lH hTm2; have hSx_h := lH hSx; have hSx_e_h := lH hSx_e; have hMS2_h := lH hMS2; have hI3_h := lH hI3; have hl3_h := lH hl3; have hiv_h := lH hiv; have hI_h := lH hI; have hMul_h := lH hMul; have hde0_h := lH hde0; have hde1_h := lH hde1; have hRlen_h := lH hRlen; have hRres_h := lH hRres; have hScA_h := lH hScA; clear hSA hST hSm hTm2 hSx hSx_e hMS2 hI3 hl3 hiv hI hMul hde0 hde1 hRlen hRres hScA
             go_wp2_with (fail)
             refine (hMul_h.out _).mono ?_
             rintro e w8 ⟨rfl, hw8⟩
             subst w8
             go_wp2_with (fail)
             refine wp_region_still_tail 9 (by kernel_rfl) (by kernel_rfl) ?_
             simp only [List.take_succ_cons, List.take_zero, List.drop_succ_cons, List.drop_zero]
             change wpStill _ _ w7.drew (fun a' => wpList _ _ _ _ a' w7.drew) _ _
             have hMV : MrS w F1 F2 B8 B9 n m (.slice A m c) (some ad) At ca ct SA ST w7.drew := hMS2_h.out.below (below_drewN (Below.refl _ _) 1)
             have d3 : w7.drew.cell? (ad.add R) = some (.slice (some b3) n c3') := hc3
             have hI4 : IS w7.drew (some b3) c3' (SA.getD R []) := hI3_h.out
             clear c0 c1' c2 c3 hc3 hcy
             generalize w7.drew = V1 at hMV d3 hI4 ⊢
             obtain ⟨⟨c0, c1'⟩, c2, c3⟩ := box2 hMV.k8
             have C1 := stillC2 (hI_h.out V1)
             have hSA1 : SA.length = m := hSm_h.out.len
             have hST1 : ST.length = m := hTm2_h.out.len
             have C2 := hScA_h.out V1 hI4
             clear hI4; have hMV_h := lH hMV; have C1_h := lH C1; have C2_h := lH C2; have hSA1_h := lH hSA1; have hST1_h := lH hST1; clear hMV C1 C2 hSA1 hST1
             repeat still_step
             still_call C1_h.out
             repeat still_step
             refine wpStill_nil ?_
             go_wp2_with (fail)
             refine (C2_h.out).mono ?_
             rintro e w9 ⟨rfl, hWr⟩
             obtain ⟨p1, p2⟩ := hMV_h.out.a.wr (i := R) (by rw [hSA1_h.out]; exact hRm') rfl d3 (by rw [scaleV_length]) hWr
             have hMS3 := hMV_h.out.setA hFF_h.out p1 p2
             obtain ⟨M2, hM2⟩ : ∃ M2, M2 = scaleL p R iv SA := ⟨_, rfl⟩
             have e1 : SA.set R (scaleV p iv (SA.getD R [])) = M2 := hM2.symm
             rw [e1] at hMS3
             clear hWr p1 p2 e1 d3 c0 c1' c2 c3; have hM2_h := lH hM2; have hMS3_h := lH hMS3; clear hM2 hMS3
             go_upto_region 20 with (fail)
             refine wp_region_still_tail 9 (by kernel_rfl) (by kernel_rfl) ?_
             simp only [List.take_succ_cons, List.take_zero, List.drop_succ_cons, List.drop_zero]
             change wpStill _ _ w9.drew (fun a' => wpList _ _ _ _ a' w9.drew) _ _
             have hMV2 : MrS w F1 F2 B8 B9 n m (.slice A m c) (some ad) At ca ct M2 ST w9.drew := hMS3_h.out.below (below_drewN (Below.refl _ _) 1)
             generalize w9.drew = V2 at hMV2 ⊢
             obtain ⟨td, TB, tc, hT1, htc, _, hTI, _⟩ := hMV2.t.get (i := R) (by rw [hST1_h.out]; exact hRm')
             subst hT1
             obtain ⟨htl, htr⟩ := hTm2_h.out.get hRm'
             rw [htl] at htc
             obtain ⟨⟨c0, c1'⟩, c2, c3⟩ := box2 hMV2.k9
             have C3 := stillC2 (hI_h.out V2)
             have C4 := mxScale_any p iv TB tc m (ST.getD R []) V2 hTI htl (by omega) (by omega) hpb.2 htr ⟨by omega, hiv2⟩
             clear hTI htl htr; have hMV2_h := lH hMV2; have C3_h := lH C3; have C4_h := lH C4; clear hMV2 C3 C4
             repeat still_step
             still_call C3_h.out
             repeat still_step
             refine wpStill_nil ?_
             go_wp2_with (fail)
             refine (C4_h.out).mono ?_
             rintro e w10 ⟨rfl, hWr⟩
             obtain ⟨p1, p2⟩ := hMV2_h.out.t.wr (i := R) (by rw [hST1_h.out]; exact hRm') rfl htc (by rw [scaleV_length]) hWr
             have hMS4 := hMV2_h.out.setT hFF_h.out p1 p2
             obtain ⟨T2, hT2⟩ : ∃ T2, T2 = scaleL p R iv ST := ⟨_, rfl⟩
             have e1 : ST.set R (scaleV p iv (ST.getD R [])) = T2 := hT2.symm
             rw [e1] at hMS4
             have hm2 : Mat p m n M2 := by rw [hM2_h.out]; exact hSm_h.out.scale (by omega) hRm' iv
             have ht2 : Mat p m m T2 := by rw [hT2]; exact hTm2_h.out.scale (by omega) hRm' iv
             have hml2 := hm2.len
             have htl2 := ht2.len
             clear hWr p1 p2 e1 htc c0 c1' c2 c3
             obtain ⟨⟨c0, c1'⟩, c2, c3⟩ := box2 hMS4.k8
             have hT2_h := lH hT2; have hMS4_h := lH hMS4; have hm2_h := lH hm2; have ht2_h := lH ht2; have hml2_h := lH hml2; have htl2_h := lH htl2; clear hT2 hMS4 hm2 ht2 hml2 htl2
             go_wp2_with (fail)
             clear c0 c1' c2 c3
             go_loopw [134] (fun i wr => ∃ g : Nat, g ≤ m ∧ i = .int .i64 g ∧ MrS w F1 F2 B8 B9 n m (.slice A m c) (some ad) (some td) ca ct (elimTo p R (fun i => en M2 i col) M2 g) (elimTo p R (fun i => en M2 i col) T2 g) wr) (fun i _ => m - (intOf i).toNat)
             case atStart => exact ⟨0, Nat.zero_le _, rfl, by rw [elimTo_zero, elimTo_zero]; exact hMS4_h.out⟩
             case round =>
              clear hMS4_h
              obtain ⟨g, hg, rfl, hMS5⟩ := hrel
              by_cases hgm : g < m
              · have hgI : (g : Int) < (m : Int) := by omega
                obtain ⟨ad4, B4, c4, hA4, hc4, _, hI5, _⟩ := hMS5.a.get (i := g) (by rw [elimTo_length, hml2_h.out]; exact hgm)
                obtain rfl := Option.some.inj hA4
                rw [elimTo_at (by rw [hml2_h.out]; exact hgm)] at hc4 hI5
                have hgl := (hm2_h.out.get hgm).1
                rw [hgl] at hc4
                obtain ⟨b4, x2, hB4, hx2, _, hcx2, _⟩ := hI5.at_ (j := col) (by rw [hgl]; exact hcn)
                have hx2e : x2 = en M2 g col := by unfold en; simp [List.getD] at hx2 ⊢; rw [hx2]; rfl
                have hx2b := hm2_h.out.en (by omega) hgm col
                rw [← hx2e] at hx2b
                subst hB4
                obtain ⟨⟨c0, c1'⟩, c2, c3⟩ := box2 hMS5.k8
                clear hI5 hx2 hgl; have hx2e_h := lH hx2e; have hMS5_h := lH hMS5; clear hx2e hMS5
                by_cases hgR : g = R
                · have hb : ((g : Int) == (R : Int)) = true := by rw [beq_iff_eq]; omega
                  have hb' : ((g : Int) != (R : Int)) = false := by rw [bne_eq_false_iff_eq]; omega
                  have hsk := elimTo_skip (p := p) (L := M2) (f := fun i => en M2 i col) (.inl hgR)
                  have hsk2 := elimTo_skip (p := p) (L := T2) (f := fun i => en M2 i col) (.inl hgR)
                  have hsk_h := lH hsk; have hsk2_h := lH hsk2; have hgR_h := lH hgR; clear hsk hsk2 hgR
                  go_wp2_with (fail)
                  go_roundw
                  case rel => exact ⟨g + 1, by omega, by go_num, by rw [hsk_h.out, hsk2_h.out]; exact hMS5_h.out⟩
                  case measure => simp [intOf]; omega
                · have hb : ((g : Int) == (R : Int)) = false := by rw [beq_eq_false_iff_ne]; omega
                  have hb' : ((g : Int) != (R : Int)) = true := by rw [bne_iff_ne]; omega
                  by_cases hx20 : x2 = 0
                  · subst hx20
                    have hsk := elimTo_skip (p := p) (r := R) (q := g) (L := M2) (f := fun i => en M2 i col) (.inr hx2e_h.out.symm)
                    have hsk2 := elimTo_skip (p := p) (r := R) (q := g) (L := T2) (f := fun i => en M2 i col) (.inr hx2e_h.out.symm)
                    have hsk_h := lH hsk; have hsk2_h := lH hsk2; have hgR_h := lH hgR; clear hsk hsk2 hgR
                    go_wp2_with (fail)
                    go_roundw
                    case rel => exact ⟨g + 1, by omega, by go_num, by rw [hsk_h.out, hsk2_h.out]; exact hMS5_h.out⟩
                    case measure => simp [intOf]; omega
                  · have hx21 : (x2 == 0) = false := by rw [beq_eq_false_iff_ne]; exact hx20
                    have hx22 : (x2 != 0) = true := by rw [bne_iff_ne]; exact hx20
                    have hst := elimTo_step (p := p) (r := R) (q := g) (L := M2) (f := fun i => en M2 i col) (by rw [hml2_h.out]; exact hgm) hgR (by rw [← hx2e_h.out]; exact hx20)
                    have hst2 := elimTo_step (p := p) (r := R) (q := g) (L := T2) (f := fun i => en M2 i col) (by rw [htl2_h.out]; exact hgm) hgR (by rw [← hx2e_h.out]; exact hx20)
                    simp only [← hx2e_h.out] at hst hst2
                    have hst_h := lH hst; have hst2_h := lH hst2; clear hst hst2
                    go_wp2_with (fail)
                    refine wp_region_still_tail 12 (by kernel_rfl) (by kernel_rfl) ?_
                    simp only [List.take_succ_cons, List.take_zero, List.drop_succ_cons, List.drop_zero]
                    change wpStill _ _ wr.drew (fun a' => wpList _ _ _ _ a' wr.drew) _ _
                    obtain ⟨E, hE⟩ : ∃ E, E = elimTo p R (fun i => en M2 i col) M2 g := ⟨_, rfl⟩
                    obtain ⟨E2, hE2⟩ : ∃ E, E = elimTo p R (fun i => en M2 i col) T2 g := ⟨_, rfl⟩
                    have hMV3 : MrS w F1 F2 B8 B9 n m (.slice A m c) (some ad) (some td) ca ct E E2 wr.drew := by rw [hE, hE2]; exact hMS5_h.out.below (below_drewN (Below.refl _ _) 1)
                    clear hc4 hcx2 c0 c1' c2 c3
                    generalize wr.drew = V3 at hMV3 ⊢
                    have hEl : E.length = m := by rw [hE, elimTo_length]; exact hml2_h.out
                    have hEl2 : E2.length = m := by rw [hE2, elimTo_length]; exact htl2_h.out
                    have hEg : E.getD g [] = M2.getD g [] := by rw [hE]; exact elimTo_at (by rw [hml2_h.out]; exact hgm)
                    have hER : E.getD R [] = M2.getD R [] := by rw [hE]; exact elimTo_piv (by rw [hml2_h.out]; exact hRm')
                    have hEg2 : E2.getD g [] = T2.getD g [] := by rw [hE2]; exact elimTo_at (by rw [htl2_h.out]; exact hgm)
                    have hER2 : E2.getD R [] = T2.getD R [] := by rw [hE2]; exact elimTo_piv (by rw [htl2_h.out]; exact hRm')
                    rw [← hE, ← hEg, ← hER] at hst_h
                    rw [← hE2, ← hEg2, ← hER2] at hst2_h
                    obtain ⟨ad5, B5, c5, D5, d5, hA5, hcg, hcR, hIg, hIR, hapx⟩ := hMV3.a.get2 (i := g) (k := R) (by rw [hEl]; exact hgm) (by rw [hEl]; exact hRm') hgR
                    obtain rfl := Option.some.inj hA5
                    have hlg : (E.getD g []).length = n := by rw [hEg]; exact (hm2_h.out.get hgm).1
                    have hlR : (E.getD R []).length = n := by rw [hER]; exact (hm2_h.out.get hRm').1
                    have hrg : Res p (E.getD g []) := by rw [hEg]; exact (hm2_h.out.get hgm).2
                    have hrR : Res p (E.getD R []) := by rw [hER]; exact (hm2_h.out.get hRm').2
                    have hlg2 : (E2.getD g []).length = m := by rw [hEg2]; exact (ht2_h.out.get hgm).1
                    have hlR2 : (E2.getD R []).length = m := by rw [hER2]; exact (ht2_h.out.get hRm').1
                    have hrg2 : Res p (E2.getD g []) := by rw [hEg2]; exact (ht2_h.out.get hgm).2
                    have hrR2 : Res p (E2.getD R []) := by rw [hER2]; exact (ht2_h.out.get hRm').2
                    have C5 := mxLess_any p x2 B5 D5 c5 d5 n (E.getD g []) (E.getD R []) V3 hIg hIR.rd hapx hlg hlR (by omega) (by omega) hpb.2 hrg hrR hx2b
                    rw [hlg] at hcg
                    rw [hlR] at hcR
                    obtain ⟨⟨c0, c1'⟩, c2, c3⟩ := box2 hMV3.k8
                    clear hIg hIR hapx; have hMV3_h := lH hMV3; have C5_h := lH C5; have hE_h := lH hE; have hE2_h := lH hE2; have hEl_h := lH hEl; have hEl2_h := lH hEl2; have hEg_h := lH hEg; have hER_h := lH hER; have hEg2_h := lH hEg2; have hER2_h := lH hER2; have hlg_h := lH hlg; have hlR_h := lH hlR; have hrg_h := lH hrg; have hrR_h := lH hrR; have hlg2_h := lH hlg2; have hlR2_h := lH hlR2; have hrg2_h := lH hrg2; have hrR2_h := lH hrR2; clear hMV3 C5 hE hE2 hEl hEl2 hEg hER hEg2 hER2 hlg hlR hrg hrR hlg2 hlR2 hrg2 hrR2
                    repeat still_step
                    refine wpStill_nil ?_
                    go_wp2_with (fail)
                    refine (C5_h.out).mono ?_
                    rintro e w11 ⟨rfl, hWr⟩
                    obtain ⟨p1, p2⟩ := hMV3_h.out.a.wr (i := g) (by rw [hEl_h.out]; exact hgm) rfl hcg (by rw [addT_length]) hWr
                    rw [← hst_h.out] at p1
                    have hMS6 := hMV3_h.out.setA hFF_h.out p1 p2
                    clear hWr p1 p2 hcg hcR c0 c1' c2 c3; have hMS6_h := lH hMS6; clear hMS6
                    go_upto_region 27 with (fail)
                    refine wp_region_still_tail 12 (by kernel_rfl) (by kernel_rfl) ?_
                    simp only [List.take_succ_cons, List.take_zero, List.drop_succ_cons, List.drop_zero]
                    change wpStill _ _ w11.drew (fun a' => wpList _ _ _ _ a' w11.drew) _ _
                    have hMV4 : MrS w F1 F2 B8 B9 n m (.slice A m c) (some ad) (some td) ca ct (elimTo p R (fun i => en M2 i col) M2 (g + 1)) E2 w11.drew := hMS6_h.out.below (below_drewN (Below.refl _ _) 1)
                    generalize w11.drew = V4 at hMV4 ⊢
                    obtain ⟨td5, B6, c6, D6, d6, hA6, hcg, hcR, hIg, hIR, hapx⟩ := hMV4.t.get2 (i := g) (k := R) (by rw [hEl2_h.out]; exact hgm) (by rw [hEl2_h.out]; exact hRm') hgR
                    obtain rfl := Option.some.inj hA6
                    have C6 := mxLess_any p x2 B6 D6 c6 d6 m (E2.getD g []) (E2.getD R []) V4 hIg hIR.rd hapx hlg2_h.out hlR2_h.out (by omega) (by omega) hpb.2 hrg2_h.out hrR2_h.out hx2b
                    rw [hlg2_h.out] at hcg
                    rw [hlR2_h.out] at hcR
                    obtain ⟨⟨c0, c1'⟩, c2, c3⟩ := box2 hMV4.k9
                    clear hIg hIR hapx; have hMV4_h := lH hMV4; have C6_h := lH C6; clear hMV4 C6
                    repeat still_step
                    refine wpStill_nil ?_
                    go_wp2_with (fail)
                    refine (C6_h.out).mono ?_
                    rintro e w12 ⟨rfl, hWr⟩
                    obtain ⟨p1, p2⟩ := hMV4_h.out.t.wr (i := g) (by rw [hEl2_h.out]; exact hgm) rfl hcg (by rw [addT_length]) hWr
                    rw [← hst2_h.out] at p1
                    have hMS7 := hMV4_h.out.setT hFF_h.out p1 p2
                    clear hWr p1 p2 hcg hcR c0 c1' c2 c3; have hMS7_h := lH hMS7; have hgR_h := lH hgR; clear hMS7 hgR
                    go_wp2_with (fail)
                    go_roundw
                    case rel => exact ⟨g + 1, by omega, by go_num, hMS7_h.out⟩
                    case measure => simp [intOf]; omega
              · obtain rfl : m = g := by omega
                obtain ⟨e1, e2, e3⟩ := redTo_some (p := p) (L := L) (A := idM m) (c := col) (k := q) (by rw [hMA_h.out, hR_h.out, hAl_h.out]; exact HPN.out) (by rw [hMA_h.out, hAl_h.out]; exact hlt) (M := M2) (by rw [hM2_h.out, hMA_h.out, hR_h.out, hSA_h.out, hiv_h.out, hSx_e_h.out])
                rw [hR_h.out] at e1 e2
                rw [hml2_h.out] at e2
                rw [hMA_h.out, hMT_h.out, hR_h.out, hTl_h.out, hSx_e_h.out, ← hiv_h.out, ← hST_h.out, ← hT2_h.out] at e3
                have e1_h := lH e1; have e2_h := lH e2; have e3_h := lH e3; have hMS5_h := lH hMS5; clear e1 e2 e3 hMS5
                go_wp2_with (fail)
                go_roundw
                case rel => exact ⟨col + 1, R + 1, _, _, _, by omega, by go_num, by go_num, rfl, ⟨hde0_h.out, hde1_h.out⟩, e1_h.out, e2_h.out, e3_h.out, hMS5_h.out⟩
                case measure => simp [intOf]; omega
        · obtain rfl : q = m := by omega
          have hpn : ¬ pvFrom MA col (MA.length - R) R < MA.length := by rw [hAl_h.out, ← HPV.out, pvFrom_end]; omega
          have hred := redTo_none (p := p) (L := L) (A := idM q) (c := col) (by rw [hMA_h.out, hR_h.out]; exact hpn)
          have HRD := lH hred
          have hqb : ((q : Int) == (q : Int)) = true := by rw [beq_iff_eq]
          clear hpn hred
          go_wp2_with (fail)
          go_roundw
          case rel => exact ⟨col + 1, R, det, MA, MT, by omega, by go_num, rfl, rfl, hdet, by rw [HRD.out]; exact hR_h.out, by rw [HRD.out]; exact hMA_h.out, by rw [HRD.out]; exact hMT_h.out, hMS_h.out⟩
          case measure => simp [intOf]; omega
      case neg =>
       obtain rfl : n = col := by omega
       go_wp2_with (fail)
       have hMV : MrS w F1 F2 B8 B9 n m (.slice A m c) Aa At ca ct MA MT wo.drew := hMS_h.out.below (below_drewN (Below.refl _ _) 1)
       refine beginH (fun w' => w'.heap[B8]? = some (.cells #[.int .i64 (n : Int), .slice Aa m ca] tMat) ∧ w'.heap[B9]? = some (.cells #[.int .i64 (m : Int), .slice At m ct] tMat)) (by kernel_rfl) ?_
       clear c0 c1' c2 c3 d0 d1 d2 d3 e0 e1 e2 e3
       generalize wo.drew = V at hMV ⊢
       obtain ⟨s1, s2⟩ := set2 (a := .int .i64 (n : Int)) (b := .slice Aa m ca) hMV.k4
       have n8 : B8 ≠ w.heap.size + 1 ∧ B8 ≠ w.heap.size + 1 + 1 := by have h1 := x2_h.out; have h2 := hz1; exact ⟨by omega, by omega⟩
       have n9 : B9 ≠ w.heap.size + 1 ∧ B9 ≠ w.heap.size + 1 + 1 := by have h1 := x4_h.out; have h2 := hz1; exact ⟨by omega, by omega⟩
       have k8a := box_keeps hMV.k8 s2 n8.1
       have k9a := box_keeps hMV.k9 s2 n9.1
       have k5a := box_keeps hMV.k5 s2 (by omega)
       obtain ⟨s3, s4⟩ := set2 (a := .int .i64 (m : Int)) (b := .slice At m ct) k5a
       have k8b := box_keeps k8a s4 n8.2
       have k9b := box_keeps k9a s4 n9.2
       have s5 := box_keeps s1 s4 (by omega)
       have hMA2 := (hMV.a.keeps s2 (fun b hb e => (hFF_h.out.n1 b (.inr (.inl e))).1 hb)).keeps s4 (fun b hb e => (hFF_h.out.n1 b (.inr (.inr (.inl e)))).1 hb)
       have hMT2 := (hMV.t.keeps s2 (fun b hb e => (hFF_h.out.n1 b (.inr (.inl e))).2 hb)).keeps s4 (fun b hb e => (hFF_h.out.n1 b (.inr (.inr (.inl e)))).2 hb)
       have hBB := below_keeps (below_keeps hMV.lo s2 hMV.lo.size (fun k hk => by omega)) s4 (by have := s2.size; have := hMV.lo.size; omega) (fun k hk => by omega)
       obtain ⟨⟨e0, e1⟩, e2, e3⟩ := box2 hMV.k4
       obtain ⟨⟨d0, d1⟩, d2, d3⟩ := box2 k5a
       have k8 := hMV.k8
       have k9 := hMV.k9
       obtain ⟨g1, g2, g3, g4⟩ := hMA2
       obtain ⟨g5, g6, g7, g8⟩ := hMT2
       have l1 := hFF_h.out.l1
       have l2 := hFF_h.out.l2
       clear hMV; have k8_h := lH k8; have k9_h := lH k9; have k8a_h := lH k8a; have k9a_h := lH k9a; have k8b_h := lH k8b; have k9b_h := lH k9b; have k5a_h := lH k5a; have s1_h := lH s1; have s2_h := lH s2; have s3_h := lH s3; have s4_h := lH s4; have s5_h := lH s5; have hBB_h := lH hBB; have g2_h := lH g2; have g3_h := lH g3; have g4_h := lH g4; have g6_h := lH g6; have g7_h := lH g7; have g8_h := lH g8; have l1_h := lH l1; have l2_h := lH l2; have n8_h := lH n8; have n9_h := lH n9; clear k8 k9 k8a k9a k8b k9b k5a s1 s2 s3 s4 s5 hBB g2 g3 g4 g6 g7 g8 l1 l2 n8 n9
       refine tkH 0 ?_ rfl ⟨k8_h.out, k9_h.out⟩ (fun W' hW' => ?_) ?_; rotate_left; · (obtain ⟨⟨y0, y1⟩, y2, y3⟩ := box2 hW'.1; obtain ⟨⟨z0, z1⟩, z2, z3⟩ := box2 hW'.2; clear hW'; go_simp; first | done | with_reducible rfl)
       simp only [Act.put, nS]
       refine tkH 1 ?_ rfl ⟨k8_h.out, k9_h.out⟩ (fun W' hW' => ?_) ?_; rotate_left; · (obtain ⟨⟨y0, y1⟩, y2, y3⟩ := box2 hW'.1; obtain ⟨⟨z0, z1⟩, z2, z3⟩ := box2 hW'.2; clear hW'; go_simp; first | done | with_reducible rfl)
       simp only [Act.put, nS]
       refine tkH 2 ?_ rfl ⟨k8_h.out, k9_h.out⟩ (fun W' hW' => ?_) ?_; rotate_left; · (obtain ⟨⟨y0, y1⟩, y2, y3⟩ := box2 hW'.1; obtain ⟨⟨z0, z1⟩, z2, z3⟩ := box2 hW'.2; clear hW'; go_simp; first | done | with_reducible rfl)
       simp only [Act.put, nS]
       refine tkH 3 ?_ rfl ⟨k8_h.out, k9_h.out⟩ (fun W' hW' => ?_) ?_; rotate_left; · (obtain ⟨⟨y0, y1⟩, y2, y3⟩ := box2 hW'.1; obtain ⟨⟨z0, z1⟩, z2, z3⟩ := box2 hW'.2; clear hW'; go_simp; first | done | with_reducible rfl)
       simp only [Act.put, nS]
       refine oneH 4 rfl (by kernel_rfl) (by rfl) (fun K hK => ?_)
       go_simp
       refine hK _ _ ⟨k8a_h.out, k9a_h.out⟩ ?_
       clear hK K
       refine oneH 5 rfl (by kernel_rfl) (by rfl) (fun K hK => ?_)
       go_simp
       refine hK _ _ ⟨k8b_h.out, k9b_h.out⟩ ?_
       clear hK K
       refine tkH 6 ?_ rfl ⟨k8b_h.out, k9b_h.out⟩ (fun W' hW' => ?_) ?_; rotate_left; · (skip; clear hW'; go_simp; first | done | with_reducible rfl)
       simp only [Act.put, nS]
       refine tkH 7 ?_ rfl ⟨k8b_h.out, k9b_h.out⟩ (fun W' hW' => ?_) ?_; rotate_left; · (skip; clear hW'; go_simp; first | done | with_reducible rfl)
       simp only [Act.put, nS]
       refine doneH (by kernel_rfl) ?_
       go_wp2_with (fail)
       refine bodyPost_ret (results_cell2_tmp2 rfl _ _ (w.heap.size + 1) (w.heap.size + 1 + 1) _ _ _ (0, 0) (0, 0) _ rfl s5_h.out rfl s3_h.out Tryz.underlying55 rfl (by kernel_rfl) (by kernel_rfl)) rfl ?_
       refine ⟨Aa, ca, g1, At, ct, g5, det, by rw [hR_h.out]; rfl, by rw [hMA_h.out]; exact g2_h.out, g3_h.out, by rw [hMT_h.out]; exact g6_h.out, g7_h.out, fun b hb => l1_h.out b (g4_h.out b hb), fun b hb => l2_h.out b (g8_h.out b hb), hBB_h.out⟩
end Go.Proofs.YtjompikdkhhlgaaGreatDoor
