/-
  What the texts above it need, part 2.
-/
import Derived.Test.YtpkmjenoniedjaaKImageGraph1
import Derived.IntWalk
import Derived.StillTail
import Derived.Deep.DeepCutAuto
namespace Go.Proofs.Ytpkmjenoniedjaa
open Go.RowKit
theorem gvB_iff (k v : Int) : gvB k v = true ↔ ((k = 7 ∨ k = 13) ∧ 0 ≤ v ∧ v ≤ 96) ∨ (k ≠ 7 ∧ k ≠ 13 ∧ v = 0) := by
 unfold gvB hvB t_inB
 by_cases h : k = 7 ∨ k = 13
 · rw [decide_eq_true h, if_pos rfl, decide_eq_true_eq]
   constructor
   · intro h3; exact .inl ⟨h, h3⟩
   · intro h3; omega
 · rw [decide_eq_false h, if_neg (by simp), decide_eq_true_eq]
   constructor
   · intro h3; exact .inr ⟨by omega, by omega, h3⟩
   · intro h3; omega
theorem leafB_gv {k v : Int} (h1 : 3 ≤ k) (h2 : k ≤ 14) : leafB (k, v, noName) = gvB k v := by
 rw [Bool.eq_iff_iff, gvB_iff]
 unfold leafB
 simp only [decide_eq_true_eq]
 constructor
 · rintro ⟨-, h3⟩; omega
 · intro h3; exact ⟨trivial, by omega⟩
set_option maxHeartbeats 1000000 in
theorem t_l1All_any (A : Option Addr) (c n : Nat) (l : List Int) (lo hi : Int) (w : World) (h : RdI w A l) (hn : l.length = n) (hnb : n ≤ 17592186044416) :
  Calls Try.prog 60 #[.slice A n c, .int .i64 lo, .int .i64 hi] w fun e w' => e = .returned (.bool (l.all fun x => t_inB x lo hi)) ∧ w' = w := by
 obtain ⟨D, hD⟩ : ∃ D, D = l.all fun x => t_inB x lo hi := ⟨_, rfl⟩
 rw [← hD]
 have hD_h := lH hD; have hn_h := lH hn; clear hD hn
 go_enter Try.func60, Try.ntmps60
 go_wp2_with (fail)
 go_loop [11] (fun i => ∃ k : Nat, k ≤ n ∧ i = .int .i64 k ∧ (l.take k).all (fun x => t_inB x lo hi) = true) (fun i => n - (intOf i).toNat)
 case atStart => exact ⟨0, Nat.zero_le _, rfl, by simp⟩
 case round =>
  obtain ⟨k, hk, rfl, hall⟩ := hrel
  by_cases hlt : k < n
  · obtain ⟨ad, x, rfl, hx, hc⟩ := h.at_ (j := k) (by rw [hn_h.out]; exact hlt)
    have hkI : (k : Int) < (n : Int) := by omega
    have hC := t_l1In_any x lo hi w
    cases hb : t_inB x lo hi
    · rw [hb] at hC
      have hf : D = false := by
       rw [hD_h.out, Bool.eq_false_iff]
       intro hh
       have := List.all_eq_true.1 hh x (List.mem_of_getElem? hx)
       rw [hb] at this; cases this
      subst hf
      have hC_h := lH hC; have hall_h := lH hall; have hx_h := lH hx; clear hC hall hx; clear h hb
      go_wp2_with (fail)
      refine (hC_h.out).mono ?_
      rintro e w1 ⟨rfl, rfl⟩
      go_wp2_with (fail)
      go_ret
      exact ⟨rfl, rfl⟩
    · rw [hb] at hC
      have hst : (l.take (k + 1)).all (fun x => t_inB x lo hi) = true := by
       rw [List.take_add_one, hx, List.all_append, hall]; simp [hb]
      have hC_h := lH hC; have hst_h := lH hst; clear hC hst; clear h hb hall hx
      go_wp2_with (fail)
      refine (hC_h.out).mono ?_
      rintro e w1 ⟨rfl, rfl⟩
      go_wp2_with (fail)
      go_round
      case rel => exact ⟨k + 1, by omega, by go_num, hst_h.out⟩
      case measure => simp [intOf]; omega
  · obtain rfl : n = k := by omega
    have ht : D = true := by rw [hD_h.out, ← hall, List.take_of_length_le (by rw [hn_h.out]; exact Nat.le_refl _)]
    subst ht
    have hall_h := lH hall; clear hall; clear h
    go_wp2_with (fail)
    go_ret
    exact ⟨rfl, rfl⟩
set_option maxRecDepth 100000 in
set_option maxHeartbeats 4000000 in
theorem hgEdge_any (k v : Int) (B C : Option Addr) (b c : Nat) (l m : List Int) (n : Int) (w : World) (hB : RdI w B l) (hC : RdI w C m) (hl : l.length ≤ 1048576) (hm : m.length ≤ 1048576) (n0 : -1000000 ≤ n) (n1 : n ≤ 1000000) :
  Calls Try.prog 61 #[.agg #[.int .i64 k, .int .i64 v, .slice B l.length b, .slice C m.length c], .int .i64 n] w fun e w' => e = .returned (.bool (hgB n (k, v, l, m))) ∧ Below w.heap.size w w' := by
 obtain ⟨p, hp⟩ : ∃ p, p = l.length := ⟨_, rfl⟩
 obtain ⟨q, hq⟩ : ∃ q, q = m.length := ⟨_, rfl⟩
 have hA1 := fun (W : World) (hb : Below w.heap.size w W) => t_l1All_any B b p l 0 (n - 1) W (hB.below hb) hp.symm (by omega)
 have hA2 := fun (W : World) (hb : Below w.heap.size w W) => t_l1All_any C c q m 0 (n - 1) W (hC.below hb) hq.symm (by omega)
 obtain ⟨D, hD⟩ : ∃ D, D = hgB n (k, v, l, m) := ⟨_, rfl⟩
 have hDD : D = ((t_inB k 3 14 && (gvB k v && decide (((p : Int), (q : Int)) = kindTy k))) && ((l.all fun x => t_inB x 0 (n - 1)) && (m.all fun x => t_inB x 0 (n - 1)))) := by rw [hD, hp, hq]; rfl
 rw [← hD, ← hp, ← hq]
 obtain ⟨D1, hD1⟩ : ∃ D, D = l.all fun x => t_inB x 0 (n - 1) := ⟨_, rfl⟩
 obtain ⟨D2, hD2⟩ : ∃ D, D = m.all fun x => t_inB x 0 (n - 1) := ⟨_, rfl⟩
 simp only [← hD1] at hA1 hDD
 simp only [← hD2] at hA2 hDD
 have hkd : decide (((p : Int), (q : Int)) = kindTy k) = (((p : Int) == (kindTy k).1) && ((q : Int) == (kindTy k).2)) := by
  rw [Bool.eq_iff_iff]
  simp only [decide_eq_true_eq, Bool.and_eq_true, beq_iff_eq]
  exact ⟨fun h => ⟨congrArg Prod.fst h, congrArg Prod.snd h⟩, fun h => Prod.ext h.1 h.2⟩
 rw [hkd] at hDD
 have hTL := fun (W : World) => tmLeaf_any k v noName W
 have hIn := fun (W : World) => t_l1In_any k 3 14 W
 have hTK := fun (W : World) => tmKind_any k W
 obtain ⟨i1, hi1⟩ : ∃ i, i = (kindTy k).1 := ⟨_, rfl⟩
 obtain ⟨i2, hi2⟩ : ∃ i, i = (kindTy k).2 := ⟨_, rfl⟩
 simp only [← hi1, ← hi2] at hTK hDD
 have wn : IntKind.i64.wrap (n - 1) = n - 1 := IntWalk.i64_in _ (by omega)
 obtain ⟨W, hW, bW, k0⟩ : ∃ W, W = w.alloc (.cells #[.int .i64 k, .int .i64 v, .slice B p b, .slice C q c] tEd) ∧ Below w.heap.size w W ∧ W.heap[w.heap.size]? = some (.cells #[.int .i64 k, .int .i64 v, .slice B p b, .slice C q c] tEd) := ⟨_, rfl, t_below_alloc _ _, heap_alloc_new _ _⟩
 obtain ⟨⟨c0, c1, c2, c3⟩, f0, f1, f2, f3⟩ := t_box4 k0
 clear hB hC hD hkd hD1 hD2 hi1 hi2
 by_cases h0 : t_inB k 3 14 = true
 case neg =>
  have h0' : t_inB k 3 14 = false := by simpa using h0
  obtain rfl : D = false := by rw [hDD, h0']; rfl
  simp only [h0'] at hIn
  clear h0 h0' hDD; have hA1_h := lH hA1; have hA2_h := lH hA2; have hTL_h := lH hTL; have hIn_h := lH hIn; have hTK_h := lH hTK; have k0_h := lH k0; have bW_h := lH bW; have hp_h := lH hp; have hq_h := lH hq; clear hA1 hA2 hTL hIn hTK k0 bW hp hq
  go_enter Try.func61, Try.ntmps61
  go_upto_region 1 with (fail)
  rw [← hW]
  clear hW
  go_wp2_with (fail)
  refine (hIn_h.out _).mono ?_
  rintro e w1 ⟨rfl, rfl⟩
  go_wp2_with (fail)
  go_ret
  exact ⟨rfl, bW_h.out⟩
 have hb14 : 3 ≤ k ∧ k ≤ 14 := of_decide_eq_true h0
 have hlf0 := leafB_gv (v := v) hb14.1 hb14.2
 simp only [h0] at hIn
 rw [h0, Bool.true_and] at hDD
 by_cases h1 : gvB k v = true
 case neg =>
  have h1' : gvB k v = false := by simpa using h1
  obtain rfl : D = false := by rw [hDD, h1']; rfl
  have hlf : leafB (k, v, noName) = false := by rw [hlf0, h1']
  clear h0 h1 h1' hDD hlf0 hb14; have hA1_h := lH hA1; have hA2_h := lH hA2; have hTL_h := lH hTL; have hIn_h := lH hIn; have hTK_h := lH hTK; have k0_h := lH k0; have bW_h := lH bW; have hp_h := lH hp; have hq_h := lH hq; clear hA1 hA2 hTL hIn hTK k0 bW hp hq
  go_enter Try.func61, Try.ntmps61
  go_upto_region 1 with (fail)
  rw [← hW]
  clear hW
  go_wp2_with (fail)
  refine (hIn_h.out _).mono ?_
  rintro e w1 ⟨rfl, rfl⟩
  go_wp2_with (fail)
  refine (hTL_h.out _).mono ?_
  rintro e w2 ⟨lb, rfl, hlb, hb2⟩
  rw [hlf] at hlb
  subst hlb
  clear c0 c1 c2 c3 f0 f1 f2 f3
  have k2 := t_box_below k0_h.out hb2
  obtain ⟨⟨c0, c1, c2, c3⟩, f0, f1, f2, f3⟩ := t_box4 k2
  have hB2 := below_trans bW_h.out hb2 bW_h.out.size
  clear hb2 k2; have hB2_h := lH hB2; clear hB2
  go_wp2_with (fail)
  go_ret
  exact ⟨rfl, hB2_h.out⟩
 have hlf : leafB (k, v, noName) = true := by rw [hlf0, h1]
 rw [h1, Bool.true_and] at hDD
 clear h0 h1 hlf0 hb14
 by_cases h2 : (p : Int) = i1
 case neg =>
  have h2' : ((p : Int) == i1) = false := by rw [beq_eq_false_iff_ne]; exact h2
  obtain rfl : D = false := by rw [hDD, h2']; rfl
  clear h2 hDD; have hA1_h := lH hA1; have hA2_h := lH hA2; have hTL_h := lH hTL; have hIn_h := lH hIn; have hTK_h := lH hTK; have k0_h := lH k0; have bW_h := lH bW; have hp_h := lH hp; have hq_h := lH hq; clear hA1 hA2 hTL hIn hTK k0 bW hp hq
  go_enter Try.func61, Try.ntmps61
  go_upto_region 1 with (fail)
  rw [← hW]
  clear hW
  go_wp2_with (fail)
  refine (hIn_h.out _).mono ?_
  rintro e w1 ⟨rfl, rfl⟩
  go_wp2_with (fail)
  refine (hTL_h.out _).mono ?_
  rintro e w2 ⟨lb, rfl, hlb, hb2⟩
  rw [hlf] at hlb
  subst hlb
  clear c0 c1 c2 c3 f0 f1 f2 f3
  have k2 := t_box_below k0_h.out hb2
  obtain ⟨⟨c0, c1, c2, c3⟩, f0, f1, f2, f3⟩ := t_box4 k2
  have hB2 := below_trans bW_h.out hb2 bW_h.out.size
  clear hb2 k2; have hB2_h := lH hB2; clear hB2
  go_wp2_with (fail)
  refine (hTK_h.out _).mono ?_
  rintro e w3 ⟨rfl, rfl⟩
  go_wp2_with (fail)
  go_ret
  exact ⟨rfl, hB2_h.out⟩
 have h2' : ((p : Int) == i1) = true := by rw [beq_iff_eq]; exact h2
 rw [h2', Bool.true_and] at hDD
 clear h2
 by_cases h3 : (q : Int) = i2
 case neg =>
  have h3' : ((q : Int) == i2) = false := by rw [beq_eq_false_iff_ne]; exact h3
  obtain rfl : D = false := by rw [hDD, h3']; rfl
  clear h3 hDD; have hA1_h := lH hA1; have hA2_h := lH hA2; have hTL_h := lH hTL; have hIn_h := lH hIn; have hTK_h := lH hTK; have k0_h := lH k0; have bW_h := lH bW; have hp_h := lH hp; have hq_h := lH hq; clear hA1 hA2 hTL hIn hTK k0 bW hp hq
  go_enter Try.func61, Try.ntmps61
  go_upto_region 1 with (fail)
  rw [← hW]
  clear hW
  go_wp2_with (fail)
  refine (hIn_h.out _).mono ?_
  rintro e w1 ⟨rfl, rfl⟩
  go_wp2_with (fail)
  refine (hTL_h.out _).mono ?_
  rintro e w2 ⟨lb, rfl, hlb, hb2⟩
  rw [hlf] at hlb
  subst hlb
  clear c0 c1 c2 c3 f0 f1 f2 f3
  have k2 := t_box_below k0_h.out hb2
  obtain ⟨⟨c0, c1, c2, c3⟩, f0, f1, f2, f3⟩ := t_box4 k2
  have hB2 := below_trans bW_h.out hb2 bW_h.out.size
  clear hb2 k2; have hB2_h := lH hB2; clear hB2
  go_wp2_with (fail)
  refine (hTK_h.out _).mono ?_
  rintro e w3 ⟨rfl, rfl⟩
  go_wp2_with (fail)
  go_ret
  exact ⟨rfl, hB2_h.out⟩
 have h3' : ((q : Int) == i2) = true := by rw [beq_iff_eq]; exact h3
 rw [h3', Bool.true_and] at hDD
 clear h3
 cases D1
 case false =>
  obtain rfl : D = false := by rw [hDD]; rfl
  clear hDD; have hA1_h := lH hA1; have hA2_h := lH hA2; have hTL_h := lH hTL; have hIn_h := lH hIn; have hTK_h := lH hTK; have k0_h := lH k0; have bW_h := lH bW; have hp_h := lH hp; have hq_h := lH hq; clear hA1 hA2 hTL hIn hTK k0 bW hp hq
  go_enter Try.func61, Try.ntmps61
  go_upto_region 1 with (fail)
  rw [← hW]
  clear hW
  go_wp2_with (fail)
  refine (hIn_h.out _).mono ?_
  rintro e w1 ⟨rfl, rfl⟩
  go_wp2_with (fail)
  refine (hTL_h.out _).mono ?_
  rintro e w2 ⟨lb, rfl, hlb, hb2⟩
  rw [hlf] at hlb
  subst hlb
  clear c0 c1 c2 c3 f0 f1 f2 f3
  have k2 := t_box_below k0_h.out hb2
  obtain ⟨⟨c0, c1, c2, c3⟩, f0, f1, f2, f3⟩ := t_box4 k2
  have hB2 := below_trans bW_h.out hb2 bW_h.out.size
  clear hb2 k2; have hB2_h := lH hB2; clear hB2
  go_wp2_with (fail)
  refine (hTK_h.out _).mono ?_
  rintro e w3 ⟨rfl, rfl⟩
  go_wp2_with (fail)
  refine (hA1_h.out _ hB2_h.out).mono ?_
  rintro e w4 ⟨rfl, rfl⟩
  go_wp2_with (fail)
  go_ret
  exact ⟨rfl, hB2_h.out⟩
 obtain rfl : D = D2 := by rw [hDD]; rfl
 clear hDD; have hA1_h := lH hA1; have hA2_h := lH hA2; have hTL_h := lH hTL; have hIn_h := lH hIn; have hTK_h := lH hTK; have k0_h := lH k0; have bW_h := lH bW; have hp_h := lH hp; have hq_h := lH hq; clear hA1 hA2 hTL hIn hTK k0 bW hp hq
 go_enter Try.func61, Try.ntmps61
 go_upto_region 1 with (fail)
 rw [← hW]
 clear hW
 go_wp2_with (fail)
 refine (hIn_h.out _).mono ?_
 rintro e w1 ⟨rfl, rfl⟩
 go_wp2_with (fail)
 refine (hTL_h.out _).mono ?_
 rintro e w2 ⟨lb, rfl, hlb, hb2⟩
 rw [hlf] at hlb
 subst hlb
 clear c0 c1 c2 c3 f0 f1 f2 f3
 have k2 := t_box_below k0_h.out hb2
 obtain ⟨⟨c0, c1, c2, c3⟩, f0, f1, f2, f3⟩ := t_box4 k2
 have hB2 := below_trans bW_h.out hb2 bW_h.out.size
 clear hb2 k2; have hB2_h := lH hB2; clear hB2
 go_wp2_with (fail)
 refine (hTK_h.out _).mono ?_
 rintro e w3 ⟨rfl, rfl⟩
 go_wp2_with (fail)
 refine (hA1_h.out _ hB2_h.out).mono ?_
 rintro e w4 ⟨rfl, rfl⟩
 go_wp2_with (fail)
 refine (hA2_h.out _ hB2_h.out).mono ?_
 rintro e w4 ⟨rfl, rfl⟩
 go_wp2_with (fail)
 go_ret
 exact ⟨rfl, hB2_h.out⟩
theorem IS.getc {w : World} {A : Option Addr} {c n : Nat} {l : List Int} (h : IS w A c (cntM n l)) {q : Nat} (hq : q < n) : ∃ ad, A = some ad ∧ ad.block < w.heap.size ∧ w.cell? (ad.add q) = some (.int .i64 (l.count (q : Int) : Int)) ∧ w.frozen? (ad.add q) = false := by
 obtain ⟨ad, x, hA, hx, hb, hc, hf⟩ := h.at_ (j := q) (by rw [cntM_length]; exact hq)
 rw [cntM_get hq] at hx
 obtain rfl := Option.some.inj hx
 exact ⟨ad, hA, hb, hc, hf q⟩
theorem madeCnt (n : Nat) : ints (List.replicate n 0) = ints (cntM n []) := by rw [cntM_nil]
theorem inW_app_left {n : Int} {l m : List Int} (h : inW n (l ++ m) = true) : inW n l = true := by rw [inW_append] at h; simp at h; exact h.1
theorem inW_app_right {n : Int} {l m : List Int} (h : inW n (l ++ m) = true) : inW n m = true := by rw [inW_append] at h; simp at h; exact h.2
theorem inW_at {n : Nat} {l : List Int} (h : inW (n : Int) l = true) {k : Nat} {x : Int} (hx : l[k]? = some x) : ∃ q : Nat, x = (q : Int) ∧ q < n := by
 have := inW_iff.1 h x (List.mem_of_getElem? hx)
 exact ⟨x.toNat, by omega, by omega⟩
theorem mem_edW_of {l : List Eg} {e : Eg} (h : e ∈ l) : (∀ x, x ∈ e.2.2.1 → x ∈ edW l) ∧ ∀ x, x ∈ e.2.2.2 → x ∈ edW l := by
 induction l with
 | nil => cases h
 | cons a r ih =>
   rcases List.mem_cons.1 h with rfl | h
   · exact ⟨fun x hx => by simp [edW, hx], fun x hx => by simp [edW, hx]⟩
   · obtain ⟨h1, h2⟩ := ih h
     exact ⟨fun x hx => by simp [edW, h1 x hx], fun x hx => by simp [edW, h2 x hx]⟩
theorem out_len : ∀ (l : List Eg), (outW l).length + (inpW l).length + 2 * l.length = cntE l
 | [] => rfl
 | e :: r => by have := out_len r; simp only [outW, inpW, cntE, List.length_append, List.length_cons]; omega
theorem outW_take {es : List Eg} {k : Nat} {e : Eg} (h : es[k]? = some e) : outW (es.take (k + 1)) = outW (es.take k) ++ e.2.2.2 := by rw [List.take_add_one, h, outW_append]; simp [outW]
theorem inpW_take {es : List Eg} {k : Nat} {e : Eg} (h : es[k]? = some e) : inpW (es.take (k + 1)) = inpW (es.take k) ++ e.2.2.1 := by rw [List.take_add_one, h, inpW_append]; simp [inpW]
theorem outW_le (es : List Eg) (k : Nat) : (outW (es.take k)).length ≤ (outW es).length := by
 conv => rhs; rw [← List.take_append_drop k es, outW_append, List.length_append]
 omega
theorem inpW_le (es : List Eg) (k : Nat) : (inpW (es.take k)).length ≤ (inpW es).length := by
 conv => rhs; rw [← List.take_append_drop k es, inpW_append, List.length_append]
 omega
set_option maxRecDepth 100000 in
set_option maxHeartbeats 8000000 in
theorem hgCounts_any {v : Value} {g : Gr} (w : World) (n : Nat) (h : RdGr w v g) (ok : OkG g) (hgn : g.1 = (n : Int)) (hnb : n ≤ 1048576) (hin : inW (n : Int) (t_allW g) = true) :
  Calls Try.prog 62 #[v] w fun e w' => ∃ (A B : Option Addr) (a b : Nat), e = .returned (.tuple #[.slice A n a, .slice B n b]) ∧ IS w' A a (cntM n (orgW g)) ∧ IS w' B b (cntM n (dstW g)) ∧ Fresh w.heap.size A ∧ Fresh w.heap.size B ∧ Below w.heap.size w w' := by
 obtain ⟨A, c, hs, ⟨B, b, s⟩, ⟨C, d, t⟩, rfl, e1, e2, e3, hE, hRa, hRb⟩ := h
 obtain ⟨z, es, s0, t0⟩ := g
 have a1 : es = hs.map egOf := e1
 have a2 : s = s0 := e2
 have a3 : t = t0 := e3
 have a4 : z = (n : Int) := hgn
 subst a2 a3 a4
 have hin0 : inW (n : Int) (s ++ (t ++ edW es)) = true := hin
 have hinS := inW_app_left hin0
 have hinT := inW_app_left (inW_app_right hin0)
 have hinE := inW_app_right (inW_app_right hin0)
 have hlen1 : es.length ≤ 1048576 := ok.1.1
 have hlen2 : s.length ≤ 1048576 := ok.1.2.1
 have hlen3 : t.length ≤ 1048576 := ok.1.2.2
 have hcnt : cntE es ≤ 8388608 := by have : cntE es + s.length + t.length ≤ 8388608 := ok.2.2; omega
 have hol := out_len es
 have hXl : s.length + (outW es).length ≤ 20000000 ∧ t.length + (inpW es).length ≤ 20000000 := by omega
 obtain ⟨m, hm⟩ : ∃ m, m = hs.length := ⟨_, rfl⟩
 obtain ⟨p, hp⟩ : ∃ p, p = s.length := ⟨_, rfl⟩
 obtain ⟨r, hr⟩ : ∃ r, r = t.length := ⟨_, rfl⟩
 have hmes : es.length = m := by rw [a1, List.length_map, hm]
 have horg : orgW ((n : Int), es, s, t) = s ++ outW es := rfl
 have hdst : dstW ((n : Int), es, s, t) = t ++ inpW es := rfl
 rw [horg, hdst]
 show Calls Try.prog _ #[.agg #[.int .i64 (n : Int), .slice A hs.length c, .slice B s.length b, .slice C t.length d]] w _
 rw [← hm, ← hp, ← hr]
 have hRa0 : RdI w B s := hRa
 have hRb0 : RdI w C t := hRb
 obtain ⟨W, hW, bW, k0⟩ := (⟨_, rfl, t_below_alloc _ _, heap_alloc_new _ _⟩ : ∃ W, W = w.alloc (.cells #[.int .i64 (n : Int), .slice A m c, .slice B p b, .slice C r d] tGr) ∧ Below w.heap.size w W ∧ W.heap[w.heap.size]? = some (.cells #[.int .i64 (n : Int), .slice A m c, .slice B p b, .slice C r d] tGr))
 obtain ⟨⟨c0, c1, c2, c3⟩, f0, f1, f2, f3⟩ := t_box4 k0
 have hpb : (p : Int) ≤ 1048576 := by omega
 have hrb : (r : Int) ≤ 1048576 := by omega
 have hmb : (m : Int) ≤ 1048576 := by omega
 clear hRa hRb hin hin0 ok e1 e2 e3 hgn hlen1 hlen2 hlen3 hol horg hdst; have hE_h := lH hE; have hRa0_h := lH hRa0; have hRb0_h := lH hRb0; have a1_h := lH a1; have hinS_h := lH hinS; have hinT_h := lH hinT; have hinE_h := lH hinE; have hcnt_h := lH hcnt; have hm_h := lH hm; have hp_h := lH hp; have hr_h := lH hr; have hmes_h := lH hmes; have bW_h := lH bW; have k0_h := lH k0; have hXl_h := lH hXl; clear hE hRa0 hRb0 a1 hinS hinT hinE hcnt hm hp hr hmes bW k0 hXl
 go_enter Try.func62, Try.ntmps62
 go_upto_region 1 with (fail)
 rw [← hW]
 clear hW
 go_upto_region 2 with (at_make; refine wpList_make_Sl _ rfl _ _ _ rfl 3 Try.underlying23 info_int n n rfl rfl rfl rfl (Nat.le_refl _) (by omega) (by unfold maxLen; omega) ?_; intro G1 w2 hs2 hG1 hb2)
 have hi2 : IS w2 (some G1) n (cntM n []) := by unfold IS; rw [cntM_length, ← madeCnt, ← madeZeros]; exact hs2
 have k2 := t_box_below k0_h.out hb2
 have hB2 := below_trans bW_h.out hb2 bW_h.out.size
 have hWw2 := hb2.size
 clear hs2 c0 c1 c2 c3 f0 f1 f2 f3 hb2
 obtain ⟨⟨c0, c1, c2, c3⟩, f0, f1, f2, f3⟩ := t_box4 k2
 have hi2_h := lH hi2; have k2_h := lH k2; have hB2_h := lH hB2; clear hi2 k2 hB2
 go_upto_region 3 with (at_make; refine wpList_make_Sl _ rfl _ _ _ rfl 3 Try.underlying23 info_int n n rfl rfl rfl rfl (Nat.le_refl _) (by omega) (by unfold maxLen; omega) ?_; intro G2 w3 hs3 hG2 hb3)
 have hi3 : IS w3 (some G2) n (cntM n []) := by unfold IS; rw [cntM_length, ← madeCnt, ← madeZeros]; exact hs3
 have hi1 := hi2_h.out.below hb3
 have k3 := t_box_below k2_h.out hb3
 have hB3 := below_trans hB2_h.out hb3 hB2_h.out.size
 have hWs := bW_h.out.size
 have h2s := hB2_h.out.size
 have hG12 : G1.block ≠ G2.block := by have := hi2_h.out.lt G1.block (by simp); omega
 have hG1w : w.heap.size ≤ G1.block := by omega
 have hG2w : w.heap.size ≤ G2.block := by omega
 clear hs3 c0 c1 c2 c3 f0 f1 f2 f3 hb3 hi2_h k2_h
 obtain ⟨⟨c0, c1, c2, c3⟩, f0, f1, f2, f3⟩ := t_box4 k3
 have hi3_h := lH hi3; have hi1_h := lH hi1; have k3_h := lH k3; have hB3_h := lH hB3; have hG12_h := lH hG12; clear hi3 hi1 k3 hB3 hG12
 go_wp2_with (fail)
 clear c0 c1 c2 c3 f0 f1 f2 f3
 go_loopw [25] (fun i wr => ∃ k : Nat, k ≤ p ∧ i = .int .i64 k ∧ IS wr (some G1) n (cntM n (([] : List Int) ++ s.take k)) ∧ Keeps (fun b => b = G1.block) w3 wr) (fun i _ => p - (intOf i).toNat)
 case atStart => exact ⟨0, Nat.zero_le _, rfl, by simpa using hi1_h.out, Keeps.refl _ _⟩
 case round =>
  obtain ⟨j, hj, rfl, hIS, hkp⟩ := hrel
  have hBr := below_keeps hB3_h.out hkp hB3_h.out.size (fun b e => by omega)
  by_cases hlj : j < p
  · obtain ⟨xd, x, rfl, hx, hxc⟩ := (hRa0_h.out.below hBr).at_ (j := j) (by rw [← hp_h.out]; exact hlj)
    obtain ⟨q, rfl, hqn⟩ := inW_at hinS_h.out hx
    obtain ⟨gd, hgd, hgb, hgc, hgf⟩ := hIS.getc hqn
    obtain rfl := Option.some.inj hgd
    have hset := hIS.set rfl (j := q) (((([] : List Int) ++ s.take j).count (q : Int) : Int) + 1) (by rw [cntM_length]; exact hqn)
    rw [← cntM_step hqn, List.append_assoc, show s.take j ++ [(q : Int)] = s.take (j + 1) by rw [List.take_add_one, hx]; rfl] at hset
    have hks := hkp.setCell (p := G1.add q) (by rw [block_of_add]) (.int .i64 (((([] : List Int) ++ s.take j).count (q : Int) : Int) + 1))
    have hcl := count_le (([] : List Int) ++ s.take j) (q : Int)
    rw [List.length_append, List.length_take] at hcl
    try rw [List.length_nil] at hcl
    obtain ⟨cv, hcv⟩ : ∃ cv : Nat, cv = (([] : List Int) ++ s.take j).count (q : Int) := ⟨_, rfl⟩
    rw [← hcv] at hgc hset hks hcl
    have hcvb : cv ≤ 100000000 := by have := hXl_h.out; omega
    have hqI : (q : Int) < (n : Int) := by omega
    have hjI : (j : Int) < (p : Int) := by omega
    clear hIS hkp hx hcv hcl hgd; have hset_h := lH hset; have hks_h := lH hks; have hBr_h := lH hBr; clear hset hks hBr
    skip
    go_wp2_with (fail)
    go_roundw
    case rel => exact ⟨j + 1, by omega, by go_num, hset_h.out, hks_h.out⟩
    case measure => simp [intOf]; omega
  · obtain rfl : p = j := by omega
    have hIS2 : IS wr (some G1) n (cntM n (([] : List Int) ++ s)) := by rwa [List.take_of_length_le (by rw [← hp_h.out]; exact Nat.le_refl _)] at hIS
    clear hIS
    obtain ⟨w4, rfl⟩ : ∃ x, x = wr := ⟨_, rfl⟩
    have k4 := t_box_keeps k3_h.out hkp (by have := t_box_lt k0_h.out; omega)
    have hi4 := hi3_h.out.keeps hkp (fun b hb e => by have := hG12_h.out; simp at hb; omega)
    obtain ⟨⟨c0, c1, c2, c3⟩, f0, f1, f2, f3⟩ := t_box4 k4
    rw [List.nil_append] at hIS2
    clear hkp k3_h hi3_h hi1_h hB3_h; have hi4_h := lH hi4; have hIS2_h := lH hIS2; have k4_h := lH k4; have hBr_h := lH hBr; clear hi4 hIS2 k4 hBr
    go_wp2_with (fail)
    clear c0 c1 c2 c3 f0 f1 f2 f3
    go_loopw [39] (fun i wr => ∃ k : Nat, k ≤ r ∧ i = .int .i64 k ∧ IS wr (some G2) n (cntM n (([] : List Int) ++ t.take k)) ∧ Keeps (fun b => b = G2.block) w4 wr) (fun i _ => r - (intOf i).toNat)
    case atStart => exact ⟨0, Nat.zero_le _, rfl, by simpa using hi4_h.out, Keeps.refl _ _⟩
    case round =>
     obtain ⟨j, hj, rfl, hIS, hkp⟩ := hrel
     have hBr := below_keeps hBr_h.out hkp hBr_h.out.size (fun b e => by omega)
     by_cases hlj : j < r
     · obtain ⟨xd, x, rfl, hx, hxc⟩ := (hRb0_h.out.below hBr).at_ (j := j) (by rw [← hr_h.out]; exact hlj)
       obtain ⟨q, rfl, hqn⟩ := inW_at hinT_h.out hx
       obtain ⟨gd, hgd, hgb, hgc, hgf⟩ := hIS.getc hqn
       obtain rfl := Option.some.inj hgd
       have hset := hIS.set rfl (j := q) (((([] : List Int) ++ t.take j).count (q : Int) : Int) + 1) (by rw [cntM_length]; exact hqn)
       rw [← cntM_step hqn, List.append_assoc, show t.take j ++ [(q : Int)] = t.take (j + 1) by rw [List.take_add_one, hx]; rfl] at hset
       have hks := hkp.setCell (p := G2.add q) (by rw [block_of_add]) (.int .i64 (((([] : List Int) ++ t.take j).count (q : Int) : Int) + 1))
       have hcl := count_le (([] : List Int) ++ t.take j) (q : Int)
       rw [List.length_append, List.length_take] at hcl
       try rw [List.length_nil] at hcl
       obtain ⟨cv, hcv⟩ : ∃ cv : Nat, cv = (([] : List Int) ++ t.take j).count (q : Int) := ⟨_, rfl⟩
       rw [← hcv] at hgc hset hks hcl
       have hcvb : cv ≤ 100000000 := by have := hXl_h.out; omega
       have hqI : (q : Int) < (n : Int) := by omega
       have hjI : (j : Int) < (r : Int) := by omega
       clear hIS hkp hx hcv hcl hgd; have hset_h := lH hset; have hks_h := lH hks; have hBr_h := lH hBr; clear hset hks hBr
       skip
       go_wp2_with (fail)
       go_roundw
       case rel => exact ⟨j + 1, by omega, by go_num, hset_h.out, hks_h.out⟩
       case measure => simp [intOf]; omega
     · obtain rfl : r = j := by omega
       have hIS2 : IS wr (some G2) n (cntM n (([] : List Int) ++ t)) := by rwa [List.take_of_length_le (by rw [← hr_h.out]; exact Nat.le_refl _)] at hIS
       clear hIS
       obtain ⟨w5, rfl⟩ : ∃ x, x = wr := ⟨_, rfl⟩
       have k5 := t_box_keeps k4_h.out hkp (by have := t_box_lt k0_h.out; omega)
       have hi5 := hIS2_h.out.keeps hkp (fun b hb e => by have := hG12_h.out; simp at hb; omega)
       obtain ⟨⟨c0, c1, c2, c3⟩, f0, f1, f2, f3⟩ := t_box4 k5
       rw [List.nil_append] at hIS2
       have hB5 := hBr
       clear hkp k4_h hi4_h hIS2_h hBr hBr_h
       have hs0 : IS w5 (some G1) n (cntM n (s ++ outW (es.take 0))) := by simpa [outW] using hi5
       have ht0 : IS w5 (some G2) n (cntM n (t ++ inpW (es.take 0))) := by simpa [inpW] using hIS2
       clear hi5 hIS2; have hs0_h := lH hs0; have ht0_h := lH ht0; have k5_h := lH k5; have hB5_h := lH hB5; clear hs0 ht0 k5 hB5
       go_wp2_with (fail)
       clear c0 c1 c2 c3 f0 f1 f2 f3 k5_h
       go_loopw [53] (fun i wr => ∃ k : Nat, k ≤ m ∧ i = .int .i64 k ∧ IS wr (some G1) n (cntM n (s ++ outW (es.take k))) ∧ IS wr (some G2) n (cntM n (t ++ inpW (es.take k))) ∧ Below w.heap.size w wr) (fun i _ => m - (intOf i).toNat)
       case atStart => exact ⟨0, Nat.zero_le _, rfl, hs0_h.out, ht0_h.out, hB5_h.out⟩
       case round =>
        clear hs0_h ht0_h hB5_h
        obtain ⟨k, hk, rfl, hi1, hi2, hB6⟩ := hrel
        by_cases hlt : k < m
        · obtain ⟨ad, κ, vv, B1, b1, s1, C1, b2, t1, rfl, hn, ⟨d0, d1, d2, d3⟩, hr1, hr2⟩ := (hE_h.out.below hB6).at_ (j := k) (by rw [← hm_h.out]; exact hlt)
          have hek : es[k]? = some (κ, vv, s1, t1) := by rw [a1_h.out, List.getElem?_map, hn]; rfl
          obtain ⟨hm1, hm2⟩ := mem_edW_of (List.mem_of_getElem? hek)
          have hinA := inW_sub hinE_h.out hm1
          have hinB := inW_sub hinE_h.out hm2
          have htk1 := outW_take hek
          have htk2 := inpW_take hek
          have hle1 := outW_le es (k + 1)
          have hle2 := inpW_le es (k + 1)
          rw [htk1, List.length_append] at hle1
          rw [htk2, List.length_append] at hle2
          have hXl0 := hXl_h.out
          have hXl : (s ++ outW (es.take k)).length + t1.length ≤ 20000000 ∧ (t ++ inpW (es.take k)).length + s1.length ≤ 20000000 := by
           rw [List.length_append, List.length_append]
           have e1 : ((κ, vv, s1, t1) : Eg).2.2.2.length = t1.length := rfl
           have e2 : ((κ, vv, s1, t1) : Eg).2.2.1.length = s1.length := rfl
           omega
          obtain ⟨X, hX⟩ : ∃ X, X = s ++ outW (es.take k) := ⟨_, rfl⟩
          obtain ⟨Y, hY⟩ : ∃ Y, Y = t ++ inpW (es.take k) := ⟨_, rfl⟩
          rw [← hX] at hi1 hXl
          rw [← hY] at hi2 hXl
          obtain ⟨p1, hp1⟩ : ∃ p1, p1 = s1.length := ⟨_, rfl⟩
          obtain ⟨r1, hr1'⟩ : ∃ r1, r1 = t1.length := ⟨_, rfl⟩
          rw [← hp1] at d2
          rw [← hr1'] at d3
          have hp1b : (p1 : Int) ≤ 20000000 := by omega
          have hr1b : (r1 : Int) ≤ 20000000 := by omega
          have hkI : (k : Int) < (m : Int) := by omega
          obtain ⟨wo, rfl⟩ : ∃ x, x = wr := ⟨_, rfl⟩
          obtain ⟨W6, hW6, bW6, k6⟩ := (⟨_, rfl, t_below_alloc _ _, heap_alloc_new _ _⟩ : ∃ W, W = wo.alloc (.cells #[.int .i64 κ, .int .i64 vv, .slice B1 p1 b1, .slice C1 r1 b2] tEd) ∧ Below wo.heap.size wo W ∧ W.heap[wo.heap.size]? = some (.cells #[.int .i64 κ, .int .i64 vv, .slice B1 p1 b1, .slice C1 r1 b2] tEd))
          have hB7 := below_trans hB6 bW6 hB6.size
          have hj1 := hi1.below bW6
          have hj2 := hi2.below bW6
          have hq1 : G1.block < wo.heap.size := hi1.lt G1.block (by simp)
          have hq2 : G2.block < wo.heap.size := hi2.lt G2.block (by simp)
          have hrA : RdI w B1 s1 := (hE_h.out.2 _ (List.mem_of_getElem? hn)).1
          have hrB : RdI w C1 t1 := (hE_h.out.2 _ (List.mem_of_getElem? hn)).2
          obtain ⟨⟨c0, c1, c2, c3⟩, f0, f1, f2, f3⟩ := t_box4 k6
          clear hr1 hr2 hn hm1 hm2 hle1 hle2 hXl0 hi1 hi2 hek; have hr1_h := lH hr1'; clear hr1'; have hinA_h := lH hinA; have hinB_h := lH hinB; have htk1_h := lH htk1; have htk2_h := lH htk2; have hXl_h := lH hXl; have hX_h := lH hX; have hY_h := lH hY; have hp1_h := lH hp1; have bW6_h := lH bW6; have k6_h := lH k6; have hB7_h := lH hB7; have hj1_h := lH hj1; have hj2_h := lH hj2; have hrA_h := lH hrA; have hrB_h := lH hrB; have hB6_h := lH hB6; clear hinA hinB htk1 htk2 hXl hX hY hp1 bW6 k6 hB7 hj1 hj2 hrA hrB hB6
          go_upto_region 16 with (fail)
          rw [← hW6]
          clear hW6
          go_wp2_with (fail)
          clear c0 c1 c2 c3 f0 f1 f2 f3 d0 d1 d2 d3
          go_loopw [60] (fun i wr => ∃ k : Nat, k ≤ r1 ∧ i = .int .i64 k ∧ IS wr (some G1) n (cntM n (X ++ t1.take k)) ∧ Keeps (fun b => b = G1.block) W6 wr) (fun i _ => r1 - (intOf i).toNat)
          case atStart => exact ⟨0, Nat.zero_le _, rfl, by simpa using hj1_h.out, Keeps.refl _ _⟩
          case round =>
           obtain ⟨j, hj, rfl, hIS, hkp⟩ := hrel
           have hBr := below_keeps hB7_h.out hkp hB7_h.out.size (fun b e => by omega)
           by_cases hlj : j < r1
           · obtain ⟨xd, x, rfl, hx, hxc⟩ := (hrB_h.out.below hBr).at_ (j := j) (by rw [← hr1_h.out]; exact hlj)
             obtain ⟨q, rfl, hqn⟩ := inW_at hinB_h.out hx
             obtain ⟨gd, hgd, hgb, hgc, hgf⟩ := hIS.getc hqn
             obtain rfl := Option.some.inj hgd
             have hset := hIS.set rfl (j := q) (((X ++ t1.take j).count (q : Int) : Int) + 1) (by rw [cntM_length]; exact hqn)
             rw [← cntM_step hqn, List.append_assoc, show t1.take j ++ [(q : Int)] = t1.take (j + 1) by rw [List.take_add_one, hx]; rfl] at hset
             have hks := hkp.setCell (p := G1.add q) (by rw [block_of_add]) (.int .i64 (((X ++ t1.take j).count (q : Int) : Int) + 1))
             have hcl := count_le (X ++ t1.take j) (q : Int)
             rw [List.length_append, List.length_take] at hcl
             try rw [List.length_nil] at hcl
             obtain ⟨cv, hcv⟩ : ∃ cv : Nat, cv = (X ++ t1.take j).count (q : Int) := ⟨_, rfl⟩
             rw [← hcv] at hgc hset hks hcl
             have hcvb : cv ≤ 100000000 := by have := hXl_h.out; omega
             have hqI : (q : Int) < (n : Int) := by omega
             have hjI : (j : Int) < (r1 : Int) := by omega
             clear hIS hkp hx hcv hcl hgd; have hset_h := lH hset; have hks_h := lH hks; have hBr_h := lH hBr; clear hset hks hBr
             skip
             go_wp2_with (fail)
             go_roundw
             case rel => exact ⟨j + 1, by omega, by go_num, hset_h.out, hks_h.out⟩
             case measure => simp [intOf]; omega
           · obtain rfl : r1 = j := by omega
             have hIS2 : IS wr (some G1) n (cntM n (X ++ t1)) := by rwa [List.take_of_length_le (by rw [← hr1_h.out]; exact Nat.le_refl _)] at hIS
             clear hIS
             obtain ⟨w7, rfl⟩ : ∃ x, x = wr := ⟨_, rfl⟩
             have k7 := t_box_keeps k6_h.out hkp (by omega)
             have hj7 := hj2_h.out.keeps hkp (fun b hb e => by have := hG12_h.out; simp at hb; omega)
             obtain ⟨⟨c0, c1, c2, c3⟩, f0, f1, f2, f3⟩ := t_box4 k7
             have hB8 := hBr
             clear hkp k6_h hj1_h hj2_h hB7_h k7 hBr; have hj7_h := lH hj7; have hIS2_h := lH hIS2; have hB8_h := lH hB8; clear hj7 hIS2 hB8
             go_wp2_with (fail)
             clear c0 c1 c2 c3 f0 f1 f2 f3
             go_loopw [74] (fun i wr => ∃ k : Nat, k ≤ p1 ∧ i = .int .i64 k ∧ IS wr (some G2) n (cntM n (Y ++ s1.take k)) ∧ Keeps (fun b => b = G2.block) w7 wr) (fun i _ => p1 - (intOf i).toNat)
             case atStart => exact ⟨0, Nat.zero_le _, rfl, by simpa using hj7_h.out, Keeps.refl _ _⟩
             case round =>
              obtain ⟨j, hj, rfl, hIS, hkp⟩ := hrel
              have hBr := below_keeps hB8_h.out hkp hB8_h.out.size (fun b e => by omega)
              by_cases hlj : j < p1
              · obtain ⟨xd, x, rfl, hx, hxc⟩ := (hrA_h.out.below hBr).at_ (j := j) (by rw [← hp1_h.out]; exact hlj)
                obtain ⟨q, rfl, hqn⟩ := inW_at hinA_h.out hx
                obtain ⟨gd, hgd, hgb, hgc, hgf⟩ := hIS.getc hqn
                obtain rfl := Option.some.inj hgd
                have hset := hIS.set rfl (j := q) (((Y ++ s1.take j).count (q : Int) : Int) + 1) (by rw [cntM_length]; exact hqn)
                rw [← cntM_step hqn, List.append_assoc, show s1.take j ++ [(q : Int)] = s1.take (j + 1) by rw [List.take_add_one, hx]; rfl] at hset
                have hks := hkp.setCell (p := G2.add q) (by rw [block_of_add]) (.int .i64 (((Y ++ s1.take j).count (q : Int) : Int) + 1))
                have hcl := count_le (Y ++ s1.take j) (q : Int)
                rw [List.length_append, List.length_take] at hcl
                try rw [List.length_nil] at hcl
                obtain ⟨cv, hcv⟩ : ∃ cv : Nat, cv = (Y ++ s1.take j).count (q : Int) := ⟨_, rfl⟩
                rw [← hcv] at hgc hset hks hcl
                have hcvb : cv ≤ 100000000 := by have := hXl_h.out; omega
                have hqI : (q : Int) < (n : Int) := by omega
                have hjI : (j : Int) < (p1 : Int) := by omega
                clear hIS hkp hx hcv hcl hgd; have hset_h := lH hset; have hks_h := lH hks; have hBr_h := lH hBr; clear hset hks hBr
                skip
                go_wp2_with (fail)
                go_roundw
                case rel => exact ⟨j + 1, by omega, by go_num, hset_h.out, hks_h.out⟩
                case measure => simp [intOf]; omega
              · obtain rfl : p1 = j := by omega
                have hIS2 : IS wr (some G2) n (cntM n (Y ++ s1)) := by rwa [List.take_of_length_le (by rw [← hp1_h.out]; exact Nat.le_refl _)] at hIS
                clear hIS
                have hj8 := hIS2_h.out.keeps hkp (fun b hb e => by have := hG12_h.out; simp at hb; omega)
                have e1 : IS wr (some G1) n (cntM n (s ++ outW (es.take (k + 1)))) := by rw [htk1_h.out, ← List.append_assoc, ← hX_h.out]; exact hj8
                have e2 : IS wr (some G2) n (cntM n (t ++ inpW (es.take (k + 1)))) := by rw [htk2_h.out, ← List.append_assoc, ← hY_h.out]; exact hIS2
                clear hj8 hIS2 hkp; have e1_h := lH e1; have e2_h := lH e2; have hBr_h := lH hBr; clear e1 e2 hBr
                go_wp2_with (fail)
                go_roundw
                case rel => exact ⟨k + 1, by omega, by go_num, e1_h.out, e2_h.out, hBr_h.out⟩
                case measure => simp [intOf]; omega
        · obtain rfl : m = k := by omega
          rw [List.take_of_length_le (by rw [hmes_h.out]; exact Nat.le_refl _)] at hi1 hi2
          have hff1 : Fresh w.heap.size (some G1) := fun b hb => by simp at hb; omega
          have hff2 : Fresh w.heap.size (some G2) := fun b hb => by simp at hb; omega
          have hi1_h := lH hi1; have hi2_h := lH hi2; have hB6_h := lH hB6; have hff1_h := lH hff1; have hff2_h := lH hff2; clear hi1 hi2 hB6 hff1 hff2
          go_wp2_with (fail)
          go_ret2
          exact ⟨some G1, some G2, n, n, rfl, hi1_h.out, hi2_h.out, hff1_h.out, hff2_h.out, hB6_h.out⟩
theorem grB_eq (g : Gr) : grB g = (t_inB g.1 0 100 && (decide (g.2.1.length ≤ 60) && (decide (g.2.2.1.length ≤ 12) && (decide (g.2.2.2.length ≤ 12) && (inW g.1 g.2.2.1 && (inW g.1 g.2.2.2 && (g.2.1.all (hgB g.1) && fullW g.1 (t_allW g)))))))) := by
 unfold grB
 rw [hgB_all]
 have e : inW g.1 (t_allW g) = (inW g.1 g.2.2.1 && (inW g.1 g.2.2.2 && inW g.1 (edW g.2.1))) := by unfold t_allW; rw [inW_append, inW_append]
 rw [e]
 cases t_inB g.1 0 100 <;> cases decide (g.2.1.length ≤ 60) <;> cases decide (g.2.2.1.length ≤ 12) <;> cases decide (g.2.2.2.length ≤ 12) <;> cases inW g.1 g.2.2.1 <;> cases inW g.1 g.2.2.2 <;> cases g.2.1.all egB <;> cases inW g.1 (edW g.2.1) <;> cases fullW g.1 (t_allW g) <;> rfl
theorem count_zero {g : Gr} {k : Nat} : ((orgW g).count (k : Int) = 0 ∧ (dstW g).count (k : Int) = 0) ↔ (t_allW g).contains (k : Int) = false := by
 rw [List.count_eq_zero, List.count_eq_zero, Bool.eq_false_iff, ne_eq, List.contains_iff_mem, mem_allW]
 exact ⟨fun h hm => hm.elim h.1 h.2, fun h => ⟨fun a => h (.inl a), fun a => h (.inr a)⟩⟩
set_option maxRecDepth 100000 in
set_option maxHeartbeats 8000000 in
theorem hgValid_any {v : Value} {g : Gr} (w : World) (h : RdGr w v g) (ok : OkG g) :
  Calls Try.prog 49 #[v] w fun e w' => e = .returned (.bool (grB g)) ∧ Below w.heap.size w w' := by
 have hG0 := h
 obtain ⟨A, c, hs, ⟨B, b, s⟩, ⟨C, d, t⟩, rfl, e1, e2, e3, hE, hRa, hRb⟩ := h
 obtain ⟨z, es, s0, t0⟩ := g
 have a1 : es = hs.map egOf := e1
 have a2 : s = s0 := e2
 have a3 : t = t0 := e3
 subst a2 a3
 have hok := ok
 have hlen1 : es.length ≤ 1048576 := ok.1.1
 have hlen2 : s.length ≤ 1048576 := ok.1.2.1
 have hlen3 : t.length ≤ 1048576 := ok.1.2.2
 have hlE : ∀ x, x ∈ hs → x.2.2.1.2.2.length ≤ 1048576 ∧ x.2.2.2.2.2.length ≤ 1048576 := fun x hx => ok.2.1 _ (by show egOf x ∈ es; rw [a1]; exact List.mem_map_of_mem hx)
 obtain ⟨D, hD⟩ : ∃ D, D = grB (z, es, s, t) := ⟨_, rfl⟩
 have hDD := hD
 rw [grB_eq] at hDD
 simp only at hDD
 rw [← hD]
 obtain ⟨m, hm⟩ : ∃ m, m = hs.length := ⟨_, rfl⟩
 obtain ⟨p, hp⟩ : ∃ p, p = s.length := ⟨_, rfl⟩
 obtain ⟨r, hr⟩ : ∃ r, r = t.length := ⟨_, rfl⟩
 have hmes : es.length = m := by rw [a1, List.length_map, hm]
 have hRa0 : RdI w B s := hRa
 have hRb0 : RdI w C t := hRb
 rw [hmes, ← hp, ← hr] at hDD
 change RdGr w (.agg #[.int .i64 z, .slice A hs.length c, .slice B s.length b, .slice C t.length d]) (z, es, s, t) at hG0
 rw [← hm, ← hp, ← hr] at hG0
 show Calls Try.prog _ #[.agg #[.int .i64 z, .slice A hs.length c, .slice B s.length b, .slice C t.length d]] w _
 rw [← hm, ← hp, ← hr]
 obtain ⟨W, hW, bW, k0⟩ := (⟨_, rfl, t_below_alloc _ _, heap_alloc_new _ _⟩ : ∃ W, W = w.alloc (.cells #[.int .i64 z, .slice A m c, .slice B p b, .slice C r d] tGr) ∧ Below w.heap.size w W ∧ W.heap[w.heap.size]? = some (.cells #[.int .i64 z, .slice A m c, .slice B p b, .slice C r d] tGr))
 obtain ⟨⟨c0, c1, c2, c3⟩, f0, f1, f2, f3⟩ := t_box4 k0
 have hI := fun (W : World) => t_l1In_any z 0 100 W
 have hA1 := fun (W : World) (hb : Below w.heap.size w W) => t_l1All_any B b p s 0 (z - 1) W (RdI.below hRa0 hb) hp.symm (by omega)
 have hA2 := fun (W : World) (hb : Below w.heap.size w W) => t_l1All_any C d r t 0 (z - 1) W (RdI.below hRb0 hb) hr.symm (by omega)
 obtain ⟨D1, hD1⟩ : ∃ D, D = inW z s := ⟨_, rfl⟩
 obtain ⟨D2, hD2⟩ : ∃ D, D = inW z t := ⟨_, rfl⟩
 have hD1' : (s.all fun x => t_inB x 0 (z - 1)) = D1 := hD1.symm
 have hD2' : (t.all fun x => t_inB x 0 (z - 1)) = D2 := hD2.symm
 simp only [hD1'] at hA1
 simp only [hD2'] at hA2
 rw [← hD1, ← hD2] at hDD
 clear hRa hRb ok e1 e2 e3 hD1' hD2' hRa0 hRb0
 by_cases h0 : t_inB z 0 100 = true
 case neg =>
  have h0' : t_inB z 0 100 = false := by simpa using h0
  obtain rfl : D = false := by rw [hDD, h0']; rfl
  simp only [h0'] at hI
  clear h0 h0'; have hI_h := lH hI; have hA1_h := lH hA1; have hA2_h := lH hA2; have k0_h := lH k0; have bW_h := lH bW; have hm_h := lH hm; have hp_h := lH hp; have hr_h := lH hr; have hD_h := lH hD; have hDD_h := lH hDD; have hmes_h := lH hmes; have hlE_h := lH hlE; have hok_h := lH hok; have a1_h := lH a1; have hE_h := lH hE; have hG0_h := lH hG0; have hD1_h := lH hD1; have hD2_h := lH hD2; clear hI hA1 hA2 k0 bW hm hp hr hD hDD hmes hlE hok a1 hE hG0 hD1 hD2
  go_enter Try.func49, Try.ntmps49
  go_upto_region 1 with (fail)
  rw [← hW]
  clear hW
  go_wp2_with (fail)
  refine (hI_h.out _).mono ?_
  rintro e w1 ⟨rfl, rfl⟩
  go_wp2_with (fail)
  go_ret
  exact ⟨rfl, bW_h.out⟩
 have hz : 0 ≤ z ∧ z ≤ 100 := of_decide_eq_true h0
 simp only [h0] at hI
 rw [h0, Bool.true_and] at hDD
 clear h0
 have wz : IntKind.i64.wrap (z - 1) = z - 1 := IntWalk.i64_in _ (by omega)
 by_cases h1 : m ≤ 60
 case neg =>
  obtain rfl : D = false := by rw [hDD, decide_eq_false h1]; rfl
  have h1' : ¬ ((m : Int) ≤ 60) := by omega
  have hI_h := lH hI; have hA1_h := lH hA1; have hA2_h := lH hA2; have k0_h := lH k0; have bW_h := lH bW; have hm_h := lH hm; have hp_h := lH hp; have hr_h := lH hr; have hD_h := lH hD; have hDD_h := lH hDD; have hmes_h := lH hmes; have hlE_h := lH hlE; have hok_h := lH hok; have a1_h := lH a1; have hE_h := lH hE; have hG0_h := lH hG0; have hD1_h := lH hD1; have hD2_h := lH hD2; clear hI hA1 hA2 k0 bW hm hp hr hD hDD hmes hlE hok a1 hE hG0 hD1 hD2
  go_enter Try.func49, Try.ntmps49
  go_upto_region 1 with (fail)
  rw [← hW]
  clear hW
  go_wp2_with (fail)
  refine (hI_h.out _).mono ?_
  rintro e w1 ⟨rfl, rfl⟩
  go_wp2_with (fail)
  go_ret
  exact ⟨rfl, bW_h.out⟩
 rw [decide_eq_true h1, Bool.true_and] at hDD
 have h1' : (m : Int) ≤ 60 := by omega
 by_cases h2 : p ≤ 12
 case neg =>
  obtain rfl : D = false := by rw [hDD, decide_eq_false h2]; rfl
  have h2' : ¬ ((p : Int) ≤ 12) := by omega
  have hI_h := lH hI; have hA1_h := lH hA1; have hA2_h := lH hA2; have k0_h := lH k0; have bW_h := lH bW; have hm_h := lH hm; have hp_h := lH hp; have hr_h := lH hr; have hD_h := lH hD; have hDD_h := lH hDD; have hmes_h := lH hmes; have hlE_h := lH hlE; have hok_h := lH hok; have a1_h := lH a1; have hE_h := lH hE; have hG0_h := lH hG0; have hD1_h := lH hD1; have hD2_h := lH hD2; clear hI hA1 hA2 k0 bW hm hp hr hD hDD hmes hlE hok a1 hE hG0 hD1 hD2
  go_enter Try.func49, Try.ntmps49
  go_upto_region 1 with (fail)
  rw [← hW]
  clear hW
  go_wp2_with (fail)
  refine (hI_h.out _).mono ?_
  rintro e w1 ⟨rfl, rfl⟩
  go_wp2_with (fail)
  go_ret
  exact ⟨rfl, bW_h.out⟩
 rw [decide_eq_true h2, Bool.true_and] at hDD
 have h2' : (p : Int) ≤ 12 := by omega
 by_cases h3 : r ≤ 12
 case neg =>
  obtain rfl : D = false := by rw [hDD, decide_eq_false h3]; rfl
  have h3' : ¬ ((r : Int) ≤ 12) := by omega
  have hI_h := lH hI; have hA1_h := lH hA1; have hA2_h := lH hA2; have k0_h := lH k0; have bW_h := lH bW; have hm_h := lH hm; have hp_h := lH hp; have hr_h := lH hr; have hD_h := lH hD; have hDD_h := lH hDD; have hmes_h := lH hmes; have hlE_h := lH hlE; have hok_h := lH hok; have a1_h := lH a1; have hE_h := lH hE; have hG0_h := lH hG0; have hD1_h := lH hD1; have hD2_h := lH hD2; clear hI hA1 hA2 k0 bW hm hp hr hD hDD hmes hlE hok a1 hE hG0 hD1 hD2
  go_enter Try.func49, Try.ntmps49
  go_upto_region 1 with (fail)
  rw [← hW]
  clear hW
  go_wp2_with (fail)
  refine (hI_h.out _).mono ?_
  rintro e w1 ⟨rfl, rfl⟩
  go_wp2_with (fail)
  go_ret
  exact ⟨rfl, bW_h.out⟩
 rw [decide_eq_true h3, Bool.true_and] at hDD
 have h3' : (r : Int) ≤ 12 := by omega
 cases D1
 case false =>
  obtain rfl : D = false := by rw [hDD]; rfl
  have hI_h := lH hI; have hA1_h := lH hA1; have hA2_h := lH hA2; have k0_h := lH k0; have bW_h := lH bW; have hm_h := lH hm; have hp_h := lH hp; have hr_h := lH hr; have hD_h := lH hD; have hDD_h := lH hDD; have hmes_h := lH hmes; have hlE_h := lH hlE; have hok_h := lH hok; have a1_h := lH a1; have hE_h := lH hE; have hG0_h := lH hG0; have hD1_h := lH hD1; have hD2_h := lH hD2; clear hI hA1 hA2 k0 bW hm hp hr hD hDD hmes hlE hok a1 hE hG0 hD1 hD2
  go_enter Try.func49, Try.ntmps49
  go_upto_region 1 with (fail)
  rw [← hW]
  clear hW
  go_wp2_with (fail)
  refine (hI_h.out _).mono ?_
  rintro e w1 ⟨rfl, rfl⟩
  go_wp2_with (fail)
  refine (hA1_h.out _ bW_h.out).mono ?_
  rintro e w1 ⟨rfl, rfl⟩
  go_wp2_with (fail)
  go_ret
  exact ⟨rfl, bW_h.out⟩
 rw [Bool.true_and] at hDD
 cases D2
 case false =>
  obtain rfl : D = false := by rw [hDD]; rfl
  have hI_h := lH hI; have hA1_h := lH hA1; have hA2_h := lH hA2; have k0_h := lH k0; have bW_h := lH bW; have hm_h := lH hm; have hp_h := lH hp; have hr_h := lH hr; have hD_h := lH hD; have hDD_h := lH hDD; have hmes_h := lH hmes; have hlE_h := lH hlE; have hok_h := lH hok; have a1_h := lH a1; have hE_h := lH hE; have hG0_h := lH hG0; have hD1_h := lH hD1; have hD2_h := lH hD2; clear hI hA1 hA2 k0 bW hm hp hr hD hDD hmes hlE hok a1 hE hG0 hD1 hD2
  go_enter Try.func49, Try.ntmps49
  go_upto_region 1 with (fail)
  rw [← hW]
  clear hW
  go_wp2_with (fail)
  refine (hI_h.out _).mono ?_
  rintro e w1 ⟨rfl, rfl⟩
  go_wp2_with (fail)
  refine (hA1_h.out _ bW_h.out).mono ?_
  rintro e w1 ⟨rfl, rfl⟩
  go_wp2_with (fail)
  refine (hA2_h.out _ bW_h.out).mono ?_
  rintro e w1 ⟨rfl, rfl⟩
  go_wp2_with (fail)
  go_ret
  exact ⟨rfl, bW_h.out⟩
 rw [Bool.true_and] at hDD
 have hI_h := lH hI; have hA1_h := lH hA1; have hA2_h := lH hA2; have k0_h := lH k0; have bW_h := lH bW; have hm_h := lH hm; have hp_h := lH hp; have hr_h := lH hr; have hD_h := lH hD; have hDD_h := lH hDD; have hmes_h := lH hmes; have hlE_h := lH hlE; have hok_h := lH hok; have a1_h := lH a1; have hE_h := lH hE; have hG0_h := lH hG0; have hD1_h := lH hD1; have hD2_h := lH hD2; clear hI hA1 hA2 k0 bW hm hp hr hD hDD hmes hlE hok a1 hE hG0 hD1 hD2
 go_enter Try.func49, Try.ntmps49
 go_upto_region 1 with (fail)
 rw [← hW]
 clear hW
 go_wp2_with (fail)
 refine (hI_h.out _).mono ?_
 rintro e w1 ⟨rfl, rfl⟩
 go_wp2_with (fail)
 refine (hA1_h.out _ bW_h.out).mono ?_
 rintro e w1 ⟨rfl, rfl⟩
 go_wp2_with (fail)
 refine (hA2_h.out _ bW_h.out).mono ?_
 rintro e w1 ⟨rfl, rfl⟩
 obtain ⟨W, rfl⟩ : ∃ x, x = w1 := ⟨_, rfl⟩
 go_wp2_with (fail)
 clear c0 c1 c2 c3 f0 f1 f2 f3
 go_loopw [51] (fun i wr => ∃ k : Nat, k ≤ m ∧ i = .int .i64 k ∧ (es.take k).all (hgB z) = true ∧ Below W.heap.size W wr) (fun i _ => m - (intOf i).toNat)
 case atStart => exact ⟨0, Nat.zero_le _, rfl, by simp, Below.refl _ _⟩
 case round =>
  obtain ⟨k, hk, rfl, hall, hB1⟩ := hrel
  have kr := t_box_below k0_h.out hB1
  have hBw := below_trans bW_h.out hB1 bW_h.out.size
  by_cases hlt : k < m
  · obtain ⟨ad, κ, vv, B1, b1, s1, C1, b2, t1, rfl, hn, ⟨d0, d1, d2, d3⟩, hr1, hr2⟩ := (hE_h.out.below hBw).at_ (j := k) (by rw [← hm_h.out]; exact hlt)
    have hek : es[k]? = some (κ, vv, s1, t1) := by rw [a1_h.out, List.getElem?_map, hn]; rfl
    have hln := hlE_h.out _ (List.mem_of_getElem? hn)
    obtain ⟨wo, rfl⟩ : ∃ x, x = wr := ⟨_, rfl⟩
    have hC := fun (W' : World) (hb : Below wo.heap.size wo W') => hgEdge_any κ vv B1 C1 b1 b2 s1 t1 z W' (hr1.below hb) (hr2.below hb) hln.1 hln.2 (by omega) (by omega)
    obtain ⟨p1, hp1⟩ : ∃ p1, p1 = s1.length := ⟨_, rfl⟩
    obtain ⟨r1, hr1'⟩ : ∃ r1, r1 = t1.length := ⟨_, rfl⟩
    simp only [← hp1, ← hr1'] at hC
    rw [← hp1] at d2
    rw [← hr1'] at d3
    obtain ⟨W6, hW6, bW6, k6⟩ := (⟨_, rfl, t_below_alloc _ _, heap_alloc_new _ _⟩ : ∃ W, W = wo.alloc (.cells #[.int .i64 κ, .int .i64 vv, .slice B1 p1 b1, .slice C1 r1 b2] tEd) ∧ Below wo.heap.size wo W ∧ W.heap[wo.heap.size]? = some (.cells #[.int .i64 κ, .int .i64 vv, .slice B1 p1 b1, .slice C1 r1 b2] tEd))
    have hCW := hC W6 bW6
    have hkI : (k : Int) < (m : Int) := by omega
    have kr6 := t_box_below kr bW6
    have hBW6 := below_trans hB1 bW6 hB1.size
    obtain ⟨⟨c0, c1, c2, c3⟩, f0, f1, f2, f3⟩ := t_box4 k6
    obtain ⟨⟨y0, y1, y2, y3⟩, g0, g1, g2, g3⟩ := t_box4 kr6
    obtain ⟨H, hH⟩ : ∃ H, H = hgB z (κ, vv, s1, t1) := ⟨_, rfl⟩
    rw [← hH] at hCW
    have hr1_h := lH hr1'; clear hr1' hr1 hr2 hn hln hC kr hB1 kr6; have hCW_h := lH hCW; have hek_h := lH hek; have hall_h := lH hall; have hp1_h := lH hp1; have bW6_h := lH bW6; have k6_h := lH k6; have hBW6_h := lH hBW6; have hBw_h := lH hBw; have hH_h := lH hH; clear hCW hek hall hp1 bW6 k6 hBW6 hBw hH
    go_upto_region 6 with (fail)
    rw [← hW6]
    clear hW6
    go_wp2_with (fail)
    refine (hCW_h.out).mono ?_
    rintro e w7 ⟨rfl, hb7⟩
    have hB8 := below_trans hBW6_h.out hb7 hBW6_h.out.size
    clear hb7 c0 c1 c2 c3 f0 f1 f2 f3 y0 y1 y2 y3 g0 g1 g2 g3 d0 d1 d2 d3
    cases H
    · have hf : D = false := by
       rw [hDD_h.out, show es.all (hgB z) = false from ?_]; rfl
       rw [Bool.eq_false_iff]
       intro hh
       have := List.all_eq_true.1 hh _ (List.mem_of_getElem? hek_h.out)
       rw [← hH_h.out] at this; cases this
      subst hf
      have hBz := below_trans bW_h.out hB8 bW_h.out.size
      have hB8_h := lH hB8; have hBz_h := lH hBz; clear hB8 hBz
      go_wp2_with (fail)
      go_ret
      exact ⟨rfl, hBz_h.out⟩
    · have hall2 : (es.take (k + 1)).all (hgB z) = true := by rw [List.take_add_one, hek_h.out, List.all_append, hall_h.out]; simp [← hH_h.out]
      have hB8_h := lH hB8; have hall2_h := lH hall2; clear hB8 hall2
      go_wp2_with (fail)
      go_roundw
      case rel => exact ⟨k + 1, by omega, by go_num, hall2_h.out, hB8_h.out⟩
      case measure => simp [intOf]; omega
  · obtain rfl : m = k := by omega
    rw [List.take_of_length_le (by rw [hmes_h.out]; exact Nat.le_refl _)] at hall
    have hD3 := hDD_h.out
    rw [hall, Bool.true_and] at hD3
    obtain ⟨n, rfl⟩ : ∃ n : Nat, z = (n : Int) := ⟨z.toNat, by omega⟩
    have hD4 : D = (List.range n).all fun w : Nat => (t_allW ((n : Int), es, s, t)).contains (w : Int) := by rw [hD3]; rfl
    have hinW : inW (n : Int) (t_allW ((n : Int), es, s, t)) = true := by
     have h3 : inW (n : Int) (edW es) = true := by have := hgB_all (n : Int) es; rw [hall] at this; simp at this; exact this.2
     show inW (n : Int) (s ++ (t ++ edW es)) = true
     rw [inW_append, inW_append, ← hD1_h.out, ← hD2_h.out, h3]; rfl
    have hC := hgCounts_any wr n (hG0_h.out.below hBw) hok_h.out rfl (by omega) hinW
    obtain ⟨O, hO⟩ : ∃ O, O = orgW ((n : Int), es, s, t) := ⟨_, rfl⟩
    obtain ⟨T, hT⟩ : ∃ T, T = dstW ((n : Int), es, s, t) := ⟨_, rfl⟩
    obtain ⟨L, hL⟩ : ∃ L, L = t_allW ((n : Int), es, s, t) := ⟨_, rfl⟩
    have hcz := fun k : Nat => count_zero (g := ((n : Int), es, s, t)) (k := k)
    have hOl : O.length + T.length ≤ 20000000 := by
     have h1 := out_len es
     have h2 : cntE es + s.length + t.length ≤ 8388608 := hok_h.out.2.2
     have h3 : O.length = s.length + (outW es).length := by rw [hO]; show (s ++ outW es).length = _; rw [List.length_append]
     have h4 : T.length = t.length + (inpW es).length := by rw [hT]; show (t ++ inpW es).length = _; rw [List.length_append]
     omega
    rw [← hO, ← hT] at hC
    simp only [← hO, ← hT, ← hL] at hcz
    rw [← hL] at hD4
    obtain ⟨⟨y0, y1, y2, y3⟩, g0, g1, g2, g3⟩ := t_box4 kr
    clear hall hD3 kr hB1 hinW hD_h hD1_h hD2_h hDD_h; have hC_h := lH hC; have hO_h := lH hO; have hT_h := lH hT; have hL_h := lH hL; have hcz_h := lH hcz; have hD4_h := lH hD4; have hBw_h := lH hBw; have hOl_h := lH hOl; clear hC hO hT hL hcz hD4 hBw hOl
    go_wp2_with (fail)
    refine (hC_h.out).mono ?_
    rintro e w8 ⟨A8, B8, a8, b8, rfl, hI8, hJ8, -, -, hb8⟩
    have hB9 := below_trans hBw_h.out hb8 hBw_h.out.size
    clear y0 y1 y2 y3 g0 g1 g2 g3 hb8; have hB9_h := lH hB9; clear hB9
    go_wp2_with (fail)
    go_loopw [68] (fun i wr => ∃ (k nq : Nat), k ≤ n ∧ i = .int .i64 k ∧ (∀ q : Nat, q < k → L.contains (q : Int) = true) ∧ wr = w8.drewN nq) (fun i _ => n - (intOf i).toNat)
    case atStart => exact ⟨0, 0, Nat.zero_le _, rfl, fun q hq => by omega, rfl⟩
    case round =>
     obtain ⟨k, nq, hk, rfl, hall, hwr⟩ := hrel
     by_cases hlt : k < n
     · obtain ⟨gd, rfl, hgb, hgc, -⟩ := hI8.getc hlt
       obtain ⟨jd, rfl, hjb, hjc, -⟩ := hJ8.getc hlt
       have e1 : wr.cell? (gd.add k) = some (.int .i64 (O.count (k : Int) : Int)) := by rw [hwr]; exact hgc
       have e2 : wr.cell? (jd.add k) = some (.int .i64 (T.count (k : Int) : Int)) := by rw [hwr]; exact hjc
       have l1 := count_le O (k : Int)
       have l2 := count_le T (k : Int)
       obtain ⟨x, hx⟩ : ∃ x, x = O.count (k : Int) := ⟨_, rfl⟩
       obtain ⟨y, hy⟩ : ∃ y, y = T.count (k : Int) := ⟨_, rfl⟩
       rw [← hx] at e1 l1
       rw [← hy] at e2 l2
       have hcz1 := hcz_h.out k
       rw [← hx, ← hy] at hcz1
       have hkI : (k : Int) < (n : Int) := by omega
       have hxb : x ≤ 20000000 := by have := hOl_h.out; omega
       have hyb : y ≤ 20000000 := by have := hOl_h.out; omega
       clear hgc hjc hx hy l1 l2
       by_cases hc : L.contains (k : Int) = true
       · have hne : ¬ (x = 0 ∧ y = 0) := fun h => by rw [hcz1.1 h] at hc; cases hc
         have hb0 : ((x : Int) + (y : Int) == 0) = false := by rw [beq_eq_false_iff_ne]; omega
         have hall2 : ∀ q : Nat, q < k + 1 → L.contains (q : Int) = true := fun q hq => by
          by_cases h : q < k
          · exact hall q h
          · obtain rfl : q = k := by omega
            exact hc
         clear hne hcz1 hc hall; have hall2_h := lH hall2; have hwr_h := lH hwr; have hI8_h := lH hI8; have hJ8_h := lH hJ8; clear hall2 hwr hI8 hJ8
         go_wp2_with (fail)
         go_quiet (fail)
         go_wp2_with (fail)
         go_roundw
         case rel => exact ⟨k + 1, _, by omega, by go_num, hall2_h.out, by rw [hwr_h.out]; exact World.drewN_drewN _ _ _⟩
         case measure => simp [intOf]; omega
       · have hc' : L.contains (k : Int) = false := by simpa using hc
         obtain ⟨rfl, rfl⟩ := hcz1.2 hc'
         have hf : D = false := by
          rw [hD4_h.out, Bool.eq_false_iff]
          intro hh
          have := List.all_eq_true.1 hh k (List.mem_range.2 hlt)
          rw [hc'] at this; cases this
         subst hf
         have hBf : Below w.heap.size w wr := by rw [hwr]; exact below_drewN hB9_h.out nq
         clear hcz1 hc hc' hall; have hwr_h := lH hwr; have hI8_h := lH hI8; have hJ8_h := lH hJ8; have hBf_h := lH hBf; clear hwr hI8 hJ8 hBf
         go_wp2_with (fail)
         go_quiet (fail)
         go_wp2_with (fail)
         go_ret
         exact ⟨rfl, below_drewN hBf_h.out _⟩
     · obtain rfl : n = k := by omega
       have ht : D = true := by
        rw [hD4_h.out]
        exact List.all_eq_true.2 fun q hq => hall q (List.mem_range.1 hq)
       subst ht
       have hBf : Below w.heap.size w wr := by rw [hwr]; exact below_drewN hB9_h.out nq
       clear hall; have hwr_h := lH hwr; have hI8_h := lH hI8; have hJ8_h := lH hJ8; have hBf_h := lH hBf; clear hwr hI8 hJ8 hBf
       go_wp2_with (fail)
       go_ret
       exact ⟨rfl, hBf_h.out⟩
abbrev tBool : TypeId := 4
abbrev tBools : TypeId := 73
theorem info_bool : (Try.prog.info? tBool).map (fun i => (i.zero, i.size, i.bytes)) = some (some (.bool false), 1, 1) := by kernel_rfl
def bls (l : List Bool) : List Value := l.map Value.bool
theorem bls_get {l : List Bool} {j : Nat} {b : Bool} (h : l[j]? = some b) : (bls l)[j]? = some (.bool b) := by simp [bls, h]
theorem bls_set (l : List Bool) (j : Nat) (b : Bool) : (bls l).set j (.bool b) = bls (l.set j b) := by simp [bls, List.map_set]
theorem madeBls (m : Nat) : (madeCells (Value.bool false).cells (m * 1)).toList.take (m * 1) = bls (List.replicate m false) := by
 rw [Nat.mul_one]; simp [Value.cells, toList_madeCells_one, bls]
abbrev tWiresG : TypeId := 93
theorem run_eq_intG (d : Nat) (x y : Int) (W : World) : (Op.equalIn (d + 1) tInt (.int .i64 x) (.int .i64 y)).run Try.prog W = .ok (x == y) W := by
 unfold Op.equalIn
 simp [run_underlying Try.underlying3]
theorem part_g0 (a b : Int) (W : World) : (part tInt #[.int .i64 a, .int .i64 b] 0).run Try.prog W = .ok (.int .i64 a) W := by kernel_rfl
theorem part_g1 (a b : Int) (W : World) : (part tInt #[.int .i64 a, .int .i64 b] 1).run Try.prog W = .ok (.int .i64 b) W := by kernel_rfl
theorem wires_eq (a b c d : Int) (W : World) : (binOp .eql tWiresG (.agg #[.int .i64 a, .int .i64 b]) (.agg #[.int .i64 c, .int .i64 d])).run Try.prog W = .ok (.bool (decide (a = c ∧ b = d))) W := by
 have hk : ∀ m, (Op.equalIn (m + 1 + 1) tWiresG (.agg #[.int .i64 a, .int .i64 b]) (.agg #[.int .i64 c, .int .i64 d])).run Try.prog W = .ok (decide (a = c ∧ b = d)) W := by
  intro m
  conv => lhs; unfold Op.equalIn
  simp only [Sem.run_bind, run_underlying Try.underlying93, Result.andThen_ok]
  simp [part_g0, part_g1, run_eq_intG]
  by_cases h1 : a = c <;> by_cases h2 : b = d <;> simp [h1, h2]
 have e0 : Op.maxDepth = (Op.maxDepth - 2) + 1 + 1 := rfl
 simp only [binOp, Op.equal, Sem.run_bind]
 rw [e0, hk]
 simp
def egH (k v : Int) (p q : Nat) : Bool := t_inB k 3 14 && (gvB k v && decide (((p : Int), (q : Int)) = kindTy k))
set_option maxRecDepth 100000 in
set_option maxHeartbeats 4000000 in
theorem isEdge_any (k v : Int) (B C : Option Addr) (b c p q : Nat) (w : World) :
  Calls Try.prog 63 #[.agg #[.int .i64 k, .int .i64 v, .slice B p b, .slice C q c]] w fun e w' => e = .returned (.bool (egH k v p q)) ∧ Below w.heap.size w w' := by
 obtain ⟨D, hD⟩ : ∃ D, D = egH k v p q := ⟨_, rfl⟩
 have hDD := hD
 unfold egH at hDD
 rw [← hD]
 have hG := fun (W : World) => isGenerator_any k W
 have hV := fun (W : World) => isGeneratorValue_any k v W
 obtain ⟨W, hW, bW, k0⟩ := (⟨_, rfl, t_below_alloc _ _, heap_alloc_new _ _⟩ : ∃ W, W = w.alloc (.cells #[.int .i64 k, .int .i64 v, .slice B p b, .slice C q c] tEd) ∧ Below w.heap.size w W ∧ W.heap[w.heap.size]? = some (.cells #[.int .i64 k, .int .i64 v, .slice B p b, .slice C q c] tEd))
 obtain ⟨⟨c0, c1, c2, c3⟩, f0, f1, f2, f3⟩ := t_box4 k0
 by_cases h0 : t_inB k 3 14 = true
 case neg =>
  have h0' : t_inB k 3 14 = false := by simpa using h0
  obtain rfl : D = false := by rw [hDD, h0']; rfl
  simp only [h0'] at hG
  clear h0 h0' hDD; have hG_h := lH hG; have hV_h := lH hV; have k0_h := lH k0; have bW_h := lH bW; have hD_h := lH hD; clear hG hV k0 bW hD
  go_enter Try.func63, Try.ntmps63
  go_upto_region 1 with (fail)
  rw [← hW]
  clear hW
  go_wp2_with (fail)
  refine (hG_h.out _).mono ?_
  rintro e w1 ⟨rfl, rfl⟩
  go_wp2_with (fail)
  go_ret
  exact ⟨rfl, bW_h.out⟩
 have hkb : 3 ≤ k ∧ k ≤ 14 := of_decide_eq_true h0
 simp only [h0] at hG
 rw [h0, Bool.true_and] at hDD
 by_cases h1 : gvB k v = true
 case neg =>
  have h1' : gvB k v = false := by simpa using h1
  obtain rfl : D = false := by rw [hDD, h1']; rfl
  simp only [h1'] at hV
  clear h0 h1 h1' hDD; have hG_h := lH hG; have hV_h := lH hV; have k0_h := lH k0; have bW_h := lH bW; have hD_h := lH hD; clear hG hV k0 bW hD
  go_enter Try.func63, Try.ntmps63
  go_upto_region 1 with (fail)
  rw [← hW]
  clear hW
  go_wp2_with (fail)
  refine (hG_h.out _).mono ?_
  rintro e w1 ⟨rfl, rfl⟩
  go_wp2_with (fail)
  refine (hV_h.out _).mono ?_
  rintro e w1 ⟨rfl, rfl⟩
  go_wp2_with (fail)
  go_ret
  exact ⟨rfl, bW_h.out⟩
 simp only [h1] at hV
 rw [h1, Bool.true_and] at hDD
 have hgw := fun (W : World) => generatorWires_any k W hkb.1 hkb.2
 obtain ⟨i1, hi1⟩ : ∃ i, i = (kindTy k).1 := ⟨_, rfl⟩
 obtain ⟨i2, hi2⟩ : ∃ i, i = (kindTy k).2 := ⟨_, rfl⟩
 have hDw : D = decide (i1 = (p : Int) ∧ i2 = (q : Int)) := by
  rw [hDD, Bool.eq_iff_iff, decide_eq_true_eq, decide_eq_true_eq, hi1, hi2]
  exact ⟨fun h => ⟨(congrArg Prod.fst h).symm, (congrArg Prod.snd h).symm⟩, fun h => Prod.ext h.1.symm h.2.symm⟩
 simp only [← hi1, ← hi2] at hgw
 have hwe := fun (W : World) => wires_eq i1 i2 (p : Int) (q : Int) W
 simp only [← hDw] at hwe
 clear h0 h1 hDD hkb hi1 hi2; have hG_h := lH hG; have hV_h := lH hV; have hgw_h := lH hgw; have k0_h := lH k0; have bW_h := lH bW; have hD_h := lH hD; have hDw_h := lH hDw; clear hG hV hgw k0 bW hD hDw
 go_enter Try.func63, Try.ntmps63
 go_upto_region 1 with (fail)
 rw [← hW]
 clear hW
 go_wp2_with (fail)
 refine (hG_h.out _).mono ?_
 rintro e w1 ⟨rfl, rfl⟩
 go_wp2_with (fail)
 refine (hV_h.out _).mono ?_
 rintro e w1 ⟨rfl, rfl⟩
 go_wp2_with (fail)
 obtain ⟨W, rfl⟩ : ∃ x, x = w1 := ⟨_, rfl⟩
 clear c0 c1 c2 c3 f0 f1 f2 f3
 refine beginB (by kernel_rfl) (fun W1 hW1 => ?_)
 have hbw : Below W.heap.size W W1 := by rw [hW1]; exact below_drew (Below.refl _ _)
 clear hW1
 have k1 := t_box_below k0_h.out hbw
 have k1_h := lH k1; clear k1
 refine tkH 0 ?_ rfl (Below.refl _ _) (fun W' hW' => ?_) ?_; rotate_left; · (obtain ⟨⟨a0, a1, a2, a3⟩, b0, b1, b2, b3⟩ := t_box4 (t_box_below k1_h.out hW'); clear hW'; go_simp; first | done | with_reducible rfl)
 simp only [Act.put, nS]
 refine tkH 1 ?_ rfl (Below.refl _ _) (fun W' hW' => ?_) ?_; rotate_left; · (obtain ⟨⟨a0, a1, a2, a3⟩, b0, b1, b2, b3⟩ := t_box4 (t_box_below k1_h.out hW'); clear hW'; go_simp; first | done | with_reducible rfl)
 simp only [Act.put, nS]
 refine tkH 3 ?_ rfl (Below.refl _ _) (fun W' hW' => ?_) ?_; rotate_left; · (obtain ⟨⟨a0, a1, a2, a3⟩, b0, b1, b2, b3⟩ := t_box4 (t_box_below k1_h.out hW'); clear hW'; go_simp; first | done | with_reducible rfl)
 simp only [Act.put, nS]
 refine tkH 4 ?_ rfl (Below.refl _ _) (fun W' hW' => ?_) ?_; rotate_left; · (obtain ⟨⟨a0, a1, a2, a3⟩, b0, b1, b2, b3⟩ := t_box4 (t_box_below k1_h.out hW'); clear hW'; go_simp; first | done | with_reducible rfl)
 simp only [Act.put, nS]
 refine tkH 5 ?_ rfl (Below.refl _ _) (fun W' hW' => ?_) ?_; rotate_left; · (obtain ⟨⟨a0, a1, a2, a3⟩, b0, b1, b2, b3⟩ := t_box4 (t_box_below k1_h.out hW'); clear hW'; go_simp; first | done | with_reducible rfl)
 simp only [Act.put, nS]
 refine tkH 6 ?_ rfl (Below.refl _ _) (fun W' hW' => ?_) ?_; rotate_left; · (obtain ⟨⟨a0, a1, a2, a3⟩, b0, b1, b2, b3⟩ := t_box4 (t_box_below k1_h.out hW'); clear hW'; go_simp; first | done | with_reducible rfl)
 simp only [Act.put, nS]
 refine tkH 7 ?_ rfl (Below.refl _ _) (fun W' hW' => ?_) ?_; rotate_left; · (obtain ⟨⟨a0, a1, a2, a3⟩, b0, b1, b2, b3⟩ := t_box4 (t_box_below k1_h.out hW'); clear hW'; go_simp; first | done | with_reducible rfl)
 simp only [Act.put, nS]
 refine tkH 8 ?_ rfl (Below.refl _ _) (fun W' hW' => ?_) ?_; rotate_left; · (obtain ⟨⟨a0, a1, a2, a3⟩, b0, b1, b2, b3⟩ := t_box4 (t_box_below k1_h.out hW'); clear hW'; go_simp; first | done | with_reducible rfl)
 simp only [Act.put, nS]
 refine tkH 9 ?_ rfl (Below.refl _ _) (fun W' hW' => ?_) ?_; rotate_left; · (obtain ⟨⟨a0, a1, a2, a3⟩, b0, b1, b2, b3⟩ := t_box4 (t_box_below k1_h.out hW'); clear hW'; go_simp; first | done | with_reducible rfl)
 simp only [Act.put, nS]
 refine' callH 2 (f := _) (args := _) rfl (by kernel_rfl) (by rfl) ?_ ?_; rotate_left 2; · (go_simp; first | done | with_reducible rfl | (constructor <;> with_reducible rfl))
 refine (hgw_h.out _).mono ?_
 rintro e w2 ⟨rfl, hb2⟩
 refine ⟨_, rfl, hb2, ?_⟩
 simp only [Act.put, nS]
 refine tkH 10 ?_ rfl hb2 (fun W' hW' => ?_) ?_; rotate_left; · (have hwe' := hwe W'; clear hW'; go_simp; first | done | with_reducible rfl)
 simp only [Act.put, nS]
 refine tkH 11 ?_ rfl hb2 (fun W' hW' => ?_) ?_; rotate_left; · (have hwe' := hwe W'; clear hW'; go_simp; first | done | with_reducible rfl)
 simp only [Act.put, nS]
 refine doneH (by kernel_rfl) ?_
 have hB2 := below_trans (below_trans bW_h.out hbw bW_h.out.size) hb2 (Nat.le_trans bW_h.out.size hbw.size)
 have hB2_h := lH hB2; clear hB2
 go_wp2_with (fail)
 go_ret
 exact ⟨rfl, hB2_h.out⟩
set_option maxRecDepth 100000 in
set_option maxHeartbeats 4000000 in
theorem lists_any {v : Value} {g : Gr} (wE : World) (h : RdGr wE v g) (ok : OkG g) (F : FuncId) (cap : Array Value) (hE : ∀ (args : Array Value) (w : World), (callFunc F args).run Try.prog w = .ok (.enter F args) w)
  (I : List Int → World → Prop) (S : List Nat) (hS : ∀ b, b ∈ S → wE.heap.size ≤ b) (hal : ∀ l W W', I l W → Below W.heap.size W W' → I l W')
  (hF : ∀ l B c (m : List Int) W, I l W → (∀ W', Keeps (· ∈ S) W W' → RdI W' B m) → (∀ x, x ∈ m → x ∈ t_allW g) → m.length ≤ 1048576 → Calls Try.prog F (#[.slice B m.length c] ++ cap) W fun e w' => e = .returned (.tuple #[]) ∧ I (l ++ m) w' ∧ Keeps (· ∈ S) W w')
  (w : World) (hw : I [] w) (hbw : Below wE.heap.size wE w) (hSw : ∀ b, b ∈ S → b < w.heap.size) :
  Calls Try.prog 64 #[v, .func (.func F) #[] cap] w fun e w' => e = .returned (.tuple #[]) ∧ I (t_allW g) w' ∧ Keeps (· ∈ S) w w' := by
 obtain ⟨A, c, hs, ⟨B, b, s⟩, ⟨C, d, t⟩, rfl, e1, e2, e3, hEd, hRa, hRb⟩ := h
 obtain ⟨z, es, s0, t0⟩ := g
 have a1 : es = hs.map egOf := e1
 have a2 : s = s0 := e2
 have a3 : t = t0 := e3
 subst a2 a3
 have hlen1 : es.length ≤ 1048576 := ok.1.1
 have hlen2 : s.length ≤ 1048576 := ok.1.2.1
 have hlen3 : t.length ≤ 1048576 := ok.1.2.2
 have hlE : ∀ x, x ∈ es → x.2.2.1.length ≤ 1048576 ∧ x.2.2.2.length ≤ 1048576 := ok.2.1
 have hall : t_allW (z, es, s, t) = s ++ (t ++ edW es) := rfl
 rw [hall] at hF ⊢
 have hRa0 : RdI wE B s := hRa
 have hRb0 : RdI wE C t := hRb
 obtain ⟨m, hm⟩ : ∃ m, m = hs.length := ⟨_, rfl⟩
 obtain ⟨p, hp⟩ : ∃ p, p = s.length := ⟨_, rfl⟩
 obtain ⟨r, hr⟩ : ∃ r, r = t.length := ⟨_, rfl⟩
 have hmes : es.length = m := by rw [a1, List.length_map, hm]
 show Calls Try.prog _ #[.agg #[.int .i64 z, .slice A hs.length c, .slice B s.length b, .slice C t.length d], .func (.func F) #[] cap] w _
 rw [← hm, ← hp, ← hr]
 obtain ⟨W, hW, bW, k0⟩ := (⟨_, rfl, t_below_alloc _ _, heap_alloc_new _ _⟩ : ∃ W, W = w.alloc (.cells #[.int .i64 z, .slice A m c, .slice B p b, .slice C r d] tGr) ∧ Below w.heap.size w W ∧ W.heap[w.heap.size]? = some (.cells #[.int .i64 z, .slice A m c, .slice B p b, .slice C r d] tGr))
 have hbW := below_trans hbw bW hbw.size
 have hI0 := hal _ _ _ hw bW
 have hC1 := hF [] B b s W hI0 (fun W' hk => hRa0.below (below_keeps hbW hk hbW.size hS)) (fun x hx => by simp [hx]) hlen2
 rw [← hp, List.nil_append] at hC1
 obtain ⟨⟨c0, c1, c2, c3⟩, f0, f1, f2, f3⟩ := t_box4 k0
 have hmb : (m : Int) ≤ 1048576 := by omega
 have hE1 := hE (#[.slice B p b] ++ cap) W
 have hnS : ¬ w.heap.size ∈ S := fun hh => by have := hSw _ hh; omega
 clear hRa hRb ok e1 e2 e3 hlen1 hlen2 hall hw hI0; have hS_h := lH hS; have hal_h := lH hal; have hF_h := lH hF; have hSw_h := lH hSw; have hbw_h := lH hbw; have hbW_h := lH hbW; have bW_h := lH bW; have k0_h := lH k0; have hC1_h := lH hC1; have hEd_h := lH hEd; have hRa0_h := lH hRa0; have hRb0_h := lH hRb0; have a1_h := lH a1; have hlE_h := lH hlE; have hm_h := lH hm; have hp_h := lH hp; have hr_h := lH hr; have hmes_h := lH hmes; have hE_h := lH hE; have hnS_h := lH hnS; clear hS hal hF hSw hbw hbW bW k0 hC1 hEd hRa0 hRb0 a1 hlE hm hp hr hmes hE hnS
 go_enter Try.func64, Try.ntmps64
 go_upto_region 1 with (fail)
 rw [← hW]
 clear hW
 go_wp2_with (fail)
 refine (hC1_h.out).mono ?_
 rintro e w1 ⟨rfl, hI1, hk1⟩
 have k1 := t_box_keeps k0_h.out hk1 hnS_h.out
 have hb1 := below_keeps hbW_h.out hk1 hbW_h.out.size hS_h.out
 have hC2 := hF_h.out s C d t w1 hI1 (fun W' hk => hRb0_h.out.below (below_keeps hb1 hk hb1.size hS_h.out)) (fun x hx => by simp [hx]) hlen3
 rw [← hr_h.out] at hC2
 clear c0 c1 c2 c3 f0 f1 f2 f3 hI1 hE1
 obtain ⟨⟨c0, c1, c2, c3⟩, f0, f1, f2, f3⟩ := t_box4 k1
 have hE1 := hE_h.out (#[.slice C r d] ++ cap) w1
 have hk1_h := lH hk1; have k1_h := lH k1; have hb1_h := lH hb1; have hC2_h := lH hC2; clear hk1 k1 hb1 hC2
 go_wp2_with (fail)
 refine (hC2_h.out).mono ?_
 rintro e w2 ⟨rfl, hI2, hk2⟩
 have k2 := t_box_keeps k1_h.out hk2 hnS_h.out
 have hb2 := below_keeps hb1_h.out hk2 hb1_h.out.size hS_h.out
 have hk02 := hk1_h.out.trans hk2
 clear c0 c1 c2 c3 f0 f1 f2 f3 hE1 hk2
 obtain ⟨⟨c0, c1, c2, c3⟩, f0, f1, f2, f3⟩ := t_box4 k2
 have hI20 : I (s ++ (t ++ edW (es.take 0))) w2 := by simpa [edW] using hI2
 have hk02_h := lH hk02; have k2_h := lH k2; have hb2_h := lH hb2; have hI20_h := lH hI20; clear hk02 k2 hb2 hI20; clear hI2
 go_wp2_with (fail)
 clear c0 c1 c2 c3 f0 f1 f2 f3
 go_loopw [17] (fun i wr => ∃ k : Nat, k ≤ m ∧ i = .int .i64 k ∧ I (s ++ (t ++ edW (es.take k))) wr ∧ Keeps (· ∈ S) W wr) (fun i _ => m - (intOf i).toNat)
 case atStart => exact ⟨0, Nat.zero_le _, rfl, hI20_h.out, hk02_h.out⟩
 case round =>
  clear hI20_h hk02_h
  obtain ⟨k, hk, rfl, hI3, hk3⟩ := hrel
  have hb3 := below_keeps hbW_h.out hk3 hbW_h.out.size hS_h.out
  by_cases hlt : k < m
  · obtain ⟨ad, κ, vv, B1, b1, s1, C1, b2, t1, rfl, hn, ⟨d0, d1, d2, d3⟩, hr1, hr2⟩ := (hEd_h.out.below hb3).at_ (j := k) (by rw [← hm_h.out]; exact hlt)
    have hek : es[k]? = some (κ, vv, s1, t1) := by rw [a1_h.out, List.getElem?_map, hn]; rfl
    have hln := hlE_h.out _ (List.mem_of_getElem? hek)
    obtain ⟨hm1, hm2⟩ := mem_edW_of (List.mem_of_getElem? hek)
    obtain ⟨wo, rfl⟩ : ∃ x, x = wr := ⟨_, rfl⟩
    obtain ⟨p1, hp1⟩ : ∃ p1, p1 = s1.length := ⟨_, rfl⟩
    obtain ⟨r1, hr1'⟩ : ∃ r1, r1 = t1.length := ⟨_, rfl⟩
    rw [← hp1] at d2
    rw [← hr1'] at d3
    obtain ⟨W6, hW6, bW6, k6⟩ := (⟨_, rfl, t_below_alloc _ _, heap_alloc_new _ _⟩ : ∃ W, W = wo.alloc (.cells #[.int .i64 κ, .int .i64 vv, .slice B1 p1 b1, .slice C1 r1 b2] tEd) ∧ Below wo.heap.size wo W ∧ W.heap[wo.heap.size]? = some (.cells #[.int .i64 κ, .int .i64 vv, .slice B1 p1 b1, .slice C1 r1 b2] tEd))
    have hb6 := below_trans hb3 bW6 hb3.size
    have hI6 := hal_h.out _ _ _ hI3 bW6
    have hRB : RdI wE B1 s1 := (hEd_h.out.2 _ (List.mem_of_getElem? hn)).1
    have hC3 := hF_h.out _ B1 b1 s1 W6 hI6 (fun W' hk => hRB.below (below_keeps hb6 hk hb6.size hS_h.out)) (fun x hx => by simp [hm1 x hx]) hln.1
    rw [← hp1] at hC3
    have hk6 := hk3.trans (Keeps.of_below bW6 _)
    have hnS6 : ¬ wo.heap.size ∈ S := fun hh => by have := hSw_h.out _ hh; have := hk3.size; have := bW_h.out.size; omega
    have hRC : RdI wE C1 t1 := (hEd_h.out.2 _ (List.mem_of_getElem? hn)).2
    have hkI : (k : Int) < (m : Int) := by omega
    obtain ⟨⟨c0, c1, c2, c3⟩, f0, f1, f2, f3⟩ := t_box4 k6
    have hE1 := hE_h.out (#[.slice B1 p1 b1] ++ cap) W6
    have hr1_h := lH hr1'; clear hr1' hI6 hI3 hr1 hr2 hn hm1 hb3 hk3 hRB; have hek_h := lH hek; have hp1_h := lH hp1; have bW6_h := lH bW6; have k6_h := lH k6; have hC3_h := lH hC3; have hk6_h := lH hk6; have hnS6_h := lH hnS6; have hb6_h := lH hb6; have hRC_h := lH hRC; have hm2_h := lH hm2; have hln_h := lH hln; clear hek hp1 bW6 k6 hC3 hk6 hnS6 hb6 hRC hm2 hln
    go_upto_region 6 with (fail)
    rw [← hW6]
    clear hW6
    go_wp2_with (fail)
    refine (hC3_h.out).mono ?_
    rintro e w7 ⟨rfl, hI7, hk7⟩
    have k7 := t_box_keeps k6_h.out hk7 hnS6_h.out
    have hb7 := below_keeps hb6_h.out hk7 hb6_h.out.size hS_h.out
    have hC4 := hF_h.out _ C1 b2 t1 w7 hI7 (fun W' hk => hRC_h.out.below (below_keeps hb7 hk hb7.size hS_h.out)) (fun x hx => by simp [hm2_h.out x hx]) hln_h.out.2
    rw [← hr1_h.out] at hC4
    have hk8 := hk6_h.out.trans hk7
    clear c0 c1 c2 c3 f0 f1 f2 f3 hE1 hI7 hk7 d0 d1 d2 d3
    obtain ⟨⟨c0, c1, c2, c3⟩, f0, f1, f2, f3⟩ := t_box4 k7
    have hE1 := hE_h.out (#[.slice C1 r1 b2] ++ cap) w7
    have k7_h := lH k7; have hb7_h := lH hb7; have hC4_h := lH hC4; have hk8_h := lH hk8; clear k7 hb7 hC4 hk8
    go_wp2_with (fail)
    refine (hC4_h.out).mono ?_
    rintro e w8 ⟨rfl, hI8, hk9⟩
    have hk10 := hk8_h.out.trans hk9
    have hI9 : I (s ++ (t ++ edW (es.take (k + 1)))) w8 := by
     have e : s ++ (t ++ edW (es.take (k + 1))) = s ++ (t ++ edW (es.take k)) ++ s1 ++ t1 := by
      rw [List.take_add_one, hek_h.out, edW_append]; simp [edW]
     rw [e]; exact hI8
    clear c0 c1 c2 c3 f0 f1 f2 f3 hE1 hI8 hk9; have hk10_h := lH hk10; have hI9_h := lH hI9; clear hk10 hI9
    go_wp2_with (fail)
    go_roundw
    case rel => exact ⟨k + 1, by omega, by go_num, hI9_h.out, hk10_h.out⟩
    case measure => simp [intOf]; omega
  · obtain rfl : m = k := by omega
    rw [List.take_of_length_le (by rw [hmes_h.out]; exact Nat.le_refl _)] at hI3
    have hkf := (Keeps.of_below bW_h.out (· ∈ S)).trans hk3
    have hI3_h := lH hI3; have hkf_h := lH hkf; clear hI3 hkf; clear hk3
    go_wp2_with (fail)
    go_end0
    exact ⟨rfl, hI3_h.out, hkf_h.out⟩
theorem boxg1 {w : World} {B : Nat} {x : Value} {t : TypeId} (h : w.heap[B]? = some (.cells #[x] t)) : w.cell? ⟨B, 0, none⟩ = some x ∧ w.frozen? ⟨B, 0, none⟩ = false := by simp [World.cell?, World.frozen?, h]
theorem seenM_step {n : Nat} {l : List Int} {q : Nat} (hq : q < n) (hs : l.contains (q : Int) = true) : seenC n (l ++ [(q : Int)]) = seenC n l := by unfold seenC; rw [seenM_old hq hs]
theorem inW_snoc (n : Int) (l : List Int) (x : Int) : inW n (l ++ [x]) = (inW n l && t_inB x 0 (n - 1)) := by rw [inW_append]; simp [inW]
structure GI (n gB bG bS bC : Nat) (Gs : Addr) (V1 V2 V3 : Value) (l : List Int) (W : World) : Prop where
 hg : W.heap[gB]? = some (.cells #[.int .i64 (n : Int), V1, V2, V3] tGr)
 hgd : W.heap[bG]? = some (.cells #[.bool (inW n l)] tBool)
 hsl : W.heap[bS]? = some (.cells #[.slice (some Gs) n n] tBools)
 hct : W.heap[bC]? = some (.cells #[.int .i64 (seenC n l : Int)] tInt)
 hse : Sl W tBool 1 (some Gs) n n (bls (seenM n l))
theorem GI.below {n gB bG bS bC : Nat} {Gs : Addr} {V1 V2 V3 : Value} {l : List Int} {W W' : World} (h : GI n gB bG bS bC Gs V1 V2 V3 l W) (hb : Below W.heap.size W W') : GI n gB bG bS bC Gs V1 V2 V3 l W' :=
 ⟨t_box_below h.hg hb, t_box_below h.hgd hb, t_box_below h.hsl hb, t_box_below h.hct hb, h.hse.below hb⟩
set_option maxRecDepth 100000 in
set_option maxHeartbeats 4000000 in
theorem isGraphC_any (n gB bG bS bC : Nat) (Gs : Addr) (V1 V2 V3 : Value) (l : List Int) (B : Option Addr) (c : Nat) (m : List Int) (W : World) (hn : n ≤ 100) (hml : m.length ≤ 1048576)
  (h1 : bG ≠ bC) (h2 : bG ≠ Gs.block) (h3 : bC ≠ Gs.block) (h4 : gB ≠ bG ∧ gB ≠ bC ∧ gB ≠ Gs.block) (h5 : bS ≠ bG ∧ bS ≠ bC ∧ bS ≠ Gs.block)
  (hI : GI n gB bG bS bC Gs V1 V2 V3 l W) (hm : ∀ W', Keeps (· ∈ [bG, bC, Gs.block]) W W' → RdI W' B m) :
  Calls Try.prog 65 #[.slice B m.length c, .pointer (some ⟨gB, 0, none⟩), .pointer (some ⟨bG, 0, none⟩), .pointer (some ⟨bS, 0, none⟩), .pointer (some ⟨bC, 0, none⟩)] W fun e w' => e = .returned (.tuple #[]) ∧ GI n gB bG bS bC Gs V1 V2 V3 (l ++ m) w' ∧ Keeps (· ∈ [bG, bC, Gs.block]) W w' := by
 obtain ⟨p, hp⟩ : ∃ p, p = m.length := ⟨_, rfl⟩
 rw [← hp] at hml ⊢
 have hp_h := lH hp; have hm_h := lH hm; have hI_h := lH hI; clear hp hm hI
 go_enter Try.func65, Try.ntmps65
 go_wp2_with (fail)
 go_loopw [10] (fun i wr => ∃ k : Nat, k ≤ p ∧ i = .int .i64 k ∧ GI n gB bG bS bC Gs V1 V2 V3 (l ++ m.take k) wr ∧ Keeps (· ∈ [bG, bC, Gs.block]) W wr) (fun i _ => p - (intOf i).toNat)
 case atStart => exact ⟨0, Nat.zero_le _, rfl, by simpa using hI_h.out, Keeps.refl _ _⟩
 case round =>
  clear hI_h
  obtain ⟨k, hk, rfl, hI, hkp⟩ := hrel
  by_cases hlt : k < p
  · obtain ⟨xd, x, rfl, hx, hxc⟩ := (hm_h.out wr hkp).at_ (j := k) (by rw [← hp_h.out]; exact hlt)
    have hkI : (k : Int) < (p : Int) := by omega
    have htk : m.take (k + 1) = m.take k ++ [x] := by rw [List.take_add_one, hx]; rfl
    have hlx : l ++ m.take (k + 1) = (l ++ m.take k) ++ [x] := by rw [htk, List.append_assoc]
    obtain ⟨L, hL⟩ : ∃ L, L = l ++ m.take k := ⟨_, rfl⟩
    rw [← hL] at hI hlx
    have hC := fun (W : World) => t_within_any x 0 ((n : Int) - 1) W
    have wn : IntKind.i64.wrap ((n : Int) - 1) = (n : Int) - 1 := IntWalk.i64_in _ (by omega)
    obtain ⟨⟨c0, c1, c2, c3⟩, f0, f1, f2, f3⟩ := t_box4 hI.hg
    by_cases hin : t_inB x 0 ((n : Int) - 1) = true
    · have hb : 0 ≤ x ∧ x ≤ (n : Int) - 1 := of_decide_eq_true hin
      obtain ⟨q, rfl⟩ : ∃ q : Nat, x = (q : Int) := ⟨x.toNat, by omega⟩
      have hqn : q < n := by omega
      simp only [hin] at hC
      have hinL : inW n (L ++ [(q : Int)]) = inW n L := by rw [inW_snoc, hin, Bool.and_true]
      obtain ⟨gd, hgd, hgb, hgc, hgf⟩ := Sl.cell hI.hse (bls_get (seenM_get hqn))
      obtain rfl := Option.some.inj hgd
      obtain ⟨s0, s1⟩ := boxg1 hI.hsl
      have hqI : (q : Int) < (n : Int) := by omega
      have hq0 : (0 : Int) ≤ (q : Int) := by omega
      by_cases hc : L.contains (q : Int) = true
      · have hI2 : GI n gB bG bS bC Gs V1 V2 V3 (l ++ m.take (k + 1)) wr := by
         rw [hlx]
         exact ⟨hI.hg, by rw [hinL]; exact hI.hgd, hI.hsl, by rw [seenM_step hqn hc]; exact hI.hct, by rw [seenM_old hqn hc]; exact hI.hse⟩
        rw [hc] at hgc
        clear hI hin hb hx htk hlx hL hinL hgf hgd; have hC_h := lH hC; have hI2_h := lH hI2; have hkp_h := lH hkp; have hc_h := lH hc; clear hC hI2 hkp hc
        go_wp2_with (fail)
        refine (hC_h.out _).mono ?_
        rintro e w1 ⟨rfl, rfl⟩
        go_wp2_with (fail)
        go_roundw
        case rel => exact ⟨k + 1, by omega, by go_num, hI2_h.out, hkp_h.out⟩
        case measure => simp [intOf]; omega
      · have hc' : L.contains (q : Int) = false := by simpa using hc
        rw [hc'] at hgc
        have hfq := hgf q
        obtain ⟨W1, hW1⟩ : ∃ W1, W1 = wr.setCell (Gs.add q) (.bool true) := ⟨_, rfl⟩
        have hset := Sl.set hI.hse rfl q (.bool true) (by simp [bls]; omega)
        rw [bls_set, ← seenM_in hqn, ← hW1] at hset
        have hk1 : Keeps (· = Gs.block) wr W1 := by rw [hW1]; exact (Keeps.refl (fun b => b = Gs.block) wr).setCell (p := Gs.add q) (by rw [block_of_add]) _
        have g1 := t_box_keeps hI.hg hk1 h4.2.2
        have g2 := t_box_keeps hI.hgd hk1 h2
        have g3 := t_box_keeps hI.hsl hk1 h5.2.2
        have g4 := t_box_keeps hI.hct hk1 h3
        obtain ⟨t0, t1⟩ := boxg1 g4
        obtain ⟨W2, hW2⟩ : ∃ W2, W2 = W1.setCell ⟨bC, 0, none⟩ (.int .i64 ((seenC n L : Int) + 1)) := ⟨_, rfl⟩
        obtain ⟨n4, hk2⟩ := box_set g4 0 (.int .i64 ((seenC n L : Int) + 1))
        rw [← hW2] at n4 hk2
        have n4' : W2.heap[bC]? = some (.cells #[.int .i64 ((seenC n L : Int) + 1)] tInt) := n4
        have hcle := seenC_le n L
        have hI2 : GI n gB bG bS bC Gs V1 V2 V3 (l ++ m.take (k + 1)) W2 := by
         rw [hlx]
         refine ⟨t_box_keeps g1 hk2 h4.2.1, by rw [hinL]; exact t_box_keeps g2 hk2 h1, t_box_keeps g3 hk2 h5.2.1, ?_, hset.keeps hk2 (fun b hb e => by simp at hb; omega)⟩
         rw [seenC_new hqn hc', show ((seenC n L + 1 : Nat) : Int) = (seenC n L : Int) + 1 by omega]; exact n4'
        have hkf : Keeps (· ∈ [bG, bC, Gs.block]) W W2 := (hkp.trans (hk1.mono fun b _ hb => by simp [hb])).trans (hk2.mono fun b _ hb => by simp [hb])
        have hsz : (seenC n L : Int) ≤ 100 := by omega
        have hsz0 : (0 : Int) ≤ (seenC n L : Int) := by omega
        clear hI hin hb hx htk hlx hL hinL hgf hgd hset hk1 g1 g2 g3 g4 n4 hk2 n4' hkp hcle; have hC_h := lH hC; have hI2_h := lH hI2; have hc_h := lH hc; have hc'_h := lH hc'; have hkf_h := lH hkf; clear hC hI2 hc hc' hkf
        go_wp2_with (fail)
        refine (hC_h.out _).mono ?_
        rintro e w1 ⟨rfl, rfl⟩
        go_upto_region 7 with (fail)
        rw [← hW1]
        clear hW1
        go_upto_region 8 with (fail)
        rw [← hW2]
        clear hW2
        go_wp2_with (fail)
        go_roundw
        case rel => exact ⟨k + 1, by omega, by go_num, hI2_h.out, hkf_h.out⟩
        case measure => simp [intOf]; omega
    · have hin' : t_inB x 0 ((n : Int) - 1) = false := by simpa using hin
      simp only [hin'] at hC
      have hinL : inW n (L ++ [x]) = false := by rw [inW_snoc, hin', Bool.and_false]
      have hxo : ¬ (0 ≤ x ∧ x < (n : Int)) := fun hh => by
       rw [show t_inB x 0 ((n : Int) - 1) = true from decide_eq_true ⟨hh.1, by omega⟩] at hin'; cases hin'
      obtain ⟨s0, s1⟩ := boxg1 hI.hgd
      obtain ⟨W1, hW1⟩ : ∃ W1, W1 = wr.setCell ⟨bG, 0, none⟩ (.bool false) := ⟨_, rfl⟩
      obtain ⟨n2, hk1⟩ := box_set hI.hgd 0 (.bool false)
      rw [← hW1] at n2 hk1
      have n2' : W1.heap[bG]? = some (.cells #[.bool false] tBool) := n2
      have hI2 : GI n gB bG bS bC Gs V1 V2 V3 (l ++ m.take (k + 1)) W1 := by
       rw [hlx]
       refine ⟨t_box_keeps hI.hg hk1 h4.1, by rw [hinL]; exact n2', t_box_keeps hI.hsl hk1 h5.1, ?_, ?_⟩
       · have e : seenC n (L ++ [x]) = seenC n L := by unfold seenC; rw [seenM_out hxo]
         rw [e]; exact t_box_keeps hI.hct hk1 (fun e => h1 e.symm)
       · rw [seenM_out hxo]; exact hI.hse.keeps hk1 (fun b hb e => by simp at hb; omega)
      have hkf : Keeps (· ∈ [bG, bC, Gs.block]) W W1 := hkp.trans (hk1.mono fun b _ hb => by simp [hb])
      clear hI hin hin' hx htk hlx hL hinL n2 hk1 n2' hkp; have hC_h := lH hC; have hI2_h := lH hI2; have hkf_h := lH hkf; have hxo_h := lH hxo; clear hC hI2 hkf hxo
      go_wp2_with (fail)
      refine (hC_h.out _).mono ?_
      rintro e w1 ⟨rfl, rfl⟩
      go_upto_region 8 with (fail)
      rw [← hW1]
      clear hW1
      go_wp2_with (fail)
      go_roundw
      case rel => exact ⟨k + 1, by omega, by go_num, hI2_h.out, hkf_h.out⟩
      case measure => simp [intOf]; omega
  · obtain rfl : p = k := by omega
    rw [List.take_of_length_le (by rw [← hp_h.out]; exact Nat.le_refl _)] at hI
    have hI_h := lH hI; have hkp_h := lH hkp; clear hI hkp
    go_wp2_with (fail)
    go_end0
    exact ⟨rfl, hI_h.out, hkp_h.out⟩
theorem egH_eg (k v : Int) (l m : List Int) : egH k v l.length m.length = egB (k, v, l, m) := rfl
theorem madeSeen (n : Nat) : bls (List.replicate n false) = bls (seenM n []) := by rw [seenM_nil]
set_option maxRecDepth 100000 in
set_option maxHeartbeats 8000000 in
theorem isGraph_any {v : Value} {g : Gr} (w : World) (h : RdGr w v g) (ok : OkG g) :
  Calls Try.prog 52 #[v] w fun e w' => e = .returned (.bool (grB g)) ∧ Below w.heap.size w w' := by
 have hG0 := h
 obtain ⟨A, c, hs, ⟨B, b, s⟩, ⟨C, d, t⟩, rfl, e1, e2, e3, hE, hRa, hRb⟩ := h
 obtain ⟨z, es, s0, t0⟩ := g
 have a1 : es = hs.map egOf := e1
 have a2 : s = s0 := e2
 have a3 : t = t0 := e3
 subst a2 a3
 have hok := ok
 have hlen1 : es.length ≤ 1048576 := ok.1.1
 have hlen2 : s.length ≤ 1048576 := ok.1.2.1
 have hlen3 : t.length ≤ 1048576 := ok.1.2.2
 have hlE : ∀ x, x ∈ hs → x.2.2.1.2.2.length ≤ 1048576 ∧ x.2.2.2.2.2.length ≤ 1048576 := fun x hx => ok.2.1 _ (by show egOf x ∈ es; rw [a1]; exact List.mem_map_of_mem hx)
 obtain ⟨D, hD⟩ : ∃ D, D = grB (z, es, s, t) := ⟨_, rfl⟩
 have hDD := hD
 unfold grB at hDD
 simp only [Bool.and_assoc] at hDD
 rw [← hD]
 obtain ⟨m, hm⟩ : ∃ m, m = hs.length := ⟨_, rfl⟩
 obtain ⟨p, hp⟩ : ∃ p, p = s.length := ⟨_, rfl⟩
 obtain ⟨r, hr⟩ : ∃ r, r = t.length := ⟨_, rfl⟩
 have hmes : es.length = m := by rw [a1, List.length_map, hm]
 have hRa0 : RdI w B s := hRa
 have hRb0 : RdI w C t := hRb
 rw [hmes, ← hp, ← hr] at hDD
 change RdGr w (.agg #[.int .i64 z, .slice A hs.length c, .slice B s.length b, .slice C t.length d]) (z, es, s, t) at hG0
 rw [← hm, ← hp, ← hr] at hG0
 show Calls Try.prog _ #[.agg #[.int .i64 z, .slice A hs.length c, .slice B s.length b, .slice C t.length d]] w _
 rw [← hm, ← hp, ← hr]
 obtain ⟨W, hW, bW, k0⟩ := (⟨_, rfl, t_below_alloc _ _, heap_alloc_new _ _⟩ : ∃ W, W = w.alloc (.cells #[.int .i64 z, .slice A m c, .slice B p b, .slice C r d] tGr) ∧ Below w.heap.size w W ∧ W.heap[w.heap.size]? = some (.cells #[.int .i64 z, .slice A m c, .slice B p b, .slice C r d] tGr))
 obtain ⟨⟨c0, c1, c2, c3⟩, f0, f1, f2, f3⟩ := t_box4 k0
 have hI := fun (W : World) => t_within_any z 0 100 W
 clear hRa hRb ok e1 e2 e3 hRa0 hRb0
 by_cases h0 : t_inB z 0 100 = true
 case neg =>
  have h0' : t_inB z 0 100 = false := by simpa using h0
  obtain rfl : D = false := by rw [hDD, h0']; rfl
  simp only [h0'] at hI
  clear h0 h0'; have hI_h := lH hI; have k0_h := lH k0; have bW_h := lH bW; have hm_h := lH hm; have hp_h := lH hp; have hr_h := lH hr; have hD_h := lH hD; have hDD_h := lH hDD; have hmes_h := lH hmes; have hlE_h := lH hlE; have hok_h := lH hok; have a1_h := lH a1; have hE_h := lH hE; have hG0_h := lH hG0; clear hI k0 bW hm hp hr hD hDD hmes hlE hok a1 hE hG0
  go_enter Try.func52, Try.ntmps52
  go_upto_region 1 with (fail)
  rw [← hW]
  clear hW
  go_wp2_with (fail)
  refine (hI_h.out _).mono ?_
  rintro e w1 ⟨rfl, rfl⟩
  go_wp2_with (fail)
  go_ret
  exact ⟨rfl, bW_h.out⟩
 have hz : 0 ≤ z ∧ z ≤ 100 := of_decide_eq_true h0
 simp only [h0] at hI
 rw [h0, Bool.true_and] at hDD
 clear h0
 have wz : IntKind.i64.wrap (z - 1) = z - 1 := IntWalk.i64_in _ (by omega)
 by_cases h1 : m ≤ 60
 case neg =>
  obtain rfl : D = false := by rw [hDD, decide_eq_false h1]; rfl
  have h1' : ¬ ((m : Int) ≤ 60) := by omega
  have hI_h := lH hI; have k0_h := lH k0; have bW_h := lH bW; have hm_h := lH hm; have hp_h := lH hp; have hr_h := lH hr; have hD_h := lH hD; have hDD_h := lH hDD; have hmes_h := lH hmes; have hlE_h := lH hlE; have hok_h := lH hok; have a1_h := lH a1; have hE_h := lH hE; have hG0_h := lH hG0; clear hI k0 bW hm hp hr hD hDD hmes hlE hok a1 hE hG0
  go_enter Try.func52, Try.ntmps52
  go_upto_region 1 with (fail)
  rw [← hW]
  clear hW
  go_wp2_with (fail)
  refine (hI_h.out _).mono ?_
  rintro e w1 ⟨rfl, rfl⟩
  go_wp2_with (fail)
  go_ret
  exact ⟨rfl, bW_h.out⟩
 rw [decide_eq_true h1, Bool.true_and] at hDD
 have h1' : (m : Int) ≤ 60 := by omega
 by_cases h2 : p ≤ 12
 case neg =>
  obtain rfl : D = false := by rw [hDD, decide_eq_false h2]; rfl
  have h2' : ¬ ((p : Int) ≤ 12) := by omega
  have hI_h := lH hI; have k0_h := lH k0; have bW_h := lH bW; have hm_h := lH hm; have hp_h := lH hp; have hr_h := lH hr; have hD_h := lH hD; have hDD_h := lH hDD; have hmes_h := lH hmes; have hlE_h := lH hlE; have hok_h := lH hok; have a1_h := lH a1; have hE_h := lH hE; have hG0_h := lH hG0; clear hI k0 bW hm hp hr hD hDD hmes hlE hok a1 hE hG0
  go_enter Try.func52, Try.ntmps52
  go_upto_region 1 with (fail)
  rw [← hW]
  clear hW
  go_wp2_with (fail)
  refine (hI_h.out _).mono ?_
  rintro e w1 ⟨rfl, rfl⟩
  go_wp2_with (fail)
  go_ret
  exact ⟨rfl, bW_h.out⟩
 rw [decide_eq_true h2, Bool.true_and] at hDD
 have h2' : (p : Int) ≤ 12 := by omega
 by_cases h3 : r ≤ 12
 case neg =>
  obtain rfl : D = false := by rw [hDD, decide_eq_false h3]; rfl
  have h3' : ¬ ((r : Int) ≤ 12) := by omega
  have hI_h := lH hI; have k0_h := lH k0; have bW_h := lH bW; have hm_h := lH hm; have hp_h := lH hp; have hr_h := lH hr; have hD_h := lH hD; have hDD_h := lH hDD; have hmes_h := lH hmes; have hlE_h := lH hlE; have hok_h := lH hok; have a1_h := lH a1; have hE_h := lH hE; have hG0_h := lH hG0; clear hI k0 bW hm hp hr hD hDD hmes hlE hok a1 hE hG0
  go_enter Try.func52, Try.ntmps52
  go_upto_region 1 with (fail)
  rw [← hW]
  clear hW
  go_wp2_with (fail)
  refine (hI_h.out _).mono ?_
  rintro e w1 ⟨rfl, rfl⟩
  go_wp2_with (fail)
  go_ret
  exact ⟨rfl, bW_h.out⟩
 rw [decide_eq_true h3, Bool.true_and] at hDD
 have h3' : (r : Int) ≤ 12 := by omega
 have hI_h := lH hI; have k0_h := lH k0; have bW_h := lH bW; have hm_h := lH hm; have hp_h := lH hp; have hr_h := lH hr; have hD_h := lH hD; have hDD_h := lH hDD; have hmes_h := lH hmes; have hlE_h := lH hlE; have hok_h := lH hok; have a1_h := lH a1; have hE_h := lH hE; have hG0_h := lH hG0; clear hI k0 bW hm hp hr hD hDD hmes hlE hok a1 hE hG0
 go_enter Try.func52, Try.ntmps52
 go_upto_region 1 with (fail)
 rw [← hW]
 clear hW
 go_wp2_with (fail)
 refine (hI_h.out _).mono ?_
 rintro e w1 ⟨rfl, rfl⟩
 obtain ⟨W, rfl⟩ : ∃ x, x = w1 := ⟨_, rfl⟩
 go_wp2_with (fail)
 clear c0 c1 c2 c3 f0 f1 f2 f3
 go_loopw [33] (fun i wr => ∃ k : Nat, k ≤ m ∧ i = .int .i64 k ∧ (es.take k).all egB = true ∧ Below W.heap.size W wr) (fun i _ => m - (intOf i).toNat)
 case atStart => exact ⟨0, Nat.zero_le _, rfl, by simp, Below.refl _ _⟩
 case round =>
  obtain ⟨k, hk, rfl, hall, hB1⟩ := hrel
  have kr := t_box_below k0_h.out hB1
  have hBw := below_trans bW_h.out hB1 bW_h.out.size
  by_cases hlt : k < m
  · obtain ⟨ad, κ, vv, B1, b1, s1, C1, b2, t1, rfl, hn, ⟨d0, d1, d2, d3⟩, hr1, hr2⟩ := (hE_h.out.below hBw).at_ (j := k) (by rw [← hm_h.out]; exact hlt)
    have hek : es[k]? = some (κ, vv, s1, t1) := by rw [a1_h.out, List.getElem?_map, hn]; rfl
    have hln := hlE_h.out _ (List.mem_of_getElem? hn)
    obtain ⟨wo, rfl⟩ : ∃ x, x = wr := ⟨_, rfl⟩
    have hC := fun (W' : World) (_ : Below wo.heap.size wo W') => isEdge_any κ vv B1 C1 b1 b2 s1.length t1.length W'
    obtain ⟨p1, hp1⟩ : ∃ p1, p1 = s1.length := ⟨_, rfl⟩
    obtain ⟨r1, hr1'⟩ : ∃ r1, r1 = t1.length := ⟨_, rfl⟩
    simp only [egH_eg] at hC
    simp only [← hp1, ← hr1'] at hC
    rw [← hp1] at d2
    rw [← hr1'] at d3
    obtain ⟨W6, hW6, bW6, k6⟩ := (⟨_, rfl, t_below_alloc _ _, heap_alloc_new _ _⟩ : ∃ W, W = wo.alloc (.cells #[.int .i64 κ, .int .i64 vv, .slice B1 p1 b1, .slice C1 r1 b2] tEd) ∧ Below wo.heap.size wo W ∧ W.heap[wo.heap.size]? = some (.cells #[.int .i64 κ, .int .i64 vv, .slice B1 p1 b1, .slice C1 r1 b2] tEd))
    have hCW := hC W6 bW6
    have hkI : (k : Int) < (m : Int) := by omega
    have kr6 := t_box_below kr bW6
    have hBW6 := below_trans hB1 bW6 hB1.size
    obtain ⟨⟨c0, c1, c2, c3⟩, f0, f1, f2, f3⟩ := t_box4 k6
    obtain ⟨⟨y0, y1, y2, y3⟩, g0, g1, g2, g3⟩ := t_box4 kr6
    obtain ⟨H, hH⟩ : ∃ H, H = egB (κ, vv, s1, t1) := ⟨_, rfl⟩
    rw [← hH] at hCW
    have hr1_h := lH hr1'; clear hr1' hr1 hr2 hn hln hC kr hB1 kr6; have hCW_h := lH hCW; have hek_h := lH hek; have hall_h := lH hall; have hp1_h := lH hp1; have bW6_h := lH bW6; have k6_h := lH k6; have hBW6_h := lH hBW6; have hBw_h := lH hBw; have hH_h := lH hH; clear hCW hek hall hp1 bW6 k6 hBW6 hBw hH
    go_upto_region 6 with (fail)
    rw [← hW6]
    clear hW6
    go_wp2_with (fail)
    refine (hCW_h.out).mono ?_
    rintro e w7 ⟨rfl, hb7⟩
    have hB8 := below_trans hBW6_h.out hb7 hBW6_h.out.size
    clear hb7 c0 c1 c2 c3 f0 f1 f2 f3 y0 y1 y2 y3 g0 g1 g2 g3 d0 d1 d2 d3
    cases H
    · have hf : D = false := by
       rw [hDD_h.out, show es.all egB = false from ?_]; rfl
       rw [Bool.eq_false_iff]
       intro hh
       have := List.all_eq_true.1 hh _ (List.mem_of_getElem? hek_h.out)
       rw [← hH_h.out] at this; cases this
      subst hf
      have hBz := below_trans bW_h.out hB8 bW_h.out.size
      have hB8_h := lH hB8; have hBz_h := lH hBz; clear hB8 hBz
      go_wp2_with (fail)
      go_ret
      exact ⟨rfl, hBz_h.out⟩
    · have hall2 : (es.take (k + 1)).all egB = true := by rw [List.take_add_one, hek_h.out, List.all_append, hall_h.out]; simp [← hH_h.out]
      have hB8_h := lH hB8; have hall2_h := lH hall2; clear hB8 hall2
      go_wp2_with (fail)
      go_roundw
      case rel => exact ⟨k + 1, by omega, by go_num, hall2_h.out, hB8_h.out⟩
      case measure => simp [intOf]; omega
  · obtain rfl : m = k := by omega
    rw [List.take_of_length_le (by rw [hmes_h.out]; exact Nat.le_refl _)] at hall
    have hD3 := hDD_h.out
    rw [hall, Bool.true_and] at hD3
    obtain ⟨n, rfl⟩ : ∃ n : Nat, z = (n : Int) := ⟨z.toNat, by omega⟩
    obtain ⟨⟨y0, y1, y2, y3⟩, g0, g1, g2, g3⟩ := t_box4 kr
    have hn100 : n ≤ 100 := by omega
    clear hall hDD_h hB1; have hD3_h := lH hD3; have kr_h := lH kr; have hBw_h := lH hBw; clear hD3 kr hBw
    go_upto_region 10 with (at_make; refine wpList_make_Sl _ rfl _ _ _ rfl tBool Try.underlying73 info_bool n n rfl rfl rfl rfl (Nat.le_refl _) (by omega) (by unfold maxLen; omega) ?_; intro Gs w2 hs2 hG2 hb2)
    have hsn : Sl w2 tBool 1 (some Gs) n n (bls (seenM n [])) := by rw [← madeSeen, ← madeBls]; exact hs2
    have hB2 := below_trans hBw_h.out hb2 hBw_h.out.size
    have kr2 := t_box_below kr_h.out hb2
    have hGl : Gs.block < w2.heap.size := hsn.lt Gs.block (by simp)
    obtain ⟨W3, hW3, bW3, j0, j1, j2⟩ := allocs3 w2 (.cells #[.slice (some Gs) n n] tBools) (.cells #[.bool true] tBool) (.cells #[.int .i64 0] tInt)
    have hB3 := below_trans hB2 bW3 hB2.size
    have hws := hBw_h.out.size
    have hw1 := t_box_lt kr_h.out
    have hI0 : GI n w.heap.size (w2.heap.size + 1) w2.heap.size (w2.heap.size + 1 + 1) Gs (.slice A m c) (.slice B p b) (.slice C r d) [] W3 :=
     ⟨t_box_below kr2 bW3, j1, j0, by
      have e : seenC n [] = 0 := by unfold seenC; rw [seenM_nil]; simp [List.count_replicate]
      rw [e]; exact j2, hsn.below bW3⟩
    have hLI := lists_any w hG0_h.out hok_h.out 65 #[.pointer (some ⟨w.heap.size, 0, none⟩), .pointer (some ⟨w2.heap.size + 1, 0, none⟩), .pointer (some ⟨w2.heap.size, 0, none⟩), .pointer (some ⟨w2.heap.size + 1 + 1, 0, none⟩)] (fun _ _ => rfl)
     (fun l W => GI n w.heap.size (w2.heap.size + 1) w2.heap.size (w2.heap.size + 1 + 1) Gs (.slice A m c) (.slice B p b) (.slice C r d) l W) [w2.heap.size + 1, w2.heap.size + 1 + 1, Gs.block]
     (fun x hx => by simp at hx; omega) (fun l W W' h hb => h.below hb)
     (fun l B' c' m' W' hI hm' _ hml => isGraphC_any n w.heap.size (w2.heap.size + 1) w2.heap.size (w2.heap.size + 1 + 1) Gs (.slice A m c) (.slice B p b) (.slice C r d) l B' c' m' W' hn100 hml (by omega) (by omega) (by omega) ⟨by omega, by omega, by omega⟩ ⟨by omega, by omega, by omega⟩ hI hm')
     W3 hI0 hB3 (fun x hx => by have := t_box_lt j2; simp at hx; omega)
    have hmf : ∀ (fn : Fn) (first cap : Array Value) (w : World), (Instr.makeFunc fn first cap).run Try.prog w = .ok (.func fn first cap) w := fun _ _ _ _ => rfl
    have kr3 := t_box_below kr2 bW3
    obtain ⟨L, hL⟩ : ∃ L, L = t_allW ((n : Int), es, s, t) := ⟨_, rfl⟩
    have hsf := seenC_full n L
    have hD5 : D = (inW (n : Int) L && decide (seenC n L = n)) := by rw [hD3_h.out, hsf, hL]; rfl
    rw [← hL] at hLI
    have hSge : ∀ x, x ∈ [w2.heap.size + 1, w2.heap.size + 1 + 1, Gs.block] → w.heap.size ≤ x := fun x hx => by simp at hx; omega
    clear hs2 hsn hB2 kr2 hI0 hsf y0 y1 y2 y3 g0 g1 g2 g3 j0 j1 j2
    obtain ⟨⟨y0, y1, y2, y3⟩, g0, g1, g2, g3⟩ := t_box4 kr3
    have hB3_h := lH hB3; have kr3_h := lH kr3; have hLI_h := lH hLI; have hL_h := lH hL; have hD5_h := lH hD5; have bW3_h := lH bW3; have hSge_h := lH hSge; clear hB3 kr3 hLI hL hD5 bW3 hSge
    rw [← hW3]
    clear hW3
    go_wp2_with (fail)
    refine (hLI_h.out).mono ?_
    rintro e w9 ⟨rfl, hI9, hk9⟩
    have hB9 := below_keeps hB3_h.out hk9 hB3_h.out.size hSge_h.out
    clear y0 y1 y2 y3 g0 g1 g2 g3 hmf
    obtain ⟨⟨y0, y1, y2, y3⟩, g0, g1, g2, g3⟩ := t_box4 hI9.hg
    obtain ⟨z0, z1⟩ := boxg1 hI9.hgd
    obtain ⟨z2, z3⟩ := boxg1 hI9.hct
    have hD6 := hD5_h.out
    clear hI9 hk9
    cases hiw : inW (n : Int) L
    · rw [hiw] at hD6 z0
      obtain rfl : D = false := hD6
      have hB9_h := lH hB9; have hiw_h := lH hiw; clear hB9 hiw
      go_wp2_with (fail)
      go_ret
      exact ⟨rfl, hB9_h.out⟩
    · rw [hiw, Bool.true_and] at hD6
      rw [hiw] at z0
      obtain ⟨x, hx⟩ : ∃ x, x = seenC n L := ⟨_, rfl⟩
      rw [← hx] at z2 hD6
      by_cases hxn : x = n
      · subst hxn
        obtain rfl : D = true := by rw [hD6]; exact decide_eq_true rfl
        have hbe : ((x : Int) == (x : Int)) = true := by simp
        clear hD6; have hB9_h := lH hB9; have hiw_h := lH hiw; have hx_h := lH hx; clear hB9 hiw hx
        go_wp2_with (fail)
        go_ret
        exact ⟨rfl, hB9_h.out⟩
      · obtain rfl : D = false := by rw [hD6]; exact decide_eq_false hxn
        have hbe : ((x : Int) == (n : Int)) = false := by rw [beq_eq_false_iff_ne]; omega
        clear hD6; have hB9_h := lH hB9; have hiw_h := lH hiw; have hx_h := lH hx; clear hB9 hiw hx
        go_wp2_with (fail)
        go_ret
        exact ⟨rfl, hB9_h.out⟩
structure Cls (n : Nat) (C : List Int) : Prop where
 len : C.length = n
 le : ∀ w : Nat, w < n → 0 ≤ C.getD w 0 ∧ C.getD w 0 ≤ w
 fix : ∀ w : Nat, w < n → C.getD (C.getD w 0).toNat 0 = C.getD w 0
structure Par (n : Nat) (P C : List Int) : Prop where
 len : P.length = n
 le : ∀ w : Nat, w < n → 0 ≤ P.getD w 0 ∧ P.getD w 0 ≤ w
 same : ∀ w : Nat, w < n → C.getD (P.getD w 0).toNat 0 = C.getD w 0
 root : ∀ w : Nat, w < n → P.getD w 0 = w → C.getD w 0 = w
def relV (x y c : Int) : Int := if c = max x y then min x y else c
def relab (x y : Int) (C : List Int) : List Int := C.map (relV x y)
def idW (n : Nat) : List Int := (List.range n).map fun w : Nat => (w : Int)
@[simp] theorem idW_length (n : Nat) : (idW n).length = n := by simp [idW]
theorem idW_get {n w : Nat} (h : w < n) : (idW n)[w]? = some (w : Int) := by simp [idW, h]
theorem idW_getD {n w : Nat} (h : w < n) : (idW n).getD w 0 = (w : Int) := by rw [List.getD_eq_getElem?_getD, idW_get h]; rfl
theorem getD_map_lt {C : List Int} {f : Int → Int} {w : Nat} (h : w < C.length) : (C.map f).getD w 0 = f (C.getD w 0) := by
 rw [List.getD_eq_getElem?_getD, List.getD_eq_getElem?_getD, List.getElem?_map, List.getElem?_eq_getElem h]; rfl
theorem Cls.id (n : Nat) : Cls n (idW n) := ⟨by simp, fun w h => by rw [idW_getD h]; omega, fun w h => by rw [idW_getD h, show ((w : Int)).toNat = w by omega, idW_getD h]⟩
theorem Par.id (n : Nat) : Par n (idW n) (idW n) := ⟨by simp, fun w h => by rw [idW_getD h]; omega, fun w h => by rw [idW_getD h, show ((w : Int)).toNat = w by omega, idW_getD h], fun w h _ => idW_getD h⟩
section
variable {n : Nat} {C P : List Int} {a b : Nat}
theorem relab_getD (hC : Cls n C) (x y : Int) {w : Nat} (h : w < n) : (relab x y C).getD w 0 = relV x y (C.getD w 0) := getD_map_lt (by rw [hC.len]; exact h)
@[simp] theorem relab_length (x y : Int) (C : List Int) : (relab x y C).length = C.length := by simp [relab]
theorem relV_le (x y c : Int) : relV x y c ≤ c := by unfold relV; split <;> omega
theorem Cls.join (hC : Cls n C) (ha : a < n) (hb : b < n) : Cls n (relab (C.getD a 0) (C.getD b 0) C) := by
 have la := hC.le a ha
 have lb := hC.le b hb
 have fa := hC.fix a ha
 have fb := hC.fix b hb
 refine ⟨by rw [relab_length, hC.len], fun w hw => ?_, fun w hw => ?_⟩
 · rw [relab_getD hC _ _ hw]
   have := hC.le w hw
   have := relV_le (C.getD a 0) (C.getD b 0) (C.getD w 0)
   unfold relV at this ⊢
   split <;> omega
 · have lw := hC.le w hw
   rw [relab_getD hC _ _ hw]
   by_cases hm : C.getD w 0 = max (C.getD a 0) (C.getD b 0)
   · have e : relV (C.getD a 0) (C.getD b 0) (C.getD w 0) = min (C.getD a 0) (C.getD b 0) := by unfold relV; rw [if_pos hm]
     rw [e, relab_getD hC _ _ (by omega)]
     have e2 : C.getD (min (C.getD a 0) (C.getD b 0)).toNat 0 = min (C.getD a 0) (C.getD b 0) := by
      by_cases h : C.getD a 0 ≤ C.getD b 0
      · rw [show min (C.getD a 0) (C.getD b 0) = C.getD a 0 by omega]; exact fa
      · rw [show min (C.getD a 0) (C.getD b 0) = C.getD b 0 by omega]; exact fb
     rw [e2]
     unfold relV; split <;> omega
   · have e : relV (C.getD a 0) (C.getD b 0) (C.getD w 0) = C.getD w 0 := by unfold relV; rw [if_neg hm]
     rw [e, relab_getD hC _ _ (by omega), hC.fix w hw, e]
theorem Par.join (hP : Par n P C) (hC : Cls n C) (ha : a < n) (hb : b < n) : Par n (P.set (max (C.getD a 0) (C.getD b 0)).toNat (min (C.getD a 0) (C.getD b 0))) (relab (C.getD a 0) (C.getD b 0) C) := by
 have la := hC.le a ha
 have lb := hC.le b hb
 have fa := hC.fix a ha
 have fb := hC.fix b hb
 obtain ⟨M, hM⟩ : ∃ M, M = max (C.getD a 0) (C.getD b 0) := ⟨_, rfl⟩
 obtain ⟨m, hm⟩ : ∃ m, m = min (C.getD a 0) (C.getD b 0) := ⟨_, rfl⟩
 have e2 : C.getD m.toNat 0 = m := by
  by_cases h : C.getD a 0 ≤ C.getD b 0
  · rw [hm, show min (C.getD a 0) (C.getD b 0) = C.getD a 0 by omega]; exact fa
  · rw [hm, show min (C.getD a 0) (C.getD b 0) = C.getD b 0 by omega]; exact fb
 have eM : C.getD M.toNat 0 = M := by
  by_cases h : C.getD a 0 ≤ C.getD b 0
  · rw [hM, show max (C.getD a 0) (C.getD b 0) = C.getD b 0 by omega]; exact fb
  · rw [hM, show max (C.getD a 0) (C.getD b 0) = C.getD a 0 by omega]; exact fa
 have rM : relV (C.getD a 0) (C.getD b 0) M = m := by unfold relV; rw [if_pos hM, hm]
 have rO : ∀ c, c ≠ M → relV (C.getD a 0) (C.getD b 0) c = c := fun c h => by unfold relV; rw [if_neg (by rw [← hM]; exact h)]
 rw [← hM, ← hm]
 have hget : ∀ w : Nat, w < n → (P.set M.toNat m).getD w 0 = if w = M.toNat then m else P.getD w 0 := fun w hw => by
  rw [List.getD_eq_getElem?_getD, List.getElem?_set, List.getD_eq_getElem?_getD]
  by_cases h : M.toNat = w
  · rw [if_pos h, if_pos h.symm, if_pos (by rw [hP.len]; omega)]; rfl
  · rw [if_neg h, if_neg (fun e => h e.symm)]
 have rm : relV (C.getD a 0) (C.getD b 0) m = m := by
  by_cases h : m = M
  · rw [h, rM, h]
  · exact rO m h
 refine ⟨by rw [List.length_set, hP.len], fun w hw => ?_, fun w hw => ?_, fun w hw he => ?_⟩
 · rw [hget w hw]
   have := hP.le w hw
   split
   · rename_i h; subst h; omega
   · exact this
 · rw [hget w hw, relab_getD hC _ _ hw]
   split
   · rename_i h
     subst h
     rw [relab_getD hC _ _ (by omega), e2, eM, rM, rm]
   · have := hP.le w hw
     rw [relab_getD hC _ _ (by omega), hP.same w hw]
 · rw [hget w hw] at he
   rw [relab_getD hC _ _ hw]
   by_cases h : w = M.toNat
   · rw [if_pos h] at he
     have hwM : (w : Int) = M := by omega
     rw [h, eM, rM]; omega
   · rw [if_neg h] at he
     rw [hP.root w hw he]
     exact rO _ (by omega)
end
def nrM (C : List Int) : Nat → Nat
 | 0 => 0
 | w + 1 => nrM C w + (if C.getD w 0 = (w : Int) then 1 else 0)
def numM (C : List Int) : List Int := C.map fun c => (nrM C c.toNat : Int)
@[simp] theorem numM_length (C : List Int) : (numM C).length = C.length := by simp [numM]
def num0 (C : List Int) : List Int := (List.range C.length).map fun w => if C.getD w 0 = (w : Int) then (nrM C w : Int) else 0
@[simp] theorem num0_length (C : List Int) : (num0 C).length = C.length := by simp [num0]
theorem IS.of_made {w : World} {G : Addr} {n : Nat} (h : Sl w tInt 1 (some G) n n ((madeCells (Value.int .i64 0).cells (n * 1)).toList.take (n * 1))) : IS w (some G) n (List.replicate n 0) := by
 unfold IS; rw [← madeZeros]; simpa using h
structure OI (w0 w : World) (A : Option Addr) (cap : Nat) (l : List Int) : Prop where
 is : IS w A cap l
 new : Fresh w0.heap.size A
 below_ : Below w0.heap.size w0 w
theorem OI.join {w0 w w2 : World} {A : Option Addr} {cap : Nat} {l v : List Int} (h : OI w0 w A cap l) {A' : Option Addr} {cap' n : Nat} (hn : n = l.length + v.length) (hs' : Sl w2 tInt 1 A' n cap' (ints l ++ ints v)) (hA' : ∀ b, b ∈ fpA A' → b ∈ fpA A ∨ w.heap.size ≤ b) (hk : Keeps (· ∈ fpA A) w w2) : OI w0 w2 A' cap' (l ++ v) := by
 subst hn
 refine ⟨?_, fun b hb' => ?_, below_keeps h.below_ hk h.below_.size h.new⟩
 · unfold IS
   have : ints (l ++ v) = ints l ++ ints v := by simp [ints]
   rw [this, List.length_append]; exact hs'
 · rcases hA' b hb' with h1 | h1
   · exact h.new b h1
   · have := h.below_.size; omega
theorem flat_take_le {L : List (List Int)} {k : Nat} {N : Nat} (h : L.flatten.length ≤ N) : (L.take k).flatten.length ≤ N := by
 have e : L.flatten.length = (L.take k).flatten.length + (L.drop k).flatten.length := by
  have := congrArg (fun x => x.flatten.length) (List.take_append_drop k L)
  simp only [List.flatten_append, List.length_append] at this; omega
 omega
set_option maxHeartbeats 1000000 in
theorem joined_any (A : Option Addr) (c : Nat) (hs : List Hd) (w : World) (h : RdR w A hs) (hl : hs.length ≤ 1048576) (hN : (hs.map fun h : Hd => h.2.2).flatten.length ≤ 1048576) :
  Calls Try.prog 67 #[.slice A hs.length c] w (RetI w (hs.map fun h : Hd => h.2.2).flatten) := by
 obtain ⟨L, hLh⟩ : ∃ L, L = hs.map fun h : Hd => h.2.2 := ⟨_, rfl⟩
 rw [← hLh] at hN ⊢
 obtain ⟨m, hmm⟩ : ∃ m, m = hs.length := ⟨_, rfl⟩
 rw [← hmm] at hl ⊢
 have HLh := lH hLh; have HM := lH hmm
 have hLen := lH (show L.length = m by rw [hLh, List.length_map, hmm])
 clear hLh hmm
 have hO0 : OI w (w.alloc (.cells #[] 3)) (some ⟨w.heap.size, 0, none⟩) 0 [] := by
  refine ⟨by unfold IS; simpa [ints] using Sl.laid w 3 1 0 #[] (Nat.zero_le _) rfl, fun b hb => ?_, (Below.refl _ _).alloc (Nat.le_refl _) _⟩
  have : b = w.heap.size := by simpa using hb
  subst this; exact Nat.le_refl _
 go_enter Try.func67, Try.ntmps67
 go_wp2_with (fail)
 go_loopw [9, 3] (fun i v wr => ∃ (k : Nat) (A' : Option Addr) (c' n : Nat), k ≤ m ∧ i = .int .i64 k ∧ v = .slice A' n c' ∧ n = ((L.take k).flatten).length ∧ OI w wr A' c' (L.take k).flatten) (fun i _ _ => m - (intOf i).toNat)
 case atStart => exact ⟨0, _, 0, 0, Nat.zero_le _, rfl, rfl, rfl, by simpa using hO0⟩
 case round =>
  clear hO0
  obtain ⟨k, A', c', n, hk, rfl, rfl, hn, hO⟩ := hrel
  by_cases hlt : k < m
  · obtain ⟨⟨C, d, l⟩, hx⟩ : ∃ x, hs[k]? = some x := ⟨_, List.getElem?_eq_getElem (by rw [← HM.out]; exact hlt)⟩
    have hbl := h.below hO.below_
    obtain ⟨ad, hA, hc⟩ := hbl.1 k _ hx
    have hri := hbl.2 _ (List.mem_of_getElem? hx)
    subst hA
    clear hbl
    simp only [Hd.val] at hc
    simp only at hri
    have hlx : L[k]? = some l := by rw [HLh.out, List.getElem?_map, hx]; rfl
    have hnx : (L.take (k + 1)).flatten = (L.take k).flatten ++ l := by rw [List.take_add_one, hlx]; simp
    have hb1 := flat_take_le (k := k + 1) hN
    rw [hnx, List.length_append] at hb1
    have hsl : Sl wr 3 1 A' n c' (ints (L.take k).flatten) := by rw [hn]; exact hO.is
    obtain ⟨q, hq⟩ : ∃ q, q = l.length := ⟨_, rfl⟩
    rw [← hq] at hc hb1
    rw [← hn] at hb1
    have hil : (ints l).length = q * 1 := by rw [ints_length, hq, Nat.mul_one]
    have HNX := lH hnx; have HQ := lH hq; have HN := lH hn; have HIL := lH hil
    have hkI : (k : Int) < (m : Int) := by omega
    clear hx hlx hnx hq hn hil h
    go_wp2_with (at_builtin; refine wpList_append_Sl _ rfl _ _ _ rfl 3 Try.underlying23 info_int rfl (by omega) rfl hsl rfl HIL.out hri.rdc (ints_one l) (by unfold maxLen; omega) (by omega) ?_; intro A3 c3 w3 hs3 hA3 hk3)
    have hO2 := lH (hO.join (v := l) (by rw [← HN.out, ← HQ.out]) hs3 hA3 hk3)
    clear hs3 hO hsl
    go_roundw
    case rel => exact ⟨k + 1, A3, c3, n + q, by omega, by go_num, rfl, by rw [HNX.out, List.length_append, HN.out, HQ.out], by rw [HNX.out]; exact hO2.out⟩
    case measure => simp [intOf]; omega
  · obtain rfl : m = k := by omega
    have hO2 : OI w wr A' c' L.flatten := by have := hO; rwa [List.take_of_length_le (by rw [hLen.out]; omega)] at this
    have hn2 : n = L.flatten.length := by rw [hn, List.take_of_length_le (by rw [hLen.out]; omega)]
    have HN2 := lH hn2; clear hO h hn hn2
    go_wp2_with (fail)
    go_ret
    exact ⟨A', c', by rw [← HN2.out]; rfl, hO2.is, hO2.new, hO2.below_⟩
structure OIg (w0 w : World) (A : Option Addr) (cap : Nat) (l : List Int) : Prop where
 is : IS w A cap l
 new : Fresh w0.heap.size A
 below_ : Below w0.heap.size w0 w
theorem OIg.snoc {w0 w w2 : World} {A : Option Addr} {cap : Nat} {l : List Int} (h : OIg w0 w A cap l) {o : Obj} {x : Int} {A' : Option Addr} {cap' n : Nat} (hn : n = l.length + 1) (hs' : Sl w2 tInt 1 A' n cap' (ints l ++ [.int .i64 x])) (hA' : ∀ b, b ∈ fpA A' → b ∈ fpA A ∨ (w.alloc o).heap.size ≤ b) (hk : Keeps (· ∈ fpA A) (w.alloc o) w2) : OIg w0 w2 A' cap' (l ++ [x]) := by
 subst hn
 have hb := below_trans h.below_ ((Below.refl w.heap.size w).alloc (Nat.le_refl _) o) h.below_.size
 refine ⟨?_, fun b hb' => ?_, below_keeps hb hk hb.size h.new⟩
 · unfold IS
   have : ints (l ++ [x]) = ints l ++ [.int .i64 x] := by simp [ints]
   rw [this, List.length_append]; exact hs'
 · rcases hA' b hb' with h1 | h1
   · exact h.new b h1
   · have := hb.size; omega
theorem oig_alloc {w0 w : World} {A : Option Addr} {cap k : Nat} {l : List Int} (h : OIg w0 w A cap l) (hk : l.length = k) (o : Obj) : Sl (w.alloc o) tInt 1 A k cap (ints l) := by
 have := Sl.alloc h.is o; rwa [hk] at this
set_option maxRecDepth 100000 in
set_option maxHeartbeats 2000000 in
theorem hgList_any (A B : Option Addr) (a b p n : Nat) (l tw : List Int) (w : World) (hl : RdI w A l) (ht : RdI w B tw) (hp : l.length = p) (hn : tw.length = n) (hin : ∀ x, x ∈ l → 0 ≤ x ∧ x < (n : Int)) (hpb : p ≤ 1048576) :
  Calls Try.prog 20 #[.slice A p a, .slice B n b] w fun e w' => ∃ A' c', e = .returned (.slice A' p c') ∧ OIg w w' A' c' (mapL tw l) := by
 have hO0 : OIg w w none 0 (mapL tw []) := ⟨Sl.nil _ _ _, Fresh.none_ _, Below.refl _ _⟩
 have hp_h := lH hp; have hn_h := lH hn; have hin_h := lH hin; have hO0_h := lH hO0; have hl_h := lH hl; have ht_h := lH ht; clear hp hn hin hO0 hl ht
 go_enter Try.func20, Try.ntmps20
 go_wp2_with (fail)
 go_loopw [10, 5] (fun i v' wr => ∃ (k : Nat) (A' : Option Addr) (c' : Nat), k ≤ p ∧ i = .int .i64 k ∧ v' = .slice A' k c' ∧ OIg w wr A' c' (mapL tw (l.take k))) (fun i _ _ => p - (intOf i).toNat)
 case atStart => exact ⟨0, none, 0, Nat.zero_le _, rfl, rfl, by simpa using hO0_h.out⟩
 case round =>
  clear hO0_h
  obtain ⟨k, A', c', hk, rfl, rfl, hO⟩ := hrel
  by_cases hlt : k < p
  · obtain ⟨xd, x, rfl, hx, hxc⟩ := (hl_h.out.below hO.below_).at_ (j := k) (by rw [hp_h.out]; exact hlt)
    have hxb := hin_h.out x (List.mem_of_getElem? hx)
    obtain ⟨q, rfl⟩ : ∃ q : Nat, x = (q : Int) := ⟨x.toNat, by omega⟩
    have hqn : q < n := by omega
    obtain ⟨yd, y, rfl, hy, hyc⟩ := (ht_h.out.below hO.below_).at_ (j := q) (by rw [hn_h.out]; exact hqn)
    have hml : (mapL tw (l.take k)).length = k := by rw [mapL_length, List.length_take, hp_h.out]; omega
    have hst : mapL tw (l.take (k + 1)) = mapL tw (l.take k) ++ [y] := by rw [mapL_take_step hx]; simp [List.getD, hy]
    have hsl := fun (o : Obj) => oig_alloc hO hml o
    have hkI : (k : Int) < (p : Int) := by omega
    have hqI : (q : Int) < (n : Int) := by omega
    have hq0 : (0 : Int) ≤ (q : Int) := by omega
    clear hx hy hxb; have hml_h := lH hml; have hst_h := lH hst; have hsl_h := lH hsl; have hO_h := lH hO; clear hml hst hsl hO
    go_wp2_with (at_builtin; refine wpList_append_Sl _ rfl _ _ _ rfl 3 Try.underlying23 info_int rfl (by omega) rfl (hsl_h.out (.cells #[.int .i64 y] 3)) rfl (news := [.int .i64 y]) rfl (Sl.rdc (Sl.laid wr 3 1 1 #[.int .i64 y] (by unfold maxLen; omega) rfl)) (by intro u hu; simp at hu; subst hu; rfl) (by unfold maxLen; omega) (by omega) ?_; intro A3 c3 w3 hs3 hA3 hk3)
    have hO2 := hO_h.out.snoc (x := y) (by rw [hml_h.out]) hs3 hA3 hk3
    rw [← hst_h.out] at hO2
    clear hs3 hA3 hk3; have hO2_h := lH hO2; clear hO2
    go_roundw
    case rel => exact ⟨k + 1, A3, c3, by omega, by go_num, rfl, hO2_h.out⟩
    case measure => simp [intOf]; omega
  · obtain rfl : p = k := by omega
    rw [List.take_of_length_le (by rw [hp_h.out]; exact Nat.le_refl _)] at hO
    have hO_h := lH hO; clear hO
    go_wp2_with (fail)
    go_ret
    exact ⟨A', c', rfl, hO_h.out⟩
set_option maxRecDepth 100000 in
set_option maxHeartbeats 2000000 in
theorem chosenG_any (A B : Option Addr) (a b p n : Nat) (l tw : List Int) (w : World) (hl : RdI w A l) (ht : RdI w B tw) (hp : l.length = p) (hn : tw.length = n) (hin : ∀ x, x ∈ l → 0 ≤ x ∧ x < (n : Int)) (hpb : p ≤ 1048576) :
  Calls Try.prog 55 #[.slice B n b, .slice A p a] w fun e w' => ∃ A' c', e = .returned (.slice A' p c') ∧ OIg w w' A' c' (mapL tw l) := by
 have hp_h := lH hp; have hn_h := lH hn; have hin_h := lH hin; have hl_h := lH hl; have ht_h := lH ht; clear hp hn hin hl ht
 go_enter Try.func55, Try.ntmps55
 go_wp2_with (at_make; refine wpList_make_Sl _ rfl _ _ _ rfl 3 Try.underlying23 info_int 0 p rfl rfl rfl rfl (Nat.zero_le _) (by omega) (by unfold maxLen; omega) ?_; intro G w1 hs1 hG hb1)
 have hO0 : OIg w w1 (some G) p (mapL tw []) := ⟨by unfold IS; simpa [ints, mapL] using hs1, fun b hb => by simp at hb; subst hb; exact hG, hb1⟩
 clear hs1 hG hb1; have hO0_h := lH hO0; clear hO0
 go_loopw [13, 5] (fun i v' wr => ∃ (k : Nat) (A' : Option Addr) (c' : Nat), k ≤ p ∧ i = .int .i64 k ∧ v' = .slice A' k c' ∧ OIg w wr A' c' (mapL tw (l.take k))) (fun i _ _ => p - (intOf i).toNat)
 case atStart => exact ⟨0, some G, p, Nat.zero_le _, rfl, rfl, by simpa using hO0_h.out⟩
 case round =>
  clear hO0_h
  obtain ⟨k, A', c', hk, rfl, rfl, hO⟩ := hrel
  by_cases hlt : k < p
  · obtain ⟨xd, x, rfl, hx, hxc⟩ := (hl_h.out.below hO.below_).at_ (j := k) (by rw [hp_h.out]; exact hlt)
    have hxb := hin_h.out x (List.mem_of_getElem? hx)
    obtain ⟨q, rfl⟩ : ∃ q : Nat, x = (q : Int) := ⟨x.toNat, by omega⟩
    have hqn : q < n := by omega
    obtain ⟨yd, y, rfl, hy, hyc⟩ := (ht_h.out.below hO.below_).at_ (j := q) (by rw [hn_h.out]; exact hqn)
    have hml : (mapL tw (l.take k)).length = k := by rw [mapL_length, List.length_take, hp_h.out]; omega
    have hst : mapL tw (l.take (k + 1)) = mapL tw (l.take k) ++ [y] := by rw [mapL_take_step hx]; simp [List.getD, hy]
    have hsl := fun (o : Obj) => oig_alloc hO hml o
    have hkI : (k : Int) < (p : Int) := by omega
    have hqI : (q : Int) < (n : Int) := by omega
    have hq0 : (0 : Int) ≤ (q : Int) := by omega
    clear hx hy hxb; have hml_h := lH hml; have hst_h := lH hst; have hsl_h := lH hsl; have hO_h := lH hO; clear hml hst hsl hO
    go_wp2_with (at_builtin; refine wpList_append_Sl _ rfl _ _ _ rfl 3 Try.underlying23 info_int rfl (by omega) rfl (hsl_h.out (.cells #[.int .i64 y] 3)) rfl (news := [.int .i64 y]) rfl (Sl.rdc (Sl.laid wr 3 1 1 #[.int .i64 y] (by unfold maxLen; omega) rfl)) (by intro u hu; simp at hu; subst hu; rfl) (by unfold maxLen; omega) (by omega) ?_; intro A3 c3 w3 hs3 hA3 hk3)
    have hO2 := hO_h.out.snoc (x := y) (by rw [hml_h.out]) hs3 hA3 hk3
    rw [← hst_h.out] at hO2
    clear hs3 hA3 hk3; have hO2_h := lH hO2; clear hO2
    go_roundw
    case rel => exact ⟨k + 1, A3, c3, by omega, by go_num, rfl, hO2_h.out⟩
    case measure => simp [intOf]; omega
  · obtain rfl : p = k := by omega
    rw [List.take_of_length_le (by rw [hp_h.out]; exact Nat.le_refl _)] at hO
    have hO_h := lH hO; clear hO
    go_wp2_with (fail)
    go_ret
    exact ⟨A', c', rfl, hO_h.out⟩
theorem mapped_any (A B : Option Addr) (a b p n : Nat) (l tw : List Int) (w : World) (hl : RdI w A l) (ht : RdI w B tw) (hp : l.length = p) (hn : tw.length = n) (hin : ∀ x, x ∈ l → 0 ≤ x ∧ x < (n : Int)) (hpb : p ≤ 1048576) :
  Calls Try.prog 42 #[.slice A p a, .slice B n b] w fun e w' => ∃ A' c', e = .returned (.slice A' p c') ∧ OIg w w' A' c' (mapL tw l) := by
 have hC := chosenG_any A B a b p n l tw w hl ht hp hn hin hpb
 have hC_h := lH hC; have hl_h := lH hl; have ht_h := lH ht; have hp_h := lH hp; have hn_h := lH hn; have hin_h := lH hin; clear hC hl ht hp hn hin
 go_enter Try.func42, Try.ntmps42
 go_wp2_with (fail)
 refine (hC_h.out).mono ?_
 rintro e w1 ⟨A', c', rfl, hO⟩
 go_wp2_with (fail)
 go_ret
 exact ⟨A', c', rfl, hO⟩
section
variable {P : Program} {ops : Array Oper} {Q : Exit → Act → World → Prop} {md : Region.Mode} {z : Nat} {F : World → Prop}
def wpAnyZ (P : Program) (md : Region.Mode) (ops : Array Oper) (Q : Exit → Act → World → Prop) (z : Nat) (F : World → Prop) : Nat → Array Bool → Act → World → Prop
 | 0, listed, a, w => Region.ready md ops listed = [] ∧ Q .normal a w
 | fuel + 1, listed, a, w =>
   (Region.ready md ops listed = [] → Q .normal a w) ∧
   ∀ i ∈ Region.ready md ops listed, wpOp P ops Q i (fun a' w' => ((listed.setIfInBounds i true).getD z true = false → F w') ∧ wpAnyZ P md ops Q z F fuel (listed.setIfInBounds i true) a' w') a w
theorem wpAny_of_z : ∀ (fuel : Nat) (listed : Array Bool) (a : Act) (w : World), wpAnyZ P md ops Q z F fuel listed a w → wpAny P md ops Q fuel listed a w
 | 0, _, _, _, h => h
 | fuel + 1, _, _, _, h => ⟨h.1, fun i hi => wpOp_mono (fun a' w' h' => wpAny_of_z fuel _ a' w' h'.2) (h.2 i hi)⟩
end
section
variable {P : Program} {l : List Oper} {Q : Exit → Act → World → Prop} {md : Region.Mode} {z : Nat} {F : World → Prop}
theorem beginZ (z : Nat) (F : World → Prop) {id : Nat} {a : Act} {w : World} (hm : P.follows .mixedOrders = true) (h : wpAnyZ P .any l.toArray Q z F l.toArray.size (Array.replicate l.toArray.size false) a w.drew) : (Code.region id l.toArray true).wp P Q a w :=
 wp_region_any hm (wpAny_of_z _ _ _ _ h)
theorem beginZw (z : Nat) (F : World → Prop) {id : Nat} {a : Act} {w : World} (hm : P.follows .mixedOrders = true) (h : ∀ W1, W1 = w.drew → wpAnyZ P .any l.toArray Q z F l.toArray.size (Array.replicate l.toArray.size false) a W1) : (Code.region id l.toArray true).wp P Q a w :=
 beginZ z F hm (h _ rfl)
theorem oneZ (i : Nat) {o : Oper} {fuel : Nat} {listed : Array Bool} {a : Act} {w : World} {l' : List Oper} (hd : l.drop i = o :: l') (hr : Region.ready md l.toArray listed = [i]) (hw : Region.wanted o (yielded l.toArray a.tmps) = true)
  (h : ∀ K : Act → World → Prop, (∀ a' w', ((listed.setIfInBounds i true).getD z true = false → F w') → wpAnyZ P md l.toArray Q z F fuel (listed.setIfInBounds i true) a' w' → K a' w') → o.wp P a w K Q) : wpAnyZ P md l.toArray Q z F (fuel + 1) listed a w := by
 refine ⟨fun h0 => (by rw [hr] at h0; cases h0), fun j hj => ?_⟩
 rw [hr] at hj
 obtain rfl := List.mem_singleton.1 hj
 unfold wpOp
 simp only [at_drop hd, hw, if_true]
 exact .inl (h _ fun a' w' h1 h2 => ⟨h1, h2⟩)
theorem runZ (i : Nat) {o : Oper} {v : Value} {fuel : Nat} {listed : Array Bool} {a : Act} {w w1 : World} {l' : List Oper} (hd : l.drop i = o :: l') (hr : Region.ready md l.toArray listed = [i]) (hw : Region.wanted o (yielded l.toArray a.tmps) = true)
  (hrun : (execOp a.eval o).run P w = .ok (.value v) w1) (hS : (listed.setIfInBounds i true).getD z true = false → F w1) (h : wpAnyZ P md l.toArray Q z F fuel (listed.setIfInBounds i true) (a.put o.dst v) w1) : wpAnyZ P md l.toArray Q z F (fuel + 1) listed a w :=
 oneZ i hd hr hw fun K hK => by
  unfold Oper.wp
  rw [hrun]
  exact hK _ _ hS h
theorem callZ (i : Nat) {o : Oper} {f : FuncId} {args : Array Value} {fuel : Nat} {listed : Array Bool} {a : Act} {w : World} {l' : List Oper} (hd : l.drop i = o :: l') (hr : Region.ready md l.toArray listed = [i]) (hw : Region.wanted o (yielded l.toArray a.tmps) = true)
  (hrun : (execOp a.eval o).run P w = .ok (.enter f args) w)
  (h : Calls P f args w fun e w' => ∃ v, e = .returned v ∧ ((listed.setIfInBounds i true).getD z true = false → F w') ∧ wpAnyZ P md l.toArray Q z F fuel (listed.setIfInBounds i true) (a.put o.dst v) w') : wpAnyZ P md l.toArray Q z F (fuel + 1) listed a w := by
 refine oneZ i hd hr hw fun K hK => ?_
 unfold Oper.wp
 rw [hrun]
 exact h.mono fun e w' ⟨v, he, h1, h2⟩ => by subst he; exact hK _ _ h1 h2
theorem appZ (i : Nat) {o : Oper} {fuel : Nat} {listed : Array Bool} {a : Act} {w : World} {l' : List Oper} (hd : l.drop i = o :: l') (hr : Region.ready md l.toArray listed = [i]) (hw : Region.wanted o (yielded l.toArray a.tmps) = true)
  (s x : Operand) (t : TypeId) (ho : o.op = .call { callee := .builtin .append, args := #[s, x], argTypes := #[t, t] })
  (e : TypeId) {z0 : Value} {size bytes : Nat} (ht : P.underlying t = some (.slice e)) (hinfo : (P.info? e).map (fun i => (i.zero, i.size, i.bytes)) = some (some z0, size, bytes)) (hzs : z0.cells.size = size) (hsz : 0 < size)
  {A : Option Addr} {n cap : Nat} {xs : List Value} (he : a.eval s = .slice A n cap) (hs : Sl w e size A n cap xs)
  {B : Option Addr} {m c : Nat} {news : List Value} (hx : a.eval x = .slice B m c) (hl : news.length = m * size) (hrd : RdC w B news) (h1 : ∀ u ∈ news, u.oneCell' = true)
  (h63 : n + m ≤ maxLen) (hbytes : (n + m) * bytes ≤ 140737488355328)
  (h : ∀ A' cap' w', Sl w' e size A' (n + m) cap' (xs ++ news) → (∀ b, b ∈ fpA A' → b ∈ fpA A ∨ w.heap.size ≤ b) → Keeps (· ∈ fpA A) w w' → RdC w' A xs → ((listed.setIfInBounds i true).getD z true = false → F w') ∧ wpAnyZ P md l.toArray Q z F fuel (listed.setIfInBounds i true) (a.put o.dst (.slice A' (n + m) cap')) w') : wpAnyZ P md l.toArray Q z F (fuel + 1) listed a w := by
 obtain ⟨i', hi, hz, hz1, hz2⟩ := info_parts hinfo
 obtain ⟨A', cap', w', hrun, h2, h3, h4, h5⟩ := run_append_Sl_rd (P := P) w t o.type e i' z0 size bytes ht hi hz hz1 hz2 hzs hsz A n cap xs hs B m c news hl hrd h1 h63 hbytes
 obtain ⟨hS, hh⟩ := h A' cap' w' h2 h3 h4 h5
 refine runZ i hd hr hw (w1 := w') (v := .slice A' (n + m) cap') ?_ hS hh
 unfold execOp
 simp only [ho, resolve, invoke, builtin, Sem.run_bind, Sem.run_pure, Result.andThen_ok, List.map_toArray, List.map_cons, List.map_nil, he, hx, hrun]
theorem doneZ {fuel : Nat} {listed : Array Bool} {a : Act} {w : World} (hr : Region.ready md l.toArray listed = []) (h : Q .normal a w) : wpAnyZ P md l.toArray Q z F fuel listed a w := by
 cases fuel with
 | zero => exact ⟨hr, h⟩
 | succ f => exact ⟨fun _ => h, fun i hi => (by rw [hr] at hi; cases hi)⟩
end
section
variable {P : Program} {ops : Array Oper} {Q : Exit → Act → World → Prop} {md : Region.Mode} {z : Nat} {F : World → Prop}
theorem wpAnyZ_firstC {i : Nat} {oi : Oper} {v : Value} {C : List Nat} (hi : ops[i]? = some oi) (hsel : ∀ (j : Nat) (o : Oper) cs b, ops[j]? = some o → o.op ≠ .select cs b)
  (hQ : ∀ c a w, Q (.panic c) (a.put oi.dst v) w → Q (.panic c) a w) (hzC : z ∈ C) (hiC : ¬ i ∈ C) (hC : ∀ c ∈ C, ∃ oc, ops[c]? = some oc ∧ ∃ e ∈ oc.after, Region.binds md e = true ∧ (e.on = i ∨ e.on ∈ C)) :
  ∀ (fuel : Nat) (listed : Array Bool) (a : Act) (w : World), (∀ c ∈ C, listed.getD c true = false) →
    (∀ j oj, ops[j]? = some oj → j ≠ i → listed.getD j true = false → (∀ e ∈ oj.after, Region.binds md e = true → e.on ≠ i) → oi.apart ops oj = true) →
    i ∈ Region.ready md ops listed → YieldsIf P ops F oi v a → F w →
    wpAnyZ P md ops Q z F fuel (listed.setIfInBounds i true) (a.put oi.dst v) w → wpAnyZ P md ops Q z F (fuel + 1) listed a w := by
 intro fuel
 have hiz : i ≠ z := fun e => hiC (e ▸ hzC)
 induction fuel with
 | zero =>
   intro listed a w _ _ hr hy hS H
   refine ⟨fun h => (by rw [h] at hr; cases hr), fun j hj => ?_⟩
   by_cases hji : j = i
   · subst hji; exact hy.wpOp hi hS ⟨fun _ => hS, H⟩
   · have := ready_mono hj hji
     rw [H.1] at this
     cases this
 | succ fuel ih =>
   intro listed a w hlz hfree hr hy hS H
   refine ⟨fun h => (by rw [h] at hr; cases hr), fun j hj => ?_⟩
   by_cases hji : j = i
   · subst hji; exact hy.wpOp hi hS ⟨fun _ => hS, H⟩
   · have h1 := H.2 j (ready_mono hj hji)
     obtain ⟨hjun, oj, hoj, hall⟩ := mem_ready.1 hj
     have hblock : ∀ k, listed.getD k true = false → ∀ e ∈ oj.after, Region.binds md e = true → e.on ≠ k := fun k h0 e he hb heq => by
      have h1 := hall e he hb
      rw [heq] at h1
      rcases Nat.lt_or_ge k listed.size with h' | h'
      · simp [h'] at h0 h1; rw [h0] at h1; cases h1
      · simp [Array.getElem?_eq_none h'] at h1
     have hnot : ∀ e ∈ oj.after, Region.binds md e = true → e.on ≠ i := hblock i (mem_ready.1 hr).1
     have hjC : ¬ j ∈ C := fun hm => by
      obtain ⟨oc, hoc, e, he, hb, hon⟩ := hC j hm
      rw [hoj] at hoc
      obtain rfl := Option.some.inj hoc
      rcases hon with h | h
      · exact hnot e he hb h
      · exact hblock _ (hlz _ h) e he hb rfl
     have hjz : j ≠ z := fun e => hjC (e ▸ hzC)
     have h2 := wpOp_putIf hoj (hfree j oj hoj hji hjun hnot) (fun cs b => hsel i oi cs b hi) (fun cs b => hsel j oj cs b hoj) hQ hy h1
     have hfree' : ∀ k ok, ops[k]? = some ok → k ≠ i → (listed.setIfInBounds j true).getD k true = false →
       (∀ e ∈ ok.after, Region.binds md e = true → e.on ≠ i) → oi.apart ops ok = true := fun k ok hk hki hun hno => by
      refine hfree k ok hk hki ?_ hno
      by_cases hjk : j = k
      · subst hjk; exact hjun
      · rw [getD_set_ne true hjk] at hun; exact hun
     have hlz' : ∀ c ∈ C, (listed.setIfInBounds j true).getD c true = false := fun c hc => by
      have hjc : j ≠ c := fun e => hjC (by rw [e]; exact hc)
      rw [getD_set_ne true hjc]; exact hlz c hc
     have hlz2 : ((listed.setIfInBounds i true).setIfInBounds j true).getD z true = false := by rw [getD_set_ne true hjz, getD_set_ne true hiz]; exact hlz z hzC
     refine wpOp_mono (fun a' w' h3 => ⟨fun _ => h3.2.1 hlz2, ih (listed.setIfInBounds j true) a' w' hlz' hfree' (ready_mono hr (Ne.symm hji)) h3.1 (h3.2.1 hlz2) ?_⟩) h2
     rw [Array.setIfInBounds_comm _ _ hji]
     exact h3.2.2
def descC (md : Region.Mode) (ops : Array Oper) (i : Nat) : List Nat :=
 (List.range ops.size).foldl (fun acc k => if (i :: acc).any fun d => Region.waitsFor md ops k d then k :: acc else acc) []
def chainC (md : Region.Mode) (ops : Array Oper) (listed : Array Bool) (C : List Nat) (z i : Nat) : Bool :=
 C.contains z && !C.contains i && C.all fun c => !listed.getD c true && (i :: C).any fun d => Region.waitsFor md ops c d
end
section
variable {P : Program} {l : List Oper} {Q : Exit → Act → World → Prop} {md : Region.Mode} {z : Nat} {F : World → Prop}
theorem takeC (i : Nat) {oi : Oper} {v : Value} {fuel : Nat} {listed : Array Bool} {a : Act} {w : World} {l' : List Oper} (hd : l.drop i = oi :: l')
  (hs : Region.noSelect l.toArray = true) (hf : Region.free md l.toArray listed i = true) (hr : (Region.ready md l.toArray listed).contains i = true) (hz : chainC md l.toArray listed (descC md l.toArray i) z i = true)
  (hQ : ∀ c a w, Q (.panic c) (a.put oi.dst v) w → Q (.panic c) a w) (hS : F w) (hw : Region.wanted oi (yielded l.toArray a.tmps) = true) (hy : ∀ w, F w → (execOp a.eval oi).run P w = .ok (.value v) w)
  (h : wpAnyZ P md l.toArray Q z F fuel (listed.setIfInBounds i true) (a.put oi.dst v) w) : wpAnyZ P md l.toArray Q z F (fuel + 1) listed a w := by
 simp only [chainC, Bool.and_eq_true, Bool.not_eq_true', List.all_eq_true, List.any_eq_true] at hz
 obtain ⟨⟨h1, h2⟩, h3⟩ := hz
 refine wpAnyZ_firstC (C := descC md l.toArray i) (at_drop hd) (Region.noSelect_spec hs) hQ (by simpa using h1) (by simpa using h2) (fun c hc => ?_) fuel listed a w (fun c hc => (h3 c hc).1) (Region.free_spec (at_drop hd) hf) (by simpa using hr) (.inl ⟨hw, hy⟩) hS h
 obtain ⟨-, d, hd', hwt⟩ := h3 c hc
 obtain ⟨oz, hoz, e, he, hb, heq⟩ := Region.waitsFor_spec hwt
 refine ⟨oz, hoz, e, he, hb, ?_⟩
 rw [heq]
 rcases List.mem_cons.1 hd' with h | h
 · exact .inl h
 · exact .inr h
theorem tkC (i : Nat) {oi : Oper} (v : Value) {fuel : Nat} {listed : Array Bool} {a : Act} {w : World} {l' : List Oper} (hd : l.drop i = oi :: l') (hS : F w) (hy : ∀ w, F w → (execOp a.eval oi).run P w = .ok (.value v) w)
 (h : wpAnyZ P md l.toArray Q z F fuel (listed.setIfInBounds i true) (a.put oi.dst v) w) (hs : Region.noSelect l.toArray = true := by kernel_rfl) (hf : Region.free md l.toArray listed i = true := by kernel_rfl) (hr : (Region.ready md l.toArray listed).contains i = true := by kernel_rfl) (hz : chainC md l.toArray listed (descC md l.toArray i) z i = true := by kernel_rfl)
 (hQ : ∀ c a w, Q (.panic c) (a.put oi.dst v) w → Q (.panic c) a w := by exact fun _ _ _ h => h) (hw : Region.wanted oi (yielded l.toArray a.tmps) = true := by rfl) : wpAnyZ P md l.toArray Q z F (fuel + 1) listed a w := takeC i hd hs hf hr hz hQ hS hw hy h
end
theorem OIg.ls {w0 w : World} {A : Option Addr} {c : Nat} {l : List Int} (h : OIg w0 w A c l) : OwLs w [] [(A, c, l)] := OwLs.one (x := (A, c, l)) h.is
theorem alloc_box1g (w : World) (o : Obj) : ∃ W, W = w.alloc o ∧ Below w.heap.size w W ∧ W.heap[w.heap.size]? = some o := ⟨_, rfl, t_below_alloc _ _, heap_alloc_new _ _⟩
set_option maxRecDepth 100000 in
set_option maxHeartbeats 8000000 in
theorem hgMap_any {v : Value} {g : Gr} (w : World) (cnt : Int) (T : Option Addr) (tc n : Nat) (tt : List Int) (h : RdGr w v g) (ok : OkG g) (ht : RdI w T tt) (htn : tt.length = n) (hin : inW (n : Int) (t_allW g) = true) :
  Calls Try.prog 21 #[v, .slice T n tc, .int .i64 cnt] w fun e w' => ∃ v' fp, e = .returned v' ∧ OwGr w' v' (mapG tt cnt g) fp ∧ FreshL w.heap.size fp ∧ Below w.heap.size w w' := by
 obtain ⟨A, c, hs, ⟨B, b, s⟩, ⟨C, d, t⟩, rfl, e1, e2, e3, hE, hRa, hRb⟩ := h
 obtain ⟨z, es, s0, t0⟩ := g
 have a1 : es = hs.map egOf := e1
 have a2 : s = s0 := e2
 have a3 : t = t0 := e3
 subst a2 a3
 have hin0 : inW (n : Int) (s ++ (t ++ edW es)) = true := hin
 have hinS := inW_iff.1 (inW_app_left hin0)
 have hinT := inW_iff.1 (inW_app_left (inW_app_right hin0))
 have hinE := inW_iff.1 (inW_app_right (inW_app_right hin0))
 have hlen1 : es.length ≤ 1048576 := ok.1.1
 have hlen2 : s.length ≤ 1048576 := ok.1.2.1
 have hlen3 : t.length ≤ 1048576 := ok.1.2.2
 have hlE : ∀ x, x ∈ es → x.2.2.1.length ≤ 1048576 ∧ x.2.2.2.length ≤ 1048576 := ok.2.1
 obtain ⟨m, hm⟩ : ∃ m, m = hs.length := ⟨_, rfl⟩
 obtain ⟨p, hp⟩ : ∃ p, p = s.length := ⟨_, rfl⟩
 obtain ⟨r, hr⟩ : ∃ r, r = t.length := ⟨_, rfl⟩
 have hmes : es.length = m := by rw [a1, List.length_map, hm]
 have hRa0 : RdI w B s := hRa
 have hRb0 : RdI w C t := hRb
 obtain ⟨G, hG⟩ : ∃ G, G = mapG tt cnt (z, es, s, t) := ⟨_, rfl⟩
 rw [← hG]
 show Calls Try.prog _ #[.agg #[.int .i64 z, .slice A hs.length c, .slice B s.length b, .slice C t.length d], .slice T n tc, .int .i64 cnt] w _
 rw [← hm, ← hp, ← hr]
 obtain ⟨W, hW, bW, k0, k1⟩ := allocs2 w (.cells #[.int .i64 z, .slice A m c, .slice B p b, .slice C r d] tGr) (.cells #[.int .i64 0, .slice none 0 0, .slice none 0 0, .slice none 0 0] tGr)
 have hC1 := fun (W' : World) (hb : Below w.heap.size w W') => hgList_any B T b tc p n s tt W' (hRa0.below hb) (ht.below hb) hp.symm htn hinS (by omega)
 have hC2 := fun (W' : World) (hb : Below w.heap.size w W') => hgList_any C T d tc r n t tt W' (hRb0.below hb) (ht.below hb) hr.symm htn hinT (by omega)
 have hmb : (m : Int) ≤ 1048576 := by omega
 clear hRa hRb ok e1 e2 e3 hin hin0 hlen1 hlen2 hlen3 hinS hinT; have hE_h := lH hE; have hRa0_h := lH hRa0; have hRb0_h := lH hRb0; have a1_h := lH a1; have hlE_h := lH hlE; have hm_h := lH hm; have hp_h := lH hp; have hr_h := lH hr; have hmes_h := lH hmes; have hinE_h := lH hinE; have hC1_h := lH hC1; have hC2_h := lH hC2; have bW_h := lH bW; have k0_h := lH k0; have k1_h := lH k1; have ht_h := lH ht; have htn_h := lH htn; have hG_h := lH hG; clear hE hRa0 hRb0 a1 hlE hm hp hr hmes hinE hC1 hC2 bW k0 k1 ht htn hG
 go_enter Try.func21, Try.ntmps21
 go_upto_region 1 with (fail)
 rw [← hW]
 clear hW
 go_cut [7] (fun sv wx => ∃ (bx : Nat) (X Y : Hd), sv = .pointer (some ⟨bx, 0, none⟩) ∧ wx.heap[bx]? = some (.cells #[.int .i64 cnt, .slice none 0 0, .slice X.1 p X.2.1, .slice Y.1 r Y.2.1] tGr) ∧ X.2.2 = mapL tt s ∧ Y.2.2 = mapL tt t ∧ OwLs wx [] [X, Y] ∧ (∀ x, x ∈ fpR [X, Y] → W.heap.size ≤ x ∧ x ≠ bx) ∧ W.heap.size ≤ bx ∧ Below W.heap.size W wx)
 case first =>
  refine beginH (fun w' => w'.heap[w.heap.size]? = some (.cells #[.int .i64 z, .slice A m c, .slice B p b, .slice C r d] tGr)) (by kernel_rfl) ?_
  have hbd : Below W.heap.size W W.drew := below_drew (Below.refl _ _)
  generalize W.drew = W1 at hbd ⊢
  have k0d := t_box_below k0_h.out hbd
  have hBd := below_trans bW_h.out hbd bW_h.out.size
  have hbd_h := lH hbd; have k0d_h := lH k0d; have hBd_h := lH hBd; clear hbd k0d hBd
  refine tkH 0 ?_ rfl k0d_h.out (fun W' hW' => ?_) ?_; rotate_left; · (obtain ⟨⟨y0, y1, y2, y3⟩, y4, y5, y6, y7⟩ := t_box4 hW'; clear hW'; go_simp; first | done | with_reducible rfl)
  simp only [Act.put, nS]
  refine tkH 1 ?_ rfl k0d_h.out (fun W' hW' => ?_) ?_; rotate_left; · (obtain ⟨⟨y0, y1, y2, y3⟩, y4, y5, y6, y7⟩ := t_box4 hW'; clear hW'; go_simp; first | done | with_reducible rfl)
  simp only [Act.put, nS]
  refine tkH 2 ?_ rfl k0d_h.out (fun W' hW' => ?_) ?_; rotate_left; · (obtain ⟨⟨y0, y1, y2, y3⟩, y4, y5, y6, y7⟩ := t_box4 hW'; clear hW'; go_simp; first | done | with_reducible rfl)
  simp only [Act.put, nS]
  refine tkH 3 ?_ rfl k0d_h.out (fun W' hW' => ?_) ?_; rotate_left; · (obtain ⟨⟨y0, y1, y2, y3⟩, y4, y5, y6, y7⟩ := t_box4 hW'; clear hW'; go_simp; first | done | with_reducible rfl)
  simp only [Act.put, nS]
  refine tkH 5 ?_ rfl k0d_h.out (fun W' hW' => ?_) ?_; rotate_left; · (obtain ⟨⟨y0, y1, y2, y3⟩, y4, y5, y6, y7⟩ := t_box4 hW'; clear hW'; go_simp; first | done | with_reducible rfl)
  simp only [Act.put, nS]
  refine tkH 6 ?_ rfl k0d_h.out (fun W' hW' => ?_) ?_; rotate_left; · (obtain ⟨⟨y0, y1, y2, y3⟩, y4, y5, y6, y7⟩ := t_box4 hW'; clear hW'; go_simp; first | done | with_reducible rfl)
  simp only [Act.put, nS]
  refine tkH 7 ?_ rfl k0d_h.out (fun W' hW' => ?_) ?_; rotate_left; · (obtain ⟨⟨y0, y1, y2, y3⟩, y4, y5, y6, y7⟩ := t_box4 hW'; clear hW'; go_simp; first | done | with_reducible rfl)
  simp only [Act.put, nS]
  refine callOrH 4 10 (f := ?fo1) (args := ?argso1) (vj := ?vjo1) (wj := ?wjo1) rfl rfl (by kernel_rfl) (by rfl) (by rfl) ?hruno1 ?hrunjo1 ?h1o1 ?hSjo1 ?h2o1
  case hruno1 => (go_simp; first | done | with_reducible rfl | (constructor <;> with_reducible rfl))
  case hrunjo1 => (go_simp; first | done | with_reducible rfl | (constructor <;> with_reducible rfl))
  case hSjo1 => exact (t_box_below k0d_h.out (t_below_alloc _ _))
  case h1o1 =>
   refine (hC1_h.out W1 hBd_h.out).mono ?_
   rintro e w2 ⟨A2, c2, rfl, hO2⟩
   have hB2 := below_trans hBd_h.out hO2.below_ hBd_h.out.size
   have k2 := t_box_below k0d_h.out hO2.below_
   have hW2 := below_trans hbd_h.out hO2.below_ hbd_h.out.size
   refine ⟨_, rfl, k2, ?_⟩
   have hO2_h := lH hO2; have hB2_h := lH hB2; have k2_h := lH k2; have hW2_h := lH hW2; clear hO2 hB2 k2 hW2
   simp only [Act.put, nS]
   refine callOrH 8 10 (f := ?fo2) (args := ?argso2) (vj := ?vjo2) (wj := ?wjo2) rfl rfl (by kernel_rfl) (by rfl) (by rfl) ?hruno2 ?hrunjo2 ?h1o2 ?hSjo2 ?h2o2
   case hruno2 => (go_simp; first | done | with_reducible rfl | (constructor <;> with_reducible rfl))
   case hrunjo2 => (go_simp; first | done | with_reducible rfl | (constructor <;> with_reducible rfl))
   case hSjo2 => exact (t_box_below k2_h.out (t_below_alloc _ _))
   case h1o2 =>
    refine (hC2_h.out w2 hB2_h.out).mono ?_
    rintro e w3 ⟨A3, c3, rfl, hO3⟩
    have k3 := t_box_below k2_h.out hO3.below_
    have hW3 := below_trans hW2_h.out hO3.below_ hW2_h.out.size
    have hLs := OwLs.two (x := (A2, c2, mapL tt s)) (y := (A3, c3, mapL tt t)) hO2_h.out.is hO3.below_ hO3.is hO3.new
    have hlt2 := hLs.lt
    have hfr : ∀ x, x ∈ fpR [((A2, c2, mapL tt s) : Hd), (A3, c3, mapL tt t)] → W.heap.size ≤ x ∧ x ≠ w3.heap.size := fun x hx => by
     have h1 := hlt2 x hx
     rw [fpR_cons, fpR_cons] at hx
     rcases List.mem_append.1 hx with hx | hx
     · have := hO2_h.out.new x hx; have := hbd_h.out.size; omega
     · rcases List.mem_append.1 hx with hx | hx
       · have := hO3.new x hx; have := hW2_h.out.size; omega
       · simp [fpR] at hx
    refine ⟨_, rfl, k3, ?_⟩
    obtain ⟨W5, hW5, bW5, x5⟩ := alloc_box1g w3 (.cells #[.int .i64 0, .slice none 0 0, .slice none 0 0, .slice none 0 0] tGr)
    obtain ⟨s1, s2⟩ := set4 (a := .int .i64 cnt) (b := .slice none 0 0) (c := .slice A2 p c2) (d := .slice A3 r c3) x5
    have k5 := t_box_below k3 bW5
    have k6 := t_box_keeps k5 s2 (by have := t_box_lt k3; omega)
    have hLs5 := (hLs.below bW5).keeps s2 (fun x hx e => (hfr x hx).2 e)
    have hBf := below_keeps (below_trans hW3 bW5 hW3.size) s2 (Nat.le_trans hW3.size bW5.size) (fun x hx => by rw [hx]; exact hW3.size)
    have hge := hW3.size
    obtain ⟨⟨y0, y1, y2, y3⟩, y4, y5, y6, y7⟩ := t_box4 x5
    have k3_h := lH k3; have hLs5_h := lH hLs5; have hBf_h := lH hBf; have s1_h := lH s1; have s2_h := lH s2; have x5_h := lH x5; have k5_h := lH k5; have k6_h := lH k6; have hfr_h := lH hfr; have hge_h := lH hge; clear k3 hLs5 hBf s1 s2 x5 k5 k6 hfr hge; clear hW3 hLs hlt2 bW5 hO3
    simp only [Act.put, nS]
    refine tkH 9 ?_ rfl k3_h.out (fun W' hW' => ?_) ?_; rotate_left; · (skip; clear hW'; go_simp; first | done | with_reducible rfl)
    simp only [Act.put, nS]
    refine oneH 10 rfl (by kernel_rfl) (by rfl) (fun K hK => ?_)
    go_simp
    rw [← hW5]
    refine hK _ _ k5_h.out ?_
    clear hK K hW5
    refine oneH 11 rfl (by kernel_rfl) (by rfl) (fun K hK => ?_)
    go_simp
    refine hK _ _ k6_h.out ?_
    clear hK K
    refine doneH (by kernel_rfl) ?_
    go_wp2_with (fail)
    go_meet
    exact ⟨w3.heap.size, (A2, c2, mapL tt s), (A3, c3, mapL tt t), rfl, s1_h.out, rfl, rfl, hLs5_h.out, hfr_h.out, hge_h.out, hBf_h.out⟩
   case h2o2 =>
    have bA := t_below_alloc w2 (.cells #[.int .i64 0, .slice none 0 0, .slice none 0 0, .slice none 0 0] tGr)
    have kA := heap_alloc_new w2 (.cells #[.int .i64 0, .slice none 0 0, .slice none 0 0, .slice none 0 0] tGr)
    have hB3 := below_trans hB2_h.out bA hB2_h.out.size
    have hWA := below_trans hW2_h.out bA hW2_h.out.size
    have k2a := t_box_below k2_h.out bA
    have hzA : (w2.alloc (.cells #[.int .i64 0, .slice none 0 0, .slice none 0 0, .slice none 0 0] tGr)).heap.size = w2.heap.size + 1 := World.size_alloc _ _
    simp only [Act.put, nS]
    refine' callH 8 (f := _) (args := _) rfl (by kernel_rfl) (by rfl) ?_ ?_; rotate_left 2; · (go_simp; first | done | with_reducible rfl | (constructor <;> with_reducible rfl))
    refine (hC2_h.out _ hB3).mono ?_
    rintro e w3 ⟨A3, c3, rfl, hO3⟩
    have k3 := t_box_below k2a hO3.below_
    have kb := t_box_below kA hO3.below_
    have hW3 := below_trans hWA hO3.below_ hWA.size
    have hLs := OwLs.two (x := (A2, c2, mapL tt s)) (y := (A3, c3, mapL tt t)) (hO2_h.out.is.below bA) hO3.below_ hO3.is hO3.new
    have hws := hW2_h.out.size
    have hzk := t_box_lt k2_h.out
    have hfr : ∀ x, x ∈ fpR [((A2, c2, mapL tt s) : Hd), (A3, c3, mapL tt t)] → W.heap.size ≤ x ∧ x ≠ w2.heap.size := fun x hx => by
     rw [fpR_cons, fpR_cons] at hx
     rcases List.mem_append.1 hx with hx | hx
     · have h1 := hO2_h.out.is.lt x hx; have := hO2_h.out.new x hx; have := hbd_h.out.size; omega
     · rcases List.mem_append.1 hx with hx | hx
       · have := hO3.new x hx; omega
       · simp [fpR] at hx
    obtain ⟨s1, s2⟩ := set4 (a := .int .i64 cnt) (b := .slice none 0 0) (c := .slice A2 p c2) (d := .slice A3 r c3) kb
    have k6 := t_box_keeps k3 s2 (by omega)
    have hLs5 := hLs.keeps s2 (fun x hx e => (hfr x hx).2 e)
    have hBf := below_keeps hW3 s2 hW3.size (fun x hx => by omega)
    refine ⟨_, rfl, k3, ?_⟩
    obtain ⟨⟨y0, y1, y2, y3⟩, y4, y5, y6, y7⟩ := t_box4 kb
    have k3_h := lH k3; have hLs5_h := lH hLs5; have hBf_h := lH hBf; have s1_h := lH s1; have s2_h := lH s2; have kb_h := lH kb; have k6_h := lH k6; have hfr_h := lH hfr; clear k3 hLs5 hBf s1 s2 kb k6 hfr; clear hW3 hLs hO3
    simp only [Act.put, nS]
    refine tkH 9 ?_ rfl k3_h.out (fun W' hW' => ?_) ?_; rotate_left; · (skip; clear hW'; go_simp; first | done | with_reducible rfl)
    simp only [Act.put, nS]
    refine oneH 11 rfl (by kernel_rfl) (by rfl) (fun K hK => ?_)
    go_simp
    refine hK _ _ k6_h.out ?_
    clear hK K
    refine doneH (by kernel_rfl) ?_
    go_wp2_with (fail)
    go_meet
    exact ⟨w2.heap.size, (A2, c2, mapL tt s), (A3, c3, mapL tt t), rfl, s1_h.out, rfl, rfl, hLs5_h.out, hfr_h.out, by omega, hBf_h.out⟩
  case h2o1 =>
   have bA := t_below_alloc W1 (.cells #[.int .i64 0, .slice none 0 0, .slice none 0 0, .slice none 0 0] tGr)
   have kA := heap_alloc_new W1 (.cells #[.int .i64 0, .slice none 0 0, .slice none 0 0, .slice none 0 0] tGr)
   have hBa := below_trans hBd_h.out bA hBd_h.out.size
   have hWA := below_trans hbd_h.out bA hbd_h.out.size
   have k2a := t_box_below k0d_h.out bA
   have hzA : (W1.alloc (.cells #[.int .i64 0, .slice none 0 0, .slice none 0 0, .slice none 0 0] tGr)).heap.size = W1.heap.size + 1 := World.size_alloc _ _
   simp only [Act.put, nS]
   refine' callH 4 (f := _) (args := _) rfl (by kernel_rfl) (by rfl) ?_ ?_; rotate_left 2; · (go_simp; first | done | with_reducible rfl | (constructor <;> with_reducible rfl))
   refine (hC1_h.out _ hBa).mono ?_
   rintro e w2 ⟨A2, c2, rfl, hO2⟩
   have hB2 := below_trans hBa hO2.below_ hBa.size
   have k2 := t_box_below k2a hO2.below_
   have kb2 := t_box_below kA hO2.below_
   have hW2 := below_trans hWA hO2.below_ hWA.size
   refine ⟨_, rfl, k2, ?_⟩
   simp only [Act.put, nS]
   refine' callH 8 (f := _) (args := _) rfl (by kernel_rfl) (by rfl) ?_ ?_; rotate_left 2; · (go_simp; first | done | with_reducible rfl | (constructor <;> with_reducible rfl))
   refine (hC2_h.out _ hB2).mono ?_
   rintro e w3 ⟨A3, c3, rfl, hO3⟩
   have k3 := t_box_below k2 hO3.below_
   have kb := t_box_below kb2 hO3.below_
   have hW3 := below_trans hW2 hO3.below_ hW2.size
   have hLs := OwLs.two (x := (A2, c2, mapL tt s)) (y := (A3, c3, mapL tt t)) hO2.is hO3.below_ hO3.is hO3.new
   have hws := hbd_h.out.size
   have hzk := t_box_lt k0d_h.out
   have hws2 := hO2.below_.size
   have hfr : ∀ x, x ∈ fpR [((A2, c2, mapL tt s) : Hd), (A3, c3, mapL tt t)] → W.heap.size ≤ x ∧ x ≠ W1.heap.size := fun x hx => by
    rw [fpR_cons, fpR_cons] at hx
    rcases List.mem_append.1 hx with hx | hx
    · have := hO2.new x hx; omega
    · rcases List.mem_append.1 hx with hx | hx
      · have := hO3.new x hx; omega
      · simp [fpR] at hx
   obtain ⟨s1, s2⟩ := set4 (a := .int .i64 cnt) (b := .slice none 0 0) (c := .slice A2 p c2) (d := .slice A3 r c3) kb
   have k6 := t_box_keeps k3 s2 (by omega)
   have hLs5 := hLs.keeps s2 (fun x hx e => (hfr x hx).2 e)
   have hBf := below_keeps hW3 s2 hW3.size (fun x hx => by omega)
   refine ⟨_, rfl, k3, ?_⟩
   obtain ⟨⟨y0, y1, y2, y3⟩, y4, y5, y6, y7⟩ := t_box4 kb
   have k3_h := lH k3; have hLs5_h := lH hLs5; have hBf_h := lH hBf; have s1_h := lH s1; have s2_h := lH s2; have kb_h := lH kb; have k6_h := lH k6; have hfr_h := lH hfr; clear k3 hLs5 hBf s1 s2 kb k6 hfr; clear hW3 hLs hO3
   simp only [Act.put, nS]
   refine tkH 9 ?_ rfl k3_h.out (fun W' hW' => ?_) ?_; rotate_left; · (skip; clear hW'; go_simp; first | done | with_reducible rfl)
   simp only [Act.put, nS]
   refine oneH 11 rfl (by kernel_rfl) (by rfl) (fun K hK => ?_)
   go_simp
   refine hK _ _ k6_h.out ?_
   clear hK K
   refine doneH (by kernel_rfl) ?_
   go_wp2_with (fail)
   go_meet
   exact ⟨W1.heap.size, (A2, c2, mapL tt s), (A3, c3, mapL tt t), rfl, s1_h.out, rfl, rfl, hLs5_h.out, hfr_h.out, by omega, hBf_h.out⟩
 case rest =>
  obtain ⟨bx, ⟨X1, X2, X3⟩, ⟨Y1, Y2, Y3⟩, rfl, kx, rfl, rfl, hLs, hfr, hbx, hBc⟩ := hcut
  obtain ⟨w4, rfl⟩ : ∃ x, x = wc := ⟨_, rfl⟩
  have k0c := t_box_below k0_h.out hBc
  have hws := bW_h.out.size
  obtain ⟨⟨c0, c1, c2, c3⟩, f0, f1, f2, f3⟩ := t_box4 k0c
  have k0c_h := lH k0c; have kx_h := lH kx; have hLs_h := lH hLs; have hfr_h := lH hfr; have hBc_h := lH hBc; clear k0c kx hLs hfr hBc
  go_wp2_with (fail)
  clear c0 c1 c2 c3 f0 f1 f2 f3
  go_loopw [23] (fun i wr => ∃ (k : Nat) (A' : Option Addr) (c' : Nat) (ys : List EHd), k ≤ m ∧ i = .int .i64 k ∧ ys.length = k ∧ ys.map egOf = (es.take k).map (mapE tt) ∧ wr.heap[bx]? = some (.cells #[.int .i64 cnt, .slice A' k c', .slice X1 p X2, .slice Y1 r Y2] tGr) ∧ Sl wr tEd 4 A' k c' (ecs ys) ∧ OwLs wr (fpA A') ((X1, X2, mapL tt s) :: (Y1, Y2, mapL tt t) :: eh ys) ∧ (∀ x, x ∈ fpA A' ++ fpR (((X1, X2, mapL tt s) : Hd) :: (Y1, Y2, mapL tt t) :: eh ys) → W.heap.size ≤ x ∧ x ≠ bx) ∧ Below W.heap.size W wr) (fun i _ => m - (intOf i).toNat)
  case atStart => exact ⟨0, none, 0, [], Nat.zero_le _, rfl, rfl, rfl, kx_h.out, Sl.nil _ _ _, hLs_h.out, hfr_h.out, hBc_h.out⟩
  case round =>
   clear kx_h hLs_h hfr_h hBc_h k0c_h
   obtain ⟨k, A', c', ys, hk, rfl, hyl, hye, kx, hsl, hLs, hfr, hBr⟩ := hrel
   have hBw := below_trans bW_h.out hBr bW_h.out.size
   by_cases hlt : k < m
   · obtain ⟨ad, κ, vv, B1, b1, s1, C1, b2, t1, rfl, hn, ⟨d0, d1, d2, d3⟩, hr1, hr2⟩ := (hE_h.out.below hBw).at_ (j := k) (by rw [← hm_h.out]; exact hlt)
     have hek : es[k]? = some (κ, vv, s1, t1) := by rw [a1_h.out, List.getElem?_map, hn]; rfl
     obtain ⟨hm1, hm2⟩ := mem_edW_of (List.mem_of_getElem? hek)
     have hln := hlE_h.out _ (List.mem_of_getElem? hek)
     have hrA : RdI w B1 s1 := (hE_h.out.2 _ (List.mem_of_getElem? hn)).1
     have hrB : RdI w C1 t1 := (hE_h.out.2 _ (List.mem_of_getElem? hn)).2
     have hCa := fun (W' : World) (hb : Below w.heap.size w W') => hgList_any B1 T b1 tc s1.length n s1 tt W' (hrA.below hb) (ht_h.out.below hb) rfl htn_h.out (fun x hx => hinE_h.out x (hm1 x hx)) hln.1
     have hCb := fun (W' : World) (hb : Below w.heap.size w W') => hgList_any C1 T b2 tc t1.length n t1 tt W' (hrB.below hb) (ht_h.out.below hb) rfl htn_h.out (fun x hx => hinE_h.out x (hm2 x hx)) hln.2
     obtain ⟨p1, hp1⟩ : ∃ p1, p1 = s1.length := ⟨_, rfl⟩
     obtain ⟨r1, hr1'⟩ : ∃ r1, r1 = t1.length := ⟨_, rfl⟩
     rw [← hp1] at d2
     rw [← hr1'] at d3
     simp only [← hp1] at hCa
     simp only [← hr1'] at hCb
     have hkI : (k : Int) < (m : Int) := by omega
     obtain ⟨wo, rfl⟩ : ∃ x, x = wr := ⟨_, rfl⟩
     obtain ⟨W6, hW6, bW6, k6⟩ := alloc_box1g wo (.cells #[.int .i64 κ, .int .i64 vv, .slice B1 p1 b1, .slice C1 r1 b2] tEd)
     have kx6 := t_box_below kx bW6
     have hxl := t_box_lt kx
     have hsl6 := hsl.below bW6
     have hLs6 := hLs.below bW6
     have hfl := hsl.lt
     have hll := hLs.lt
     have hB6 := below_trans hBw bW6 hBw.size
     have hW6b := below_trans hBr bW6 hBr.size
     have hr1_h := lH hr1'; clear hr1' hr1 hr2 hn hm1 hm2 hln hrA hrB hsl hLs kx hBr hBw; have hek_h := lH hek; have hp1_h := lH hp1; have bW6_h := lH bW6; have hye_h := lH hye; have hyl_h := lH hyl; have hCa_h := lH hCa; have hCb_h := lH hCb; have hfr_h := lH hfr; have kx6_h := lH kx6; have k6_h := lH k6; have hsl6_h := lH hsl6; have hLs6_h := lH hLs6; have hB6_h := lH hB6; have hW6b_h := lH hW6b; have hfl_h := lH hfl; have hll_h := lH hll; clear hek hp1 bW6 hye hyl hCa hCb hfr kx6 k6 hsl6 hLs6 hB6 hW6b hfl hll
     go_upto_region 5 with (fail)
     rw [← hW6]
     clear hW6 d0 d1 d2 d3
     refine beginZw 18 (fun w' => w'.heap[bx]? = some (.cells #[.int .i64 cnt, .slice A' k c', .slice X1 p X2, .slice Y1 r Y2] tGr) ∧ w'.heap[wo.heap.size]? = some (.cells #[.int .i64 κ, .int .i64 vv, .slice B1 p1 b1, .slice C1 r1 b2] tEd)) (by kernel_rfl) (fun W7 hW7 => ?_)
     have hbd : Below W6.heap.size W6 W7 := by rw [hW7]; exact below_drew (Below.refl _ _)
     clear hW7
     have hF := And.intro (t_box_below kx6_h.out hbd) (t_box_below k6_h.out hbd)
     have hB7 := below_trans hB6_h.out hbd hB6_h.out.size
     have hW7b := below_trans hW6b_h.out hbd hW6b_h.out.size
     have hsl7 := hsl6_h.out.below hbd
     have hLs7 := hLs6_h.out.below hbd
     have h7s : wo.heap.size ≤ W7.heap.size := Nat.le_trans bW6_h.out.size hbd.size
     clear hbd; have hF_h := lH hF; have hB7_h := lH hB7; have hW7b_h := lH hW7b; have hsl7_h := lH hsl7; have hLs7_h := lH hLs7; clear hF hB7 hW7b hsl7 hLs7
     refine tkC 0 ?_ rfl hF_h.out (fun W' hW' => ?_) ?_; rotate_left; · (obtain ⟨⟨y0, y1, y2, y3⟩, y4, y5, y6, y7⟩ := t_box4 hW'.1; obtain ⟨⟨x0, x1, x2, x3⟩, x4, x5, x6, x7⟩ := t_box4 hW'.2; clear hW'; go_simp; first | done | with_reducible rfl)
     simp only [Act.put, nS]
     refine tkC 1 ?_ rfl hF_h.out (fun W' hW' => ?_) ?_; rotate_left; · (obtain ⟨⟨y0, y1, y2, y3⟩, y4, y5, y6, y7⟩ := t_box4 hW'.1; obtain ⟨⟨x0, x1, x2, x3⟩, x4, x5, x6, x7⟩ := t_box4 hW'.2; clear hW'; go_simp; first | done | with_reducible rfl)
     simp only [Act.put, nS]
     refine tkC 2 ?_ rfl hF_h.out (fun W' hW' => ?_) ?_; rotate_left; · (obtain ⟨⟨y0, y1, y2, y3⟩, y4, y5, y6, y7⟩ := t_box4 hW'.1; obtain ⟨⟨x0, x1, x2, x3⟩, x4, x5, x6, x7⟩ := t_box4 hW'.2; clear hW'; go_simp; first | done | with_reducible rfl)
     simp only [Act.put, nS]
     refine tkC 3 ?_ rfl hF_h.out (fun W' hW' => ?_) ?_; rotate_left; · (obtain ⟨⟨y0, y1, y2, y3⟩, y4, y5, y6, y7⟩ := t_box4 hW'.1; obtain ⟨⟨x0, x1, x2, x3⟩, x4, x5, x6, x7⟩ := t_box4 hW'.2; clear hW'; go_simp; first | done | with_reducible rfl)
     simp only [Act.put, nS]
     refine tkC 4 ?_ rfl hF_h.out (fun W' hW' => ?_) ?_; rotate_left; · (obtain ⟨⟨y0, y1, y2, y3⟩, y4, y5, y6, y7⟩ := t_box4 hW'.1; obtain ⟨⟨x0, x1, x2, x3⟩, x4, x5, x6, x7⟩ := t_box4 hW'.2; clear hW'; go_simp; first | done | with_reducible rfl)
     simp only [Act.put, nS]
     refine tkC 5 ?_ rfl hF_h.out (fun W' hW' => ?_) ?_; rotate_left; · (obtain ⟨⟨y0, y1, y2, y3⟩, y4, y5, y6, y7⟩ := t_box4 hW'.1; obtain ⟨⟨x0, x1, x2, x3⟩, x4, x5, x6, x7⟩ := t_box4 hW'.2; clear hW'; go_simp; first | done | with_reducible rfl)
     simp only [Act.put, nS]
     refine tkC 6 ?_ rfl hF_h.out (fun W' hW' => ?_) ?_; rotate_left; · (obtain ⟨⟨y0, y1, y2, y3⟩, y4, y5, y6, y7⟩ := t_box4 hW'.1; obtain ⟨⟨x0, x1, x2, x3⟩, x4, x5, x6, x7⟩ := t_box4 hW'.2; clear hW'; go_simp; first | done | with_reducible rfl)
     simp only [Act.put, nS]
     refine tkC 7 ?_ rfl hF_h.out (fun W' hW' => ?_) ?_; rotate_left; · (obtain ⟨⟨y0, y1, y2, y3⟩, y4, y5, y6, y7⟩ := t_box4 hW'.1; obtain ⟨⟨x0, x1, x2, x3⟩, x4, x5, x6, x7⟩ := t_box4 hW'.2; clear hW'; go_simp; first | done | with_reducible rfl)
     simp only [Act.put, nS]
     refine tkC 8 ?_ rfl hF_h.out (fun W' hW' => ?_) ?_; rotate_left; · (obtain ⟨⟨y0, y1, y2, y3⟩, y4, y5, y6, y7⟩ := t_box4 hW'.1; obtain ⟨⟨x0, x1, x2, x3⟩, x4, x5, x6, x7⟩ := t_box4 hW'.2; clear hW'; go_simp; first | done | with_reducible rfl)
     simp only [Act.put, nS]
     refine tkC 10 ?_ rfl hF_h.out (fun W' hW' => ?_) ?_; rotate_left; · (obtain ⟨⟨y0, y1, y2, y3⟩, y4, y5, y6, y7⟩ := t_box4 hW'.1; obtain ⟨⟨x0, x1, x2, x3⟩, x4, x5, x6, x7⟩ := t_box4 hW'.2; clear hW'; go_simp; first | done | with_reducible rfl)
     simp only [Act.put, nS]
     refine tkC 11 ?_ rfl hF_h.out (fun W' hW' => ?_) ?_; rotate_left; · (obtain ⟨⟨y0, y1, y2, y3⟩, y4, y5, y6, y7⟩ := t_box4 hW'.1; obtain ⟨⟨x0, x1, x2, x3⟩, x4, x5, x6, x7⟩ := t_box4 hW'.2; clear hW'; go_simp; first | done | with_reducible rfl)
     simp only [Act.put, nS]
     refine tkC 12 ?_ rfl hF_h.out (fun W' hW' => ?_) ?_; rotate_left; · (obtain ⟨⟨y0, y1, y2, y3⟩, y4, y5, y6, y7⟩ := t_box4 hW'.1; obtain ⟨⟨x0, x1, x2, x3⟩, x4, x5, x6, x7⟩ := t_box4 hW'.2; clear hW'; go_simp; first | done | with_reducible rfl)
     simp only [Act.put, nS]
     refine callZ 9 (f := ?f1) (args := ?args1) rfl (by kernel_rfl) (by rfl) ?hrun1 ?hcall1
     case hrun1 => (go_simp; first | done | with_reducible rfl | (constructor <;> with_reducible rfl))
     case hcall1 =>
      refine (hCa_h.out W7 hB7_h.out).mono ?_
      rintro e w8 ⟨A8, c8, rfl, hO8⟩
      have hF8 := And.intro (t_box_below hF_h.out.1 hO8.below_) (t_box_below hF_h.out.2 hO8.below_)
      have hB8 := below_trans hB7_h.out hO8.below_ hB7_h.out.size
      have hW8b := below_trans hW7b_h.out hO8.below_ hW7b_h.out.size
      refine ⟨_, rfl, fun _ => hF8, ?_⟩
      have hF8_h := lH hF8; have hB8_h := lH hB8; have hW8b_h := lH hW8b; have hO8_h := lH hO8; clear hF8 hB8 hW8b hO8
      simp only [Act.put, nS]
      refine callZ 13 (f := ?f2) (args := ?args2) rfl (by kernel_rfl) (by rfl) ?hrun2 ?hcall2
      case hrun2 => (go_simp; first | done | with_reducible rfl | (constructor <;> with_reducible rfl))
      case hcall2 =>
       refine (hCb_h.out w8 hB8_h.out).mono ?_
       rintro e w9 ⟨A9, c9, rfl, hO9⟩
       have hF9 := And.intro (t_box_below hF8_h.out.1 hO9.below_) (t_box_below hF8_h.out.2 hO9.below_)
       have hB9 := below_trans hB8_h.out hO9.below_ hB8_h.out.size
       have hW9b := below_trans hW8b_h.out hO9.below_ hW8b_h.out.size
       have h79 : Below W7.heap.size W7 w9 := below_trans hO8_h.out.below_ hO9.below_ hO8_h.out.below_.size
       have hLs9 := hLs7_h.out.app h79 (ms := [(A8, c8, mapL tt s1), (A9, c9, mapL tt t1)]) (OwLs.two (x := (A8, c8, mapL tt s1)) (y := (A9, c9, mapL tt t1)) hO8_h.out.is hO9.below_ hO9.is hO9.new) (fun x hx => by
        rw [fpR_cons, fpR_cons] at hx
        rcases List.mem_append.1 hx with hx | hx
        · exact hO8_h.out.new x hx
        · rcases List.mem_append.1 hx with hx | hx
          · have := hO9.new x hx; have := hO8_h.out.below_.size; omega
          · simp [fpR] at hx) (fun x hx => hsl7_h.out.lt x hx)
       have hnew : ∀ x, x ∈ fpR [((A8, c8, mapL tt s1) : Hd), (A9, c9, mapL tt t1)] → W7.heap.size ≤ x := fun x hx => by
        rw [fpR_cons, fpR_cons] at hx
        rcases List.mem_append.1 hx with hx | hx
        · exact hO8_h.out.new x hx
        · rcases List.mem_append.1 hx with hx | hx
          · have := hO9.new x hx; have := hO8_h.out.below_.size; omega
          · simp [fpR] at hx
       have hsl9 := hsl7_h.out.below h79
       refine ⟨_, rfl, fun _ => hF9, ?_⟩
       clear hO9
       obtain ⟨w10, hw10, bw10, -⟩ := alloc_box1g w9 (.cells #[.int .i64 κ, .int .i64 vv, .slice A8 p1 c8, .slice A9 r1 c9] tEd)
       have hF10 := And.intro (t_box_below hF9.1 bw10) (t_box_below hF9.2 bw10)
       have hsl10 := hsl9.below bw10
       have hLs10 := hLs9.below bw10
       have h9s := h79.size
       have hW10b := below_trans hW9b bw10 hW9b.size
       have hlaid : RdC w10 (some ⟨w9.heap.size, 0, none⟩) [.int .i64 κ, .int .i64 vv, .slice A8 p1 c8, .slice A9 r1 c9] := by
        rw [hw10]; exact Sl.rdc (Sl.laid w9 tEd 4 1 #[.int .i64 κ, .int .i64 vv, .slice A8 p1 c8, .slice A9 r1 c9] (by unfold maxLen; omega) rfl)
       have hF9_h := lH hF9; have hF10_h := lH hF10; have hsl10_h := lH hsl10; have hLs10_h := lH hLs10; have hnew_h := lH hnew; have hW10b_h := lH hW10b; have hlaid_h := lH hlaid; have bw10_h := lH bw10; clear hF9 hF10 hsl10 hLs10 hnew hW10b hlaid bw10; clear hsl9 hLs9 hB9 hW9b h79
       simp only [Act.put, nS]
       refine tkC 14 ?_ rfl hF9_h.out (fun W' hW' => ?_) ?_; rotate_left; · (skip; clear hW'; go_simp; first | done | with_reducible rfl)
       simp only [Act.put, nS]
       refine oneZ 15 rfl (by kernel_rfl) (by rfl) (fun K hK => ?_)
       go_simp
       rw [← hw10]
       refine hK _ _ (fun _ => hF10_h.out) ?_
       clear hK K hw10
       refine appZ 16 rfl (by kernel_rfl) (by rfl) _ _ _ rfl tEd Try.underlying30 info_ed rfl (by omega) rfl hsl10_h.out rfl (news := [.int .i64 κ, .int .i64 vv, .slice A8 p1 c8, .slice A9 r1 c9]) rfl hlaid_h.out (by intro u hu; simp at hu; rcases hu with rfl | rfl | rfl | rfl <;> rfl) (by unfold maxLen; omega) (by omega) ?_
       intro A11 c11 w11 hs11 hA11 hk11 hrd11
       clear hrd11
       have hsle : Sl w11 tEd 4 A11 (k + 1) c11 (ecs (ys ++ [(κ, vv, (A8, c8, mapL tt s1), (A9, c9, mapL tt t1))])) := by
        have e : ecs ys ++ [.int .i64 κ, .int .i64 vv, .slice A8 p1 c8, .slice A9 r1 c9] = ecs (ys ++ [(κ, vv, (A8, c8, mapL tt s1), (A9, c9, mapL tt t1))]) := by
         rw [ecs_append]; simp only [ecs, ec, Hd.val, mapL_length, List.append_nil]; rw [← hp1_h.out, ← hr1_h.out]
        rw [← e]; exact hs11
       have hLs11 := hLs10_h.out.grow hA11 hk11
       have hfp11 : ∀ x, x ∈ fpA A11 ++ fpR (((X1, X2, mapL tt s) : Hd) :: (Y1, Y2, mapL tt t) :: eh (ys ++ [(κ, vv, (A8, c8, mapL tt s1), (A9, c9, mapL tt t1))])) → W.heap.size ≤ x ∧ x ≠ bx := fun x hx => by
        have hs7 := hW7b_h.out.size
        rcases List.mem_append.1 hx with hx | hx
        · rcases hA11 x hx with h1 | h1
          · exact hfr_h.out x (List.mem_append_left _ h1)
          · have := hW10b_h.out.size; have := bw10_h.out.size; omega
        · rw [eh_append, ← List.cons_append, ← List.cons_append, fpR_append] at hx
          rcases List.mem_append.1 hx with hx | hx
          · exact hfr_h.out x (List.mem_append_right _ hx)
          · have := hnew_h.out x hx; omega
       have hkA : ∀ x, x ∈ fpA A' → x ≠ bx ∧ x ≠ wo.heap.size := fun x hx => ⟨(hfr_h.out x (List.mem_append_left _ hx)).2, fun e => by have := hfl_h.out x hx; omega⟩
       have hF11 := And.intro (t_box_keeps hF10_h.out.1 hk11 (fun h => (hkA _ h).1 rfl)) (t_box_keeps hF10_h.out.2 hk11 (fun h => (hkA _ h).2 rfl))
       have hW11b := below_keeps hW10b_h.out hk11 hW10b_h.out.size (fun x hx => (hfr_h.out x (List.mem_append_left _ hx)).1)
       refine ⟨fun _ => hF11, ?_⟩
       obtain ⟨s1', s2'⟩ := box_set hF11.1 1 (.slice A11 (k + 1) c11)
       have s3' : (w11.setCell ⟨bx, 1, none⟩ (.slice A11 (k + 1) c11)).heap[bx]? = some (.cells #[.int .i64 cnt, .slice A11 (k + 1) c11, .slice X1 p X2, .slice Y1 r Y2] tGr) := s1'
       have hsl12 := hsle.keeps s2' (fun x hx e => (hfp11 x (List.mem_append_left _ hx)).2 e)
       have hLs12 := hLs11.keeps s2' (fun x hx e => (hfp11 x (List.mem_append_right _ (by rw [eh_append]; exact hx))).2 e)
       have hW12b := below_keeps hW11b s2' hW11b.size (fun x hx => by omega)
       have hye2 : (ys ++ [(κ, vv, (A8, c8, mapL tt s1), (A9, c9, mapL tt t1))]).map egOf = (es.take (k + 1)).map (mapE tt) := by
        rw [List.map_append, hye_h.out, List.take_add_one, hek_h.out, List.map_append]; rfl
       obtain ⟨⟨y0, y1, y2, y3⟩, y4, y5, y6, y7⟩ := t_box4 hF11.1
       clear hs11 hA11 hk11 hsle hLs11 s1' s2' hW11b hkA; have hF11_h := lH hF11; have s3'_h := lH s3'; have hsl12_h := lH hsl12; have hLs12_h := lH hLs12; have hW12b_h := lH hW12b; have hye2_h := lH hye2; have hfp11_h := lH hfp11; clear hF11 s3' hsl12 hLs12 hW12b hye2 hfp11
       simp only [Act.put, nS]
       refine tkC 17 ?_ rfl hF11_h.out (fun W' hW' => ?_) ?_; rotate_left; · (skip; clear hW'; go_simp; first | done | with_reducible rfl)
       simp only [Act.put, nS]
       refine oneZ 18 rfl (by kernel_rfl) (by rfl) (fun K hK => ?_)
       go_simp
       refine hK _ _ (fun h => by cases h) ?_
       clear hK K
       refine doneZ (by kernel_rfl) ?_
       go_wp2_with (fail)
       go_roundw
       case rel => exact ⟨k + 1, A11, c11, _, by omega, by go_num, by rw [List.length_append, hyl_h.out]; rfl, hye2_h.out, s3'_h.out, hsl12_h.out, by rw [eh_append]; exact hLs12_h.out, hfp11_h.out, hW12b_h.out⟩
       case measure => simp [intOf]; omega
   · obtain rfl : m = k := by omega
     rw [List.take_of_length_le (by rw [hmes_h.out]; exact Nat.le_refl _)] at hye
     have k1r := t_box_below k1_h.out hBr
     obtain ⟨t1', t2'⟩ := set4 (a := .int .i64 cnt) (b := .slice A' m c') (c := .slice X1 p X2) (d := .slice Y1 r Y2) k1r
     have hk1W := t_box_lt k1_h.out
     have hsl2 := hsl.keeps t2' (fun x hx e => by have := (hfr x (List.mem_append_left _ hx)).1; omega)
     have hLs2 := hLs.keeps t2' (fun x hx e => by have := (hfr x (List.mem_append_right _ hx)).1; omega)
     have hB9 := below_keeps hBw t2' hBw.size (fun x hx => by omega)
     have hfw : FreshL w.heap.size (fpA A' ++ fpR (((X1, X2, mapL tt s) : Hd) :: (Y1, Y2, mapL tt t) :: eh ys)) := fun x hx => by have := (hfr x hx).1; omega
     obtain ⟨⟨c0, c1, c2, c3⟩, f0, f1, f2, f3⟩ := t_box4 kx
     obtain ⟨⟨d0, d1, d2, d3⟩, g0, g1, g2, g3⟩ := t_box4 k1r
     clear hsl hLs t2' k1r kx hBr hBw hfr; have hye_h := lH hye; have hyl_h := lH hyl; have t1'_h := lH t1'; have hsl2_h := lH hsl2; have hLs2_h := lH hLs2; have hB9_h := lH hB9; have hfw_h := lH hfw; clear hye hyl t1' hsl2 hLs2 hB9 hfw
     go_wp2_with (fail)
     refine bodyPost_ret (results_cell_row rfl _ _ (w.heap.size + 1) _ _ (0, 0) _ rfl t1'_h.out Try.underlying32 rfl (by kernel_rfl)) rfl ?_
     refine ⟨_, fpA A' ++ fpR (((X1, X2, mapL tt s) : Hd) :: (Y1, Y2, mapL tt t) :: eh ys), rfl, ?_, hfw_h.out, hB9_h.out⟩
     rw [hG_h.out]
     refine ⟨A', c', ys, (X1, X2, mapL tt s), (Y1, Y2, mapL tt t), ?_, hye_h.out.symm, rfl, rfl, ?_, hLs2_h.out, rfl⟩
     · simp only [mapL_length]; rw [hyl_h.out, hp_h.out, hr_h.out]; rfl
     · rw [hyl_h.out]; exact hsl2_h.out
set_option maxRecDepth 100000 in
set_option maxHeartbeats 8000000 in
theorem moved_any {v : Value} {g : Gr} (w : World) (cnt : Int) (T : Option Addr) (tc n : Nat) (tt : List Int) (h : RdGr w v g) (ok : OkG g) (ht : RdI w T tt) (htn : tt.length = n) (hin : inW (n : Int) (t_allW g) = true) :
  Calls Try.prog 47 #[v, .int .i64 cnt, .slice T n tc] w fun e w' => ∃ v' fp, e = .returned v' ∧ OwGr w' v' (mapG tt cnt g) fp ∧ FreshL w.heap.size fp ∧ Below w.heap.size w w' := by
 obtain ⟨A, c, hs, ⟨B, b, s⟩, ⟨C, d, t⟩, rfl, e1, e2, e3, hE, hRa, hRb⟩ := h
 obtain ⟨z, es, s0, t0⟩ := g
 have a1 : es = hs.map egOf := e1
 have a2 : s = s0 := e2
 have a3 : t = t0 := e3
 subst a2 a3
 have hin0 : inW (n : Int) (s ++ (t ++ edW es)) = true := hin
 have hinS := inW_iff.1 (inW_app_left hin0)
 have hinT := inW_iff.1 (inW_app_left (inW_app_right hin0))
 have hinE := inW_iff.1 (inW_app_right (inW_app_right hin0))
 have hlen1 : es.length ≤ 1048576 := ok.1.1
 have hlen2 : s.length ≤ 1048576 := ok.1.2.1
 have hlen3 : t.length ≤ 1048576 := ok.1.2.2
 have hlE : ∀ x, x ∈ es → x.2.2.1.length ≤ 1048576 ∧ x.2.2.2.length ≤ 1048576 := ok.2.1
 obtain ⟨m, hm⟩ : ∃ m, m = hs.length := ⟨_, rfl⟩
 obtain ⟨p, hp⟩ : ∃ p, p = s.length := ⟨_, rfl⟩
 obtain ⟨r, hr⟩ : ∃ r, r = t.length := ⟨_, rfl⟩
 have hmes : es.length = m := by rw [a1, List.length_map, hm]
 have hRa0 : RdI w B s := hRa
 have hRb0 : RdI w C t := hRb
 obtain ⟨G, hG⟩ : ∃ G, G = mapG tt cnt (z, es, s, t) := ⟨_, rfl⟩
 rw [← hG]
 show Calls Try.prog _ #[.agg #[.int .i64 z, .slice A hs.length c, .slice B s.length b, .slice C t.length d], .int .i64 cnt, .slice T n tc] w _
 rw [← hm, ← hp, ← hr]
 obtain ⟨W, hW, bW, k0, k1⟩ := allocs2 w (.cells #[.int .i64 z, .slice A m c, .slice B p b, .slice C r d] tGr) (.cells #[.int .i64 0, .slice none 0 0, .slice none 0 0, .slice none 0 0] tGr)
 have hC1 := fun (W' : World) (hb : Below w.heap.size w W') => mapped_any B T b tc p n s tt W' (hRa0.below hb) (ht.below hb) hp.symm htn hinS (by omega)
 have hC2 := fun (W' : World) (hb : Below w.heap.size w W') => mapped_any C T d tc r n t tt W' (hRb0.below hb) (ht.below hb) hr.symm htn hinT (by omega)
 have hmb : (m : Int) ≤ 1048576 := by omega
 clear hRa hRb ok e1 e2 e3 hin hin0 hlen1 hlen2 hlen3 hinS hinT; have hE_h := lH hE; have hRa0_h := lH hRa0; have hRb0_h := lH hRb0; have a1_h := lH a1; have hlE_h := lH hlE; have hm_h := lH hm; have hp_h := lH hp; have hr_h := lH hr; have hmes_h := lH hmes; have hinE_h := lH hinE; have hC1_h := lH hC1; have hC2_h := lH hC2; have bW_h := lH bW; have k0_h := lH k0; have k1_h := lH k1; have ht_h := lH ht; have htn_h := lH htn; have hG_h := lH hG; clear hE hRa0 hRb0 a1 hlE hm hp hr hmes hinE hC1 hC2 bW k0 k1 ht htn hG
 go_enter Try.func47, Try.ntmps47
 go_upto_region 1 with (fail)
 rw [← hW]
 clear hW
 go_cut [7] (fun sv wx => ∃ (bx : Nat) (X Y : Hd), sv = .pointer (some ⟨bx, 0, none⟩) ∧ wx.heap[bx]? = some (.cells #[.int .i64 cnt, .slice none 0 0, .slice X.1 p X.2.1, .slice Y.1 r Y.2.1] tGr) ∧ X.2.2 = mapL tt s ∧ Y.2.2 = mapL tt t ∧ OwLs wx [] [X, Y] ∧ (∀ x, x ∈ fpR [X, Y] → W.heap.size ≤ x ∧ x ≠ bx) ∧ W.heap.size ≤ bx ∧ Below W.heap.size W wx)
 case first =>
  refine beginH (fun w' => w'.heap[w.heap.size]? = some (.cells #[.int .i64 z, .slice A m c, .slice B p b, .slice C r d] tGr)) (by kernel_rfl) ?_
  have hbd : Below W.heap.size W W.drew := below_drew (Below.refl _ _)
  generalize W.drew = W1 at hbd ⊢
  have k0d := t_box_below k0_h.out hbd
  have hBd := below_trans bW_h.out hbd bW_h.out.size
  have hbd_h := lH hbd; have k0d_h := lH k0d; have hBd_h := lH hBd; clear hbd k0d hBd
  refine tkH 0 ?_ rfl k0d_h.out (fun W' hW' => ?_) ?_; rotate_left; · (obtain ⟨⟨y0, y1, y2, y3⟩, y4, y5, y6, y7⟩ := t_box4 hW'; clear hW'; go_simp; first | done | with_reducible rfl)
  simp only [Act.put, nS]
  refine tkH 1 ?_ rfl k0d_h.out (fun W' hW' => ?_) ?_; rotate_left; · (obtain ⟨⟨y0, y1, y2, y3⟩, y4, y5, y6, y7⟩ := t_box4 hW'; clear hW'; go_simp; first | done | with_reducible rfl)
  simp only [Act.put, nS]
  refine tkH 2 ?_ rfl k0d_h.out (fun W' hW' => ?_) ?_; rotate_left; · (obtain ⟨⟨y0, y1, y2, y3⟩, y4, y5, y6, y7⟩ := t_box4 hW'; clear hW'; go_simp; first | done | with_reducible rfl)
  simp only [Act.put, nS]
  refine tkH 3 ?_ rfl k0d_h.out (fun W' hW' => ?_) ?_; rotate_left; · (obtain ⟨⟨y0, y1, y2, y3⟩, y4, y5, y6, y7⟩ := t_box4 hW'; clear hW'; go_simp; first | done | with_reducible rfl)
  simp only [Act.put, nS]
  refine tkH 5 ?_ rfl k0d_h.out (fun W' hW' => ?_) ?_; rotate_left; · (obtain ⟨⟨y0, y1, y2, y3⟩, y4, y5, y6, y7⟩ := t_box4 hW'; clear hW'; go_simp; first | done | with_reducible rfl)
  simp only [Act.put, nS]
  refine tkH 6 ?_ rfl k0d_h.out (fun W' hW' => ?_) ?_; rotate_left; · (obtain ⟨⟨y0, y1, y2, y3⟩, y4, y5, y6, y7⟩ := t_box4 hW'; clear hW'; go_simp; first | done | with_reducible rfl)
  simp only [Act.put, nS]
  refine tkH 7 ?_ rfl k0d_h.out (fun W' hW' => ?_) ?_; rotate_left; · (obtain ⟨⟨y0, y1, y2, y3⟩, y4, y5, y6, y7⟩ := t_box4 hW'; clear hW'; go_simp; first | done | with_reducible rfl)
  simp only [Act.put, nS]
  refine callOrH 4 10 (f := ?fo1) (args := ?argso1) (vj := ?vjo1) (wj := ?wjo1) rfl rfl (by kernel_rfl) (by rfl) (by rfl) ?hruno1 ?hrunjo1 ?h1o1 ?hSjo1 ?h2o1
  case hruno1 => (go_simp; first | done | with_reducible rfl | (constructor <;> with_reducible rfl))
  case hrunjo1 => (go_simp; first | done | with_reducible rfl | (constructor <;> with_reducible rfl))
  case hSjo1 => exact (t_box_below k0d_h.out (t_below_alloc _ _))
  case h1o1 =>
   refine (hC1_h.out W1 hBd_h.out).mono ?_
   rintro e w2 ⟨A2, c2, rfl, hO2⟩
   have hB2 := below_trans hBd_h.out hO2.below_ hBd_h.out.size
   have k2 := t_box_below k0d_h.out hO2.below_
   have hW2 := below_trans hbd_h.out hO2.below_ hbd_h.out.size
   refine ⟨_, rfl, k2, ?_⟩
   have hO2_h := lH hO2; have hB2_h := lH hB2; have k2_h := lH k2; have hW2_h := lH hW2; clear hO2 hB2 k2 hW2
   simp only [Act.put, nS]
   refine callOrH 8 10 (f := ?fo2) (args := ?argso2) (vj := ?vjo2) (wj := ?wjo2) rfl rfl (by kernel_rfl) (by rfl) (by rfl) ?hruno2 ?hrunjo2 ?h1o2 ?hSjo2 ?h2o2
   case hruno2 => (go_simp; first | done | with_reducible rfl | (constructor <;> with_reducible rfl))
   case hrunjo2 => (go_simp; first | done | with_reducible rfl | (constructor <;> with_reducible rfl))
   case hSjo2 => exact (t_box_below k2_h.out (t_below_alloc _ _))
   case h1o2 =>
    refine (hC2_h.out w2 hB2_h.out).mono ?_
    rintro e w3 ⟨A3, c3, rfl, hO3⟩
    have k3 := t_box_below k2_h.out hO3.below_
    have hW3 := below_trans hW2_h.out hO3.below_ hW2_h.out.size
    have hLs := OwLs.two (x := (A2, c2, mapL tt s)) (y := (A3, c3, mapL tt t)) hO2_h.out.is hO3.below_ hO3.is hO3.new
    have hlt2 := hLs.lt
    have hfr : ∀ x, x ∈ fpR [((A2, c2, mapL tt s) : Hd), (A3, c3, mapL tt t)] → W.heap.size ≤ x ∧ x ≠ w3.heap.size := fun x hx => by
     have h1 := hlt2 x hx
     rw [fpR_cons, fpR_cons] at hx
     rcases List.mem_append.1 hx with hx | hx
     · have := hO2_h.out.new x hx; have := hbd_h.out.size; omega
     · rcases List.mem_append.1 hx with hx | hx
       · have := hO3.new x hx; have := hW2_h.out.size; omega
       · simp [fpR] at hx
    refine ⟨_, rfl, k3, ?_⟩
    obtain ⟨W5, hW5, bW5, x5⟩ := alloc_box1g w3 (.cells #[.int .i64 0, .slice none 0 0, .slice none 0 0, .slice none 0 0] tGr)
    obtain ⟨s1, s2⟩ := set4 (a := .int .i64 cnt) (b := .slice none 0 0) (c := .slice A2 p c2) (d := .slice A3 r c3) x5
    have k5 := t_box_below k3 bW5
    have k6 := t_box_keeps k5 s2 (by have := t_box_lt k3; omega)
    have hLs5 := (hLs.below bW5).keeps s2 (fun x hx e => (hfr x hx).2 e)
    have hBf := below_keeps (below_trans hW3 bW5 hW3.size) s2 (Nat.le_trans hW3.size bW5.size) (fun x hx => by rw [hx]; exact hW3.size)
    have hge := hW3.size
    obtain ⟨⟨y0, y1, y2, y3⟩, y4, y5, y6, y7⟩ := t_box4 x5
    have k3_h := lH k3; have hLs5_h := lH hLs5; have hBf_h := lH hBf; have s1_h := lH s1; have s2_h := lH s2; have x5_h := lH x5; have k5_h := lH k5; have k6_h := lH k6; have hfr_h := lH hfr; have hge_h := lH hge; clear k3 hLs5 hBf s1 s2 x5 k5 k6 hfr hge; clear hW3 hLs hlt2 bW5 hO3
    simp only [Act.put, nS]
    refine tkH 9 ?_ rfl k3_h.out (fun W' hW' => ?_) ?_; rotate_left; · (skip; clear hW'; go_simp; first | done | with_reducible rfl)
    simp only [Act.put, nS]
    refine oneH 10 rfl (by kernel_rfl) (by rfl) (fun K hK => ?_)
    go_simp
    rw [← hW5]
    refine hK _ _ k5_h.out ?_
    clear hK K hW5
    refine oneH 11 rfl (by kernel_rfl) (by rfl) (fun K hK => ?_)
    go_simp
    refine hK _ _ k6_h.out ?_
    clear hK K
    refine doneH (by kernel_rfl) ?_
    go_wp2_with (fail)
    go_meet
    exact ⟨w3.heap.size, (A2, c2, mapL tt s), (A3, c3, mapL tt t), rfl, s1_h.out, rfl, rfl, hLs5_h.out, hfr_h.out, hge_h.out, hBf_h.out⟩
   case h2o2 =>
    have bA := t_below_alloc w2 (.cells #[.int .i64 0, .slice none 0 0, .slice none 0 0, .slice none 0 0] tGr)
    have kA := heap_alloc_new w2 (.cells #[.int .i64 0, .slice none 0 0, .slice none 0 0, .slice none 0 0] tGr)
    have hB3 := below_trans hB2_h.out bA hB2_h.out.size
    have hWA := below_trans hW2_h.out bA hW2_h.out.size
    have k2a := t_box_below k2_h.out bA
    have hzA : (w2.alloc (.cells #[.int .i64 0, .slice none 0 0, .slice none 0 0, .slice none 0 0] tGr)).heap.size = w2.heap.size + 1 := World.size_alloc _ _
    simp only [Act.put, nS]
    refine' callH 8 (f := _) (args := _) rfl (by kernel_rfl) (by rfl) ?_ ?_; rotate_left 2; · (go_simp; first | done | with_reducible rfl | (constructor <;> with_reducible rfl))
    refine (hC2_h.out _ hB3).mono ?_
    rintro e w3 ⟨A3, c3, rfl, hO3⟩
    have k3 := t_box_below k2a hO3.below_
    have kb := t_box_below kA hO3.below_
    have hW3 := below_trans hWA hO3.below_ hWA.size
    have hLs := OwLs.two (x := (A2, c2, mapL tt s)) (y := (A3, c3, mapL tt t)) (hO2_h.out.is.below bA) hO3.below_ hO3.is hO3.new
    have hws := hW2_h.out.size
    have hzk := t_box_lt k2_h.out
    have hfr : ∀ x, x ∈ fpR [((A2, c2, mapL tt s) : Hd), (A3, c3, mapL tt t)] → W.heap.size ≤ x ∧ x ≠ w2.heap.size := fun x hx => by
     rw [fpR_cons, fpR_cons] at hx
     rcases List.mem_append.1 hx with hx | hx
     · have h1 := hO2_h.out.is.lt x hx; have := hO2_h.out.new x hx; have := hbd_h.out.size; omega
     · rcases List.mem_append.1 hx with hx | hx
       · have := hO3.new x hx; omega
       · simp [fpR] at hx
    obtain ⟨s1, s2⟩ := set4 (a := .int .i64 cnt) (b := .slice none 0 0) (c := .slice A2 p c2) (d := .slice A3 r c3) kb
    have k6 := t_box_keeps k3 s2 (by omega)
    have hLs5 := hLs.keeps s2 (fun x hx e => (hfr x hx).2 e)
    have hBf := below_keeps hW3 s2 hW3.size (fun x hx => by omega)
    refine ⟨_, rfl, k3, ?_⟩
    obtain ⟨⟨y0, y1, y2, y3⟩, y4, y5, y6, y7⟩ := t_box4 kb
    have k3_h := lH k3; have hLs5_h := lH hLs5; have hBf_h := lH hBf; have s1_h := lH s1; have s2_h := lH s2; have kb_h := lH kb; have k6_h := lH k6; have hfr_h := lH hfr; clear k3 hLs5 hBf s1 s2 kb k6 hfr; clear hW3 hLs hO3
    simp only [Act.put, nS]
    refine tkH 9 ?_ rfl k3_h.out (fun W' hW' => ?_) ?_; rotate_left; · (skip; clear hW'; go_simp; first | done | with_reducible rfl)
    simp only [Act.put, nS]
    refine oneH 11 rfl (by kernel_rfl) (by rfl) (fun K hK => ?_)
    go_simp
    refine hK _ _ k6_h.out ?_
    clear hK K
    refine doneH (by kernel_rfl) ?_
    go_wp2_with (fail)
    go_meet
    exact ⟨w2.heap.size, (A2, c2, mapL tt s), (A3, c3, mapL tt t), rfl, s1_h.out, rfl, rfl, hLs5_h.out, hfr_h.out, by omega, hBf_h.out⟩
  case h2o1 =>
   have bA := t_below_alloc W1 (.cells #[.int .i64 0, .slice none 0 0, .slice none 0 0, .slice none 0 0] tGr)
   have kA := heap_alloc_new W1 (.cells #[.int .i64 0, .slice none 0 0, .slice none 0 0, .slice none 0 0] tGr)
   have hBa := below_trans hBd_h.out bA hBd_h.out.size
   have hWA := below_trans hbd_h.out bA hbd_h.out.size
   have k2a := t_box_below k0d_h.out bA
   have hzA : (W1.alloc (.cells #[.int .i64 0, .slice none 0 0, .slice none 0 0, .slice none 0 0] tGr)).heap.size = W1.heap.size + 1 := World.size_alloc _ _
   simp only [Act.put, nS]
   refine' callH 4 (f := _) (args := _) rfl (by kernel_rfl) (by rfl) ?_ ?_; rotate_left 2; · (go_simp; first | done | with_reducible rfl | (constructor <;> with_reducible rfl))
   refine (hC1_h.out _ hBa).mono ?_
   rintro e w2 ⟨A2, c2, rfl, hO2⟩
   have hB2 := below_trans hBa hO2.below_ hBa.size
   have k2 := t_box_below k2a hO2.below_
   have kb2 := t_box_below kA hO2.below_
   have hW2 := below_trans hWA hO2.below_ hWA.size
   refine ⟨_, rfl, k2, ?_⟩
   simp only [Act.put, nS]
   refine' callH 8 (f := _) (args := _) rfl (by kernel_rfl) (by rfl) ?_ ?_; rotate_left 2; · (go_simp; first | done | with_reducible rfl | (constructor <;> with_reducible rfl))
   refine (hC2_h.out _ hB2).mono ?_
   rintro e w3 ⟨A3, c3, rfl, hO3⟩
   have k3 := t_box_below k2 hO3.below_
   have kb := t_box_below kb2 hO3.below_
   have hW3 := below_trans hW2 hO3.below_ hW2.size
   have hLs := OwLs.two (x := (A2, c2, mapL tt s)) (y := (A3, c3, mapL tt t)) hO2.is hO3.below_ hO3.is hO3.new
   have hws := hbd_h.out.size
   have hzk := t_box_lt k0d_h.out
   have hws2 := hO2.below_.size
   have hfr : ∀ x, x ∈ fpR [((A2, c2, mapL tt s) : Hd), (A3, c3, mapL tt t)] → W.heap.size ≤ x ∧ x ≠ W1.heap.size := fun x hx => by
    rw [fpR_cons, fpR_cons] at hx
    rcases List.mem_append.1 hx with hx | hx
    · have := hO2.new x hx; omega
    · rcases List.mem_append.1 hx with hx | hx
      · have := hO3.new x hx; omega
      · simp [fpR] at hx
   obtain ⟨s1, s2⟩ := set4 (a := .int .i64 cnt) (b := .slice none 0 0) (c := .slice A2 p c2) (d := .slice A3 r c3) kb
   have k6 := t_box_keeps k3 s2 (by omega)
   have hLs5 := hLs.keeps s2 (fun x hx e => (hfr x hx).2 e)
   have hBf := below_keeps hW3 s2 hW3.size (fun x hx => by omega)
   refine ⟨_, rfl, k3, ?_⟩
   obtain ⟨⟨y0, y1, y2, y3⟩, y4, y5, y6, y7⟩ := t_box4 kb
   have k3_h := lH k3; have hLs5_h := lH hLs5; have hBf_h := lH hBf; have s1_h := lH s1; have s2_h := lH s2; have kb_h := lH kb; have k6_h := lH k6; have hfr_h := lH hfr; clear k3 hLs5 hBf s1 s2 kb k6 hfr; clear hW3 hLs hO3
   simp only [Act.put, nS]
   refine tkH 9 ?_ rfl k3_h.out (fun W' hW' => ?_) ?_; rotate_left; · (skip; clear hW'; go_simp; first | done | with_reducible rfl)
   simp only [Act.put, nS]
   refine oneH 11 rfl (by kernel_rfl) (by rfl) (fun K hK => ?_)
   go_simp
   refine hK _ _ k6_h.out ?_
   clear hK K
   refine doneH (by kernel_rfl) ?_
   go_wp2_with (fail)
   go_meet
   exact ⟨W1.heap.size, (A2, c2, mapL tt s), (A3, c3, mapL tt t), rfl, s1_h.out, rfl, rfl, hLs5_h.out, hfr_h.out, by omega, hBf_h.out⟩
 case rest =>
  obtain ⟨bx, ⟨X1, X2, X3⟩, ⟨Y1, Y2, Y3⟩, rfl, kx, rfl, rfl, hLs, hfr, hbx, hBc⟩ := hcut
  obtain ⟨w4, rfl⟩ : ∃ x, x = wc := ⟨_, rfl⟩
  have k0c := t_box_below k0_h.out hBc
  have hws := bW_h.out.size
  obtain ⟨⟨c0, c1, c2, c3⟩, f0, f1, f2, f3⟩ := t_box4 k0c
  have k0c_h := lH k0c; have kx_h := lH kx; have hLs_h := lH hLs; have hfr_h := lH hfr; have hBc_h := lH hBc; clear k0c kx hLs hfr hBc
  go_wp2_with (fail)
  clear c0 c1 c2 c3 f0 f1 f2 f3
  go_loopw [23] (fun i wr => ∃ (k : Nat) (A' : Option Addr) (c' : Nat) (ys : List EHd), k ≤ m ∧ i = .int .i64 k ∧ ys.length = k ∧ ys.map egOf = (es.take k).map (mapE tt) ∧ wr.heap[bx]? = some (.cells #[.int .i64 cnt, .slice A' k c', .slice X1 p X2, .slice Y1 r Y2] tGr) ∧ Sl wr tEd 4 A' k c' (ecs ys) ∧ OwLs wr (fpA A') ((X1, X2, mapL tt s) :: (Y1, Y2, mapL tt t) :: eh ys) ∧ (∀ x, x ∈ fpA A' ++ fpR (((X1, X2, mapL tt s) : Hd) :: (Y1, Y2, mapL tt t) :: eh ys) → W.heap.size ≤ x ∧ x ≠ bx) ∧ Below W.heap.size W wr) (fun i _ => m - (intOf i).toNat)
  case atStart => exact ⟨0, none, 0, [], Nat.zero_le _, rfl, rfl, rfl, kx_h.out, Sl.nil _ _ _, hLs_h.out, hfr_h.out, hBc_h.out⟩
  case round =>
   clear kx_h hLs_h hfr_h hBc_h k0c_h
   obtain ⟨k, A', c', ys, hk, rfl, hyl, hye, kx, hsl, hLs, hfr, hBr⟩ := hrel
   have hBw := below_trans bW_h.out hBr bW_h.out.size
   by_cases hlt : k < m
   · obtain ⟨ad, κ, vv, B1, b1, s1, C1, b2, t1, rfl, hn, ⟨d0, d1, d2, d3⟩, hr1, hr2⟩ := (hE_h.out.below hBw).at_ (j := k) (by rw [← hm_h.out]; exact hlt)
     have hek : es[k]? = some (κ, vv, s1, t1) := by rw [a1_h.out, List.getElem?_map, hn]; rfl
     obtain ⟨hm1, hm2⟩ := mem_edW_of (List.mem_of_getElem? hek)
     have hln := hlE_h.out _ (List.mem_of_getElem? hek)
     have hrA : RdI w B1 s1 := (hE_h.out.2 _ (List.mem_of_getElem? hn)).1
     have hrB : RdI w C1 t1 := (hE_h.out.2 _ (List.mem_of_getElem? hn)).2
     have hCa := fun (W' : World) (hb : Below w.heap.size w W') => mapped_any B1 T b1 tc s1.length n s1 tt W' (hrA.below hb) (ht_h.out.below hb) rfl htn_h.out (fun x hx => hinE_h.out x (hm1 x hx)) hln.1
     have hCb := fun (W' : World) (hb : Below w.heap.size w W') => mapped_any C1 T b2 tc t1.length n t1 tt W' (hrB.below hb) (ht_h.out.below hb) rfl htn_h.out (fun x hx => hinE_h.out x (hm2 x hx)) hln.2
     obtain ⟨p1, hp1⟩ : ∃ p1, p1 = s1.length := ⟨_, rfl⟩
     obtain ⟨r1, hr1'⟩ : ∃ r1, r1 = t1.length := ⟨_, rfl⟩
     rw [← hp1] at d2
     rw [← hr1'] at d3
     simp only [← hp1] at hCa
     simp only [← hr1'] at hCb
     have hkI : (k : Int) < (m : Int) := by omega
     obtain ⟨wo, rfl⟩ : ∃ x, x = wr := ⟨_, rfl⟩
     obtain ⟨W6, hW6, bW6, k6⟩ := alloc_box1g wo (.cells #[.int .i64 κ, .int .i64 vv, .slice B1 p1 b1, .slice C1 r1 b2] tEd)
     have kx6 := t_box_below kx bW6
     have hxl := t_box_lt kx
     have hsl6 := hsl.below bW6
     have hLs6 := hLs.below bW6
     have hfl := hsl.lt
     have hll := hLs.lt
     have hB6 := below_trans hBw bW6 hBw.size
     have hW6b := below_trans hBr bW6 hBr.size
     have hr1_h := lH hr1'; clear hr1' hr1 hr2 hn hm1 hm2 hln hrA hrB hsl hLs kx hBr hBw; have hek_h := lH hek; have hp1_h := lH hp1; have bW6_h := lH bW6; have hye_h := lH hye; have hyl_h := lH hyl; have hCa_h := lH hCa; have hCb_h := lH hCb; have hfr_h := lH hfr; have kx6_h := lH kx6; have k6_h := lH k6; have hsl6_h := lH hsl6; have hLs6_h := lH hLs6; have hB6_h := lH hB6; have hW6b_h := lH hW6b; have hfl_h := lH hfl; have hll_h := lH hll; clear hek hp1 bW6 hye hyl hCa hCb hfr kx6 k6 hsl6 hLs6 hB6 hW6b hfl hll
     go_upto_region 5 with (fail)
     rw [← hW6]
     clear hW6 d0 d1 d2 d3
     refine beginZw 18 (fun w' => w'.heap[bx]? = some (.cells #[.int .i64 cnt, .slice A' k c', .slice X1 p X2, .slice Y1 r Y2] tGr) ∧ w'.heap[wo.heap.size]? = some (.cells #[.int .i64 κ, .int .i64 vv, .slice B1 p1 b1, .slice C1 r1 b2] tEd)) (by kernel_rfl) (fun W7 hW7 => ?_)
     have hbd : Below W6.heap.size W6 W7 := by rw [hW7]; exact below_drew (Below.refl _ _)
     clear hW7
     have hF := And.intro (t_box_below kx6_h.out hbd) (t_box_below k6_h.out hbd)
     have hB7 := below_trans hB6_h.out hbd hB6_h.out.size
     have hW7b := below_trans hW6b_h.out hbd hW6b_h.out.size
     have hsl7 := hsl6_h.out.below hbd
     have hLs7 := hLs6_h.out.below hbd
     have h7s : wo.heap.size ≤ W7.heap.size := Nat.le_trans bW6_h.out.size hbd.size
     clear hbd; have hF_h := lH hF; have hB7_h := lH hB7; have hW7b_h := lH hW7b; have hsl7_h := lH hsl7; have hLs7_h := lH hLs7; clear hF hB7 hW7b hsl7 hLs7
     refine tkC 0 ?_ rfl hF_h.out (fun W' hW' => ?_) ?_; rotate_left; · (obtain ⟨⟨y0, y1, y2, y3⟩, y4, y5, y6, y7⟩ := t_box4 hW'.1; obtain ⟨⟨x0, x1, x2, x3⟩, x4, x5, x6, x7⟩ := t_box4 hW'.2; clear hW'; go_simp; first | done | with_reducible rfl)
     simp only [Act.put, nS]
     refine tkC 1 ?_ rfl hF_h.out (fun W' hW' => ?_) ?_; rotate_left; · (obtain ⟨⟨y0, y1, y2, y3⟩, y4, y5, y6, y7⟩ := t_box4 hW'.1; obtain ⟨⟨x0, x1, x2, x3⟩, x4, x5, x6, x7⟩ := t_box4 hW'.2; clear hW'; go_simp; first | done | with_reducible rfl)
     simp only [Act.put, nS]
     refine tkC 2 ?_ rfl hF_h.out (fun W' hW' => ?_) ?_; rotate_left; · (obtain ⟨⟨y0, y1, y2, y3⟩, y4, y5, y6, y7⟩ := t_box4 hW'.1; obtain ⟨⟨x0, x1, x2, x3⟩, x4, x5, x6, x7⟩ := t_box4 hW'.2; clear hW'; go_simp; first | done | with_reducible rfl)
     simp only [Act.put, nS]
     refine tkC 3 ?_ rfl hF_h.out (fun W' hW' => ?_) ?_; rotate_left; · (obtain ⟨⟨y0, y1, y2, y3⟩, y4, y5, y6, y7⟩ := t_box4 hW'.1; obtain ⟨⟨x0, x1, x2, x3⟩, x4, x5, x6, x7⟩ := t_box4 hW'.2; clear hW'; go_simp; first | done | with_reducible rfl)
     simp only [Act.put, nS]
     refine tkC 4 ?_ rfl hF_h.out (fun W' hW' => ?_) ?_; rotate_left; · (obtain ⟨⟨y0, y1, y2, y3⟩, y4, y5, y6, y7⟩ := t_box4 hW'.1; obtain ⟨⟨x0, x1, x2, x3⟩, x4, x5, x6, x7⟩ := t_box4 hW'.2; clear hW'; go_simp; first | done | with_reducible rfl)
     simp only [Act.put, nS]
     refine tkC 5 ?_ rfl hF_h.out (fun W' hW' => ?_) ?_; rotate_left; · (obtain ⟨⟨y0, y1, y2, y3⟩, y4, y5, y6, y7⟩ := t_box4 hW'.1; obtain ⟨⟨x0, x1, x2, x3⟩, x4, x5, x6, x7⟩ := t_box4 hW'.2; clear hW'; go_simp; first | done | with_reducible rfl)
     simp only [Act.put, nS]
     refine tkC 6 ?_ rfl hF_h.out (fun W' hW' => ?_) ?_; rotate_left; · (obtain ⟨⟨y0, y1, y2, y3⟩, y4, y5, y6, y7⟩ := t_box4 hW'.1; obtain ⟨⟨x0, x1, x2, x3⟩, x4, x5, x6, x7⟩ := t_box4 hW'.2; clear hW'; go_simp; first | done | with_reducible rfl)
     simp only [Act.put, nS]
     refine tkC 7 ?_ rfl hF_h.out (fun W' hW' => ?_) ?_; rotate_left; · (obtain ⟨⟨y0, y1, y2, y3⟩, y4, y5, y6, y7⟩ := t_box4 hW'.1; obtain ⟨⟨x0, x1, x2, x3⟩, x4, x5, x6, x7⟩ := t_box4 hW'.2; clear hW'; go_simp; first | done | with_reducible rfl)
     simp only [Act.put, nS]
     refine tkC 8 ?_ rfl hF_h.out (fun W' hW' => ?_) ?_; rotate_left; · (obtain ⟨⟨y0, y1, y2, y3⟩, y4, y5, y6, y7⟩ := t_box4 hW'.1; obtain ⟨⟨x0, x1, x2, x3⟩, x4, x5, x6, x7⟩ := t_box4 hW'.2; clear hW'; go_simp; first | done | with_reducible rfl)
     simp only [Act.put, nS]
     refine tkC 10 ?_ rfl hF_h.out (fun W' hW' => ?_) ?_; rotate_left; · (obtain ⟨⟨y0, y1, y2, y3⟩, y4, y5, y6, y7⟩ := t_box4 hW'.1; obtain ⟨⟨x0, x1, x2, x3⟩, x4, x5, x6, x7⟩ := t_box4 hW'.2; clear hW'; go_simp; first | done | with_reducible rfl)
     simp only [Act.put, nS]
     refine tkC 11 ?_ rfl hF_h.out (fun W' hW' => ?_) ?_; rotate_left; · (obtain ⟨⟨y0, y1, y2, y3⟩, y4, y5, y6, y7⟩ := t_box4 hW'.1; obtain ⟨⟨x0, x1, x2, x3⟩, x4, x5, x6, x7⟩ := t_box4 hW'.2; clear hW'; go_simp; first | done | with_reducible rfl)
     simp only [Act.put, nS]
     refine tkC 12 ?_ rfl hF_h.out (fun W' hW' => ?_) ?_; rotate_left; · (obtain ⟨⟨y0, y1, y2, y3⟩, y4, y5, y6, y7⟩ := t_box4 hW'.1; obtain ⟨⟨x0, x1, x2, x3⟩, x4, x5, x6, x7⟩ := t_box4 hW'.2; clear hW'; go_simp; first | done | with_reducible rfl)
     simp only [Act.put, nS]
     refine callZ 9 (f := ?f3) (args := ?args3) rfl (by kernel_rfl) (by rfl) ?hrun3 ?hcall3
     case hrun3 => (go_simp; first | done | with_reducible rfl | (constructor <;> with_reducible rfl))
     case hcall3 =>
      refine (hCa_h.out W7 hB7_h.out).mono ?_
      rintro e w8 ⟨A8, c8, rfl, hO8⟩
      have hF8 := And.intro (t_box_below hF_h.out.1 hO8.below_) (t_box_below hF_h.out.2 hO8.below_)
      have hB8 := below_trans hB7_h.out hO8.below_ hB7_h.out.size
      have hW8b := below_trans hW7b_h.out hO8.below_ hW7b_h.out.size
      refine ⟨_, rfl, fun _ => hF8, ?_⟩
      have hF8_h := lH hF8; have hB8_h := lH hB8; have hW8b_h := lH hW8b; have hO8_h := lH hO8; clear hF8 hB8 hW8b hO8
      simp only [Act.put, nS]
      refine callZ 13 (f := ?f4) (args := ?args4) rfl (by kernel_rfl) (by rfl) ?hrun4 ?hcall4
      case hrun4 => (go_simp; first | done | with_reducible rfl | (constructor <;> with_reducible rfl))
      case hcall4 =>
       refine (hCb_h.out w8 hB8_h.out).mono ?_
       rintro e w9 ⟨A9, c9, rfl, hO9⟩
       have hF9 := And.intro (t_box_below hF8_h.out.1 hO9.below_) (t_box_below hF8_h.out.2 hO9.below_)
       have hB9 := below_trans hB8_h.out hO9.below_ hB8_h.out.size
       have hW9b := below_trans hW8b_h.out hO9.below_ hW8b_h.out.size
       have h79 : Below W7.heap.size W7 w9 := below_trans hO8_h.out.below_ hO9.below_ hO8_h.out.below_.size
       have hLs9 := hLs7_h.out.app h79 (ms := [(A8, c8, mapL tt s1), (A9, c9, mapL tt t1)]) (OwLs.two (x := (A8, c8, mapL tt s1)) (y := (A9, c9, mapL tt t1)) hO8_h.out.is hO9.below_ hO9.is hO9.new) (fun x hx => by
        rw [fpR_cons, fpR_cons] at hx
        rcases List.mem_append.1 hx with hx | hx
        · exact hO8_h.out.new x hx
        · rcases List.mem_append.1 hx with hx | hx
          · have := hO9.new x hx; have := hO8_h.out.below_.size; omega
          · simp [fpR] at hx) (fun x hx => hsl7_h.out.lt x hx)
       have hnew : ∀ x, x ∈ fpR [((A8, c8, mapL tt s1) : Hd), (A9, c9, mapL tt t1)] → W7.heap.size ≤ x := fun x hx => by
        rw [fpR_cons, fpR_cons] at hx
        rcases List.mem_append.1 hx with hx | hx
        · exact hO8_h.out.new x hx
        · rcases List.mem_append.1 hx with hx | hx
          · have := hO9.new x hx; have := hO8_h.out.below_.size; omega
          · simp [fpR] at hx
       have hsl9 := hsl7_h.out.below h79
       refine ⟨_, rfl, fun _ => hF9, ?_⟩
       clear hO9
       obtain ⟨w10, hw10, bw10, -⟩ := alloc_box1g w9 (.cells #[.int .i64 κ, .int .i64 vv, .slice A8 p1 c8, .slice A9 r1 c9] tEd)
       have hF10 := And.intro (t_box_below hF9.1 bw10) (t_box_below hF9.2 bw10)
       have hsl10 := hsl9.below bw10
       have hLs10 := hLs9.below bw10
       have h9s := h79.size
       have hW10b := below_trans hW9b bw10 hW9b.size
       have hlaid : RdC w10 (some ⟨w9.heap.size, 0, none⟩) [.int .i64 κ, .int .i64 vv, .slice A8 p1 c8, .slice A9 r1 c9] := by
        rw [hw10]; exact Sl.rdc (Sl.laid w9 tEd 4 1 #[.int .i64 κ, .int .i64 vv, .slice A8 p1 c8, .slice A9 r1 c9] (by unfold maxLen; omega) rfl)
       have hF9_h := lH hF9; have hF10_h := lH hF10; have hsl10_h := lH hsl10; have hLs10_h := lH hLs10; have hnew_h := lH hnew; have hW10b_h := lH hW10b; have hlaid_h := lH hlaid; have bw10_h := lH bw10; clear hF9 hF10 hsl10 hLs10 hnew hW10b hlaid bw10; clear hsl9 hLs9 hB9 hW9b h79
       simp only [Act.put, nS]
       refine tkC 14 ?_ rfl hF9_h.out (fun W' hW' => ?_) ?_; rotate_left; · (skip; clear hW'; go_simp; first | done | with_reducible rfl)
       simp only [Act.put, nS]
       refine oneZ 15 rfl (by kernel_rfl) (by rfl) (fun K hK => ?_)
       go_simp
       rw [← hw10]
       refine hK _ _ (fun _ => hF10_h.out) ?_
       clear hK K hw10
       refine appZ 16 rfl (by kernel_rfl) (by rfl) _ _ _ rfl tEd Try.underlying30 info_ed rfl (by omega) rfl hsl10_h.out rfl (news := [.int .i64 κ, .int .i64 vv, .slice A8 p1 c8, .slice A9 r1 c9]) rfl hlaid_h.out (by intro u hu; simp at hu; rcases hu with rfl | rfl | rfl | rfl <;> rfl) (by unfold maxLen; omega) (by omega) ?_
       intro A11 c11 w11 hs11 hA11 hk11 hrd11
       clear hrd11
       have hsle : Sl w11 tEd 4 A11 (k + 1) c11 (ecs (ys ++ [(κ, vv, (A8, c8, mapL tt s1), (A9, c9, mapL tt t1))])) := by
        have e : ecs ys ++ [.int .i64 κ, .int .i64 vv, .slice A8 p1 c8, .slice A9 r1 c9] = ecs (ys ++ [(κ, vv, (A8, c8, mapL tt s1), (A9, c9, mapL tt t1))]) := by
         rw [ecs_append]; simp only [ecs, ec, Hd.val, mapL_length, List.append_nil]; rw [← hp1_h.out, ← hr1_h.out]
        rw [← e]; exact hs11
       have hLs11 := hLs10_h.out.grow hA11 hk11
       have hfp11 : ∀ x, x ∈ fpA A11 ++ fpR (((X1, X2, mapL tt s) : Hd) :: (Y1, Y2, mapL tt t) :: eh (ys ++ [(κ, vv, (A8, c8, mapL tt s1), (A9, c9, mapL tt t1))])) → W.heap.size ≤ x ∧ x ≠ bx := fun x hx => by
        have hs7 := hW7b_h.out.size
        rcases List.mem_append.1 hx with hx | hx
        · rcases hA11 x hx with h1 | h1
          · exact hfr_h.out x (List.mem_append_left _ h1)
          · have := hW10b_h.out.size; have := bw10_h.out.size; omega
        · rw [eh_append, ← List.cons_append, ← List.cons_append, fpR_append] at hx
          rcases List.mem_append.1 hx with hx | hx
          · exact hfr_h.out x (List.mem_append_right _ hx)
          · have := hnew_h.out x hx; omega
       have hkA : ∀ x, x ∈ fpA A' → x ≠ bx ∧ x ≠ wo.heap.size := fun x hx => ⟨(hfr_h.out x (List.mem_append_left _ hx)).2, fun e => by have := hfl_h.out x hx; omega⟩
       have hF11 := And.intro (t_box_keeps hF10_h.out.1 hk11 (fun h => (hkA _ h).1 rfl)) (t_box_keeps hF10_h.out.2 hk11 (fun h => (hkA _ h).2 rfl))
       have hW11b := below_keeps hW10b_h.out hk11 hW10b_h.out.size (fun x hx => (hfr_h.out x (List.mem_append_left _ hx)).1)
       refine ⟨fun _ => hF11, ?_⟩
       obtain ⟨s1', s2'⟩ := box_set hF11.1 1 (.slice A11 (k + 1) c11)
       have s3' : (w11.setCell ⟨bx, 1, none⟩ (.slice A11 (k + 1) c11)).heap[bx]? = some (.cells #[.int .i64 cnt, .slice A11 (k + 1) c11, .slice X1 p X2, .slice Y1 r Y2] tGr) := s1'
       have hsl12 := hsle.keeps s2' (fun x hx e => (hfp11 x (List.mem_append_left _ hx)).2 e)
       have hLs12 := hLs11.keeps s2' (fun x hx e => (hfp11 x (List.mem_append_right _ (by rw [eh_append]; exact hx))).2 e)
       have hW12b := below_keeps hW11b s2' hW11b.size (fun x hx => by omega)
       have hye2 : (ys ++ [(κ, vv, (A8, c8, mapL tt s1), (A9, c9, mapL tt t1))]).map egOf = (es.take (k + 1)).map (mapE tt) := by
        rw [List.map_append, hye_h.out, List.take_add_one, hek_h.out, List.map_append]; rfl
       obtain ⟨⟨y0, y1, y2, y3⟩, y4, y5, y6, y7⟩ := t_box4 hF11.1
       clear hs11 hA11 hk11 hsle hLs11 s1' s2' hW11b hkA; have hF11_h := lH hF11; have s3'_h := lH s3'; have hsl12_h := lH hsl12; have hLs12_h := lH hLs12; have hW12b_h := lH hW12b; have hye2_h := lH hye2; have hfp11_h := lH hfp11; clear hF11 s3' hsl12 hLs12 hW12b hye2 hfp11
       simp only [Act.put, nS]
       refine tkC 17 ?_ rfl hF11_h.out (fun W' hW' => ?_) ?_; rotate_left; · (skip; clear hW'; go_simp; first | done | with_reducible rfl)
       simp only [Act.put, nS]
       refine oneZ 18 rfl (by kernel_rfl) (by rfl) (fun K hK => ?_)
       go_simp
       refine hK _ _ (fun h => by cases h) ?_
       clear hK K
       refine doneZ (by kernel_rfl) ?_
       go_wp2_with (fail)
       go_roundw
       case rel => exact ⟨k + 1, A11, c11, _, by omega, by go_num, by rw [List.length_append, hyl_h.out]; rfl, hye2_h.out, s3'_h.out, hsl12_h.out, by rw [eh_append]; exact hLs12_h.out, hfp11_h.out, hW12b_h.out⟩
       case measure => simp [intOf]; omega
   · obtain rfl : m = k := by omega
     rw [List.take_of_length_le (by rw [hmes_h.out]; exact Nat.le_refl _)] at hye
     have k1r := t_box_below k1_h.out hBr
     obtain ⟨t1', t2'⟩ := set4 (a := .int .i64 cnt) (b := .slice A' m c') (c := .slice X1 p X2) (d := .slice Y1 r Y2) k1r
     have hk1W := t_box_lt k1_h.out
     have hsl2 := hsl.keeps t2' (fun x hx e => by have := (hfr x (List.mem_append_left _ hx)).1; omega)
     have hLs2 := hLs.keeps t2' (fun x hx e => by have := (hfr x (List.mem_append_right _ hx)).1; omega)
     have hB9 := below_keeps hBw t2' hBw.size (fun x hx => by omega)
     have hfw : FreshL w.heap.size (fpA A' ++ fpR (((X1, X2, mapL tt s) : Hd) :: (Y1, Y2, mapL tt t) :: eh ys)) := fun x hx => by have := (hfr x hx).1; omega
     obtain ⟨⟨c0, c1, c2, c3⟩, f0, f1, f2, f3⟩ := t_box4 kx
     obtain ⟨⟨d0, d1, d2, d3⟩, g0, g1, g2, g3⟩ := t_box4 k1r
     clear hsl hLs t2' k1r kx hBr hBw hfr; have hye_h := lH hye; have hyl_h := lH hyl; have t1'_h := lH t1'; have hsl2_h := lH hsl2; have hLs2_h := lH hLs2; have hB9_h := lH hB9; have hfw_h := lH hfw; clear hye hyl t1' hsl2 hLs2 hB9 hfw
     go_wp2_with (fail)
     refine bodyPost_ret (results_cell_row rfl _ _ (w.heap.size + 1) _ _ (0, 0) _ rfl t1'_h.out Try.underlying32 rfl (by kernel_rfl)) rfl ?_
     refine ⟨_, fpA A' ++ fpR (((X1, X2, mapL tt s) : Hd) :: (Y1, Y2, mapL tt t) :: eh ys), rfl, ?_, hfw_h.out, hB9_h.out⟩
     rw [hG_h.out]
     refine ⟨A', c', ys, (X1, X2, mapL tt s), (Y1, Y2, mapL tt t), ?_, hye_h.out.symm, rfl, rfl, ?_, hLs2_h.out, rfl⟩
     · simp only [mapL_length]; rw [hyl_h.out, hp_h.out, hr_h.out]; rfl
     · rw [hyl_h.out]; exact hsl2_h.out
section
variable {P : Program} {l : List Oper} {Q : Exit → Act → World → Prop} {md : Region.Mode} {S : World → Prop}
theorem valOrH (i j : Nat) {oi oj : Oper} {vi vj : Value} {wi wj : World} {fuel : Nat} {listed : Array Bool} {a : Act} {w : World} {li lj : List Oper} (hdi : l.drop i = oi :: li) (hdj : l.drop j = oj :: lj)
  (hr : Region.ready md l.toArray listed = [i, j]) (hwi : Region.wanted oi (yielded l.toArray a.tmps) = true) (hwj : Region.wanted oj (yielded l.toArray a.tmps) = true)
  (hruni : (execOp a.eval oi).run P w = .ok (.value vi) wi) (hrunj : (execOp a.eval oj).run P w = .ok (.value vj) wj)
  (hSi : S wi) (h1 : wpAnyH P md l.toArray Q S fuel (listed.setIfInBounds i true) (a.put oi.dst vi) wi)
  (hSj : S wj) (h2 : wpAnyH P md l.toArray Q S fuel (listed.setIfInBounds j true) (a.put oj.dst vj) wj) : wpAnyH P md l.toArray Q S (fuel + 1) listed a w := by
 refine wpAnyH_all hr (by simp) fun k hk => ?_
 have hk' : k = i ∨ k = j := by simpa using hk
 rcases hk' with rfl | rfl
 · unfold wpOp
   simp only [at_drop hdi, hwi, if_true]
   refine .inl ?_
   unfold Oper.wp
   rw [hruni]
   exact ⟨hSi, h1⟩
 · unfold wpOp
   simp only [at_drop hdj, hwj, if_true]
   refine .inl ?_
   unfold Oper.wp
   rw [hrunj]
   exact ⟨hSj, h2⟩
theorem run_makeOp {o : Oper} {a : Act} {w : World} (lo c : Operand) (t : TypeId) (ho : o.op = .makeSlice t lo c) (e : TypeId) {z : Value} {size bytes : Nat} (ht : P.underlying t = some (.slice e)) (hinfo : (P.info? e).map (fun i => (i.zero, i.size, i.bytes)) = some (some z, size, bytes))
  (n : Nat) (hel : a.eval lo = .int .i64 (n : Int)) (hec : a.eval c = .int .i64 (n : Int)) (hbytes : bytes * n ≤ 281474976710656) (h63 : n ≤ maxLen) :
  (execOp a.eval o).run P w = .ok (.value (.slice (some ⟨w.heap.size, 0, none⟩) n n)) (w.alloc (.cells (madeCells z.cells (n * size)) e)) := by
 obtain ⟨i, hi, hz, hz1, hz2⟩ := info_parts hinfo
 subst hz1 hz2
 have h63' : (n : Int) ≤ 9223372036854775807 := by simp only [maxLen] at h63; omega
 have hb' : (i.bytes : Int) * (n : Int) ≤ 281474976710656 := by
  have h : ((i.bytes * n : Nat) : Int) ≤ 281474976710656 := by omega
  rwa [Int.natCast_mul] at h
 have hrun := run_make (P := P) w t e i z ht hi hz .i64 .i64 n n (by omega) (by omega) hb' h63'
 simp only [Int.toNat_natCast] at hrun
 simp only [execOp, ho, hel, hec, hrun, Sem.run_bind, Sem.run_pure, Result.andThen_ok]
end
theorem made_edges (w : World) (n : Nat) (h : n ≤ maxLen) : Sl (w.alloc (.cells (madeCells (Value.agg #[.int .i64 0, .int .i64 0, .slice none 0 0, .slice none 0 0]).cells (n * 4)) tEd)) tEd 4 (some ⟨w.heap.size, 0, none⟩) n n (ecs (List.replicate n eh0)) := by
 rw [← madeEdges]
 refine ⟨?_, Nat.le_refl _, h, .inr ⟨w.heap.size, 0, _, rfl, heap_alloc_new w _, by simp [size_madeCells], by simp⟩⟩
 simp only [List.length_take, Array.length_toList, size_madeCells]
 omega
theorem egOf_eh0 : egOf eh0 = eg0 := rfl
theorem ren_ow {w : World} {g : Gr} {ws el : List Int} {n m c : Nat} {G : Option Addr} {ms : List EHd} {X Y : Hd} (hms : ms.map egOf = g.2.1.map (mapE ws)) (hml : ms.length = m) (hel : el.length = m) (hp : permB el = true) (hg : g.1 = (n : Int)) (hX : X.2.2 = mapL ws g.2.2.1) (hY : Y.2.2 = mapL ws g.2.2.2)
  (hsl : Sl w tEd 4 G m c (ecs (lay eh0 el ms m))) (hLs : OwLs w (fpA G) (X :: Y :: eh ms)) :
  OwGr w (.agg #[.int .i64 (n : Int), .slice G m c, .slice X.1 X.2.2.length X.2.1, .slice Y.1 Y.2.2.length Y.2.1]) (renG g ws el) (fpA G ++ fpR (X :: Y :: eh (lay eh0 el ms m))) := by
 subst hml
 have hl : g.2.1.length = ms.length := by have := congrArg List.length hms; rw [List.length_map, List.length_map] at this; exact this.symm
 have hpm := lay_all (d := eh0) hp hel
 refine ⟨G, c, lay eh0 el ms ms.length, X, Y, ?_, ?_, hX, hY, by rw [lay_length]; exact hsl, hLs.perm (((eh_perm hpm).cons Y).cons X), rfl⟩
 · rw [lay_length]; unfold renG; rw [← hg]
 · show lay eg0 el (g.2.1.map (mapE ws)) g.2.1.length = _
   rw [lay_map, egOf_eh0, hms, hl]
theorem ren_fp {el : List Int} {m : Nat} {ms : List EHd} {X Y : Hd} (hml : ms.length = m) (hel : el.length = m) (hp : permB el = true) {x : Nat} (hx : x ∈ fpR (X :: Y :: eh (lay eh0 el ms m))) : x ∈ fpR (X :: Y :: eh ms) := by
 subst hml
 obtain ⟨h, hh, hb⟩ := mem_fpR.1 hx
 exact mem_fpR.2 ⟨h, ((((eh_perm (lay_all (d := eh0) hp hel)).cons Y).cons X).mem_iff).1 hh, hb⟩
set_option maxRecDepth 100000 in
set_option maxHeartbeats 8000000 in
theorem renumbered_any {v : Value} {g : Gr} (w : World) (n m : Nat) (T : Option Addr) (tc : Nat) (ws : List Int) (U : Option Addr) (uc : Nat) (el : List Int) (h : RdGr w v g) (ok : OkG g) (ht : RdI w T ws) (hu : RdI w U el) (hgn : g.1 = (n : Int)) (hgm : g.2.1.length = m) (htn : ws.length = n) (hel : el.length = m) (hin : inW (n : Int) (t_allW g) = true) (hper : permB el = true) (hmb : m ≤ 60) :
  Calls Try.prog 28 #[v, .slice T n tc, .slice U m uc] w fun e w' => ∃ v' fp, e = .returned v' ∧ OwGr w' v' (renG g ws el) fp ∧ FreshL w.heap.size fp ∧ Below w.heap.size w w' := by
 have hG0 := h
 obtain ⟨A, c, hs, ⟨B, b, s⟩, ⟨C, d, t⟩, rfl, e1, e2, e3, hE, hRa, hRb⟩ := h
 obtain ⟨z, es, s0, t0⟩ := g
 have a1 : es = hs.map egOf := e1
 have a2 : s = s0 := e2
 have a3 : t = t0 := e3
 have a4 : z = (n : Int) := hgn
 subst a2 a3 a4
 have hm : m = hs.length := by have : es.length = m := hgm; rw [← this, a1, List.length_map]
 obtain ⟨p, hp⟩ : ∃ p, p = s.length := ⟨_, rfl⟩
 obtain ⟨r, hr⟩ : ∃ r, r = t.length := ⟨_, rfl⟩
 change RdGr w (.agg #[.int .i64 (n : Int), .slice A hs.length c, .slice B s.length b, .slice C t.length d]) ((n : Int), es, s, t) at hG0
 show Calls Try.prog _ #[.agg #[.int .i64 (n : Int), .slice A hs.length c, .slice B s.length b, .slice C t.length d], .slice T n tc, .slice U m uc] w _
 rw [← hm, ← hp, ← hr] at hG0 ⊢
 obtain ⟨Gf, hGf⟩ : ∃ Gf, Gf = renG ((n : Int), es, s, t) ws el := ⟨_, rfl⟩
 rw [← hGf]
 obtain ⟨W, hW, bW, k0, k1⟩ := allocs2 w (.cells #[.int .i64 (n : Int), .slice A m c, .slice B p b, .slice C r d] tGr) (.cells #[.int .i64 0, .slice none 0 0, .slice none 0 0, .slice none 0 0] tGr)
 have hM := moved_any W (n : Int) T tc n ws (hG0.below bW) ok (ht.below bW) htn hin
 clear hE hRa hRb e1 e2 e3 hgn hG0 ok hin
 obtain ⟨⟨c0, c1, c2, c3⟩, f0, f1, f2, f3⟩ := t_box4 k0
 have hM_h := lH hM; have hm_h := lH hm; have hp_h := lH hp; have hr_h := lH hr; have a1_h := lH a1; have bW_h := lH bW; have k0_h := lH k0; have k1_h := lH k1; have ht_h := lH ht; have hu_h := lH hu; have htn_h := lH htn; have hel_h := lH hel; have hper_h := lH hper; have hGf_h := lH hGf; have hgm_h := lH hgm; clear hM hm hp hr a1 bW k0 k1 ht hu htn hel hper hGf hgm
 go_enter Try.func28, Try.ntmps28
 go_upto_region 1 with (fail)
 rw [← hW]
 clear hW
 go_wp2_with (fail)
 refine (hM_h.out).mono ?_
 rintro e w1 ⟨v1, fp1, rfl, hO1, hf1, hb1⟩
 obtain ⟨A1, q1, ms, ⟨X1, X2, X3⟩, ⟨Y1, Y2, Y3⟩, rfl, m1, m2, m3, hsl1, hLs1, rfl⟩ := hO1
 have hms : ms.map egOf = es.map (mapE ws) := m1.symm
 have hX3 : X3 = mapL ws s := m2
 have hY3 : Y3 = mapL ws t := m3
 subst hX3 hY3
 have hml : ms.length = m := by have := congrArg List.length hms; rw [List.length_map, List.length_map] at this; rw [this]; exact hgm_h.out
 simp only [mapL_length] at *
 rw [hml, ← hp_h.out, ← hr_h.out]
 have e0 : (mapG ws (n : Int) ((n : Int), es, s, t)).1 = (n : Int) := rfl
 rw [e0]
 clear m1 m2 m3 e0
 have k0a := t_box_below k0_h.out hb1
 have k1a := t_box_below k1_h.out hb1
 have hB1 := below_trans bW_h.out hb1 bW_h.out.size
 have hws := hb1.size
 rw [hml] at hsl1
 clear c0 c1 c2 c3 f0 f1 f2 f3
 obtain ⟨W3, hW3, bW3, k3⟩ := alloc_box1g w1 (.cells #[.int .i64 (n : Int), .slice A1 m q1, .slice X1 p X2, .slice Y1 r Y2] tGr)
 have k0b := t_box_below k0a bW3
 have k1b := t_box_below k1a bW3
 have hB3 := below_trans hB1 bW3 hB1.size
 have hsl3 := hsl1.below bW3
 have hLs3 := hLs1.below bW3
 have hlt1 : ∀ x, x ∈ fpA A1 ++ fpR (((X1, X2, mapL ws s) : Hd) :: (Y1, Y2, mapL ws t) :: eh ms) → W.heap.size ≤ x ∧ x < w1.heap.size := fun x hx => ⟨hf1 x hx, by
  rcases List.mem_append.1 hx with hx | hx
  · exact hsl1.lt x hx
  · exact hLs1.lt x hx⟩
 obtain ⟨⟨c0, c1, c2, c3⟩, f0, f1, f2, f3⟩ := t_box4 k3
 obtain ⟨⟨d0, d1, d2, d3⟩, g0, g1, g2, g3⟩ := t_box4 k0b
 clear k0a k1a hB1 hsl1 hLs1 hb1 hf1; have k3_h := lH k3; have k0b_h := lH k0b; have k1b_h := lH k1b; have hB3_h := lH hB3; have hsl3_h := lH hsl3; have hLs3_h := lH hLs3; have hlt1_h := lH hlt1; have hms_h := lH hms; have hml_h := lH hml; have bW3_h := lH bW3; clear k3 k0b k1b hB3 hsl3 hLs3 hlt1 hms hml bW3
 go_upto_region 2 with (fail)
 rw [← hW3]
 clear hW3
 go_cut [8] (fun sv wx => ∃ (bx : Nat) (G : Addr), sv = .pointer (some ⟨bx, 0, none⟩) ∧ wx.heap[bx]? = some (.cells #[.int .i64 (n : Int), .slice (some G) m m, .slice X1 p X2, .slice Y1 r Y2] tGr) ∧ Sl wx tEd 4 (some G) m m (ecs (List.replicate m eh0)) ∧ bx ≠ G.block ∧ W3.heap.size ≤ bx ∧ W3.heap.size ≤ G.block ∧ Below W3.heap.size W3 wx)
 case first =>
  refine beginH (fun w' => w'.heap[w1.heap.size]? = some (.cells #[.int .i64 (n : Int), .slice A1 m q1, .slice X1 p X2, .slice Y1 r Y2] tGr)) (by kernel_rfl) ?_
  have hbd : Below W3.heap.size W3 W3.drew := below_drew (Below.refl _ _)
  generalize W3.drew = W4 at hbd ⊢
  have k3d := t_box_below k3_h.out hbd
  have hlt3 := t_box_lt k3_h.out
  have hs4 := hbd.size
  have hbd_h := lH hbd; have k3d_h := lH k3d; clear hbd k3d; clear c0 c1 c2 c3 f0 f1 f2 f3 d0 d1 d2 d3 g0 g1 g2 g3
  refine tkH 0 ?_ rfl k3d_h.out (fun W' hW' => ?_) ?_; rotate_left; · (obtain ⟨⟨y0, y1, y2, y3⟩, y4, y5, y6, y7⟩ := t_box4 hW'; clear hW'; go_simp; first | done | with_reducible rfl)
  simp only [Act.put, nS]
  refine tkH 1 ?_ rfl k3d_h.out (fun W' hW' => ?_) ?_; rotate_left; · (obtain ⟨⟨y0, y1, y2, y3⟩, y4, y5, y6, y7⟩ := t_box4 hW'; clear hW'; go_simp; first | done | with_reducible rfl)
  simp only [Act.put, nS]
  refine tkH 2 ?_ rfl k3d_h.out (fun W' hW' => ?_) ?_; rotate_left; · (obtain ⟨⟨y0, y1, y2, y3⟩, y4, y5, y6, y7⟩ := t_box4 hW'; clear hW'; go_simp; first | done | with_reducible rfl)
  simp only [Act.put, nS]
  refine tkH 3 ?_ rfl k3d_h.out (fun W' hW' => ?_) ?_; rotate_left; · (obtain ⟨⟨y0, y1, y2, y3⟩, y4, y5, y6, y7⟩ := t_box4 hW'; clear hW'; go_simp; first | done | with_reducible rfl)
  simp only [Act.put, nS]
  refine tkH 4 ?_ rfl k3d_h.out (fun W' hW' => ?_) ?_; rotate_left; · (obtain ⟨⟨y0, y1, y2, y3⟩, y4, y5, y6, y7⟩ := t_box4 hW'; clear hW'; go_simp; first | done | with_reducible rfl)
  simp only [Act.put, nS]
  refine tkH 5 ?_ rfl k3d_h.out (fun W' hW' => ?_) ?_; rotate_left; · (obtain ⟨⟨y0, y1, y2, y3⟩, y4, y5, y6, y7⟩ := t_box4 hW'; clear hW'; go_simp; first | done | with_reducible rfl)
  simp only [Act.put, nS]
  refine tkH 6 ?_ rfl k3d_h.out (fun W' hW' => ?_) ?_; rotate_left; · (obtain ⟨⟨y0, y1, y2, y3⟩, y4, y5, y6, y7⟩ := t_box4 hW'; clear hW'; go_simp; first | done | with_reducible rfl)
  simp only [Act.put, nS]
  refine tkH 7 ?_ rfl k3d_h.out (fun W' hW' => ?_) ?_; rotate_left; · (obtain ⟨⟨y0, y1, y2, y3⟩, y4, y5, y6, y7⟩ := t_box4 hW'; clear hW'; go_simp; first | done | with_reducible rfl)
  simp only [Act.put, nS]
  refine tkH 8 ?_ rfl k3d_h.out (fun W' hW' => ?_) ?_; rotate_left; · (obtain ⟨⟨y0, y1, y2, y3⟩, y4, y5, y6, y7⟩ := t_box4 hW'; clear hW'; go_simp; first | done | with_reducible rfl)
  simp only [Act.put, nS]
  refine valOrH 9 11 (vi := .slice (some ⟨W4.heap.size, 0, none⟩) m m) (wi := W4.alloc (.cells (madeCells (Value.agg #[.int .i64 0, .int .i64 0, .slice none 0 0, .slice none 0 0]).cells (m * 4)) tEd)) (vj := ?vy) (wj := ?wy) rfl rfl (by kernel_rfl) (by rfl) (by rfl) ?hr1 ?hr2 ?hS1 ?h1 ?hS2 ?h2
  case hr1 => exact run_makeOp _ _ _ rfl tEd Try.underlying30 info_ed m rfl rfl (by omega) (by unfold maxLen; omega)
  case hr2 => (go_simp; first | done | with_reducible rfl | (constructor <;> with_reducible rfl))
  case hS1 => exact t_box_below k3d_h.out (t_below_alloc _ _)
  case h1 =>
   have hmk := made_edges W4 m (by unfold maxLen; omega)
   have bA := t_below_alloc W4 (.cells (madeCells (Value.agg #[.int .i64 0, .int .i64 0, .slice none 0 0, .slice none 0 0]).cells (m * 4)) tEd)
   have hzA : (W4.alloc (.cells (madeCells (Value.agg #[.int .i64 0, .int .i64 0, .slice none 0 0, .slice none 0 0]).cells (m * 4)) tEd)).heap.size = W4.heap.size + 1 := World.size_alloc _ _
   have kA := t_box_below k3d_h.out bA
   have hWA := below_trans hbd_h.out bA hbd_h.out.size
   generalize W4.alloc (.cells (madeCells (Value.agg #[.int .i64 0, .int .i64 0, .slice none 0 0, .slice none 0 0]).cells (m * 4)) tEd) = W5 at hmk bA hzA kA hWA ⊢
   obtain ⟨W6, hW6, bW6, k6⟩ := alloc_box1g W5 (.cells #[.int .i64 0, .slice none 0 0, .slice none 0 0, .slice none 0 0] tGr)
   have kB := t_box_below kA bW6
   obtain ⟨s1, s2⟩ := set4 (a := .int .i64 (n : Int)) (b := .slice (some ⟨W4.heap.size, 0, none⟩) m m) (c := .slice X1 p X2) (d := .slice Y1 r Y2) k6
   have kC := t_box_keeps kB s2 (by omega)
   have hmk6 := (hmk.below bW6).keeps s2 (fun x hx e => by simp at hx; omega)
   have hWf := below_keeps (below_trans hWA bW6 hWA.size) s2 (Nat.le_trans hWA.size bW6.size) (fun x hx => by omega)
   obtain ⟨⟨y0, y1, y2, y3⟩, y4, y5, y6, y7⟩ := t_box4 k6
   clear hmk bA hWA bW6 s2; have kA_h := lH kA; have kB_h := lH kB; have kC_h := lH kC; have s1_h := lH s1; have hmk6_h := lH hmk6; have hWf_h := lH hWf; have k6_h := lH k6; have hzA_h := lH hzA; clear kA kB kC s1 hmk6 hWf k6 hzA
   simp only [Act.put, nS]
   refine tkH 10 ?_ rfl kA_h.out (fun W' hW' => ?_) ?_; rotate_left; · (skip; clear hW'; go_simp; first | done | with_reducible rfl)
   simp only [Act.put, nS]
   refine oneH 11 rfl (by kernel_rfl) (by rfl) (fun K hK => ?_)
   go_simp
   rw [← hW6]
   refine hK _ _ kB_h.out ?_
   clear hK K hW6
   refine oneH 12 rfl (by kernel_rfl) (by rfl) (fun K hK => ?_)
   go_simp
   refine hK _ _ kC_h.out ?_
   clear hK K
   refine doneH (by kernel_rfl) ?_
   go_wp2_with (fail)
   go_meet
   exact ⟨_, ⟨W4.heap.size, 0, none⟩, rfl, s1_h.out, hmk6_h.out, by show W5.heap.size ≠ W4.heap.size; have := hzA_h.out; omega, by have := hzA_h.out; omega, by show W3.heap.size ≤ W4.heap.size; omega, hWf_h.out⟩
  case hS2 => exact t_box_below k3d_h.out (t_below_alloc _ _)
  case h2 =>
   have bA := t_below_alloc W4 (.cells #[.int .i64 0, .slice none 0 0, .slice none 0 0, .slice none 0 0] tGr)
   have kX := heap_alloc_new W4 (.cells #[.int .i64 0, .slice none 0 0, .slice none 0 0, .slice none 0 0] tGr)
   have hzA : (W4.alloc (.cells #[.int .i64 0, .slice none 0 0, .slice none 0 0, .slice none 0 0] tGr)).heap.size = W4.heap.size + 1 := World.size_alloc _ _
   have kA := t_box_below k3d_h.out bA
   have hWA := below_trans hbd_h.out bA hbd_h.out.size
   simp only [Act.put, nS]
   generalize W4.alloc (.cells #[.int .i64 0, .slice none 0 0, .slice none 0 0, .slice none 0 0] tGr) = W5 at bA kX hzA kA hWA ⊢
   have hmk := made_edges W5 m (by unfold maxLen; omega)
   have bB := t_below_alloc W5 (.cells (madeCells (Value.agg #[.int .i64 0, .int .i64 0, .slice none 0 0, .slice none 0 0]).cells (m * 4)) tEd)
   have kB := t_box_below kA bB
   have kY := t_box_below kX bB
   have hWB := below_trans hWA bB hWA.size
   refine runH 9 rfl (by kernel_rfl) (by rfl) (run_makeOp _ _ _ rfl tEd Try.underlying30 info_ed m rfl rfl (by omega) (by unfold maxLen; omega)) kB ?_
   generalize W5.alloc (.cells (madeCells (Value.agg #[.int .i64 0, .int .i64 0, .slice none 0 0, .slice none 0 0]).cells (m * 4)) tEd) = W6 at hmk bB kB kY hWB ⊢
   obtain ⟨s1, s2⟩ := set4 (a := .int .i64 (n : Int)) (b := .slice (some ⟨W5.heap.size, 0, none⟩) m m) (c := .slice X1 p X2) (d := .slice Y1 r Y2) kY
   have kC := t_box_keeps kB s2 (by omega)
   have hmk6 := hmk.keeps s2 (fun x hx e => by simp at hx; omega)
   have hWf := below_keeps hWB s2 hWB.size (fun x hx => by omega)
   obtain ⟨⟨y0, y1, y2, y3⟩, y4, y5, y6, y7⟩ := t_box4 kY
   clear hmk bA bB hWA hWB s2 kX; have kA_h := lH kA; have kB_h := lH kB; have kC_h := lH kC; have s1_h := lH s1; have hmk6_h := lH hmk6; have hWf_h := lH hWf; have kY_h := lH kY; have hzA_h := lH hzA; clear kA kB kC s1 hmk6 hWf kY hzA
   simp only [Act.put, nS]
   refine tkH 10 ?_ rfl kB_h.out (fun W' hW' => ?_) ?_; rotate_left; · (skip; clear hW'; go_simp; first | done | with_reducible rfl)
   simp only [Act.put, nS]
   refine oneH 12 rfl (by kernel_rfl) (by rfl) (fun K hK => ?_)
   go_simp
   refine hK _ _ kC_h.out ?_
   clear hK K
   refine doneH (by kernel_rfl) ?_
   go_wp2_with (fail)
   go_meet
   exact ⟨_, ⟨W5.heap.size, 0, none⟩, rfl, s1_h.out, hmk6_h.out, by show W4.heap.size ≠ W5.heap.size; have := hzA_h.out; omega, by omega, by show W3.heap.size ≤ W5.heap.size; have := hzA_h.out; omega, hWf_h.out⟩
 case rest =>
  obtain ⟨bx, G, rfl, kx, hslG, hne, hbx, hGb, hWc⟩ := hcut
  obtain ⟨w5, rfl⟩ : ∃ x, x = wc := ⟨_, rfl⟩
  have k3c := t_box_below k3_h.out hWc
  have hlt3 := t_box_lt k3_h.out
  clear c0 c1 c2 c3 f0 f1 f2 f3 d0 d1 d2 d3 g0 g1 g2 g3
  obtain ⟨⟨c0, c1, c2, c3⟩, f0, f1, f2, f3⟩ := t_box4 k3c
  have kx_h := lH kx; have hslG_h := lH hslG; have hWc_h := lH hWc; have k3c_h := lH k3c; have hne_h := lH hne; clear kx hslG hWc k3c hne
  go_wp2_with (fail)
  clear c0 c1 c2 c3 f0 f1 f2 f3
  go_loopw [30] (fun i wr => ∃ k : Nat, k ≤ m ∧ i = .int .i64 k ∧ wr.heap[bx]? = some (.cells #[.int .i64 (n : Int), .slice (some G) m m, .slice X1 p X2, .slice Y1 r Y2] tGr) ∧ Sl wr tEd 4 (some G) m m (ecs (lay eh0 el ms k)) ∧ Below W3.heap.size W3 wr) (fun i _ => m - (intOf i).toNat)
  case atStart => exact ⟨0, Nat.zero_le _, rfl, kx_h.out, by rw [lay, hml_h.out]; exact hslG_h.out, hWc_h.out⟩
  case round =>
   clear kx_h hslG_h hWc_h
   obtain ⟨k, hk, rfl, kx, hslG, hWr⟩ := hrel
   have hBr := below_trans hB3_h.out hWr hB3_h.out.size
   by_cases hlt : k < m
   · obtain ⟨⟨κ, vv, ⟨B1, b1, s1⟩, ⟨C1, b2, t1⟩⟩, hn⟩ : ∃ x, ms[k]? = some x := ⟨_, List.getElem?_eq_getElem (by rw [hml_h.out]; exact hlt)⟩
     obtain ⟨ad, hA, -, d0, d1, d2, d3⟩ : ∃ ad, A1 = some ad ∧ True ∧ wr.cell? (ad.add (k * 4)) = some (.int .i64 κ) ∧ wr.cell? ⟨(ad.add (k * 4)).block, (ad.add (k * 4)).off + 1, none⟩ = some (.int .i64 vv) ∧ wr.cell? ⟨(ad.add (k * 4)).block, (ad.add (k * 4)).off + 2, none⟩ = some (.slice B1 s1.length b1) ∧ wr.cell? ⟨(ad.add (k * 4)).block, (ad.add (k * 4)).off + 3, none⟩ = some (.slice C1 t1.length b2) := by
      have hs := hsl3_h.out.below hWr
      obtain ⟨i0, i1, i2, i3⟩ := ecs_get hn
      obtain ⟨ad, hA, _, x0, _⟩ := Sl.cell hs i0
      obtain ⟨ad1, h1, _, x1, _⟩ := Sl.cell hs i1
      obtain ⟨ad2, h2, _, x2, _⟩ := Sl.cell hs i2
      obtain ⟨ad3, h3, _, x3, _⟩ := Sl.cell hs i3
      rw [hA] at h1 h2 h3
      obtain rfl := Option.some.inj h1
      obtain rfl := Option.some.inj h2
      obtain rfl := Option.some.inj h3
      rw [add_next _ _ 1 (by omega)] at x1
      rw [add_next _ _ 2 (by omega)] at x2
      rw [add_next _ _ 3 (by omega)] at x3
      exact ⟨ad, hA, trivial, x0, x1, x2, x3⟩
     subst hA
     obtain ⟨ud, y, rfl, hy, hyc⟩ := (hu_h.out.below hBr).at_ (j := k) (by rw [hel_h.out]; exact hlt)
     have hyin := perm_in hper_h.out y (List.mem_of_getElem? hy)
     rw [hel_h.out] at hyin
     obtain ⟨q, rfl⟩ : ∃ q : Nat, y = (q : Int) := ⟨y.toNat, by omega⟩
     have hqm : q < m := by omega
     have hlst : lay eh0 el ms (k + 1) = (lay eh0 el ms k).set q (κ, vv, (B1, b1, s1), (C1, b2, t1)) := by
      have e1 : el.getD k 0 = (q : Int) := by simp [List.getD, hy]
      have e2 : ms.getD k eh0 = (κ, vv, (B1, b1, s1), (C1, b2, t1)) := by simp [List.getD, hn]
      rw [lay, e1, e2]; rfl
     obtain ⟨p1, hp1⟩ : ∃ p1, p1 = s1.length := ⟨_, rfl⟩
     obtain ⟨r1, hr1'⟩ : ∃ r1, r1 = t1.length := ⟨_, rfl⟩
     obtain ⟨wo, rfl⟩ : ∃ x, x = wr := ⟨_, rfl⟩
     obtain ⟨W6, hW6, bW6, k6⟩ := alloc_box1g wo (.cells #[.int .i64 κ, .int .i64 vv, .slice B1 p1 b1, .slice C1 r1 b2] tEd)
     have kx6 := t_box_below kx bW6
     have hsl6 := hslG.below bW6
     have hW6b := below_trans hWr bW6 hWr.size
     have hGl := hslG.lt G.block (by simp)
     have hlen : (lay eh0 el ms k).length = m := by rw [lay_length, hml_h.out]
     have hud := (hu_h.out.below (below_trans hB3_h.out hW6b hB3_h.out.size))
     have hkI : (k : Int) < (m : Int) := by omega
     have hqI : (q : Int) < (m : Int) := by omega
     have hyc6 : W6.cell? (ud.add k) = some (.int .i64 (q : Int)) := (bW6.cell (World.block_lt_of_cell? _ _ hyc)).trans hyc
     rw [← hp1] at d2
     rw [← hr1'] at d3
     have hr1_h := lH hr1'
     have hxl := t_box_lt kx
     clear hr1' hyin hWr hBr kx hslG hud; have hp1_h := lH hp1; have bW6_h := lH bW6; have k6_h := lH k6; have kx6_h := lH kx6; have hsl6_h := lH hsl6; have hW6b_h := lH hW6b; have hlst_h := lH hlst; have hlen_h := lH hlen; have hy_h := lH hy; have hn_h := lH hn; have hyc6_h := lH hyc6; clear hp1 bW6 k6 kx6 hsl6 hW6b hlst hlen hy hn hyc6
     go_upto_region 6 with (fail)
     rw [← hW6]
     clear hW6 d0 d1 d2 d3 hyc
     refine beginH (fun w' => w'.heap[bx]? = some (.cells #[.int .i64 (n : Int), .slice (some G) m m, .slice X1 p X2, .slice Y1 r Y2] tGr) ∧ w'.heap[wo.heap.size]? = some (.cells #[.int .i64 κ, .int .i64 vv, .slice B1 p1 b1, .slice C1 r1 b2] tEd) ∧ w'.cell? (ud.add k) = some (.int .i64 (q : Int))) (by kernel_rfl) ?_
     have hbd : Below W6.heap.size W6 W6.drew := below_drew (Below.refl _ _)
     generalize W6.drew = W7 at hbd ⊢
     have hF := And.intro (t_box_below kx6_h.out hbd) (And.intro (t_box_below k6_h.out hbd) ((hbd.cell (World.block_lt_of_cell? _ _ hyc6_h.out)).trans hyc6_h.out))
     have hsl7 := hsl6_h.out.below hbd
     have hW7b := below_trans hW6b_h.out hbd hW6b_h.out.size
     obtain ⟨⟨⟨x0, e0⟩, g0⟩, ⟨⟨x1, e1⟩, g1⟩, ⟨⟨x2, e2⟩, g2⟩, ⟨x3, e3⟩, g3⟩ := ES.mid hsl7 hlen_h.out (j := q) κ vv (.slice B1 p1 b1) hqm
     obtain ⟨hset, hks⟩ := ES.set hsl7 hlen_h.out (ad := G) rfl (j := q) κ vv B1 C1 b1 b2 s1 t1 hqm
     rw [← hlst_h.out, ← hp1_h.out, ← hr1_h.out] at hset
     rw [← hp1_h.out, ← hr1_h.out] at hks
     have hudG : ud.block ≠ G.block := by
      have h1 := World.block_lt_of_cell? w _ ((hu_h.out) k (q : Int) hy_h.out |>.choose_spec.2)
      obtain ⟨ud', hu1, hu2⟩ := hu_h.out k (q : Int) hy_h.out
      obtain rfl := Option.some.inj hu1
      have h2 := World.block_lt_of_cell? w _ hu2
      rw [block_of_add] at h2
      have := hB3_h.out.size
      omega
     have hF2 := And.intro (t_box_keeps hF.1 hks (by simp only [fpA_some, List.mem_singleton]; exact hne_h.out)) (And.intro (t_box_keeps hF.2.1 hks (by simp only [fpA_some, List.mem_singleton]; omega)) ((World.cell?_of_block (hks.block _ (World.block_lt_of_cell? _ _ hF.2.2) (by rw [block_of_add]; simp only [fpA_some, List.mem_singleton]; exact hudG))).trans hF.2.2))
     have hW8b := below_keeps hW7b hks hW7b.size (fun x hx => by simp at hx; omega)
     clear hbd hsl7 hW7b hks; have hF_h := lH hF; have hF2_h := lH hF2; have hset_h := lH hset; have hW8b_h := lH hW8b; have hudG_h := lH hudG; clear hF hF2 hset hW8b hudG
     refine tkH 0 ?_ rfl hF_h.out (fun W' hW' => ?_) ?_; rotate_left; · (obtain ⟨⟨y0, y1, y2, y3⟩, y4, y5, y6, y7⟩ := t_box4 hW'.1; obtain ⟨⟨z0, z1, z2, z3⟩, z4, z5, z6, z7⟩ := t_box4 hW'.2.1; have z8 := hW'.2.2; clear hW'; go_simp; first | done | with_reducible rfl)
     simp only [Act.put, nS]
     refine tkH 1 ?_ rfl hF_h.out (fun W' hW' => ?_) ?_; rotate_left; · (obtain ⟨⟨y0, y1, y2, y3⟩, y4, y5, y6, y7⟩ := t_box4 hW'.1; obtain ⟨⟨z0, z1, z2, z3⟩, z4, z5, z6, z7⟩ := t_box4 hW'.2.1; have z8 := hW'.2.2; clear hW'; go_simp; first | done | with_reducible rfl)
     simp only [Act.put, nS]
     refine tkH 2 ?_ rfl hF_h.out (fun W' hW' => ?_) ?_; rotate_left; · (obtain ⟨⟨y0, y1, y2, y3⟩, y4, y5, y6, y7⟩ := t_box4 hW'.1; obtain ⟨⟨z0, z1, z2, z3⟩, z4, z5, z6, z7⟩ := t_box4 hW'.2.1; have z8 := hW'.2.2; clear hW'; go_simp; first | done | with_reducible rfl)
     simp only [Act.put, nS]
     refine tkH 3 ?_ rfl hF_h.out (fun W' hW' => ?_) ?_; rotate_left; · (obtain ⟨⟨y0, y1, y2, y3⟩, y4, y5, y6, y7⟩ := t_box4 hW'.1; obtain ⟨⟨z0, z1, z2, z3⟩, z4, z5, z6, z7⟩ := t_box4 hW'.2.1; have z8 := hW'.2.2; clear hW'; go_simp; first | done | with_reducible rfl)
     simp only [Act.put, nS]
     refine tkH 4 ?_ rfl hF_h.out (fun W' hW' => ?_) ?_; rotate_left; · (obtain ⟨⟨y0, y1, y2, y3⟩, y4, y5, y6, y7⟩ := t_box4 hW'.1; obtain ⟨⟨z0, z1, z2, z3⟩, z4, z5, z6, z7⟩ := t_box4 hW'.2.1; have z8 := hW'.2.2; clear hW'; go_simp; first | done | with_reducible rfl)
     simp only [Act.put, nS]
     refine tkH 5 ?_ rfl hF_h.out (fun W' hW' => ?_) ?_; rotate_left; · (obtain ⟨⟨y0, y1, y2, y3⟩, y4, y5, y6, y7⟩ := t_box4 hW'.1; obtain ⟨⟨z0, z1, z2, z3⟩, z4, z5, z6, z7⟩ := t_box4 hW'.2.1; have z8 := hW'.2.2; clear hW'; go_simp; first | done | with_reducible rfl)
     simp only [Act.put, nS]
     refine tkH 6 ?_ rfl hF_h.out (fun W' hW' => ?_) ?_; rotate_left; · (obtain ⟨⟨y0, y1, y2, y3⟩, y4, y5, y6, y7⟩ := t_box4 hW'.1; obtain ⟨⟨z0, z1, z2, z3⟩, z4, z5, z6, z7⟩ := t_box4 hW'.2.1; have z8 := hW'.2.2; clear hW'; go_simp; first | done | with_reducible rfl)
     simp only [Act.put, nS]
     refine tkH 7 ?_ rfl hF_h.out (fun W' hW' => ?_) ?_; rotate_left; · (skip; clear hW'; go_simp; first | done | with_reducible rfl)
     simp only [Act.put, nS]
     refine oneH 8 rfl (by kernel_rfl) (by rfl) (fun K hK => ?_)
     go_simp
     refine hK _ _ hF2_h.out ?_
     clear hK K
     refine doneH (by kernel_rfl) ?_
     go_wp2_with (fail)
     go_roundw
     case rel => exact ⟨k + 1, by omega, by go_num, hF2_h.out.1, hset_h.out, hW8b_h.out⟩
     case measure => simp [intOf]; omega
   · obtain rfl : m = k := by omega
     have k1r := t_box_below k1b_h.out hWr
     obtain ⟨t1', t2'⟩ := set4 (a := .int .i64 (n : Int)) (b := .slice (some G) m m) (c := .slice X1 p X2) (d := .slice Y1 r Y2) k1r
     have hk1W := t_box_lt k1_h.out
     have hLsr := hLs3_h.out.below hWr
     have hw13 := bW3_h.out.size
     have hLsG : OwLs wr (fpA (some G)) ((X1, X2, mapL ws s) :: (Y1, Y2, mapL ws t) :: eh ms) := ⟨hLsr.rows, hLsr.apart, fun x hx b hb hb' => by
      have h1 := (hlt1_h.out b (List.mem_append_right _ (mem_fpR.2 ⟨x, hx, hb⟩))).2
      simp at hb'; omega⟩
     have hsl2 := hslG.keeps t2' (fun x hx e => by simp at hx; omega)
     have hLs2 := hLsG.keeps t2' (fun x hx e => by have := (hlt1_h.out x (List.mem_append_right _ hx)).1; omega)
     have hB9 := below_keeps hBr t2' hBr.size (fun x hx => by omega)
     have hOw := ren_ow (g := ((n : Int), es, s, t)) (ws := ws) (X := (X1, X2, mapL ws s)) (Y := (Y1, Y2, mapL ws t)) hms_h.out hml_h.out hel_h.out hper_h.out rfl rfl rfl hsl2 hLs2
     simp only [mapL_length] at hOw
     rw [← hp_h.out, ← hr_h.out, ← hGf_h.out] at hOw
     have hfw : FreshL w.heap.size (fpA (some G) ++ fpR (((X1, X2, mapL ws s) : Hd) :: (Y1, Y2, mapL ws t) :: eh (lay eh0 el ms m))) := fun x hx => by
      have hwW := bW_h.out.size
      rcases List.mem_append.1 hx with hx | hx
      · simp at hx; have := hB3_h.out.size; omega
      · have := (hlt1_h.out x (List.mem_append_right _ (ren_fp hml_h.out hel_h.out hper_h.out hx))).1; omega
     obtain ⟨⟨c0, c1, c2, c3⟩, f0, f1, f2, f3⟩ := t_box4 kx
     obtain ⟨⟨d0, d1, d2, d3⟩, g0, g1, g2, g3⟩ := t_box4 k1r
     clear hslG hLsr hLsG t2' k1r kx hWr hBr hsl2 hLs2; have t1'_h := lH t1'; have hB9_h := lH hB9; have hfw_h := lH hfw; have hOw_h := lH hOw; clear t1' hB9 hfw hOw
     go_wp2_with (fail)
     refine bodyPost_ret (results_cell_row rfl _ _ (w.heap.size + 1) _ _ (0, 0) _ rfl t1'_h.out Try.underlying32 rfl (by kernel_rfl)) rfl ?_
     exact ⟨_, _, rfl, hOw_h.out, hfw_h.out, hB9_h.out⟩
theorem drop_of {α : Type} {l : List α} {k : Nat} {x : α} (h : l[k]? = some x) : l.drop k = x :: l.drop (k + 1) := by
 have hl := (List.getElem?_eq_some_iff.1 h).1
 rw [List.drop_eq_getElem_cons hl, (List.getElem?_eq_some_iff.1 h).2]
theorem RdI.below' {w w' : World} {A : Option Addr} {l : List Int} (h : RdI w A l) (hb : Below w.heap.size w w') : RdI w' A l := h.below hb
set_option maxRecDepth 8000 in
set_option maxHeartbeats 2000000 in
theorem isPermutation_any (A : Option Addr) (c : Nat) (l : List Int) (w : World) (h : RdI w A l) (hl : l.length ≤ 1048576) :
  Calls Try.prog 66 #[.slice A l.length c, .int .i64 l.length] w fun e w' => e = .returned (.bool (permB l)) ∧ Below w.heap.size w w' := by
 obtain ⟨m, hm⟩ : ∃ m, m = l.length := ⟨_, rfl⟩
 obtain ⟨T, hT⟩ : ∃ T, T = permB l := ⟨_, rfl⟩
 rw [← hm] at hl ⊢
 rw [← hT]
 have hm_h := lH hm; have hT_h := lH hT; clear hm hT
 go_enter Try.func66, Try.ntmps66
 go_wp2_with (at_make; refine wpList_make_Sl _ rfl _ _ _ rfl tBool Try.underlying73 info_bool m m rfl rfl rfl rfl (Nat.le_refl _) (by omega) (by unfold maxLen; omega) ?_; intro G w1 hs hG hb1)
 have hs0 : Sl w1 tBool 1 (some G) m m (bls (List.replicate m false)) := by
  have e : (madeCells (Value.bool false).cells (m * 1)).toList.take (m * 1) = bls (List.replicate m false) := by
   rw [Nat.mul_one]; simp [Value.cells, toList_madeCells_one, bls]
  rw [← e]; exact hs
 have hp0 : permGo (l.drop 0) (List.replicate m false) = T := by rw [hT_h.out, hm_h.out]; rfl
 clear hs; have hs0_h := lH hs0; have hp0_h := lH hp0; have hb1_h := lH hb1; clear hs0 hp0 hb1
 go_loopw [16] (fun iv wr => ∃ (k : Nat) (seen : List Bool), k ≤ m ∧ iv = .int .i64 k ∧ seen.length = m ∧ Sl wr tBool 1 (some G) m m (bls seen) ∧ permGo (l.drop k) seen = T ∧ Below w.heap.size w wr) (fun iv _ => m - (intOf iv).toNat)
 case atStart => exact ⟨0, _, Nat.zero_le _, rfl, by simp, hs0_h.out, hp0_h.out, hb1_h.out⟩
 case round =>
  obtain ⟨k, seen, hk, rfl, hsl, hS, hp, hB⟩ := hrel
  clear hs0_h hp0_h
  by_cases hlt : k < m
  · obtain ⟨ad, x, rfl, hx, hc⟩ := (h.below' hB).at_ (j := k) (by rw [← hm_h.out]; exact hlt)
    have hkI : (k : Int) < (m : Int) := by omega
    rw [drop_of hx] at hp
    unfold permGo at hp
    by_cases hin : 0 ≤ x ∧ x ≤ (m : Int) - 1
    · obtain ⟨j, rfl⟩ : ∃ j : Nat, x = (j : Int) := ⟨x.toNat, by omega⟩
      have hI : t_inB (j : Int) 0 ((m : Int) - 1) = true := decide_eq_true hin
      have hjm : j < m := by omega
      obtain ⟨b, hb⟩ : ∃ b, seen[j]? = some b := ⟨_, List.getElem?_eq_getElem (by omega)⟩
      obtain ⟨ad2, e2, -, y0, y1⟩ := Sl.cell hS (bls_get hb)
      obtain rfl := Option.some.inj e2
      have hgd : seen.getD j true = b := by simp [List.getD, hb]
      have hj0 : (0 : Int) ≤ (j : Int) := by omega
      have hjc : (j : Int) < (m : Int) := by omega
      cases b
      · rw [if_pos ⟨by omega, by omega, by simpa using hgd⟩, Int.toNat_natCast] at hp
        have hset := Sl.set hS rfl j (.bool true) (by simp [bls]; omega)
        rw [bls_set] at hset
        have hks : Keeps (fun b => b = G.block) wr (wr.setCell (G.add j) (.bool true)) := Keeps.setCell (S := fun b => b = G.block) (Keeps.refl _ wr) (p := G.add j) (by rw [block_of_add]) _
        have hB2 := below_keeps hB hks hB.size (fun b hb => by omega)
        have hx_h := lH hx; have hp_h := lH hp; have hset_h := lH hset; have hks_h := lH hks; have hB2_h := lH hB2; have hB_h := lH hB; have hS_h := lH hS; have hb_h := lH hb; have hgd_h := lH hgd; have hsl_h := lH hsl; clear hx hp hset hks hB2 hB hS hb hgd hsl
        go_wp2_with (fail)
        refine (t_within_any _ _ _ _).mono ?_
        rintro e w' ⟨rfl, rfl⟩
        rw [hI]
        go_wp2_with (fail)
        go_roundw
        case rel => exact ⟨k + 1, _, by omega, by go_num, by simp [hsl_h.out], hset_h.out, hp_h.out, hB2_h.out⟩
        case measure => simp [intOf]; omega
      · rw [if_neg (fun hh => by have := hh.2.2; rw [Int.toNat_natCast, hgd] at this; cases this)] at hp
        obtain rfl : T = false := hp.symm
        have hx_h := lH hx; have hp_h := lH hp; have hB_h := lH hB; have hS_h := lH hS; have hb_h := lH hb; have hgd_h := lH hgd; have hsl_h := lH hsl; clear hx hp hB hS hb hgd hsl
        go_wp2_with (fail)
        refine (t_within_any _ _ _ _).mono ?_
        rintro e w' ⟨rfl, rfl⟩
        rw [hI]
        go_wp2_with (fail)
        go_ret
        exact ⟨rfl, hB_h.out⟩
    · have hI : t_inB x 0 ((m : Int) - 1) = false := decide_eq_false hin
      rw [if_neg (fun hh => hin ⟨hh.1, by have := hh.2.1; omega⟩)] at hp
      obtain rfl : T = false := hp.symm
      have hx_h := lH hx; have hp_h := lH hp; have hB_h := lH hB; have hS_h := lH hS; have hsl_h := lH hsl; clear hx hp hB hS hsl
      go_wp2_with (fail)
      refine (t_within_any _ _ _ _).mono ?_
      rintro e w' ⟨rfl, rfl⟩
      rw [hI]
      go_wp2_with (fail)
      go_ret
      exact ⟨rfl, hB_h.out⟩
  · obtain rfl : k = m := by omega
    rw [List.drop_of_length_le (by rw [← hm_h.out]; exact Nat.le_refl _)] at hp
    obtain rfl : T = true := hp.symm
    have hp_h := lH hp; have hB_h := lH hB; have hS_h := lH hS; have hsl_h := lH hsl; clear hp hB hS hsl
    go_wp2_with (fail)
    go_ret
    exact ⟨rfl, hB_h.out⟩
set_option maxRecDepth 8000 in
theorem isPermN_any (A : Option Addr) (c : Nat) (n : Int) (l : List Int) (w : World) (h : RdI w A l) (hl : l.length ≤ 1048576) :
  Calls Try.prog 66 #[.slice A l.length c, .int .i64 n] w fun e w' => e = .returned (.bool (prmN n l)) ∧ Below w.heap.size w w' := by
 by_cases hn : (l.length : Int) = n
 · subst hn
   have : prmN (l.length : Int) l = permB l := by simp [prmN]
   rw [this]
   exact isPermutation_any A c l w h hl
 · have : prmN n l = false := by simp [prmN, hn]
   rw [this]
   go_enter Try.func66, Try.ntmps66
   go_wp2_with (fail)
   go_ret
   exact ⟨rfl, Below.refl _ _⟩
abbrev g0 : Gr := (0, [], [], [])
theorem grB_parts {g : Gr} (h : grB g = true) : ∃ n : Nat, g.1 = (n : Int) ∧ n ≤ 100 ∧ g.2.1.length ≤ 60 ∧ g.2.2.1.length ≤ 12 ∧ g.2.2.2.length ≤ 12 ∧ inW (n : Int) (t_allW g) = true := by
 unfold grB at h
 simp only [Bool.and_eq_true, decide_eq_true_eq] at h
 obtain ⟨⟨h1, h2, h3, h4⟩, _, h6, _⟩ := h
 have h1' : 0 ≤ g.1 ∧ g.1 ≤ 100 := of_decide_eq_true h1
 refine ⟨g.1.toNat, by omega, by omega, h2, h3, h4, ?_⟩
 rw [show ((g.1.toNat : Nat) : Int) = g.1 by omega]; exact h6
theorem prmN_parts {n : Int} {l : List Int} (h : prmN n l = true) : (l.length : Int) = n ∧ permB l = true := by
 unfold prmN at h
 rw [Bool.and_eq_true, decide_eq_true_eq] at h
 exact h
theorem cntE_perm {l m : List Eg} (h : l.Perm m) : cntE l = cntE m := by
 induction h with
 | nil => rfl
 | cons x _ ih => simp [cntE, ih]
 | swap x y _ => simp [cntE]; omega
 | trans _ _ h1 h2 => exact h1.trans h2
theorem cntE_map (ws : List Int) (l : List Eg) : cntE (l.map (mapE ws)) = cntE l := by
 induction l with
 | nil => rfl
 | cons x r ih => simp [cntE, mapE, ih]
theorem renG_ok {g : Gr} {ws es : List Int} (ok : OkG g) (hp : permB es = true) (hl : es.length = g.2.1.length) : OkG (renG g ws es) := by
 have hpm : (lay eg0 es (g.2.1.map (mapE ws)) g.2.1.length).Perm (g.2.1.map (mapE ws)) := by
  have := lay_all (d := eg0) (xs := g.2.1.map (mapE ws)) hp (by simpa using hl)
  simpa using this
 obtain ⟨⟨o1, o2, o3⟩, o4, o5⟩ := ok
 refine ⟨⟨?_, ?_, ?_⟩, fun e he => ?_, ?_⟩
 · show (lay eg0 es (g.2.1.map (mapE ws)) g.2.1.length).length ≤ _
   rw [hpm.length_eq, List.length_map]; exact o1
 · show (mapL ws g.2.2.1).length ≤ _
   rw [mapL_length]; exact o2
 · show (mapL ws g.2.2.2).length ≤ _
   rw [mapL_length]; exact o3
 · have he' : e ∈ g.2.1.map (mapE ws) := hpm.mem_iff.1 he
   obtain ⟨x, hx, rfl⟩ := List.mem_map.1 he'
   simp only [mapE, mapL_length]
   exact o4 x hx
 · show cntE (lay eg0 es (g.2.1.map (mapE ws)) g.2.1.length) + (mapL ws g.2.2.1).length + (mapL ws g.2.2.2).length ≤ _
   rw [cntE_perm hpm, cntE_map, mapL_length, mapL_length]; exact o5
theorem g0_ok : OkG ((0, [], [], []) : Gr) := ⟨⟨Nat.zero_le _, Nat.zero_le _, Nat.zero_le _⟩, fun e he => (by cases he), by simp [cntG, cntE]⟩
theorem cnt_one (n : Nat) (l : List Int) : ((cntM n l).all fun x => t_inB x 1 1) = (cntM n l).all fun c => decide (c = 1) := by
 congr 1
 funext x
 unfold t_inB
 exact decide_eq_decide.2 ⟨fun h => by omega, fun h => by omega⟩
theorem cntM_len (n : Nat) (l : List Int) : (cntM n l).length = n := by simp [cntM]
set_option maxRecDepth 100000 in
set_option maxHeartbeats 4000000 in
theorem hgMono_any {v : Value} {g : Gr} (w : World) (n : Nat) (h : RdGr w v g) (ok : OkG g) (hgn : g.1 = (n : Int)) (hnb : n ≤ 1048576) (hin : inW (n : Int) (t_allW g) = true) :
  Calls Try.prog 50 #[v] w fun e w' => e = .returned (.bool (prmN g.1 (orgW g) && prmN g.1 (dstW g))) ∧ Below w.heap.size w w' := by
 obtain ⟨T1, hT1⟩ : ∃ T, T = prmN g.1 (orgW g) := ⟨_, rfl⟩
 obtain ⟨T2, hT2⟩ : ∃ T, T = prmN g.1 (dstW g) := ⟨_, rfl⟩
 rw [← hT1, ← hT2]
 have hm := fun x (hx : x ∈ t_allW g) => inW_iff.1 hin x hx
 rw [hgn, prmN_counts (fun k hk => hm k (mem_allW.2 (.inl hk))), ← cnt_one] at hT1
 rw [hgn, prmN_counts (fun k hk => hm k (mem_allW.2 (.inr hk))), ← cnt_one] at hT2
 obtain ⟨A, n0, c, B, m0, d, C, k0', e0, rfl⟩ := h.shape
 obtain ⟨z, hz⟩ : ∃ z, z = g.1 := ⟨_, rfl⟩
 rw [← hz] at h ⊢
 obtain ⟨W, hW, bW, k0⟩ := (⟨_, rfl, t_below_alloc _ _, heap_alloc_new _ _⟩ : ∃ W, W = w.alloc (.cells #[.int .i64 z, .slice A n0 c, .slice B m0 d, .slice C k0' e0] tGr) ∧ Below w.heap.size w W ∧ W.heap[w.heap.size]? = some (.cells #[.int .i64 z, .slice A n0 c, .slice B m0 d, .slice C k0' e0] tGr))
 have hC := hgCounts_any W n (h.below bW) ok hgn hnb hin
 obtain ⟨X, hX⟩ : ∃ X, X = cntM n (orgW g) := ⟨_, rfl⟩
 obtain ⟨Y, hY⟩ : ∃ Y, Y = cntM n (dstW g) := ⟨_, rfl⟩
 have hXl : X.length = n := by rw [hX, cntM_len]
 have hYl : Y.length = n := by rw [hY, cntM_len]
 rw [← hX] at hC hT1
 rw [← hY] at hC hT2
 obtain ⟨⟨c0, c1, c2, c3⟩, f0, f1, f2, f3⟩ := t_box4 k0
 clear hm hz hX hY h ok hgn hin; have bW_h := lH bW; have k0_h := lH k0; have hC_h := lH hC; have hT1_h := lH hT1; have hT2_h := lH hT2; have hXl_h := lH hXl; have hYl_h := lH hYl; clear bW k0 hC hT1 hT2 hXl hYl
 go_enter Try.func50, Try.ntmps50
 go_upto_region 1 with (fail)
 rw [← hW]
 clear hW
 go_wp2_with (fail)
 refine (hC_h.out).mono ?_
 rintro e w1 ⟨A1, B1, a1, b1, rfl, hI, hJ, -, -, hb1⟩
 have hB := below_trans bW_h.out hb1 bW_h.out.size
 have hA1 := t_l1All_any A1 a1 n X 1 1 w1 hI.rd hXl_h.out (by omega)
 have hA2 := t_l1All_any B1 b1 n Y 1 1 w1 hJ.rd hYl_h.out (by omega)
 rw [← hT1_h.out] at hA1
 rw [← hT2_h.out] at hA2
 clear hI hJ hb1; have hB_h := lH hB; have hA1_h := lH hA1; have hA2_h := lH hA2; clear hB hA1 hA2
 go_wp2_with (fail)
 refine (hA1_h.out).mono ?_
 rintro e w2 ⟨rfl, rfl⟩
 cases T1
 case false =>
  go_wp2_with (fail)
  go_ret
  exact ⟨rfl, hB_h.out⟩
 case true =>
  go_wp2_with (fail)
  refine (hA2_h.out).mono ?_
  rintro e w3 ⟨rfl, rfl⟩
  go_wp2_with (fail)
  go_ret
  exact ⟨by cases T2 <;> rfl, hB_h.out⟩
set_option maxHeartbeats 1000000 in
theorem occursOnce_any (n : Int) (A : Option Addr) (c m : Nat) (hs : List Hd) (L : List Int) (w : World) (h : RdR w A hs) (hm : hs.length = m) (hl : m ≤ 1048576) (hL : (hs.map fun h : Hd => h.2.2).flatten = L) (hN : L.length ≤ 1048576) :
  Calls Try.prog 53 #[.int .i64 n, .slice A m c] w fun e w' => e = .returned (.bool (prmN n L)) ∧ Below w.heap.size w w' := by
 have hJ := joined_any A c hs w h (by rw [hm]; exact hl) (by rw [hL]; exact hN)
 rw [hm, hL] at hJ
 unfold RetI at hJ
 obtain ⟨q, hq⟩ : ∃ q, q = L.length := ⟨_, rfl⟩
 rw [← hq] at hJ
 obtain ⟨T, hT⟩ : ∃ T, T = prmN n L := ⟨_, rfl⟩
 rw [← hT]
 clear h hm hL; have hJ_h := lH hJ; have hq_h := lH hq; have hT_h := lH hT; clear hJ hq hT
 go_enter Try.func53, Try.ntmps53
 go_wp2_with (fail)
 refine (hJ_h.out).mono ?_
 rintro e w1 ⟨A1, c1, rfl, hI, hF, hb1⟩
 have hP := isPermN_any A1 c1 n L w1 hI.rd hN
 rw [← hq_h.out, ← hT_h.out] at hP
 clear hI hF; have hP_h := lH hP; have hb1_h := lH hb1; clear hP hb1
 go_wp2_with (fail)
 refine (hP_h.out).mono ?_
 rintro e w2 ⟨rfl, hb2⟩
 have hB := below_trans hb1_h.out hb2 hb1_h.out.size
 clear hb2; have hB_h := lH hB; clear hB
 go_wp2_with (fail)
 go_ret
 exact ⟨rfl, hB_h.out⟩
end Go.Proofs.Ytpkmjenoniedjaa
