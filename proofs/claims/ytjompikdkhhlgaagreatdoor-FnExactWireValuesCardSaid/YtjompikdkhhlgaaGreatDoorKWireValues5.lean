/-
  What the texts above it need, part 5.
-/
import Derived.Test.YtjompikdkhhlgaaGreatDoorKWireValues4
import Derived.Deep.DeepCutAuto
import Derived.LoopN
import Derived.Deep.QuietTactic
import Derived.BigQuiet
import Derived.RangeFuncNested
import Derived.RangeFuncBound
import Derived.RangeFuncCalls
import Derived.RangeFuncLeaves
import Derived.RangeFuncBox
import Derived.Shelf.Abstract
import Derived.Shelf.RegionOpen
import Derived.OwnWalkIn
import Derived.TacticsInMore
import Derived.LoopNIn
import Derived.LoopIn
namespace Go.Proofs.YtjompikdkhhlgaaGreatDoor
open Go.RowKit
section
variable {P : Program} {l : List Oper} {Q : Exit → Act → World → Prop} {md : Region.Mode} {S : World → Prop}
theorem orCallH (i j : Nat) {oi oj : Oper} {f : FuncId} {args : Array Value} {vj : Value} {wj : World} {fuel : Nat} {listed : Array Bool} {a : Act} {w : World} {li lj : List Oper} (hdi : l.drop i = oi :: li) (hdj : l.drop j = oj :: lj)
  (hr : Region.ready md l.toArray listed = [j, i]) (hwi : Region.wanted oi (yielded l.toArray a.tmps) = true) (hwj : Region.wanted oj (yielded l.toArray a.tmps) = true)
  (hrun : (execOp a.eval oi).run P w = .ok (.enter f args) w) (hrunj : (execOp a.eval oj).run P w = .ok (.value vj) wj)
  (h1 : Calls P f args w fun e w' => ∃ v, e = .returned v ∧ S w' ∧ wpAnyH P md l.toArray Q S fuel (listed.setIfInBounds i true) (a.put oi.dst v) w')
  (hSj : S wj) (h2 : wpAnyH P md l.toArray Q S fuel (listed.setIfInBounds j true) (a.put oj.dst vj) wj) : wpAnyH P md l.toArray Q S (fuel + 1) listed a w := by
 refine wpAnyH_all hr (by simp) fun k hk => ?_
 have hk' : k = j ∨ k = i := by simpa using hk
 rcases hk' with rfl | rfl
 · unfold wpOp
   simp only [at_drop hdj, hwj, if_true]
   refine .inl ?_
   unfold Oper.wp
   rw [hrunj]
   exact ⟨hSj, h2⟩
 · unfold wpOp
   simp only [at_drop hdi, hwi, if_true]
   refine .inl ?_
   unfold Oper.wp
   rw [hrun]
   exact h1.mono fun e w' ⟨v, he, a1, a2⟩ => by subst he; exact ⟨a1, a2⟩
end
theorem slv_lead {p : Int} {m n : Nat} {M : List (List Int)} (hp : fieldB p = true) (hm : Mat p m n M) {i : Nat} (hi : i < (redTo p M (idM m) n).1) : leadV ((redTo p M (idM m) n).2.1.getD i []) < n := by
 obtain ⟨ld, hR⟩ := redTo_inv hp hm (idM m) n (Nat.le_refl _)
 have hred := hR.inv.red
 have hrk := hR.inv.le
 have := leadV_eq (v := (redTo p M (idM m) n).2.1.getD i []) (c := ld i) (by rw [(hR.mat.get (i := i) (by omega)).1]; exact hred.lt i hi) (by
  have := hred.one i hi
  unfold en at this
  rw [this]; decide) fun j hj => hred.before i j hi hj
 rw [this]
 exact hred.lt i hi
theorem addT_neg2 (p c : Int) (v w : List Int) : addT p v (-(-c % p)) w = addT p v c w := by
 unfold addT
 refine List.map_congr_left fun i _ => ?_
 split
 · have e : -(-c % p) = c + p * (-c / p) := by
    have h := Int.emod_def (-c) p
    generalize p * (-c / p) = t at h ⊢
    omega
   rw [e, Int.add_mul, Int.mul_assoc, ← Int.add_assoc, Int.add_mul_emod_self_left]
 · rfl
theorem Wr.is {w w' : World} {A : Option Addr} {c : Nat} {l l' : List Int} (hw : Wr w w' A (ints l')) (h : IS w A c l) (hl : l'.length = l.length) : IS w' A c l' := by
 have := hw.sl h (by rw [ints_length, hl, Nat.mul_one])
 unfold IS
 rwa [hl]
theorem all_zero (l : List Int) : inB 0 0 l = l.all fun a => a == 0 := by
 unfold inB
 congr 1
 funext x
 rw [Bool.eq_iff_iff]
 simp
 omega
set_option maxRecDepth 100000 in
set_option maxHeartbeats 8000000 in
theorem mxSolve_any (p : Int) (n m : Nat) (A B : Option Addr) (c d : Nat) (hs : List Hd) (b : List Int) (w : World) (h : RdR w A hs) (hm : hs.length = m) (hp : fieldB p = true) (hMat : Mat p m n (hs.map fun h : Hd => h.2.2)) (hm' : m ≤ 1000) (hn' : n ≤ 1000)
  (hB : RdI w B b) (hbl : b.length = n) (hbr : Res p b) :
  Calls Tryz.prog 32 #[.int .i64 p, .agg #[.int .i64 (n : Int), .slice A m c], .slice B n d] w fun e w' =>
   ∃ A2 c2, e = .returned (.tuple #[.slice A2 m c2, .bool (slvM p m n (hs.map fun h : Hd => h.2.2) b).2]) ∧ IS w' A2 c2 (slvM p m n (hs.map fun h : Hd => h.2.2) b).1 ∧ Fresh w.heap.size A2 ∧ Below w.heap.size w w' := by
 have hR0 := fun (W' : World) (hb : Below w.heap.size w W') => mxReduce_any p n m A c hs W' (h.below hb) hm hp hMat hm' hn'
 obtain ⟨L, hLh⟩ : ∃ L, L = hs.map fun h : Hd => h.2.2 := ⟨_, rfl⟩
 rw [← hLh] at hMat hR0 ⊢
 have hpb := fieldB_bounds hp
 obtain ⟨ld, hR, hTm, _⟩ := red_beside hp hMat
 have hAm := hR.mat
 have hrk := hR.inv.le
 have hinv := slv_inv (p := p) (by omega) hAm hTm hrk hbl hbr
 have hlead := fun i hi => slv_lead hp hMat (i := i) hi
 clear hR ld
 unfold slvM
 obtain ⟨s, hs'⟩ : ∃ s, s = redTo p L (idM m) n := ⟨_, rfl⟩
 rw [← hs'] at hR0 hTm hAm hrk hinv hlead ⊢
 obtain ⟨r, hr⟩ : ∃ r, r = s.1 := ⟨_, rfl⟩
 rw [← hr] at hrk hinv hlead ⊢
 obtain ⟨W, hW, bW, k4⟩ : ∃ W, W = w.alloc (.cells #[.int .i64 (n : Int), .slice A m c] tMat) ∧ Below w.heap.size w W ∧ W.heap[w.heap.size]? = some (.cells #[.int .i64 (n : Int), .slice A m c] tMat) := ⟨_, rfl, below_alloc _ _, heap_alloc_new _ _⟩
 have hR1 := hR0 W bW
 have hO := fun (W' : World) (hb : Below w.heap.size w W') => l1Own_any B d b W' (hB.below hb) (by omega)
 rw [hbl] at hO
 obtain ⟨⟨c0, c1⟩, c2, c3⟩ := box2 k4
 clear hR0 hLh hs' hMat; have hR1_h := lH hR1; have hO_h := lH hO; have hTm_h := lH hTm; have hAm_h := lH hAm; have hinv_h := lH hinv; have hlead_h := lH hlead; have bW_h := lH bW; have k4_h := lH k4; have h_h := lH h; have hm_h := lH hm; have hB_h := lH hB; have hbl_h := lH hbl; have hbr_h := lH hbr; have hp_h := lH hp; have hr_h := lH hr; clear hR1 hO hTm hAm hinv hlead bW k4 h hm hB hbl hbr hp hr
 go_enter Tryz.func32, Tryz.ntmps32
 go_upto_region 1 with (fail)
 rw [← hW]
 clear hW
 go_wp2_with (fail)
 refine (hR1_h.out).mono ?_
 rintro e w1 ⟨Aa, ca, hsa, At, ct, hst, det, rfl, hLa, hOa, hLt, hOt, hfa, hft, hb1⟩
 clear c0 c1 c2 c3; have hLa_h := lH hLa; have hOa_h := lH hOa; have hLt_h := lH hLt; have hOt_h := lH hOt; have hfa_h := lH hfa; have hft_h := lH hft; have hb1_h := lH hb1; clear hLa hOa hLt hOt hfa hft hb1
 go_upto_region 2 with (fail)
 rw [← hr_h.out]
 have hLt' := hLt_h.out
 have hLa' := hLa_h.out
 have hsal : hsa.length = m := by have := hAm_h.out.len; rw [hLa', List.length_map] at this; exact this
 have hstl : hst.length = m := by have := hTm_h.out.len; rw [hLt', List.length_map] at this; exact this
 obtain ⟨W2, hW2, bW2, k8, k9⟩ : ∃ W2, W2 = (w1.alloc (.cells #[.int .i64 (n : Int), .slice Aa m ca] tMat)).alloc (.cells #[.int .i64 (m : Int), .slice At m ct] tMat) ∧ Below w1.heap.size w1 W2 ∧ W2.heap[w1.heap.size]? = some (.cells #[.int .i64 (n : Int), .slice Aa m ca] tMat) ∧ W2.heap[w1.heap.size + 1]? = some (.cells #[.int .i64 (m : Int), .slice At m ct] tMat) := by
  refine ⟨_, rfl, ((Below.refl _ _).alloc (Nat.le_refl _) _).alloc (by simp) _, box_below (heap_alloc_new w1 _) (below_alloc _ _), ?_⟩
  have h1 := heap_alloc_new (w1.alloc (.cells #[.int .i64 (n : Int), .slice Aa m ca] tMat)) (.cells #[.int .i64 (m : Int), .slice At m ct] tMat)
  have e : (w1.alloc (.cells #[.int .i64 (n : Int), .slice Aa m ca] tMat)).heap.size = w1.heap.size + 1 := by simp
  rw [e] at h1
  exact h1
 have k42 := box_below (box_below k4_h.out hb1_h.out) bW2
 have hra := hOa_h.out.rd.below bW2
 have hrt := hOt_h.out.rd.below bW2
 have hB2 := below_trans (below_trans bW_h.out hb1_h.out bW_h.out.size) bW2 (by have := bW_h.out.size; have := hb1_h.out.size; omega)
 rw [← hW2]
 clear hW2 hLa' hLt' hOa_h hOt_h hfa_h hft_h; have bW2_h := lH bW2; have k8_h := lH k8; have k9_h := lH k9; have k42_h := lH k42; have hra_h := lH hra; have hrt_h := lH hrt; have hB2_h := lH hB2; have hsal_h := lH hsal; have hstl_h := lH hstl; clear bW2 k8 k9 k42 hra hrt hB2 hsal hstl
 go_cut [12, 13] (fun ov rv wx => ∃ (A12 A13 : Option Addr) (c13 : Nat), ov = .slice A12 m m ∧ rv = .slice A13 n c13 ∧ IS wx A12 m (List.replicate m 0) ∧ IS wx A13 c13 b ∧ Fresh W2.heap.size A12 ∧ Fresh W2.heap.size A13 ∧ (∀ x, x ∈ fpA A12 → x ∉ fpA A13) ∧ Below W2.heap.size W2 wx)
 case first =>
  refine beginB (by kernel_rfl) (fun W3 hW3 => ?_)
  have hb3 : Below W2.heap.size W2 W3 := by rw [hW3]; exact below_drewN (Below.refl _ _) 1
  clear hW3
  have k43 := box_below k42_h.out hb3
  have hB3 := below_trans hB2_h.out hb3 hB2_h.out.size
  have hb3_h := lH hb3; have k43_h := lH k43; have hB3_h := lH hB3; clear hb3 k43 hB3
  refine tkH 0 ?_ rfl (Below.refl _ _) (fun W' hW' => ?_) ?_; rotate_left; · (obtain ⟨⟨x0, x1⟩, x2, x3⟩ := box2 (box_below k43_h.out hW'); clear hW'; go_simp; first | done | with_reducible rfl)
  simp only [Act.put, nS]
  refine tkH 1 ?_ rfl (Below.refl _ _) (fun W' hW' => ?_) ?_; rotate_left; · (obtain ⟨⟨x0, x1⟩, x2, x3⟩ := box2 (box_below k43_h.out hW'); clear hW'; go_simp; first | done | with_reducible rfl)
  simp only [Act.put, nS]
  refine tkH 2 ?_ rfl (Below.refl _ _) (fun W' hW' => ?_) ?_; rotate_left; · (obtain ⟨⟨x0, x1⟩, x2, x3⟩ := box2 (box_below k43_h.out hW'); clear hW'; go_simp; first | done | with_reducible rfl)
  simp only [Act.put, nS]
  refine tkH 4 ?_ rfl (Below.refl _ _) (fun W' hW' => ?_) ?_; rotate_left; · (obtain ⟨⟨x0, x1⟩, x2, x3⟩ := box2 (box_below k43_h.out hW'); clear hW'; go_simp; first | done | with_reducible rfl)
  simp only [Act.put, nS]
  have hmk := fun (W' : World) => below_alloc W' (.cells (madeCells (Value.int .i64 0).cells (m * 1)) tInt)
  refine orCallH 5 3 (f := ?f1) (args := ?a1) (vj := .slice (some ⟨W3.heap.size, 0, none⟩) m m) (wj := W3.alloc (.cells (madeCells (Value.int .i64 0).cells (m * 1)) tInt)) rfl rfl (by kernel_rfl) (by rfl) (by rfl) ?hrun ?hrunj ?h1 (hmk W3) ?h2
  case hrun => (go_simp; first | done | with_reducible rfl | (constructor <;> with_reducible rfl))
  case hrunj => exact run_makeOpM _ _ 23 rfl tInt Tryz.underlying23 info_int m rfl rfl (by omega) (by unfold maxLen; omega)
  case h1 =>
   refine (hO_h.out W3 hB3_h.out).mono ?_
   rintro e w5 ⟨A13, c13, rfl, hi, hf, hb5⟩
   rw [hbl_h.out]
   have hmade := madeIntsM w5 m (by unfold maxLen; omega)
   have hal := hmk w5
   have hi2 := hi.below hal
   have hb6 := below_trans hb5 hal hb5.size
   have hend := below_trans hb3_h.out hb6 hb3_h.out.size
   have hz3 := hb3_h.out.size
   have hz5 := hb5.size
   have hilt := hi.lt
   refine ⟨_, rfl, hb5, ?_⟩
   have hmade_h := lH hmade; have hal_h := lH hal; have hi2_h := lH hi2; have hb6_h := lH hb6; have hend_h := lH hend; have hi_h := lH hi; have hf_h := lH hf; have hb5_h := lH hb5; have hilt_h := lH hilt; clear hmade hal hi2 hb6 hend hi hf hb5 hilt
   simp only [Act.put, nS]
   refine runH 3 rfl (by kernel_rfl) (by rfl) (run_makeOpM _ _ 23 rfl tInt Tryz.underlying23 info_int m rfl rfl (by omega) (by unfold maxLen; omega)) hb6_h.out ?_
   simp only [Act.put, nS]
   refine tkH 6 ?_ rfl hb6_h.out (fun W' hW' => ?_) ?_; rotate_left; · (skip; clear hW'; go_simp; first | done | with_reducible rfl)
   simp only [Act.put, nS]
   refine tkH 7 ?_ rfl hb6_h.out (fun W' hW' => ?_) ?_; rotate_left; · (skip; clear hW'; go_simp; first | done | with_reducible rfl)
   simp only [Act.put, nS]
   refine doneH (by kernel_rfl) ?_
   go_wp2_with (fail)
   go_meet
   refine ⟨some ⟨w5.heap.size, 0, none⟩, A13, c13, rfl, rfl, hmade_h.out, hi2_h.out, fun x hx => ?_, fun x hx => ?_, fun x hx hx2 => ?_, hend_h.out⟩
   · have : x = w5.heap.size := by simpa using hx
     omega
   · have := hf_h.out x hx; omega
   · have h1 : x = w5.heap.size := by simpa using hx
     have := hilt_h.out x hx2
     omega
  case h2 =>
   simp only [Act.put, nS]
   have hmade := madeIntsM W3 m (by unfold maxLen; omega)
   have hal := hmk W3
   obtain ⟨W4, hW4⟩ : ∃ W4, W4 = W3.alloc (.cells (madeCells (Value.int .i64 0).cells (m * 1)) tInt) := ⟨_, rfl⟩
   rw [← hW4] at hmade hal ⊢
   have hz4 : W4.heap.size = W3.heap.size + 1 := by rw [hW4]; simp
   clear hW4
   have hB4 := below_trans hB3_h.out hal hB3_h.out.size
   have hz3 := hb3_h.out.size
   have hmade_h := lH hmade; have hal_h := lH hal; have hB4_h := lH hB4; have hz4_h := lH hz4; clear hmade hal hB4 hz4
   refine' callH 5 (f := _) (args := _) rfl (by kernel_rfl) (by rfl) ?_ ?_; rotate_left 2; · (go_simp; first | done | with_reducible rfl | (constructor <;> with_reducible rfl))
   refine (hO_h.out W4 hB4_h.out).mono ?_
   rintro e w5 ⟨A13, c13, rfl, hi, hf, hb5⟩
   rw [hbl_h.out]
   have hm2 := hmade_h.out.below hb5
   have hb6 := below_trans hal_h.out hb5 hal_h.out.size
   have hend := below_trans hb3_h.out hb6 hb3_h.out.size
   refine ⟨_, rfl, hb6, ?_⟩
   have hm2_h := lH hm2; have hb6_h := lH hb6; have hend_h := lH hend; have hi_h := lH hi; have hf_h := lH hf; have hb5_h := lH hb5; clear hm2 hb6 hend hi hf hb5
   simp only [Act.put, nS]
   refine tkH 6 ?_ rfl hb6_h.out (fun W' hW' => ?_) ?_; rotate_left; · (skip; clear hW'; go_simp; first | done | with_reducible rfl)
   simp only [Act.put, nS]
   refine tkH 7 ?_ rfl hb6_h.out (fun W' hW' => ?_) ?_; rotate_left; · (skip; clear hW'; go_simp; first | done | with_reducible rfl)
   simp only [Act.put, nS]
   refine doneH (by kernel_rfl) ?_
   go_wp2_with (fail)
   go_meet
   refine ⟨some ⟨W3.heap.size, 0, none⟩, A13, c13, rfl, rfl, hm2_h.out, hi_h.out, fun x hx => ?_, fun x hx => ?_, fun x hx hx2 => ?_, hend_h.out⟩
   · have : x = W3.heap.size := by simpa using hx
     omega
   · have := hf_h.out x hx; have := hz4_h.out; omega
   · have h1 : x = W3.heap.size := by simpa using hx
     have := hf_h.out x hx2
     have := hz4_h.out
     omega
 case rest =>
  obtain ⟨A12, A13, c13, rfl, rfl, hout, hrest, hf12, hf13, hap, hbc⟩ := hcut
  obtain ⟨w7, rfl⟩ : ∃ x, x = wc := ⟨_, rfl⟩
  have hrI : (r : Int) ≤ (m : Int) := by omega
  have hout_h := lH hout; have hrest_h := lH hrest; have hf12_h := lH hf12; have hf13_h := lH hf13; have hap_h := lH hap; have hbc_h := lH hbc; clear hout hrest hf12 hf13 hap hbc
  go_wp2_with (fail)
  go_loopw [14] (fun i wr => ∃ k : Nat, k ≤ r ∧ i = .int .i64 k ∧ IS wr A12 m (slvTo p m s b k).2 ∧ IS wr A13 c13 (slvTo p m s b k).1 ∧ Below W2.heap.size W2 wr) (fun i _ => r - (intOf i).toNat)
  case atStart => exact ⟨0, Nat.zero_le _, rfl, hout_h.out, hrest_h.out, hbc_h.out⟩
  case round =>
   clear hout_h hrest_h hbc_h
   obtain ⟨k, hk, rfl, h12, h13, hbw⟩ := hrel
   by_cases hlt : k < r
   · have hkI : (k : Int) < (r : Int) := by omega
     have hkm : k < m := by omega
     obtain ⟨q1, q2, q3, q4, _, _⟩ := hinv_h.out k (by omega)
     obtain ⟨ad, Ra, da, la, hAa, hxa, hca, hria⟩ := (hra_h.out.below hbw).at_ (k := k) (by rw [hsal_h.out]; exact hkm)
     obtain ⟨td, Rt, dt, lt, hAt, hxt, hct, hrit⟩ := (hrt_h.out.below hbw).at_ (k := k) (by rw [hstl_h.out]; exact hkm)
     have hga : s.2.1.getD k [] = la := by rw [hLa_h.out]; exact getD_map_hd hxa
     have hgt : s.2.2.getD k [] = lt := by rw [hLt_h.out]; exact getD_map_hd hxt
     have hla := (hAm_h.out.get hkm).1
     have hra' := (hAm_h.out.get hkm).2
     have hlt' := (hTm_h.out.get hkm).1
     have hrt' := (hTm_h.out.get hkm).2
     have hld := hlead_h.out k hlt
     rw [hga] at hla hra' hld
     rw [hgt] at hlt' hrt'
     rw [hla] at hca
     rw [hlt'] at hct
     subst hAa
     subst hAt
     obtain ⟨⟨c0, c1⟩, c2, c3⟩ := box2 (box_below k8_h.out hbw)
     have C1 := fun W' (hb : Below wr.heap.size wr W') => spLead_any Ra da n la W' (hria.below hb) hla (by omega)
     obtain ⟨e, he⟩ : ∃ e, e = leadV la := ⟨_, rfl⟩
     rw [← he] at C1 hld
     have heI : (e : Int) < (n : Int) := by omega
     obtain ⟨rd, x, hA13, hx, _, hcx, _⟩ := h13.at_ (j := e) (by rw [q1]; exact hld)
     have hxb := q2 x (List.mem_of_getElem? hx)
     have hxe : (slvTo p m s b k).1.getD (leadV (s.2.1.getD k [])) 0 = x := by rw [hga, ← he]; simp [List.getD, hx]
     subst hA13
     have hstep : slvTo p m s b (k + 1) = (addT p (slvTo p m s b k).1 (-x) la, addT p (slvTo p m s b k).2 x lt) := by rw [slvTo, hxe, hga, hgt]
     have hap1 : ∀ y, y ∈ fpA Ra → y ∉ fpA (some rd) := fun y hy hy2 => by
      have h1 := hf13_h.out y hy2
      have h2 := (hra_h.out.2 _ (List.mem_of_getElem? hxa))
      have h3 : y < W2.heap.size := by
       by_cases hn0 : 0 < la.length
       · exact h2.block_lt (j := 0) (x := la[0]) (List.getElem?_eq_getElem hn0) y hy
       · omega
      omega
     have C2 := mxLess_any p x (some rd) Ra c13 da n (slvTo p m s b k).1 la wr h13 hria hap1 q1 hla (by omega) (by omega) hpb.2 q2 hra' hxb
     clear hxa hxt hx; have h12_h := lH h12; have h13_h := lH h13; have hbw_h := lH hbw; have q1_h := lH q1; have q2_h := lH q2; have q3_h := lH q3; have q4_h := lH q4; have hria_h := lH hria; have hrit_h := lH hrit; have hga_h := lH hga; have hgt_h := lH hgt; have hla_h := lH hla; have hra'_h := lH hra'; have hlt'_h := lH hlt'; have hrt'_h := lH hrt'; have C1_h := lH C1; have he_h := lH he; have hxe_h := lH hxe; have hstep_h := lH hstep; have hap1_h := lH hap1; have C2_h := lH C2; clear h12 h13 hbw q1 q2 q3 q4 hria hrit hga hgt hla hra' hlt' hrt' C1 he hxe hstep hap1 C2
     go_wp2_with (fail)
     refine (C1_h.out _ (Below.refl _ _)).mono ?_
     rintro e w8 ⟨rfl, hw8⟩
     subst w8
     go_wp2_with (fail)
     refine (C2_h.out).mono ?_
     rintro e w9 ⟨rfl, hWr⟩
     have h13' := hWr.is h13_h.out (by rw [addT_length])
     have hb9 : Below W2.heap.size W2 w9 := below_keeps hbw_h.out hWr.1 hbw_h.out.size (fun y hy => hf13_h.out y hy)
     have h12' := h12_h.out.keeps hWr.1 (fun y hy hy2 => hap_h.out y hy hy2)
     obtain ⟨td2, Rt2, dt2, lt2, hAt2, hxt2, hct2, hrit2⟩ := (hrt_h.out.below hb9).at_ (k := k) (by rw [hstl_h.out]; exact hkm)
     obtain rfl := Option.some.inj hAt2
     have hl2 : lt2 = lt := by rw [← hgt_h.out, hLt_h.out]; exact (getD_map_hd hxt2).symm
     subst hl2
     rw [hlt'_h.out] at hct2
     clear hWr hcx c0 c1 c2 c3 hca hct
     have hap2 : ∀ y, y ∈ fpA Rt2 → y ∉ fpA A12 := fun y hy hy2 => by
      have h1 := hf12_h.out y hy2
      have h2 := (hrt_h.out.2 _ (List.mem_of_getElem? (show hst[k]? = some (Rt2, dt2, lt2) from hxt2)))
      have h3 : y < W2.heap.size := by
       by_cases hn0 : 0 < lt2.length
       · exact h2.block_lt (j := 0) (x := lt2[0]) (List.getElem?_eq_getElem hn0) y hy
       · have := hlt'_h.out; omega
      omega
     have h13'_h := lH h13'; have hb9_h := lH hb9; have h12'_h := lH h12'; have hap2_h := lH hap2; have hrit2_h := lH hrit2; clear h13' hb9 h12' hap2 hrit2; clear hxt2
     go_wp2_with (fail)
     refine wp_region_still_tail 10 (by kernel_rfl) (by kernel_rfl) ?_
     simp only [List.take_succ_cons, List.take_zero, List.drop_succ_cons, List.drop_zero]
     change wpStill _ _ w9.drew (fun a' => wpList _ _ _ _ a' w9.drew) _ _
     have hb10 : Below W2.heap.size W2 w9.drew := below_drewN hb9_h.out 1
     have e1 : w9.drew.cell? (td.add k) = some (.slice Rt2 m dt2) := hct2
     obtain ⟨⟨c0, c1⟩, c2, c3⟩ := box2 (box_below k9_h.out hb10)
     have C3 := stillC2 (fdNeg_any p x w9.drew (by omega) hpb.2 hxb.1 hxb.2)
     have C4 := mxLess_any p (-x % p) A12 Rt2 m dt2 m (slvTo p m s b k).2 lt2 w9.drew h12'_h.out hrit2_h.out hap2_h.out q3_h.out hlt'_h.out (by omega) (by omega) hpb.2 q4_h.out hrt'_h.out ⟨Int.emod_nonneg _ (by omega), Int.emod_lt_of_pos _ (by omega)⟩
     rw [addT_neg2] at C4
     clear hct2; have C3_h := lH C3; have C4_h := lH C4; have hb10_h := lH hb10; clear C3 C4 hb10
     repeat still_step
     still_call C3_h.out
     repeat still_step
     refine wpStill_nil ?_
     go_wp2_with (fail)
     refine (C4_h.out).mono ?_
     rintro e w11 ⟨rfl, hWr⟩
     have h12'' := hWr.is (show IS w9.drew A12 m (slvTo p m s b k).2 from h12'_h.out) (by rw [addT_length])
     have h13'' := (show IS w9.drew (some rd) c13 _ from h13'_h.out).keeps hWr.1 (fun y hy hy2 => hap_h.out y hy2 hy)
     have hb11 := below_keeps hb10_h.out hWr.1 hb10_h.out.size (fun y hy => hf12_h.out y hy)
     clear hWr e1 c0 c1 c2 c3; have h12''_h := lH h12''; have h13''_h := lH h13''; have hb11_h := lH hb11; clear h12'' h13'' hb11
     go_wp2_with (fail)
     go_roundw
     case rel => exact ⟨k + 1, by omega, by go_num, by rw [hstep_h.out]; exact h12''_h.out, by rw [hstep_h.out]; exact h13''_h.out, hb11_h.out⟩
     case measure => simp [intOf]; omega
   · obtain rfl : r = k := by omega
     obtain ⟨q1, q2, q3, q4, _, _⟩ := hinv_h.out r (by omega)
     have hAll := l1All_any A13 c13 (slvTo p m s b r).1 0 0 wr h13.rd (by omega)
     rw [q1] at hAll
     have hB9 := below_trans hB2_h.out hbw hB2_h.out.size
     obtain ⟨v, hv⟩ : ∃ v, v = inB 0 0 (slvTo p m s b r).1 := ⟨_, rfl⟩
     rw [← hv] at hAll
     rw [all_zero] at hv
     clear hbw; have h12_h := lH h12; have h13_h := lH h13; have q1_h := lH q1; have q2_h := lH q2; have q3_h := lH q3; have q4_h := lH q4; have hAll_h := lH hAll; have hB9_h := lH hB9; have hv_h := lH hv; clear h12 h13 q1 q2 q3 q4 hAll hB9 hv
     go_wp2_with (fail)
     refine (hAll_h.out).mono ?_
     rintro e w9 ⟨rfl, hw9⟩
     subst w9
     go_wp2_with (fail)
     go_ret2
     rw [← hv_h.out]
     exact ⟨A12, m, rfl, h12_h.out, fun x hx => by have := hf12_h.out x hx; have := hB2_h.out.size; omega, hB9_h.out⟩
theorem rev_step {l : List Int} {n j : Nat} {x : Int} (hl : l.length = n + 1) (hj : j < n) (hx : l[n - 1 - j]? = some x) : (l.take n).reverse.take (j + 1) = (l.take n).reverse.take j ++ [x] := by
 have h1 : (l.take n).length = n := by simp [hl]
 rw [List.take_add_one, List.getElem?_reverse (by rw [h1]; exact hj), h1, List.getElem?_take_of_lt (by omega), hx]
 rfl
theorem rev_done {l : List Int} {n : Nat} (hl : l.length = n + 1) : (l.take n).reverse.take n = (l.take n).reverse := List.take_of_length_le (by simp [hl])
theorem back_of {l : List Int} {n : Nat} {x : Int} (hx : l[n]? = some x) : (l.take n).reverse ++ [x] = backV n l := by
 unfold backV
 simp [List.getD, hx]
theorem any_no {R : List (List Int)} {n k : Nat} (h : ∀ j, j < k → leadV (R.getD j []) ≠ n) (hk : k = R.length) : (R.any fun v => leadV v == n) = false := by
 rw [List.any_eq_false]
 intro v hv
 obtain ⟨j, hj⟩ := List.mem_iff_getElem?.1 hv
 have hjl := (List.getElem?_eq_some_iff.1 hj).1
 have := h j (by omega)
 simp only [List.getD, hj, Option.getD_some] at this
 simpa using this
theorem any_yes {R : List (List Int)} {n k : Nat} (hk : k < R.length) (h : leadV (R.getD k []) = n) : (R.any fun v => leadV v == n) = true := by
 rw [List.any_eq_true]
 refine ⟨R.getD k [], ?_, by simpa using h⟩
 simp only [List.getD, List.getElem?_eq_getElem hk, Option.getD_some]
 exact List.getElem_mem hk
set_option maxRecDepth 100000 in
set_option maxHeartbeats 8000000 in
theorem firstSolution_any (p : Int) (n : Nat) (A : Option Addr) (c : Nat) (hs : List Hd) (w : World) (h : RdR w A hs) (hp : fieldB p = true) (hm : Mat p hs.length (n + 1) (hs.map fun h : Hd => h.2.2)) (hl : hs.length ≤ 1048576) (hn : n ≤ 1000) :
  Calls Tryz.prog 45 #[.int .i64 p, .slice A hs.length c, .int .i64 (n : Int)] w fun e w' => ∃ A' c', e = .returned (.tuple #[.slice A' (fsM p n (hs.map fun h : Hd => h.2.2)).1.length c', .bool (fsM p n (hs.map fun h : Hd => h.2.2)).2]) ∧
   IS w' A' c' (fsM p n (hs.map fun h : Hd => h.2.2)).1 ∧ Fresh w.heap.size A' ∧ Below w.heap.size w w' := by
 have hpb := fieldB_bounds hp
 obtain ⟨L, hLh⟩ : ∃ L, L = hs.map fun h : Hd => h.2.2 := ⟨_, rfl⟩
 rw [← hLh] at hm ⊢
 obtain ⟨m, hmm⟩ : ∃ m, m = hs.length := ⟨_, rfl⟩
 rw [← hmm] at hl hm ⊢
 have hLen : L.length = m := hm.len
 have hrow : ∀ x, x ∈ L → x.length = n + 1 := fun x hx => (hm.row x hx).1
 have hbm : Mat p (L.map (backV n)).length (n + 1) (L.map (backV n)) := back_mat (by omega) (by rw [hLen]; exact hm)
 have hbl : (L.map (backV n)).length = m := by rw [List.length_map, hLen]
 have hRs := redM_spec hp hbm
 have hRL := red_len hRs.1
 have hlt0 := fun i (hi : i < (redM p (n + 1) (L.map (backV n))).length) => lead_lt hRs.1 hi
 have hRm := hRs.1.1
 have hRe : ∀ (W' : World) (A3 : Option Addr) (c3 : Nat), OM w W' A3 c3 (L.map (backV n)) → Calls Tryz.prog 69 #[.int .i64 p, .slice A3 m c3, .int .i64 ((n : Int) + 1)] W' (RetSS W' (redM p (n + 1) (L.map (backV n)))) := fun W' A3 c3 hO => by
  obtain ⟨gs, hg, hOw, _, _⟩ := hO
  have hgl : gs.length = m := by rw [← hbl, hg, List.length_map]
  have := reduced_any p (n + 1) A3 c3 gs W' hOw.rd hp (by rw [← hg, hgl, ← hbl]; exact hbm) (by omega) (by omega)
  rw [← hg, hgl] at this
  exact this
 obtain ⟨F, hF⟩ : ∃ F, F = fsM p n L := ⟨_, rfl⟩
 rw [← hF]
 unfold fsM at hF
 obtain ⟨R, hR⟩ : ∃ R, R = redM p (n + 1) (L.map (backV n)) := ⟨_, rfl⟩
 rw [← hR] at hF hRL hlt0 hRm
 simp only [← hR] at hRe
 obtain ⟨q, hq⟩ : ∃ q, q = R.length := ⟨_, rfl⟩
 have hZ := fun (W' : World) => zeros_any n W' (by omega)
 have hOM0 : OM w (w.alloc (.cells #[] 23)) (some ⟨w.heap.size, 0, none⟩) 0 [] := by
  refine ⟨[], rfl, ⟨by simpa using Sl.laid w 23 1 0 #[] (Nat.zero_le _) rfl, fun h hh => (by cases hh), .nil, fun h hh => (by cases hh)⟩, fun b hb => ?_, (Below.refl _ _).alloc (Nat.le_refl _) _⟩
  have : b = w.heap.size := by simpa [fpR] using hb
  subst this; exact Nat.le_refl _
 clear hRs hbm hm hR; have hLh_h := lH hLh; have hmm_h := lH hmm; have hLen_h := lH hLen; have hrow_h := lH hrow; have hRe_h := lH hRe; have hF_h := lH hF; have hlt0_h := lH hlt0; have hRm_h := lH hRm; have hZ_h := lH hZ; have hbl_h := lH hbl; have hq_h := lH hq; have hRL_h := lH hRL; have h_h := lH h; clear hLh hmm hLen hrow hRe hF hlt0 hRm hZ hbl hq hRL h
 go_enter Tryz.func45, Tryz.ntmps45
 go_wp2_with (fail)
 go_loopw [20, 8] (fun i v wr => ∃ (k : Nat) (A' : Option Addr) (c' : Nat), k ≤ m ∧ i = .int .i64 k ∧ v = .slice A' k c' ∧ OM w wr A' c' ((L.take k).map (backV n))) (fun i _ _ => m - (intOf i).toNat)
 case atStart => exact ⟨0, _, 0, Nat.zero_le _, rfl, rfl, hOM0⟩
 case round =>
  clear hOM0
  obtain ⟨k, A', c', hk, rfl, rfl, hOM⟩ := hrel
  obtain ⟨w1, rfl⟩ : ∃ x, x = wr := ⟨_, rfl⟩
  by_cases hlt : k < m
  · obtain ⟨ad, C, d, l, rfl, hx, hc, hri⟩ := (h_h.out.below hOM.below_).at_ (k := k) (by rw [← hmm_h.out]; exact hlt)
    have hlx : L[k]? = some l := by rw [hLh_h.out, List.getElem?_map, hx]; rfl
    have hll : l.length = n + 1 := hrow_h.out _ (List.mem_of_getElem? hlx)
    rw [hll] at hc
    have hO0 : OI w1 (w1.alloc (.cells #[] 3)) (some ⟨w1.heap.size, 0, none⟩) 0 [] := by
     refine ⟨by unfold IS; simpa [ints] using Sl.laid w1 3 1 0 #[] (Nat.zero_le _) rfl, fun b hb => ?_, (Below.refl _ _).alloc (Nat.le_refl _) _⟩
     have : b = w1.heap.size := by simpa using hb
     subst this; exact Nat.le_refl _
    have hkI : (k : Int) < (m : Int) := by omega
    have hOM_h := lH hOM; have hx_h := lH hx; have hlx_h := lH hlx; have hll_h := lH hll; have hri_h := lH hri; have hO0_h := lH hO0; clear hOM hx hlx hll hri hO0
    go_wp2_with (fail)
    go_loopw [12, 11] (fun i v wr => ∃ (j : Nat) (A5 : Option Addr) (c5 : Nat), j ≤ n ∧ i = .int .i64 ((n : Int) - 1 - (j : Int)) ∧ v = .slice A5 j c5 ∧ OI w1 wr A5 c5 ((l.take n).reverse.take j)) (fun i _ _ => (intOf i + 1).toNat)
    case atStart => exact ⟨0, _, 0, Nat.zero_le _, by go_num, rfl, hO0_h.out⟩
    case round =>
     clear hO0_h
     obtain ⟨j, A5, c5, hj, rfl, rfl, hO⟩ := hrel
     by_cases hjn : j < n
     · obtain ⟨bd, x, hBd, hxj, hcb⟩ := (hri_h.out.below hO.below_).at_ (j := n - 1 - j) (by rw [hll_h.out]; omega)
       subst hBd
       have hpl : ((l.take n).reverse.take j).length = j := by simp [hll_h.out]; omega
       have hpk := rev_step hll_h.out hjn hxj
       have hge : (n : Int) - 1 - (j : Int) ≥ 0 := by omega
       have hlt2 : (n : Int) - 1 - (j : Int) < (n : Int) + 1 := by omega
       have hto : ((n : Int) - 1 - (j : Int)).toNat = n - 1 - j := by omega
       have HSL := lH (fun (o : Obj) => oi_alloc hO hpl o)
       have hpl_h := lH hpl; have hpk_h := lH hpk; have hO_h := lH hO; clear hpl hpk hO
       go_wp2_with (at_builtin; refine wpList_append_Sl _ rfl _ _ _ rfl 3 Tryz.underlying23 info_int rfl (by omega) rfl (HSL.out (.cells #[.int .i64 x] 3)) rfl (news := [.int .i64 x]) rfl (Sl.rdc (Sl.laid wr 3 1 1 #[.int .i64 x] (by unfold maxLen; omega) rfl)) (by intro u hu; simp at hu; subst hu; rfl) (by unfold maxLen; omega) (by omega) ?_; intro A3 c3 w3 hs3 hA3 hk3)
       have hO2 := hO_h.out.snoc (x := x) (by rw [hpl_h.out]) hs3 hA3 hk3
       have hO2_h := lH hO2; clear hO2; clear hs3 hO_h
       go_roundw
       case rel => exact ⟨j + 1, A3, c3, by omega, by go_num, rfl, by rw [hpk_h.out]; exact hO2_h.out⟩
       case measure => simp [intOf]; omega
     · obtain rfl : n = j := by omega
       rw [rev_done hll_h.out] at hO
       have hge : ¬ (n : Int) - 1 - (n : Int) ≥ 0 := by omega
       obtain ⟨bd, x, hBd, hxj, hcb⟩ := (hri_h.out.below hO.below_).at_ (j := n) (by rw [hll_h.out]; omega)
       subst hBd
       have hpl : ((l.take n).reverse).length = n := by simp [hll_h.out]
       have hpk := back_of hxj
       have HSL := lH (fun (o : Obj) => oi_alloc hO hpl o)
       have hbk : (backV n l).length = n + 1 := backV_length hll_h.out
       obtain ⟨gs, hLg, hOr, hf, h0⟩ := hOM_h.out
       have hgl : gs.length = k := by
        have := congrArg List.length hLg
        rw [List.length_map, List.length_take, hLen_h.out, List.length_map] at this
        omega
       have hpl_h := lH hpl; have hpk_h := lH hpk; have hO_h := lH hO; have hbk_h := lH hbk; have hLg_h := lH hLg; have hOr_h := lH hOr; have hf_h := lH hf; have h0_h := lH h0; have hgl_h := lH hgl; clear hpl hpk hO hbk hLg hOr hf h0 hgl
       go_wp2_with (at_builtin; first | (refine wpList_append_Sl _ rfl _ _ _ rfl 3 Tryz.underlying23 info_int rfl (by omega) rfl (HSL.out (.cells #[.int .i64 x] 3)) rfl (news := [.int .i64 x]) rfl (Sl.rdc (Sl.laid wr 3 1 1 #[.int .i64 x] (by unfold maxLen; omega) rfl)) (by intro u hu; simp at hu; subst hu; rfl) (by unfold maxLen; omega) (by omega) ?_; intro A3 c3 w3 hs3 hA3 hk3; have hO2 := hO_h.out.snoc (x := x) (by rw [hpl_h.out]) hs3 hA3 hk3; rw [hpk_h.out] at hO2; have hsl := (hOr_h.out.sl.below hO2.below_).alloc (.cells #[.slice A3 (n + 1) c3] 23); rw [hgl_h.out] at hsl; have hO2_h := lH hO2; have hsl_h := lH hsl; clear hO2 hsl hs3 hA3 hk3 hO_h) | (refine wpList_append_Sl _ rfl _ _ _ rfl 23 Tryz.underlying52 info_ints rfl (by omega) rfl hsl_h.out rfl (news := [.slice A3 (n + 1) c3]) rfl (Sl.rdc (Sl.laid w3 23 1 1 #[.slice A3 (n + 1) c3] (by unfold maxLen; omega) rfl)) (by intro u hu; simp at hu; subst hu; rfl) (by unfold maxLen; omega) (by omega) ?_; intro A2 c2 w2 hs2 hA2 hk2))
       have hal2 : Below w3.heap.size w3 (w3.alloc (.cells #[.slice A3 (n + 1) c3] 23)) := (Below.refl _ _).alloc (Nat.le_refl _) _
       have hOM2 := OM.snoc (w1 := w3.alloc (.cells #[.slice A3 (n + 1) c3] 23)) hLg_h.out hOr_h.out hf_h.out h0_h.out (below_trans hO2_h.out.below_ hal2 hO2_h.out.below_.size) (hO2_h.out.is.below hal2) hO2_h.out.new (by rw [hgl_h.out]) (by rw [hbk_h.out]; exact hs2) hA2 hk2
       have hOM2_h := lH hOM2; clear hOM2; clear hs2 hA2 hk2 hal2 hsl_h hOr_h
       go_roundw
       case rel => exact ⟨k + 1, A2, c2, by omega, by go_num, rfl, by rw [List.take_add_one, hlx_h.out, List.map_append]; exact hOM2_h.out⟩
       case measure => simp [intOf]; omega
  · obtain rfl : m = k := by omega
    have hOM' : OM w w1 A' c' (L.map (backV n)) := by have := hOM; rwa [List.take_of_length_le (by rw [hLen_h.out]; omega)] at this
    clear hOM
    have hb1 := hOM'.below_
    have hOM'_h := lH hOM'; have hb1_h := lH hb1; clear hOM' hb1
    go_wp2_with (fail)
    refine (hZ_h.out _).mono ?_
    rintro e w2 ⟨A6, c6, rfl, hi6, hf6, hb6⟩
    rw [List.length_replicate]
    have hb2 := below_trans hb1_h.out hb6 hb1_h.out.size
    have hC := hRe_h.out w2 A' c' (hOM'_h.out.below hb6)
    have hf0 := Nat.le_trans hb1_h.out.size (Nat.le_refl _)
    have hi6_h := lH hi6; have hf6_h := lH hf6; have hb2_h := lH hb2; have hC_h := lH hC; clear hi6 hf6 hb2 hC
    go_wp2_with (fail)
    refine (hC_h.out).mono ?_
    rintro e w3 hret
    unfold RetSS at hret
    rw [← hq_h.out] at hret
    obtain ⟨A7, c7, hs7, rfl, hR7, hO7, hf7, hb7⟩ := hret
    have hi7 := hi6_h.out.below hb7
    have hb3 := below_trans hb2_h.out hb7 hb2_h.out.size
    have hap : ∀ b, b ∈ fpA A7 ++ fpR hs7 → ¬ b ∈ fpA A6 := fun b hb h6 => by
     have h1 := hf7 b hb
     have h2 := hi6_h.out.lt b h6
     omega
    have hf6w : ∀ b, b ∈ fpA A6 → w.heap.size ≤ b := fun b hb => Nat.le_trans hf0 (hf6_h.out b hb)
    have hl7 : hs7.length = q := by rw [hq_h.out, hR7, List.length_map]
    clear hf7 hb7 hC_h hf6_h hi6_h; have hR7_h := lH hR7; have hO7_h := lH hO7; have hi7_h := lH hi7; have hb3_h := lH hb3; have hap_h := lH hap; have hf6w_h := lH hf6w; have hl7_h := lH hl7; clear hR7 hO7 hi7 hb3 hap hf6w hl7
    go_wp2_with (fail)
    have hq1 : q ≤ 1001 := by have h1 := hRL_h.out; have h2 := hq_h.out; omega
    go_loopw [57] (fun i wr => ∃ (k : Nat), k ≤ q ∧ i = .int .i64 k ∧ (∀ j, j < k → leadV (R.getD j []) ≠ n) ∧ IS wr A6 c6 (fsTo n R k) ∧ OwR wr A7 c7 hs7 ∧ Below w.heap.size w wr) (fun i _ => q - (intOf i).toNat)
    case atStart => exact ⟨0, Nat.zero_le _, rfl, fun j hj => absurd hj (Nat.not_lt_zero j), hi7_h.out, hO7_h.out, hb3_h.out⟩
    case round =>
     clear hi7_h hO7_h hb3_h
     obtain ⟨k, hk, rfl, hno, hIS, hOw, hB⟩ := hrel
     by_cases hlt' : k < q
     · obtain ⟨ad, C, d, l, rfl, hx, hc, hri⟩ := hOw.rd.at_ (k := k) (by rw [hl7_h.out]; exact hlt')
       have hlx : R[k]? = some l := by rw [hR7_h.out, List.getElem?_map, hx]; rfl
       have hlg : R.getD k [] = l := by simp [List.getD, hlx]
       have hll : l.length = n + 1 := (hRm_h.out.row _ (List.mem_of_getElem? hlx)).1
       have hle := hlt0_h.out k (by rw [← hq_h.out]; exact hlt')
       rw [hlg] at hle
       rw [hll] at hc
       have hkI : (k : Int) < (q : Int) := by omega
       have hCl := lead_any C d (n + 1) l wr hri hll (by omega)
       obtain ⟨t, ht⟩ : ∃ t, t = leadV l := ⟨_, rfl⟩
       rw [← ht] at hCl hle
       by_cases htn : t = n
       · subst htn
         have hany := any_yes (n := t) (by rw [← hq_h.out]; exact hlt') (by rw [hlg, ← ht])
         have hFF := hF_h.out
         rw [hany, if_pos rfl] at hFF
         subst hFF
         clear hIS hOw hx hlx hlg hll hri hno hle hany; have hCl_h := lH hCl; have hB_h := lH hB; have ht_h := lH ht; clear hCl hB ht
         go_wp2_with (fail)
         refine (hCl_h.out).mono ?_
         rintro e w' ⟨rfl, hw'⟩
         subst hw'
         go_wp2_with (fail)
         go_ret2
         exact ⟨none, 0, rfl, (show IS _ none 0 [] from Sl.nil _ _ _), fun b hb => (by simp at hb), hB_h.out⟩
       · have htl : t < n := by omega
         obtain ⟨bd, x, hBd, hxj, hcb⟩ := hri.at_ (j := n) (by rw [hll]; omega)
         subst hBd
         have hfl : (fsTo n R k).length = n := fsTo_length n R k
         obtain ⟨od, y, hOd, hy, _, hco, hfo⟩ := hIS.at_ (j := n - 1 - t) (by rw [hfl]; omega)
         subst hOd
         have hfz := hfo (n - 1 - t)
         have his' := hIS.set (ad := od) rfl (j := n - 1 - t) x (by rw [hfl]; omega)
         have hst : (fsTo n R k).set (n - 1 - t) x = fsTo n R (k + 1) := by
          show _ = (fsTo n R k).set (n - 1 - leadV (R.getD k [])) ((R.getD k []).getD n 0)
          rw [hlg, ← ht]
          simp [List.getD, hxj]
         rw [hst] at his'
         have hne : ((t : Int) == (n : Int)) = false := by simp; omega
         have hto : ((n : Int) - 1 - (t : Int)).toNat = n - 1 - t := by omega
         have h1 : (0 : Int) ≤ (n : Int) - 1 - (t : Int) := by omega
         have h2 : (n : Int) - 1 - (t : Int) < (n : Int) := by omega
         have hkp := (Keeps.refl (· ∈ fpA (some od)) wr).setCell (p := od.add (n - 1 - t)) (by rw [block_of_add]; simp) (.int .i64 x)
         have hOw' := hOw.keeps hkp hap_h.out
         have hB' := below_keeps hB hkp hB.size hf6w_h.out
         have hno' : ∀ j, j < k + 1 → leadV (R.getD j []) ≠ n := fun j hj => by
          rcases Nat.lt_or_ge j k with h3 | h3
          · exact hno j h3
          · obtain rfl : j = k := by omega
            rw [hlg, ← ht]; exact htn
         clear hIS hOw hx hlx hlg hll hri hno hst hkp hy hfo hB hfl; have hCl_h := lH hCl; have hOw'_h := lH hOw'; have hB'_h := lH hB'; have his'_h := lH his'; have hno'_h := lH hno'; have hxj_h := lH hxj; have ht_h := lH ht; clear hCl hOw' hB' his' hno' hxj ht
         go_wp2_with (fail)
         refine (hCl_h.out).mono ?_
         rintro e w' ⟨rfl, hw'⟩
         subst hw'
         go_wp2_with (fail)
         go_roundw
         case rel => exact ⟨k + 1, by omega, by go_num, hno'_h.out, his'_h.out, hOw'_h.out, hB'_h.out⟩
         case measure => simp [intOf]; omega
     · obtain rfl : q = k := by omega
       have hFF := hF_h.out
       rw [any_no hno hq_h.out, if_neg (by simp), ← hq_h.out] at hFF
       subst hFF
       have hfl : (fsTo n R q).length = n := fsTo_length n R q
       clear hOw hno; have hIS_h := lH hIS; have hB_h := lH hB; have hfl_h := lH hfl; clear hIS hB hfl
       go_wp2_with (fail)
       go_ret2
       exact ⟨A6, c6, by rw [hfl_h.out]; rfl, hIS_h.out, hf6w_h.out, hB_h.out⟩
def trTo (L : List (List Int)) (m N i j : Nat) : List (List Int) := (List.range m).map fun c => (List.range N).map fun r => if r < i ∨ (r = i ∧ c < j) then (L.getD r []).getD c 0 else 0
@[simp] theorem trTo_length (L : List (List Int)) (m N i j : Nat) : (trTo L m N i j).length = m := by simp [trTo]
theorem trTo_get {L : List (List Int)} {m N i j c : Nat} (hc : c < m) : (trTo L m N i j).getD c [] = (List.range N).map fun r => if r < i ∨ (r = i ∧ c < j) then (L.getD r []).getD c 0 else 0 := by simp [trTo, List.getD, hc]
theorem trTo_len {L : List (List Int)} {m N i j c : Nat} (hc : c < m) : ((trTo L m N i j).getD c []).length = N := by rw [trTo_get hc]; simp
theorem trTo_zero (L : List (List Int)) (m N : Nat) : trTo L m N 0 0 = List.replicate m (List.replicate N 0) := by
 unfold trTo
 rw [List.eq_replicate_iff]
 refine ⟨by simp, fun v hv => ?_⟩
 obtain ⟨c, _, rfl⟩ := List.mem_map.1 hv
 rw [List.eq_replicate_iff]
 refine ⟨by simp, fun x hx => ?_⟩
 obtain ⟨r, _, rfl⟩ := List.mem_map.1 hx
 simp
theorem trTo_row (L : List (List Int)) (m N i : Nat) : trTo L m N i m = trTo L m N (i + 1) 0 := by
 unfold trTo
 refine List.map_congr_left fun c hc => List.map_congr_left fun r _ => ?_
 have := List.mem_range.1 hc
 congr 1
 simp only [eq_iff_iff]
 omega
theorem trTo_step {L : List (List Int)} {m N i j : Nat} (hj : j < m) : (trTo L m N i j).set j (((trTo L m N i j).getD j []).set i ((L.getD i []).getD j 0)) = trTo L m N i (j + 1) := by
 rw [trTo_get hj]
 apply List.ext_getElem?
 intro c
 unfold trTo
 rw [List.getElem?_set, List.length_map, List.length_range]
 by_cases hc : c < m
 · rw [List.getElem?_map, List.getElem?_map, List.getElem?_range hc]
   by_cases h : j = c
   · subst h
     rw [if_pos rfl, if_pos hc]
     simp only [Option.map_some, Option.some.injEq]
     apply List.ext_getElem?
     intro r
     rw [List.getElem?_set, List.length_map, List.length_range]
     by_cases hr : r < N
     · rw [List.getElem?_map, List.getElem?_map, List.getElem?_range hr]
       by_cases h2 : i = r
       · subst h2
         rw [if_pos rfl, if_pos hr]
         simp
       · rw [if_neg h2]
         simp only [Option.map_some, Option.some.injEq]
         congr 1
         simp only [eq_iff_iff]
         omega
     · rw [List.getElem?_eq_none (by simpa using hr), List.getElem?_eq_none (by simpa using hr)]
       split
       · rw [if_neg (by omega)]
       · rfl
   · rw [if_neg h]
     simp only [Option.map_some, Option.some.injEq]
     refine List.map_congr_left fun r _ => ?_
     congr 1
     simp only [eq_iff_iff]
     omega
 · rw [List.getElem?_eq_none (by simpa using hc), List.getElem?_eq_none (by simpa using hc), if_neg (by omega)]
set_option maxRecDepth 100000 in
set_option maxHeartbeats 4000000 in
theorem mxTurn_any (N m : Nat) (A : Option Addr) (c : Nat) (hs : List Hd) (w : World) (h : RdR w A hs) (hN : hs.length = N) (hN' : N ≤ 1000) (hrow : ∀ x, x ∈ hs → x.2.2.length = m) (hm : m ≤ 1000) :
  Calls Tryz.prog 35 #[.agg #[.int .i64 (m : Int), .slice A N c]] w (RetMx w N (trTo (hs.map fun h : Hd => h.2.2) m N N 0)) := by
 obtain ⟨L, hLh⟩ : ∃ L, L = hs.map fun h : Hd => h.2.2 := ⟨_, rfl⟩
 rw [← hLh]
 obtain ⟨W, hW, b0, k0, k1⟩ := alloc2 w (.cells #[.int .i64 (m : Int), .slice A N c] tMat) (.cells #[.int .i64 0, .slice none 0 0] tMat)
 have hWz : W.heap.size = w.heap.size + 1 + 1 := by rw [hW]; simp
 have hZ := fun (W' : World) => mxZero_any m N W' hm hN'
 obtain ⟨⟨e0, e1⟩, e2, e3⟩ := box2 k0
 have b0_h := lH b0; have k0_h := lH k0; have k1_h := lH k1; have hZ_h := lH hZ; have h_h := lH h; have hN_h := lH hN; have hrow_h := lH hrow; have hLh_h := lH hLh; clear b0 k0 k1 hZ h hN hrow hLh
 go_enter Tryz.func35, Tryz.ntmps35
 go_upto_region 1 with (fail)
 rw [← hW]
 clear hW
 go_wp2_with (fail)
 refine (hZ_h.out _).mono ?_
 rintro e w1 ⟨B, d, gs, rfl, hL, hO, hf, hb1⟩
 rw [List.length_replicate]
 clear e0 e1 e2 e3
 have hM := MX.of_own hO hf
 rw [← hL, ← trTo_zero L] at hM
 obtain ⟨W2, hW2⟩ : ∃ W2, W2 = w1.alloc (.cells #[.int .i64 (N : Int), .slice B m d] tMat) := ⟨_, rfl⟩
 have b2 : Below w1.heap.size w1 W2 := by rw [hW2]; exact below_alloc _ _
 have k5 : W2.heap[w1.heap.size]? = some (.cells #[.int .i64 (N : Int), .slice B m d] tMat) := by rw [hW2]; exact heap_alloc_new _ _
 have k4 := box_below (box_below k1_h.out hb1) b2
 have k3 := box_below (box_below k0_h.out hb1) b2
 have hz1 := hb1.size
 have hbW2 := below_trans (below_trans b0_h.out hb1 b0_h.out.size) b2 (by omega)
 have hM2 := hM.below b2
 clear hL hO hf hM hb1 b2; have k5_h := lH k5; have k4_h := lH k4; have k3_h := lH k3; have hbW2_h := lH hbW2; have hM2_h := lH hM2; clear k5 k4 k3 hbW2 hM2
 go_upto_region 2 with (fail)
 rw [← hW2]
 clear hW2
 obtain ⟨⟨e0, e1⟩, e2, e3⟩ := box2 k3_h.out
 go_wp2_with (fail)
 clear e0 e1 e2 e3
 go_loopw [17] (fun i wr => ∃ (k : Nat), k ≤ N ∧ i = .int .i64 k ∧ MX (fun b => W.heap.size ≤ b ∧ b < w1.heap.size) wr B d (trTo L m N k 0) ∧ Below w.heap.size w wr ∧ wr.heap[w1.heap.size]? = some (.cells #[.int .i64 (N : Int), .slice B m d] tMat) ∧ wr.heap[w.heap.size + 1]? = some (.cells #[.int .i64 0, .slice none 0 0] tMat)) (fun i _ => N - (intOf i).toNat)
 case atStart => exact ⟨0, Nat.zero_le _, rfl, hM2_h.out, hbW2_h.out, k5_h.out, k4_h.out⟩
 case round =>
  clear hM2_h hbW2_h k5_h k4_h k3_h
  obtain ⟨k, hk, rfl, hM, hb, kx, ky⟩ := hrel
  obtain ⟨wo, rfl⟩ : ∃ x, x = wr := ⟨_, rfl⟩
  by_cases hlt : k < N
  · have hnk : (k : Int) < (N : Int) := by omega
    obtain ⟨ad, C, e, l, rfl, hx, hc, hri⟩ := (h_h.out.below hb).at_ (k := k) (by rw [hN_h.out]; exact hlt)
    have hll : l.length = m := hrow_h.out _ (List.mem_of_getElem? hx)
    have hlg : L.getD k [] = l := by rw [hLh_h.out]; simp [List.getD, hx]
    have hrw : RdI w C l := h_h.out.2 _ (List.mem_of_getElem? hx)
    rw [hll] at hc
    clear hx hri; have hM_h := lH hM; have hb_h := lH hb; have kx_h := lH kx; have ky_h := lH ky; have hrw_h := lH hrw; have hll_h := lH hll; have hlg_h := lH hlg; clear hM hb kx ky hrw hll hlg
    go_wp2_with (fail)
    go_loopw [24] (fun i wr => ∃ (j : Nat), j ≤ m ∧ i = .int .i64 j ∧ MX (fun b => W.heap.size ≤ b ∧ b < w1.heap.size) wr B d (trTo L m N k j) ∧ Below w.heap.size w wr ∧ wr.heap[w1.heap.size]? = some (.cells #[.int .i64 (N : Int), .slice B m d] tMat) ∧ wr.heap[w.heap.size + 1]? = some (.cells #[.int .i64 0, .slice none 0 0] tMat)) (fun i _ => m - (intOf i).toNat)
    case atStart => exact ⟨0, Nat.zero_le _, rfl, hM_h.out, hb_h.out, kx_h.out, ky_h.out⟩
    case round =>
     clear hM_h hb_h kx_h ky_h
     obtain ⟨j, hj, rfl, hM, hb, kx, ky⟩ := hrel
     by_cases hjt : j < m
     · have hmj : (j : Int) < (m : Int) := by omega
       obtain ⟨cd, x, rfl, hxj, hcx⟩ := (hrw_h.out.below hb).at_ (j := j) (by rw [hll_h.out]; exact hjt)
       have hxg : (L.getD k []).getD j 0 = x := by rw [hlg_h.out]; simp [List.getD, hxj]
       obtain ⟨bd, B', cb, rfl, hc', hz, hI, hsp⟩ := hM.get (i := j) (by simpa using hjt)
       have hgl : ((trTo L m N k j).getD j []).length = N := trTo_len hjt
       obtain ⟨yd, y, rfl, _, _, hcy, hfy⟩ := hI.at_ (j := k) (by rw [hgl]; exact hlt)
       have hfy := hfy k
       obtain ⟨hs1, hs2⟩ := hM.set (i := j) (by simpa using hjt) rfl hc' (j := k) (by rw [hgl]; exact hlt) x
       rw [← hxg, trTo_step hjt, hxg] at hs1
       rw [hgl] at hc'
       have hb' := below_keeps hb hs2 hb.size (fun b hb => by have := hb.1; omega)
       have kx' := box_keeps kx hs2 (fun h => by have := h.2; omega)
       have ky' := box_keeps ky hs2 (fun h => by have := h.1; omega)
       obtain ⟨⟨e0, e1⟩, e2, e3⟩ := box2 kx
       clear hM hI hgl hs2 hb kx ky hsp hxg hxj; have hs1_h := lH hs1; have hb'_h := lH hb'; have kx'_h := lH kx'; have ky'_h := lH ky'; clear hs1 hb' kx' ky'
       go_wp2_with (fail)
       go_roundw
       case rel => exact ⟨j + 1, by omega, by go_num, hs1_h.out, hb'_h.out, kx'_h.out, ky'_h.out⟩
       case measure => simp [intOf]; omega
     · obtain rfl : m = j := by omega
       rw [trTo_row] at hM
       have hM_h := lH hM; have hb_h := lH hb; have kx_h := lH kx; have ky_h := lH ky; clear hM hb kx ky
       go_wp2_with (fail)
       go_roundw
       case rel => exact ⟨k + 1, by omega, by go_num, hM_h.out, hb_h.out, kx_h.out, ky_h.out⟩
       case measure => simp [intOf]; omega
  · obtain rfl : N = k := by omega
    obtain ⟨⟨e0, e1⟩, e2, e3⟩ := box2 kx
    obtain ⟨⟨g0, g1⟩, g2, g3⟩ := box2 ky
    obtain ⟨s1, s2⟩ := set2 (a := .int .i64 (N : Int)) (b := .slice B m d) ky
    have hb9 := below_keeps hb s2 hb.size (fun b hb => by omega)
    have hM9 := hM.keeps s2 (fun b h1 e => by have := h1.1; have := h1.2; omega)
    clear hM hb kx ky; have s1_h := lH s1; have s2_h := lH s2; have hb9_h := lH hb9; have hM9_h := lH hM9; clear s1 s2 hb9 hM9
    go_wp2_with (fail)
    refine bodyPost_ret (results_cell_row rfl _ _ (w.heap.size + 1) _ _ (0, 0) _ rfl s1_h.out Tryz.underlying55 rfl (by kernel_rfl)) rfl ?_
    obtain ⟨gs, h1, h2, h3⟩ := hM9_h.out
    exact ⟨B, d, gs, by rw [trTo_length], h1, h2, fun b hb => by have := (h3 b hb).1; omega, hb9_h.out⟩
end Go.Proofs.YtjompikdkhhlgaaGreatDoor
namespace Go.Proofs.YtjompikdkhhlgaaGreatDoor
theorem trTo_trans (L : List (List Int)) (m : Nat) : trTo L m L.length L.length 0 = transM L m := by
 unfold trTo transM
 refine List.map_congr_left fun c _ => ?_
 apply List.ext_getElem?
 intro r
 by_cases hr : r < L.length
 · rw [List.getElem?_map, List.getElem?_map, List.getElem?_range hr]
   simp [List.getD, hr]
 · rw [List.getElem?_eq_none (by simpa using hr), List.getElem?_eq_none (by simpa using hr)]
open Go.RowKit
theorem mapL_at (v l : List Int) : mapL v l = atV (l.map Int.toNat) v := by
 unfold mapL atV
 rw [List.map_map]
 rfl
set_option maxRecDepth 100000 in
set_option maxHeartbeats 8000000 in
theorem dnWires_any (p : Int) {v : Value} {g : Gr} (w : World) (h : RdGr w v g) (ok : OkG g) (hq : dnAskB p g = true) (AX AY : Option Addr) (cX cY : Nat) (x y : List Int) (hX : RdI w AX x) (hY : RdI w AY y) (hxl : x.length = g.2.2.1.length) (hyl : y.length = g.2.2.2.length) (hxr : Res p x) (hyr : Res p y) :
  Calls Tryz.prog 18 #[.int .i64 p, v, .slice AX g.2.2.1.length cX, .slice AY g.2.2.2.length cY] w fun e w' => ∃ A' c', e = .returned (.tuple #[.slice A' (wvS p g.1.toNat (nullM p g.1.toNat (dnEqs p g)) ((g.2.2.1 ++ g.2.2.2).map Int.toNat) (x ++ y)).1.length c', .bool (wvS p g.1.toNat (nullM p g.1.toNat (dnEqs p g)) ((g.2.2.1 ++ g.2.2.2).map Int.toNat) (x ++ y)).2]) ∧
   IS w' A' c' (wvS p g.1.toNat (nullM p g.1.toNat (dnEqs p g)) ((g.2.2.1 ++ g.2.2.2).map Int.toNat) (x ++ y)).1 ∧ Fresh w.heap.size A' ∧ Below w.heap.size w w' := by
 obtain ⟨A, c, hs, ⟨B, b, s⟩, ⟨C, d, t⟩, rfl, e1, e2, e3, hE, hRa, hRb⟩ := id h
 obtain ⟨z, es, s0, t0⟩ := g
 have a1 : es = hs.map egOf := e1
 have a2 : s = s0 := e2
 have a3 : t = t0 := e3
 subst a2 a3
 clear e1 e2 e3
 obtain ⟨m, hm⟩ : ∃ m, m = hs.length := ⟨_, rfl⟩
 change RdGr w (.agg #[.int .i64 z, .slice A hs.length c, .slice B s.length b, .slice C t.length d]) (z, es, s, t) at h
 change x.length = s.length at hxl
 change y.length = t.length at hyl
 show Calls Tryz.prog _ #[.int .i64 p, .agg #[.int .i64 z, .slice A hs.length c, .slice B s.length b, .slice C t.length d], .slice AX s.length cX, .slice AY t.length cY] w _
 rw [← hm] at h ⊢
 have hd := DnOk.of hq
 have hVA := fun W' (hb : Below w.heap.size w W') => dnValues_any p W' (h.below hb) ok hd
 have hfld := hd.fld
 have hpb := fieldB_bounds hfld
 have hz0 : 0 ≤ z := hd.lo
 have hz1 : z ≤ 100 := hd.hi
 obtain ⟨n, rfl⟩ : ∃ n : Nat, z = (n : Int) := ⟨z.toNat, by omega⟩
 have hn100 : n ≤ 100 := by omega
 have hends : ∀ x, x ∈ s ++ t → 0 ≤ x ∧ x < (n : Int) := hd.ends
 obtain ⟨a, ha⟩ : ∃ a, a = s.length := ⟨_, rfl⟩
 obtain ⟨bb, hbb⟩ : ∃ b, b = t.length := ⟨_, rfl⟩
 have ha12 : a ≤ 12 := by rw [ha]; exact hd.li
 have hb12 : bb ≤ 12 := by rw [hbb]; exact hd.lo'
 obtain ⟨K, hK⟩ : ∃ K, K = nullM p n (dnEqs p ((n : Int), es, s, t)) := ⟨_, rfl⟩
 have hKr := nullM_red (p := p) hfld n (dnEqs p ((n : Int), es, s, t))
 have hKl := red_len hKr
 rw [← hK] at hKr hKl
 have hKm := hKr.1
 obtain ⟨ends, hen⟩ : ∃ e, e = s ++ t := ⟨_, rfl⟩
 obtain ⟨N, hN⟩ : ∃ N, N = a + bb := ⟨_, rfl⟩
 have henl : ends.length = N := by rw [hen, List.length_append, hN, ha, hbb]
 rw [← hen] at hends
 obtain ⟨kk, hkk⟩ : ∃ kk, kk = K.length := ⟨_, rfl⟩
 -- the matrix of values at the interface
 obtain ⟨PM, hPM⟩ : ∃ P, P = K.map (mapL · ends) := ⟨_, rfl⟩
 have hPa : PM = K.map (atV (ends.map Int.toNat)) := by rw [hPM]; exact List.map_congr_left fun v _ => mapL_at v ends
 have hPl : PM.length = kk := by rw [hPM, List.length_map, hkk]
 have hPm : Mat p kk N PM := by
  rw [hPa, ← henl, hkk]
  have := part_mat (ends := ends.map Int.toNat) (by omega : 0 < p) hKm
  rwa [List.length_map] at this
 have hXl : (x ++ y).length = N := by rw [List.length_append, hxl, hyl, hN, ha, hbb]
 have hXr : Res p (x ++ y) := Res.append hxr hyr
 obtain ⟨SV, hSV⟩ : ∃ SV, SV = slvM p kk N PM (x ++ y) := ⟨_, rfl⟩
 have hsok := slv_ok hfld hPm hXl hXr
 rw [← hSV] at hsok
 obtain ⟨Z, hZ⟩ : ∃ Z, Z = nullM p kk (transM PM N) := ⟨_, rfl⟩
 have hZr := nullM_red (p := p) hfld kk (transM PM N)
 rw [← hZ] at hZr
 have hZl := red_len hZr
 have hZm := hZr.1
 obtain ⟨F, hF⟩ : ∃ F, F = Z.map fun k => cmbTo p n k K kk := ⟨_, rfl⟩
 have hFm : Mat p F.length n F := by rw [hF, hkk]; exact free_mat (by omega) Z
 have hFl : F.length = Z.length := by rw [hF, List.length_map]
 have hT := transM_mat (by omega : 0 < p) hPm
 obtain ⟨K3, hK3⟩ : ∃ K3, K3 = redM p n F := ⟨_, rfl⟩
 have hK3r := (redM_spec hfld hFm).1
 rw [← hK3] at hK3r
 obtain ⟨OU, hOU⟩ : ∃ O, O = cmbTo p n SV.1 K kk := ⟨_, rfl⟩
 have hOUl : OU.length = n := by rw [hOU]; exact cmbTo_length _ _ _ _ _
 have hOUr : Res p OU := by rw [hOU]; exact cmbTo_res (by omega) _ _ _ _
 obtain ⟨D, hD⟩ : ∃ D, D = wvS p n K (ends.map Int.toNat) (x ++ y) := ⟨_, rfl⟩
 have hD2 : D = if SV.2 then (lsTo p K3 OU K3.length, true) else ([], false) := by
  rw [hD]
  unfold wvS wvK
  rw [List.length_map, henl, ← hkk, ← hPa, ← hSV, ← hZ, ← hOU, ← hF, ← hK3]
 show Calls Tryz.prog _ _ w fun e w' => ∃ A' c', e = .returned (.tuple #[.slice A' (wvS p n (nullM p n (dnEqs p ((n : Int), es, s, t))) ((s ++ t).map Int.toNat) (x ++ y)).1.length c', .bool (wvS p n (nullM p n (dnEqs p ((n : Int), es, s, t))) ((s ++ t).map Int.toNat) (x ++ y)).2]) ∧ IS w' A' c' (wvS p n (nullM p n (dnEqs p ((n : Int), es, s, t))) ((s ++ t).map Int.toNat) (x ++ y)).1 ∧ Fresh w.heap.size A' ∧ Below w.heap.size w w'
 rw [← hK, ← hen, ← hD]
 have hVA' : ∀ W', Below w.heap.size w W' → Calls Tryz.prog 30 #[.int .i64 p, .agg #[.int .i64 (n : Int), .slice A m c, .slice B a b, .slice C bb d]] W' (RetSS W' K) := by
  intro W' hb
  have h1 := hVA W' hb
  have e : nullM p (((n : Int), es, s, t) : Gr).1.toNat (dnEqs p ((n : Int), es, s, t)) = K := by rw [hK]; rfl
  rw [e, ← ha, ← hbb] at h1
  exact h1
 rw [← ha, ← hbb]
 have hNI : (a : Int) + (bb : Int) = (N : Int) := by omega
 have hxa : x.length = a := by rw [hxl, ha]
 have hyb : y.length = bb := by rw [hyl, hbb]
 obtain ⟨W, hW, bW, k0⟩ := (⟨_, rfl, below_alloc _ _, heap_alloc_new _ _⟩ : ∃ W, W = w.alloc (.cells #[.int .i64 (n : Int), .slice A m c, .slice B a b, .slice C bb d] tGr) ∧ Below w.heap.size w W ∧ W.heap[w.heap.size]? = some (.cells #[.int .i64 (n : Int), .slice A m c, .slice B a b, .slice C bb d] tGr))
 have hRa2 : RdI W B s := RdI.below hRa bW
 have hRb2 : RdI W C t := RdI.below hRb bW
 clear h hd ok hE hRa hRb hz0 hz1 hq hVA hKr hK a1 hm hD hxl hyl hxr hyr; have k0_h := lH k0; have bW_h := lH bW; have hVA'_h := lH hVA'; have hpb_h := lH hpb; have hfld_h := lH hfld; have hends_h := lH hends; have ha_h := lH ha; have hbb_h := lH hbb; have hKl_h := lH hKl; have hKm_h := lH hKm; have hen_h := lH hen; have henl_h := lH henl; have hN_h := lH hN; have hRa2_h := lH hRa2; have hRb2_h := lH hRb2; have hNI_h := lH hNI; have hkk_h := lH hkk; have hPM_h := lH hPM; have hPa_h := lH hPa; have hPl_h := lH hPl; have hPm_h := lH hPm; have hXl_h := lH hXl; have hXr_h := lH hXr; have hSV_h := lH hSV; have hsok_h := lH hsok; have hZ_h := lH hZ; have hZr_h := lH hZr; have hZl_h := lH hZl; have hZm_h := lH hZm; have hF_h := lH hF; have hFm_h := lH hFm; have hFl_h := lH hFl; have hT_h := lH hT; have hK3_h := lH hK3; have hK3r_h := lH hK3r; have hOU_h := lH hOU; have hOUl_h := lH hOUl; have hOUr_h := lH hOUr; have hD2_h := lH hD2; have hxa_h := lH hxa; have hyb_h := lH hyb; have hX_h := lH hX; have hY_h := lH hY; clear k0 bW hVA' hpb hfld hends ha hbb hKl hKm hen henl hN hRa2 hRb2 hNI hkk hPM hPa hPl hPm hXl hXr hSV hsok hZ hZr hZl hZm hF hFm hFl hT hK3 hK3r hOU hOUl hOUr hD2 hxa hyb hX hY
 go_enter Tryz.func18, Tryz.ntmps18
 go_upto_region 1 with (fail)
 rw [← hW]
 clear hW
 refine beginH (fun w' => w'.heap[w.heap.size]? = some (.cells #[.int .i64 (n : Int), .slice A m c, .slice B a b, .slice C bb d] tGr)) (by kernel_rfl) ?_
 have hbd : Below W.heap.size W W.drew := below_drewN (Below.refl _ _) 1
 generalize W.drew = w1 at hbd ⊢
 have hz01 : w.heap.size < w1.heap.size := Nat.lt_of_lt_of_le (box_lt k0_h.out) hbd.size
 replace k0_h := lH (box_below k0_h.out hbd)
 have hB1 := below_trans bW_h.out hbd bW_h.out.size
 refine tkH 0 ?_ rfl k0_h.out (fun W' hW' => ?_) ?_; rotate_left; · (obtain ⟨⟨y0, y1, y2, y3⟩, y4, y5, y6, y7⟩ := box4 hW'; clear hW'; go_simp; first | done | with_reducible rfl)
 simp only [Act.put, nS]
 refine tkH 1 ?_ rfl k0_h.out (fun W' hW' => ?_) ?_; rotate_left; · (obtain ⟨⟨y0, y1, y2, y3⟩, y4, y5, y6, y7⟩ := box4 hW'; clear hW'; go_simp; first | done | with_reducible rfl)
 simp only [Act.put, nS]
 refine tkH 3 ?_ rfl k0_h.out (fun W' hW' => ?_) ?_; rotate_left; · (obtain ⟨⟨y0, y1, y2, y3⟩, y4, y5, y6, y7⟩ := box4 hW'; clear hW'; go_simp; first | done | with_reducible rfl)
 simp only [Act.put, nS]
 refine tkH 4 ?_ rfl k0_h.out (fun W' hW' => ?_) ?_; rotate_left; · (obtain ⟨⟨y0, y1, y2, y3⟩, y4, y5, y6, y7⟩ := box4 hW'; clear hW'; go_simp; first | done | with_reducible rfl)
 simp only [Act.put, nS]
 refine' callH 2 (f := _) (args := _) rfl (by kernel_rfl) (by rfl) ?_ ?_; rotate_left 2; · (go_simp; first | done | with_reducible rfl | (constructor <;> with_reducible rfl))
 have hOw := l1Own_any B b s w1 (hRa2_h.out.below hbd) (by have := ha_h.out; omega)
 rw [← ha_h.out] at hOw
 refine (hOw).mono ?_
 rintro e w2 ⟨Ao, co, rfl, hio, hfo, hb2⟩
 rw [← ha_h.out]
 replace k0_h := lH (box_below k0_h.out hb2)
 refine ⟨_, rfl, k0_h.out, ?_⟩
 simp only [Act.put, nS]
 have hso : Sl w2 3 1 Ao a co (ints s) := by have := hio; unfold IS at this; rw [← ha_h.out] at this; exact this
 have hrt := (hRb2_h.out.below (below_trans hbd hb2 hbd.size)).rdc
 have hlt2 : (ints t).length = bb * 1 := by rw [ints_length, ← hbb_h.out, Nat.mul_one]
 have hB2 := below_trans hB1 hb2 hB1.size
 have hzb := hbd.size
 clear hOw hio hbd; have hso_h := lH hso; have hrt_h := lH hrt; have hlt2_h := lH hlt2; have hB2_h := lH hB2; have hfo_h := lH hfo; have hb2_h := lH hb2; have hB1_h := lH hB1; clear hso hrt hlt2 hB2 hfo hb2 hB1
 refine appH 5 rfl (by kernel_rfl) (by rfl) _ _ _ rfl tInt Tryz.underlying23 info_int rfl (by omega) rfl hso_h.out rfl hlt2_h.out hrt_h.out (ints_one t) (by unfold maxLen; omega) (by omega) ?_
 intro A7 c7 w7 hsA7 hA7 hkA7
 have k07 := box_keeps k0_h.out hkA7 (fun h => by have := hfo_h.out _ h; omega)
 have hB7 := below_keeps hB2_h.out hkA7 hB2_h.out.size (fun b hb => by have := hfo_h.out b hb; omega)
 have hI7 : IS w7 A7 c7 ends := by
  unfold IS
  rw [henl_h.out, hN_h.out, hen_h.out]
  have e : ints (s ++ t) = ints s ++ ints t := by simp [ints]
  rw [e]; exact hsA7
 have hN12 : a + bb = N := hN_h.out.symm
 rw [hN12]
 clear hsA7 hA7 hkA7 hN12; have k07_h := lH k07; have hB7_h := lH hB7; have hI7_h := lH hI7; clear k07 hB7 hI7
 refine ⟨k07_h.out, ?_⟩
 simp only [Act.put, nS]
 refine tkH 6 ?_ rfl k07_h.out (fun W' hW' => ?_) ?_; rotate_left; · (skip; clear hW'; go_simp; first | done | with_reducible rfl)
 simp only [Act.put, nS]
 refine doneH (by kernel_rfl) ?_
 obtain ⟨⟨c0, c1, c2, c3⟩, f0, f1, f2, f3⟩ := box4 k07_h.out
 have hVA1 := hVA'_h.out w7 hB7_h.out
 have hVA1_h := lH hVA1; clear hVA1
 go_wp2_with (fail)
 refine (hVA1_h.out).mono ?_
 rintro e w8 hret
 obtain ⟨A5, c5, rfl, hK5⟩ := hret.om
 obtain ⟨hsK, hKL, hKR⟩ := hK5.rdr
 rw [← hkk_h.out]
 have hk100 : kk ≤ 100 := by rw [hkk_h.out]; have := hKl_h.out; omega
 have hb8 := hK5.below_
 have hI8 := hI7_h.out.below hb8
 have k08 := box_below k07_h.out hb8
 have hB8 := below_trans hB7_h.out hb8 hB7_h.out.size
 have hsKl : hsK.length = kk := by rw [hkk_h.out, hKL, List.length_map]
 obtain ⟨bx, hbx⟩ : ∃ bx, bx = w8.heap.size := ⟨_, rfl⟩
 obtain ⟨W2, hW2⟩ : ∃ W2, W2 = w8.alloc (.cells #[.int .i64 (N : Int), .slice none 0 0] tMat) := ⟨_, rfl⟩
 have bW2 : Below w8.heap.size w8 W2 := by rw [hW2]; exact below_alloc _ _
 have k9 : W2.heap[bx]? = some (.cells #[.int .i64 (N : Int), .slice none 0 0] tMat) := by rw [hW2, hbx]; exact heap_alloc_new _ _
 have hnil : OMx w8 bx W2 none 0 (PM.take 0) := by simpa using OMx.nil bW2 (by omega) (box_lt k9)
 clear hret c0 c1 c2 c3 f0 f1 f2 f3 hK5 hb8
 go_upto_region 4 with (fail)
 rw [← hW2, ← hbx]
 clear hW2; have hKL_h := lH hKL; have hKR_h := lH hKR; have hI8_h := lH hI8; have k08_h := lH k08; have hB8_h := lH hB8; have hsKl_h := lH hsKl; have bW2_h := lH bW2; have k9_h := lH k9; have hnil_h := lH hnil; have hbx_h := lH hbx; clear hKL hKR hI8 k08 hB8 hsKl bW2 k9 hnil hbx
 go_wp2_with (fail)
 go_loopw [37] (fun i wr => ∃ (k q : Nat) (A1 : Option Addr) (c1 : Nat), k ≤ kk ∧ i = .int .i64 k ∧ q = k ∧ wr.heap[bx]? = some (.cells #[.int .i64 (N : Int), .slice A1 q c1] tMat) ∧ OMx w8 bx wr A1 c1 (PM.take k)) (fun i _ => kk - (intOf i).toNat)
 case atStart => exact ⟨0, 0, none, 0, Nat.zero_le _, rfl, rfl, k9_h.out, hnil_h.out⟩
 case round =>
  clear hnil_h k9_h
  obtain ⟨k, q, A1, c1, hk, rfl, hq, kx, hOM⟩ := hrel
  obtain ⟨wo, rfl⟩ : ∃ x, x = wr := ⟨_, rfl⟩
  have hbo := hOM.below_
  by_cases hlt : k < kk
  · have hkI : (k : Int) < (kk : Int) := by omega
    have hq100 : q ≤ 100 := by omega
    obtain ⟨ad, Bk, dk, u, rfl, hx, hcu, hrd⟩ := (hKR_h.out.below hbo).at_ (k := k) (by rw [hsKl_h.out]; exact hlt)
    have hKk : K[k]? = some u := by rw [hKL_h.out, List.getElem?_map, hx]; rfl
    have hul := (hKm_h.out.row u (List.mem_of_getElem? hKk)).1
    rw [hul] at hcu
    have hC := fun (W' : World) (hb : Below wo.heap.size wo W') => hgList_any A7 Bk c7 dk N n ends u W' ((hI8_h.out.below hbo).below hb).rd (hrd.below hb) henl_h.out hul hends_h.out (by have := hN_h.out; omega)
    have hlx : PM[k]? = some (mapL u ends) := by rw [hPM_h.out, List.getElem?_map, hKk]; rfl
    have htk : PM.take k ++ [mapL u ends] = PM.take (k + 1) := by rw [List.take_add_one, hlx]; rfl
    have hrl : (mapL u ends).length = N := by rw [mapL_length, henl_h.out]
    have hbd : Below wo.heap.size wo wo.drew := below_drewN (Below.refl _ _) 1
    clear hx hrd hKk hul hlx; have kx_h := lH kx; have hOM_h := lH hOM; have hC_h := lH hC; have htk_h := lH htk; have hrl_h := lH hrl; have hbd_h := lH hbd; have hq_h := lH hq; have hbo_h := lH hbo; clear kx hOM hC htk hrl hbd hq hbo
    go_wp2_with (fail)
    refine beginZw 8 (fun w' => w'.heap[bx]? = some (.cells #[.int .i64 (N : Int), .slice A1 q c1] tMat)) (by kernel_rfl) (fun W1 hW1 => ?_)
    have hB := hbd_h.out
    rw [← hW1] at hB
    clear hW1
    have hF := box_below kx_h.out hB
    have hF_h := lH hF; have hB_h := lH hB; clear hF hB
    refine tkC 0 ?_ rfl hF_h.out (fun W' hW' => ?_) ?_; rotate_left; · (obtain ⟨⟨x0, x1⟩, x2, x3⟩ := box2 hW'; clear hW'; go_simp; first | done | with_reducible rfl)
    simp only [Act.put, nS]
    refine tkC 1 ?_ rfl hF_h.out (fun W' hW' => ?_) ?_; rotate_left; · (obtain ⟨⟨x0, x1⟩, x2, x3⟩ := box2 hW'; clear hW'; go_simp; first | done | with_reducible rfl)
    simp only [Act.put, nS]
    refine tkC 2 ?_ rfl hF_h.out (fun W' hW' => ?_) ?_; rotate_left; · (obtain ⟨⟨x0, x1⟩, x2, x3⟩ := box2 hW'; clear hW'; go_simp; first | done | with_reducible rfl)
    simp only [Act.put, nS]
    refine tkC 3 ?_ rfl hF_h.out (fun W' hW' => ?_) ?_; rotate_left; · (obtain ⟨⟨x0, x1⟩, x2, x3⟩ := box2 hW'; clear hW'; go_simp; first | done | with_reducible rfl)
    simp only [Act.put, nS]
    refine callZ 4 (f := ?f1) (args := ?args1) rfl (by kernel_rfl) (by rfl) ?hrun1 ?hcall1
    case hrun1 => (go_simp; first | done | with_reducible rfl | (constructor <;> with_reducible rfl))
    case hcall1 =>
     refine (hC_h.out _ hB_h.out).mono ?_
     rintro e w4 ⟨A9, c9, rfl, hOI⟩
     have hi7 := hOI.is
     have hf7 := hOI.new
     have hb4 := hOI.below_
     have hB4 := below_trans hB_h.out hb4 hB_h.out.size
     have hF3 := box_below hF_h.out hb4
     have hfA7 : Fresh wo.heap.size A9 := fun b hb => by have := hf7 b hb; have := hB_h.out.size; omega
     refine ⟨_, rfl, fun _ => hF3, ?_⟩
     simp only [Act.put, nS]
     have hal := below_alloc w4 (.cells #[.slice A9 N c9] 23)
     have hba := below_trans hB4 hal hB4.size
     have hF4 := box_below hF3 hal
     obtain ⟨ys, hLy, hOy, hfy, h0y, h1y, h2y⟩ := hOM_h.out
     have hyl : ys.length = q := by have := congrArg List.length hLy; rw [List.length_map, List.length_take, hPl_h.out] at this; have := hq_h.out; omega
     have hsl : Sl (w4.alloc (.cells #[.slice A9 N c9] 23)) 23 1 A1 q c1 (ys.map Hd.val) := by
      have := (hOy.sl.below hB4).alloc (.cells #[.slice A9 N c9] 23)
      rwa [hyl] at this
     have hi8 := hi7.below hal
     clear hOI hi7 hf7 hb4 hF3; have hF4_h := lH hF4; have hba_h := lH hba; have hal_h := lH hal; have hsl_h := lH hsl; have hi8_h := lH hi8; have hfA7_h := lH hfA7; have hLy_h := lH hLy; have hOy_h := lH hOy; have hfy_h := lH hfy; have h0y_h := lH h0y; have hyl_h := lH hyl; have hB4_h := lH hB4; clear hF4 hba hal hsl hi8 hfA7 hLy hOy hfy h0y hyl hB4
     refine oneZ 5 rfl (by kernel_rfl) (by rfl) (fun K hK => ?_)
     go_simp
     refine hK _ _ (fun _ => hF4_h.out) ?_
     clear hK K
     refine appZ 6 rfl (by kernel_rfl) (by rfl) _ _ _ rfl 23 Tryz.underlying52 info_ints rfl (by omega) rfl hsl_h.out rfl (news := [.slice A9 N c9]) rfl (Sl.rdc (Sl.laid w4 23 1 1 #[.slice A9 N c9] (by unfold maxLen; omega) rfl)) (by intro u hu; simp at hu; subst hu; rfl) (by unfold maxLen; omega) (by omega) ?_
     intro A6 c6 w6 hsA6 hA6 hkA6 hrdA6
     clear hrdA6
     have hO6 := OMx.snoc (l := mapL u ends) (w1 := w4.alloc (.cells #[.slice A9 N c9] 23)) hLy_h.out hOy_h.out hfy_h.out h0y_h.out h1y h2y hba_h.out hi8_h.out hfA7_h.out (by rw [hyl_h.out]) (by rw [hrl_h.out]; exact hsA6) hA6 hkA6
     have hF7 := box_keeps hF4_h.out hkA6 (fun h => (hfy_h.out _ (List.mem_append_left _ h)).2 rfl)
     refine ⟨fun _ => hF7, ?_⟩
     obtain ⟨s1, s2⟩ := setM (b := .slice A6 (q + 1) c6) hF7
     have hO7 := hO6.store s2
     rw [htk_h.out] at hO7
     obtain ⟨⟨x0, x1⟩, x3, x4⟩ := box2 hF7
     clear hsA6 hA6 hkA6 hO6 s2; have hF7_h := lH hF7; have hO7_h := lH hO7; have s1_h := lH s1; clear hF7 hO7 s1
     simp only [Act.put, nS]
     refine tkC 7 ?_ rfl hF7_h.out (fun W' hW' => ?_) ?_; rotate_left; · (skip; clear hW'; go_simp; first | done | with_reducible rfl)
     simp only [Act.put, nS]
     refine oneZ 8 rfl (by kernel_rfl) (by rfl) (fun K hK => ?_)
     go_simp
     refine hK _ _ (fun h => by cases h) ?_
     clear hK K
     refine doneZ (by kernel_rfl) ?_
     go_wp2_with (fail)
     go_roundw
     case rel => exact ⟨k + 1, q + 1, A6, c6, by omega, by go_num, by have := hq_h.out; omega, s1_h.out, hO7_h.out⟩
     case measure => simp [intOf]; omega
  · obtain rfl : kk = k := by omega
    obtain rfl : kk = q := hq.symm
    have hO2 : OMx w8 bx wo A1 c1 PM := by have := hOM; rwa [List.take_of_length_le (by rw [hPl_h.out]; exact Nat.le_refl _)] at this
    obtain ⟨ys, hLy, hOy, _⟩ := hO2
    have hyl : ys.length = kk := by have := congrArg List.length hLy; rw [hPl_h.out, List.length_map] at this; exact this.symm
    have hBo := below_trans hB8_h.out hbo hB8_h.out.size
    have k0o := box_below k08_h.out hbo
    have hrdK := hKR_h.out.below hbo
    clear hOM hq; have kx_h := lH kx; have hbo_h := lH hbo; have hLy_h := lH hLy; have hOy_h := lH hOy; have hyl_h := lH hyl; have hBo_h := lH hBo; have k0o_h := lH k0o; have hrdK_h := lH hrdK; clear kx hbo hLy hOy hyl hBo k0o hrdK
    go_wp2_with (fail)
    refine beginH (fun w' => w'.heap[bx]? = some (.cells #[.int .i64 (N : Int), .slice A1 kk c1] tMat)) (by kernel_rfl) ?_
    have hbd : Below wo.heap.size wo wo.drew := below_drewN (Below.refl _ _) 1
    generalize wo.drew = w9 at hbd ⊢
    have kx9 := box_below kx_h.out hbd
    have hB9 := below_trans hBo_h.out hbd hBo_h.out.size
    have hbd_h := lH hbd; have kx9_h := lH kx9; have hB9_h := lH hB9; clear hbd kx9 hB9
    refine tkH 0 ?_ rfl kx9_h.out (fun W' hW' => ?_) ?_; rotate_left; · (obtain ⟨⟨x0, x1⟩, x2, x3⟩ := box2 hW'; clear hW'; go_simp; first | done | with_reducible rfl)
    simp only [Act.put, nS]
    refine tkH 1 ?_ rfl kx9_h.out (fun W' hW' => ?_) ?_; rotate_left; · (obtain ⟨⟨x0, x1⟩, x2, x3⟩ := box2 hW'; clear hW'; go_simp; first | done | with_reducible rfl)
    simp only [Act.put, nS]
    refine tkH 2 ?_ rfl kx9_h.out (fun W' hW' => ?_) ?_; rotate_left; · (obtain ⟨⟨x0, x1⟩, x2, x3⟩ := box2 hW'; clear hW'; go_simp; first | done | with_reducible rfl)
    simp only [Act.put, nS]
    refine tkH 4 ?_ rfl kx9_h.out (fun W' hW' => ?_) ?_; rotate_left; · (obtain ⟨⟨x0, x1⟩, x2, x3⟩ := box2 hW'; clear hW'; go_simp; first | done | with_reducible rfl)
    simp only [Act.put, nS]
    refine' callH 3 (f := _) (args := _) rfl (by kernel_rfl) (by rfl) ?_ ?_; rotate_left 2; · (go_simp; first | done | with_reducible rfl | (constructor <;> with_reducible rfl))
    have hOw := l1Own_any AX cX x w9 (hX_h.out.below hB9_h.out) (by have := hxa_h.out; omega)
    rw [hxa_h.out] at hOw
    refine (hOw).mono ?_
    rintro e w10 ⟨Ao, co, rfl, hio, hfo, hb10⟩
    rw [hxa_h.out]
    have kx10 := box_below kx9_h.out hb10
    have hB10 := below_trans hB9_h.out hb10 hB9_h.out.size
    refine ⟨_, rfl, kx10, ?_⟩
    simp only [Act.put, nS]
    have hso : Sl w10 3 1 Ao a co (ints x) := by have := hio; unfold IS at this; rw [hxa_h.out] at this; exact this
    have hrt := (hY_h.out.below hB10).rdc
    have hlt2 : (ints y).length = bb * 1 := by rw [ints_length, hyb_h.out, Nat.mul_one]
    have hfo2 : ∀ b, b ∈ fpA Ao → wo.heap.size ≤ b := fun b hb => Nat.le_trans hbd_h.out.size (hfo b hb)
    have hb10' := below_trans hbd_h.out hb10 hbd_h.out.size
    clear hOw hio hfo hb10; have hso_h := lH hso; have hrt_h := lH hrt; have hlt2_h := lH hlt2; have hfo2_h := lH hfo2; have kx10_h := lH kx10; have hB10_h := lH hB10; have hb10'_h := lH hb10'; clear hso hrt hlt2 hfo2 kx10 hB10 hb10'
    refine appH 5 rfl (by kernel_rfl) (by rfl) _ _ _ rfl tInt Tryz.underlying23 info_int rfl (by omega) rfl hso_h.out rfl hlt2_h.out hrt_h.out (ints_one y) (by unfold maxLen; omega) (by omega) ?_
    intro A11 c11 w11 hsA11 hA11 hkA11
    have hbo11 : Below wo.heap.size wo w11 := below_keeps hb10'_h.out hkA11 hb10'_h.out.size (fun b hb => hfo2_h.out b hb)
    have kx11 := box_below kx_h.out hbo11
    have hB11 := below_trans hBo_h.out hbo11 hBo_h.out.size
    have hI11 : IS w11 A11 c11 (x ++ y) := by
     unfold IS
     rw [hXl_h.out, hN_h.out]
     have e : ints (x ++ y) = ints x ++ ints y := by simp [ints]
     rw [e]; exact hsA11
    have hN12 : a + bb = N := hN_h.out.symm
    rw [hN12]
    clear hsA11 hA11 hkA11 hN12
    have hSo := mxSolve_any p N kk A1 A11 c1 c11 ys (x ++ y) w11 (hOy_h.out.rd.below hbo11) hyl_h.out hfld_h.out (by rw [← hLy_h.out]; exact hPm_h.out) (by omega) (by have := hN_h.out; omega) hI11.rd hXl_h.out hXr_h.out
    rw [← hLy_h.out, ← hSV_h.out] at hSo
    refine ⟨kx11, ?_⟩
    have hbo11_h := lH hbo11; have kx11_h := lH kx11; have hB11_h := lH hB11; have hSo_h := lH hSo; clear hbo11 kx11 hB11 hSo; clear hI11
    simp only [Act.put, nS]
    refine' callH 6 (f := _) (args := _) rfl (by kernel_rfl) (by rfl) ?_ ?_; rotate_left 2; · (go_simp; first | done | with_reducible rfl | (constructor <;> with_reducible rfl))
    refine (hSo_h.out).mono ?_
    rintro e w12 ⟨A12, c12, rfl, hi12, hf12, hb12⟩
    have kx12 := box_below kx11_h.out hb12
    have hbo12 := below_trans hbo11_h.out hb12 hbo11_h.out.size
    have hB12 := below_trans hBo_h.out hbo12 hBo_h.out.size
    refine ⟨_, rfl, kx12, ?_⟩
    obtain ⟨tb, htb⟩ : ∃ t, t = SV.2 := ⟨_, rfl⟩
    rw [← htb]
    have kx12_h := lH kx12; have hbo12_h := lH hbo12; have hB12_h := lH hB12; have hi12_h := lH hi12; have hf12_h := lH hf12; have htb_h := lH htb; clear kx12 hbo12 hB12 hi12 hf12 htb; clear hb12
    simp only [Act.put, nS]
    refine tkH 7 ?_ rfl kx12_h.out (fun W' hW' => ?_) ?_; rotate_left; · (skip; clear hW'; go_simp; first | done | with_reducible rfl)
    simp only [Act.put, nS]
    refine tkH 8 ?_ rfl kx12_h.out (fun W' hW' => ?_) ?_; rotate_left; · (skip; clear hW'; go_simp; first | done | with_reducible rfl)
    simp only [Act.put, nS]
    refine tkH 9 ?_ rfl kx12_h.out (fun W' hW' => ?_) ?_; rotate_left; · (skip; clear hW'; go_simp; first | done | with_reducible rfl)
    simp only [Act.put, nS]
    refine tkH 10 ?_ rfl kx12_h.out (fun W' hW' => ?_) ?_; rotate_left; · (skip; clear hW'; go_simp; first | done | with_reducible rfl)
    simp only [Act.put, nS]
    refine tkH 11 ?_ rfl kx12_h.out (fun W' hW' => ?_) ?_; rotate_left; · (skip; clear hW'; go_simp; first | done | with_reducible rfl)
    simp only [Act.put, nS]
    refine doneH (by kernel_rfl) ?_
    have hD4 := hD2_h.out
    rw [← htb_h.out] at hD4
    cases tb
    case false =>
     rw [if_neg (by simp)] at hD4
     have hD4_h := lH hD4; clear hD4
     go_wp2_with (fail)
     go_ret2
     rw [hD4_h.out]
     exact ⟨none, 0, rfl, (show IS _ none 0 [] from Sl.nil _ _ _), Fresh.none_ _, hB12_h.out⟩
    case true =>
     rw [if_pos rfl] at hD4
     have hD4_h := lH hD4; clear hD4
     have k012 := box_below k0o_h.out hbo12_h.out
     have hrdK12 := hrdK_h.out.below hbo12_h.out
     have hKe : hsK.map (fun h : Hd => h.2.2) = K := hKL_h.out.symm
     have hSum := fun (W' : World) (hb : Below w12.heap.size w12 W') (Bk : Option Addr) (cb : Nat) (u : List Int) (hu : RdI W' Bk u) (hul : u.length = kk) (hur : Res p u) => spSum_any p n kk A5 Bk c5 cb hsK u K W' (hrdK12.below hb) hKe hkk_h.out.symm hu hul hur hKm_h.out (by have := hpb_h.out; omega) hpb_h.out.2 (by omega) (by omega)
     have hS1 := hSum w12 (Below.refl _ _) A12 c12 SV.1 hi12_h.out.rd hsok_h.out.1 hsok_h.out.2.1
     rw [← hOU_h.out] at hS1
     obtain ⟨⟨c0, c1', c2, c3⟩, f0, f1, f2, f3⟩ := box4 k012
     have k012_h := lH k012; have hrdK12_h := lH hrdK12; have hKe_h := lH hKe; have hSum_h := lH hSum; have hS1_h := lH hS1; clear k012 hrdK12 hKe hSum hS1
     go_wp2_with (fail)
     refine (hS1_h.out).mono ?_
     rintro e w13 ⟨A13, c13, rfl, hi13, hf13, hb13⟩
     rw [hOUl_h.out]
     clear c0 c1' c2 c3 f0 f1 f2 f3
     have kx13 := box_below kx12_h.out hb13
     have k013 := box_below k012_h.out hb13
     have hB13 := below_trans hB12_h.out hb13 hB12_h.out.size
     have hbo13 := below_trans hbo12_h.out hb13 hbo12_h.out.size
     have hrdy := hOy_h.out.rd.below hbo13
     have kx13_h := lH kx13; have k013_h := lH k013; have hB13_h := lH hB13; have hbo13_h := lH hbo13; have hi13_h := lH hi13; have hf13_h := lH hf13; have hb13_h := lH hb13; have hrdy_h := lH hrdy; clear kx13 k013 hB13 hbo13 hi13 hf13 hb13 hrdy
     -- the matrix turned, its null space
     have hTt : trTo PM N kk kk 0 = transM PM N := by
      have h1 := trTo_trans PM N
      rwa [hPl_h.out] at h1
     have hTu := mxTurn_any kk N A1 c1 ys w13 hrdy_h.out hyl_h.out (by omega) (fun y hy => by
      have := hPm_h.out.row y.2.2 (by rw [hLy_h.out]; exact List.mem_map.2 ⟨y, hy, rfl⟩)
      exact this.1) (by have := hN_h.out; omega)
     rw [← hLy_h.out, hTt] at hTu
     have hTl : (transM PM N).length = N := hT_h.out.len
     have hfd : ∀ (x y : Value) (W : World), (Instr.field tMat (.agg #[x, y]) 1).run Tryz.prog W = .ok y W := fun _ _ _ => by kernel_rfl
     obtain ⟨⟨x0, x1⟩, x2, x3⟩ := box2 kx13_h.out
     have hTu_h := lH hTu; have hTl_h := lH hTl; clear hTu hTl; clear hTt
     go_wp2_with (fail)
     refine (hTu_h.out).mono ?_
     rintro e w14 ⟨A14, c14, gs, rfl, hgs, hOg, hfg, hb14⟩
     rw [hTl_h.out]
     have hgl : gs.length = N := by have := congrArg List.length hgs; rw [hTl_h.out, List.length_map] at this; exact this.symm
     have hNu := spNull_any p kk A14 c14 gs w14 hOg.rd hfld_h.out (by rw [← hgs, hgl, ← hTl_h.out]; rw [hTl_h.out]; exact hT_h.out) (by have := hN_h.out; omega) (by omega)
     rw [hgl, ← hgs, ← hZ_h.out] at hNu
     clear x0 x1 x2 x3; have hNu_h := lH hNu; have hgs_h := lH hgs; have hOg_h := lH hOg; have hfg_h := lH hfg; have hgl_h := lH hgl; clear hNu hgs hOg hfg hgl
     go_wp2_with (fail)
     refine (hNu_h.out).mono ?_
     rintro e w15 ⟨A15, c15, zs, rfl, hzs, hO15, hf15, hb15⟩
     obtain ⟨nz, hnz⟩ : ∃ nz, nz = Z.length := ⟨_, rfl⟩
     rw [← hnz]
     have hnz100 : nz ≤ 100 := by have := hZl_h.out; omega
     have hzl : zs.length = nz := by rw [hnz, hzs, List.length_map]
     have hb1315 := below_trans hb14 hb15 hb14.size
     have k015 := box_below k013_h.out hb1315
     have hB15 := below_trans hB13_h.out hb1315 hB13_h.out.size
     have hi15 := hi13_h.out.below hb1315
     have hb1215 := below_trans hb13_h.out hb1315 hb13_h.out.size
     have hrdZ := hO15.rd
     have hOM0 : OM w15 w15 none 0 (F.take 0) := by simpa using OM.nil w15
     clear hb14 hb15 hO15 hf15; have hzs_h := lH hzs; have hnz_h := lH hnz; have hzl_h := lH hzl; have hb1315_h := lH hb1315; have k015_h := lH k015; have hB15_h := lH hB15; have hi15_h := lH hi15; have hb1215_h := lH hb1215; have hrdZ_h := lH hrdZ; have hOM0_h := lH hOM0; clear hzs hnz hzl hb1315 k015 hB15 hi15 hb1215 hrdZ hOM0
     go_wp2_with (fail)
     go_loopw [76, 18] (fun i v wr => ∃ (k : Nat) (A1 : Option Addr) (c1 : Nat), k ≤ nz ∧ i = .int .i64 k ∧ v = .slice A1 k c1 ∧ OM w15 wr A1 c1 (F.take k)) (fun i _ _ => nz - (intOf i).toNat)
     case atStart => exact ⟨0, none, 0, Nat.zero_le _, rfl, rfl, hOM0_h.out⟩
     case round =>
      clear hOM0_h
      obtain ⟨k, A1', c1', hk, rfl, rfl, hOM⟩ := hrel
      have hbr := hOM.below_
      by_cases hlt : k < nz
      · have hkI : (k : Int) < (nz : Int) := by omega
        obtain ⟨ad, Bz, dz, u, rfl, hx, hcu, hrd⟩ := (hrdZ_h.out.below hbr).at_ (k := k) (by rw [hzl_h.out]; exact hlt)
        have hZk : Z[k]? = some u := by rw [hzs_h.out, List.getElem?_map, hx]; rfl
        obtain ⟨hul, hur⟩ := hZm_h.out.row u (List.mem_of_getElem? hZk)
        rw [hul] at hcu
        have hb12r := below_trans hb1215_h.out hbr hb1215_h.out.size
        have hS2 := hSum_h.out wr hb12r Bz dz u hrd hul hur
        have hFk : F[k]? = some (cmbTo p n u K kk) := by rw [hF_h.out, List.getElem?_map, hZk]; rfl
        have hftk : F.take k ++ [cmbTo p n u K kk] = F.take (k + 1) := by rw [List.take_add_one, hFk]; rfl
        have hfl : (cmbTo p n u K kk).length = n := cmbTo_length _ _ _ _ _
        have k0r := box_below k015_h.out hbr
        obtain ⟨⟨c0, c1, c2, c3⟩, f0, f1, f2, f3⟩ := box4 k0r
        obtain ⟨fs, hLf, hOf, hff, h0f⟩ := hOM
        have hfsl : fs.length = k := by have := congrArg List.length hLf; rw [List.length_take, hFl_h.out, ← hnz_h.out, List.length_map] at this; omega
        clear hx hrd hZk hul hur hFk hb12r k0r; have hS2_h := lH hS2; have hftk_h := lH hftk; have hfl_h := lH hfl; have hLf_h := lH hLf; have hOf_h := lH hOf; have hff_h := lH hff; have h0f_h := lH h0f; have hfsl_h := lH hfsl; have hbr_h := lH hbr; clear hS2 hftk hfl hLf hOf hff h0f hfsl hbr
        go_wp2_with (fail)
        refine (hS2_h.out).mono ?_
        rintro e w16 ⟨A16, c16, rfl, hi16, hf16, hb16⟩
        rw [hfl_h.out]
        have hal := below_alloc w16 (.cells #[.slice A16 n c16] 23)
        have hba := below_trans hb16 hal hb16.size
        have hsl : Sl (w16.alloc (.cells #[.slice A16 n c16] 23)) 23 1 A1' k c1' (fs.map Hd.val) := by
         have := hOf_h.out.sl.below hba
         rwa [hfsl_h.out] at this
        have hi17 := hi16.below hal
        clear hi16 hb16 c0 c1 c2 c3 f0 f1 f2 f3; have hal_h := lH hal; have hba_h := lH hba; have hsl_h := lH hsl; have hi17_h := lH hi17; have hf16_h := lH hf16; clear hal hba hsl hi17 hf16
        go_wp2_with (at_builtin; refine wpList_append_Sl _ rfl _ _ _ rfl 23 Tryz.underlying52 info_ints rfl (by omega) rfl (hsl_h.out) rfl (news := [.slice A16 n c16]) rfl (Sl.rdc (Sl.laid w16 23 1 1 #[.slice A16 n c16] (by unfold maxLen; omega) rfl)) (by intro u hu; simp at hu; subst hu; rfl) (by unfold maxLen; omega) (by omega) ?_; intro A17 c17 w17 hsA17 hA17 hkA17)
        have hO17 := OM.snoc (l := cmbTo p n u K kk) (w1 := w16.alloc (.cells #[.slice A16 n c16] 23)) hLf_h.out hOf_h.out hff_h.out h0f_h.out hba_h.out hi17_h.out hf16_h.out (by rw [hfsl_h.out]) (by rw [hfl_h.out]; exact hsA17) hA17 hkA17
        rw [hftk_h.out] at hO17
        clear hsA17 hA17 hkA17; have hO17_h := lH hO17; clear hO17
        go_roundw
        case rel => exact ⟨k + 1, A17, c17, by omega, by go_num, rfl, hO17_h.out⟩
        case measure => simp [intOf]; omega
      · obtain rfl : nz = k := by omega
        have hFt : F.take nz = F := List.take_of_length_le (by rw [hFl_h.out, ← hnz_h.out]; exact Nat.le_refl _)
        rw [hFt] at hOM
        obtain ⟨fs, hLf, hrf⟩ := hOM.rdr
        have hfsl : fs.length = nz := by have := congrArg List.length hLf; rw [hFl_h.out, ← hnz_h.out, List.length_map] at this; exact this.symm
        have hRe := spReduce_any p n A1' c1' fs wr hrf hfld_h.out (by rw [← hLf, hfsl, hnz_h.out, ← hFl_h.out]; exact hFm_h.out) (by omega) (by omega)
        rw [hfsl, ← hLf, ← hK3_h.out] at hRe
        have k0r := box_below k015_h.out hbr
        have hir := hi15_h.out.below hbr
        have hBr := below_trans hB15_h.out hbr hB15_h.out.size
        have hb13r := below_trans hb1315_h.out hbr hb1315_h.out.size
        obtain ⟨⟨c0, c1, c2, c3⟩, f0, f1, f2, f3⟩ := box4 k0r
        clear hOM hrf hLf hfsl hFt hbr k0r; have hRe_h := lH hRe; have hir_h := lH hir; have hBr_h := lH hBr; have hb13r_h := lH hb13r; clear hRe hir hBr hb13r
        go_wp2_with (fail)
        refine (hRe_h.out).mono ?_
        rintro e w18 ⟨A18, c18, ks, rfl, hks, hO18, hf18, hb18⟩
        clear c0 c1 c2 c3 f0 f1 f2 f3
        obtain ⟨nk, hnk⟩ : ∃ nk, nk = K3.length := ⟨_, rfl⟩
        rw [← hnk]
        have hKr3 := hK3r_h.out
        have hnk100 : nk ≤ 100 := by have := red_len hKr3; omega
        have hls := fun k hk => ls_inv (by have := hpb_h.out; omega : 0 < p) hKr3 hOUl_h.out hOUr_h.out k hk
        obtain ⟨hKm3, ld, hld⟩ := hKr3
        have hleadK : ∀ k, k < nk → leadV (K3.getD k []) < n := fun k hk => by rw [red_lead hKm3 hld (by omega)]; exact hld.lt k (by omega)
        have hksl : ks.length = nk := by rw [hnk, hks, List.length_map]
        have hB18 := below_trans hBr_h.out hb18 hBr_h.out.size
        have hi18 := hir_h.out.below hb18
        have hap : ∀ y, y ∈ fpA A18 ++ fpR ks → y ∉ fpA A13 := fun y hy hy2 => by
         have h1 := hf18 y hy
         have h2 := hi13_h.out.lt y hy2
         have h3 := hb13r_h.out.size
         omega
        have hfo13 : ∀ b, b ∈ fpA A13 → w.heap.size ≤ b := fun b hb => Nat.le_trans hB12_h.out.size (hf13_h.out b hb)
        have hst0 : IS w18 A13 c13 (lsTo p K3 OU 0) := hi18
        clear hb18 hf18 hi18; have hnk_h := lH hnk; have hls_h := lH hls; have hKm3_h := lH hKm3; have hld_h := lH hld; have hleadK_h := lH hleadK; have hksl_h := lH hksl; have hB18_h := lH hB18; have hap_h := lH hap; have hfo13_h := lH hfo13; have hst0_h := lH hst0; have hks_h := lH hks; have hO18_h := lH hO18; clear hnk hls hKm3 hld hleadK hksl hB18 hap hfo13 hst0 hks hO18
        go_wp2_with (fail)
        go_loopw [96] (fun kv wr => ∃ k : Nat, k ≤ nk ∧ kv = .int .i64 k ∧ IS wr A13 c13 (lsTo p K3 OU k) ∧ Keeps (· ∈ fpA A13) w18 wr) (fun kv _ => nk - (intOf kv).toNat)
        case atStart => exact ⟨0, Nat.zero_le _, rfl, hst0_h.out, Keeps.refl _ _⟩
        case round =>
         clear hst0_h
         obtain ⟨k, hk, rfl, hI, hK⟩ := hrel
         by_cases hkn : k < nk
         · have hkI : (k : Int) < (nk : Int) := by omega
           obtain ⟨q1, q2, _, _⟩ := hls_h.out k (by rw [← hnk_h.out]; omega)
           have hOr := hO18_h.out.keeps hK hap_h.out
           obtain ⟨ad, Cz, dz, lz, hAz, hxz, hcz, _, hIz⟩ := hOr.get (i := k) (by rw [hksl_h.out]; exact hkn)
           have hgz : K3.getD k [] = lz := by rw [hks_h.out]; exact getD_map_hd hxz
           have hlz := (hKm3_h.out.get (i := k) (by rw [← hnk_h.out]; exact hkn)).1
           have hrz := (hKm3_h.out.get (i := k) (by rw [← hnk_h.out]; exact hkn)).2
           have hle := hleadK_h.out k hkn
           rw [hgz] at hlz hrz hle
           rw [hlz] at hcz
           have C1 := spLead_any Cz dz n lz wr hIz.rd hlz (by omega)
           obtain ⟨e, he⟩ : ∃ e, e = leadV lz := ⟨_, rfl⟩
           rw [← he] at C1 hle
           have heI : (e : Int) < (n : Int) := by omega
           obtain ⟨od, xv, hA2, hxv, _, hcx, _⟩ := hI.at_ (j := e) (by rw [q1]; exact hle)
           have hxb := q2 xv (List.mem_of_getElem? hxv)
           have hst : lsTo p K3 OU (k + 1) = addT p (lsTo p K3 OU k) (-xv) lz := by
            rw [lsTo, hgz, ← he]
            simp [List.getD, hxv]
           have hapz : ∀ y, y ∈ fpA Cz → y ∉ fpA A13 := fun y hy => hap_h.out y (List.mem_append_right _ (mem_fpR.2 ⟨_, List.mem_of_getElem? hxz, hy⟩))
           have C2 := mxLess_any p xv A13 Cz c13 dz n (lsTo p K3 OU k) lz wr hI hIz.rd hapz q1 hlz (by omega) (by have := hpb_h.out; omega) hpb_h.out.2 q2 hrz hxb
           subst hA2
           subst hAz
           clear hxz hxv hOr hIz hapz hrz; have hI_h := lH hI; have hK_h := lH hK; have q1_h := lH q1; have q2_h := lH q2; have hgz_h := lH hgz; have hlz_h := lH hlz; have C1_h := lH C1; have he_h := lH he; have hst_h := lH hst; have C2_h := lH C2; clear hI hK q1 q2 hgz hlz C1 he hst C2
           go_wp2_with (fail)
           refine (C1_h.out).mono ?_
           rintro e w' ⟨rfl, hw'⟩
           subst w'
           go_wp2_with (fail)
           refine (C2_h.out).mono ?_
           rintro e w20 ⟨rfl, hWr⟩
           have hI2 := hWr.is hI_h.out (by rw [addT_length])
           have hK2 := hK_h.out.trans hWr.1
           rw [← hst_h.out] at hI2
           clear hWr hcx hcz; have hI2_h := lH hI2; have hK2_h := lH hK2; clear hI2 hK2
           go_wp2_with (fail)
           go_roundw
           case rel => exact ⟨k + 1, by omega, by go_num, hI2_h.out, hK2_h.out⟩
           case measure => simp [intOf]; omega
         · obtain rfl : nk = k := by omega
           have q1 := (hls_h.out nk (by rw [← hnk_h.out]; exact Nat.le_refl _)).1
           have hB20 : Below w.heap.size w wr := below_keeps hB18_h.out hK hB18_h.out.size (fun y hy => hfo13_h.out y hy)
           have hD5 := hD4_h.out
           rw [← hnk_h.out] at hD5
           clear hK; have hI_h := lH hI; have q1_h := lH q1; have hB20_h := lH hB20; have hD5_h := lH hD5; clear hI q1 hB20 hD5
           go_wp2_with (fail)
           go_ret2
           rw [hD5_h.out]
           exact ⟨A13, c13, by show Ending.returned (.tuple #[.slice A13 n c13, .bool true]) = .returned (.tuple #[.slice A13 (lsTo p K3 OU nk).length c13, .bool true]); rw [q1_h.out], hI_h.out, fun y hy => hfo13_h.out y hy, hB20_h.out⟩
abbrev tRelD : TypeId := 82
def RetRdn (w : World) (L : List (List Int)) (e : Ending) (w' : World) : Prop := ∃ A c hs n, e = .returned (.slice A n c) ∧ hs.length = n ∧ hs.map (fun h : Hd => h.2.2) = L ∧ RdR w' A hs ∧ Below w.heap.size w w'
theorem rd_laid (w : World) (l : List Int) (hl : l.length ≤ maxLen) : RdI (w.alloc (.cells (ints l).toArray 3)) (some ⟨w.heap.size, 0, none⟩) l := by
 have h := Sl.laid w 3 1 l.length (ints l).toArray hl (by simp)
 intro j x hj
 obtain ⟨ad, hA, _, hc, _⟩ := h.cell (j := j) (u := .int .i64 x) (by simpa using ints_get hj)
 exact ⟨ad, hA, hc⟩
theorem mirror_any (k : Int) (w : World) (h1 : 9 ≤ k) (h2 : k ≤ 14) : Calls Tryz.prog 84 #[.int .i64 k] w fun e w' => e = .returned (.int .i64 (k - 6)) ∧ w' = w := by
 have hA : t_inB k 3 8 = false := decide_eq_false (by omega)
 have hB : t_inB k 9 14 = true := decide_eq_true (by omega)
 go_enter Tryz.func84, Tryz.ntmps84
 go_wp2_with (fail)
 refine (t_within_any _ _ _ _).mono ?_
 rintro e w' ⟨rfl, rfl⟩
 rw [hA]
 go_wp2_with (fail)
 refine (t_within_any _ _ _ _).mono ?_
 rintro e w' ⟨rfl, rfl⟩
 rw [hB]
 go_wp2_with (fail)
 go_ret
 show Ending.returned (.int .i64 (k - 9 + 3)) = _ ∧ _
 rw [show k - 9 + 3 = k - 6 by omega]
 exact ⟨rfl, rfl⟩
set_option maxRecDepth 100000 in
set_option maxHeartbeats 2000000 in
theorem generatorRows_any (k v : Int) (w : World) (hk : k = 3 ∨ k = 4 ∨ k = 5 ∨ k = 6 ∨ k = 7) :
  Calls Tryz.prog 86 #[.int .i64 k, .int .i64 v] w (RetRdn w (leafRows k v)) := by
 rcases hk with rfl | rfl | rfl | rfl | rfl
 · -- kind 3
   go_enter Tryz.func86, Tryz.ntmps86
   go_wp2_with (fail)
   go_ret
   have r0 := rd_laid (w) [1, 1, 1] (by unfold maxLen; simp)
   have b0 := below_alloc (w) (.cells (ints [1, 1, 1]).toArray 3)
   have hlr := laid_rdr (w := (w).alloc (.cells (ints [1, 1, 1]).toArray 3)) ([((some ⟨w.heap.size, 0, none⟩ : Option Addr), 3, ([1, 1, 1] : List Int))] : List Hd) (fun x hx => by
    simp only [List.mem_cons, List.not_mem_nil, or_false] at hx
    subst hx
    exact r0) (by unfold maxLen; simp)
   simp only [World.size_alloc] at hlr
   have hbl := below_trans b0 (below_alloc _ (.cells (([((some ⟨w.heap.size, 0, none⟩ : Option Addr), 3, ([1, 1, 1] : List Int))] : List Hd).map Hd.val).toArray 23)) b0.size
   exact ⟨_, 1, _, 1, rfl, rfl, rfl, hlr, hbl⟩
 · -- kind 4
   go_enter Tryz.func86, Tryz.ntmps86
   go_wp2_with (fail)
   go_ret
   have r0 := rd_laid (w) [1] (by unfold maxLen; simp)
   have b0 := below_alloc (w) (.cells (ints [1]).toArray 3)
   have hlr := laid_rdr (w := (w).alloc (.cells (ints [1]).toArray 3)) ([((some ⟨w.heap.size, 0, none⟩ : Option Addr), 1, ([1] : List Int))] : List Hd) (fun x hx => by
    simp only [List.mem_cons, List.not_mem_nil, or_false] at hx
    subst hx
    exact r0) (by unfold maxLen; simp)
   simp only [World.size_alloc] at hlr
   have hbl := below_trans b0 (below_alloc _ (.cells (([((some ⟨w.heap.size, 0, none⟩ : Option Addr), 1, ([1] : List Int))] : List Hd).map Hd.val).toArray 23)) b0.size
   exact ⟨_, 1, _, 1, rfl, rfl, rfl, hlr, hbl⟩
 · -- kind 5
   go_enter Tryz.func86, Tryz.ntmps86
   go_wp2_with (fail)
   go_ret
   have r0 := rd_laid (w) [1, 0, 1] (by unfold maxLen; simp)
   have b0 := below_alloc (w) (.cells (ints [1, 0, 1]).toArray 3)
   have r1 := rd_laid ((w).alloc (.cells (ints [1, 0, 1]).toArray 3)) [0, 1, 1] (by unfold maxLen; simp)
   have b1 := below_alloc ((w).alloc (.cells (ints [1, 0, 1]).toArray 3)) (.cells (ints [0, 1, 1]).toArray 3)
   simp only [World.size_alloc] at r1
   have r0 := r0.below b1
   have hlr := laid_rdr (w := ((w).alloc (.cells (ints [1, 0, 1]).toArray 3)).alloc (.cells (ints [0, 1, 1]).toArray 3)) ([((some ⟨w.heap.size, 0, none⟩ : Option Addr), 3, ([1, 0, 1] : List Int)), ((some ⟨w.heap.size + 1, 0, none⟩ : Option Addr), 3, ([0, 1, 1] : List Int))] : List Hd) (fun x hx => by
    simp only [List.mem_cons, List.not_mem_nil, or_false] at hx
    rcases hx with rfl | rfl
    · exact r0
    · exact r1) (by unfold maxLen; simp)
   simp only [World.size_alloc] at hlr
   have hbl := below_trans (below_trans b0 b1 b0.size) (below_alloc _ (.cells (([((some ⟨w.heap.size, 0, none⟩ : Option Addr), 3, ([1, 0, 1] : List Int)), ((some ⟨w.heap.size + 1, 0, none⟩ : Option Addr), 3, ([0, 1, 1] : List Int))] : List Hd).map Hd.val).toArray 23)) (below_trans b0 b1 b0.size).size
   exact ⟨_, 2, _, 2, rfl, rfl, rfl, hlr, hbl⟩
 · -- kind 6
   go_enter Tryz.func86, Tryz.ntmps86
   go_wp2_with (fail)
   go_ret
   exact ⟨none, 0, [], 0, rfl, rfl, rfl, ⟨fun i h hh => by simp at hh, fun h hh => by cases hh⟩, Below.refl _ _⟩
 · -- kind 7
   go_enter Tryz.func86, Tryz.ntmps86
   go_wp2_with (fail)
   go_ret
   have r0 := rd_laid (w) [1, v] (by unfold maxLen; simp)
   have b0 := below_alloc (w) (.cells (ints [1, v]).toArray 3)
   have hlr := laid_rdr (w := (w).alloc (.cells (ints [1, v]).toArray 3)) ([((some ⟨w.heap.size, 0, none⟩ : Option Addr), 2, ([1, v] : List Int))] : List Hd) (fun x hx => by
    simp only [List.mem_cons, List.not_mem_nil, or_false] at hx
    subst hx
    exact r0) (by unfold maxLen; simp)
   simp only [World.size_alloc] at hlr
   have hbl := below_trans b0 (below_alloc _ (.cells (([((some ⟨w.heap.size, 0, none⟩ : Option Addr), 2, ([1, v] : List Int))] : List Hd).map Hd.val).toArray 23)) b0.size
   exact ⟨_, 1, _, 1, rfl, rfl, rfl, hlr, hbl⟩
theorem set_f2d {w : World} {B : Nat} {t : TypeId} {x y z b : Value} (h : w.heap[B]? = some (.cells #[x, y, z] t)) : (w.setCell ⟨B, 2, none⟩ b).heap[B]? = some (.cells #[x, y, b] t) ∧ Keeps (· = B) w (w.setCell ⟨B, 2, none⟩ b) := by
 refine ⟨by simp [World.setCell, Array.getElem?_modify, h], ?_⟩
 exact (Keeps.refl (fun x => x = B) w).setCell (p := ⟨B, 2, none⟩) rfl _
theorem idRows_take {n k : Nat} (hk : k < n) : (idRows n).take (k + 1) = (idRows n).take k ++ [unitV n k ++ unitV n k] := by
 rw [List.take_add_one]
 simp [idRows, hk]
set_option maxRecDepth 100000 in
set_option maxHeartbeats 4000000 in
theorem identityRelation_any (n : Nat) (w : World) (hn : n ≤ 12) :
  Calls Tryz.prog 81 #[.int .i64 (n : Int)] w fun e w' => ∃ v' fp, e = .returned v' ∧ OwSys w' v' ((n : Int), (n : Int), idRows n) fp ∧ FreshL w.heap.size fp ∧ Below w.heap.size w w' := by
 obtain ⟨W0, hW0, bW0, k0⟩ := alloc_box w (.cells #[.int .i64 0, .int .i64 0, .slice none 0 0] tRelD)
 obtain ⟨W, hW, b1, k1⟩ := alloc_box W0 (.cells #[.int .i64 (n : Int), .int .i64 (n : Int), .slice none 0 0] tRelD)
 obtain ⟨bx, hbx⟩ : ∃ bx, bx = W0.heap.size := ⟨_, rfl⟩
 have hbx1 : bx = w.heap.size + 1 := by rw [hbx, hW0]; simp
 rw [← hbx] at k1
 have hnil : OMx W0 bx W none 0 ((idRows n).take 0) := OMx.nil b1 (by omega) (box_lt k1)
 have bW0_h := lH bW0; have k0_h := lH k0; have b1_h := lH b1; have k1_h := lH k1; have hnil_h := lH hnil; have hbx1_h := lH hbx1; clear bW0 k0 b1 k1 hnil hbx1
 go_enter Tryz.func81, Tryz.ntmps81
 go_upto_region 2 with (fail)
 rw [← hW0, ← hW, ← hbx1_h.out]
 have hbx_h := lH hbx; clear hW0 hW hbx
 go_wp2_with (fail)
 go_loopw [9] (fun i wr => ∃ (k q : Nat) (A1 : Option Addr) (c1 : Nat), k ≤ n ∧ i = .int .i64 k ∧ q = k ∧ wr.heap[bx]? = some (.cells #[.int .i64 (n : Int), .int .i64 (n : Int), .slice A1 q c1] tRelD) ∧ OMx W0 bx wr A1 c1 ((idRows n).take k)) (fun i _ => n - (intOf i).toNat)
 case atStart => exact ⟨0, 0, none, 0, Nat.zero_le _, rfl, rfl, k1_h.out, hnil_h.out⟩
 case round =>
  clear hnil_h k1_h
  obtain ⟨k, q, A1, c1, hk, rfl, hq, kx, hOM⟩ := hrel
  obtain ⟨wo, rfl⟩ : ∃ x, x = wr := ⟨_, rfl⟩
  by_cases hlt : k < n
  · have hkI : (k : Int) < (n : Int) := by omega
    have hq12 : q ≤ 12 := by omega
    have hU := fun (W' : World) => unit_any n k W' (by omega) hlt
    have htk := idRows_take hlt
    have hrl : (unitV n k ++ unitV n k).length = n + n := by simp
    obtain ⟨row, hrow⟩ : ∃ r, r = unitV n k ++ unitV n k := ⟨_, rfl⟩
    obtain ⟨N, hN⟩ : ∃ N, N = n + n := ⟨_, rfl⟩
    rw [← hrow] at htk hrl
    rw [← hN] at hrl
    have hbd : Below wo.heap.size wo wo.drew := below_drewN (Below.refl _ _) 1
    have kx_h := lH kx; have hOM_h := lH hOM; have hU_h := lH hU; have htk_h := lH htk; have hrl_h := lH hrl; have hrow_h := lH hrow; have hN_h := lH hN; have hbd_h := lH hbd; have hq_h := lH hq; clear kx hOM hU htk hrl hrow hN hbd hq
    go_wp2_with (fail)
    refine beginZw 13 (fun w' => w'.heap[bx]? = some (.cells #[.int .i64 (n : Int), .int .i64 (n : Int), .slice A1 q c1] tRelD)) (by kernel_rfl) (fun W1 hW1 => ?_)
    have hB := hbd_h.out
    rw [← hW1] at hB
    clear hW1
    have hF := box_below kx_h.out hB
    have hF_h := lH hF; have hB_h := lH hB; clear hF hB
    refine tkC 0 ?_ rfl hF_h.out (fun W' hW' => ?_) ?_; rotate_left; · (obtain ⟨⟨x0, x1, x2⟩, x3, x4, x5⟩ := box3 hW'; clear hW'; go_simp; first | done | with_reducible rfl)
    simp only [Act.put, nS]
    refine tkC 1 ?_ rfl hF_h.out (fun W' hW' => ?_) ?_; rotate_left; · (obtain ⟨⟨x0, x1, x2⟩, x3, x4, x5⟩ := box3 hW'; clear hW'; go_simp; first | done | with_reducible rfl)
    simp only [Act.put, nS]
    refine tkC 2 ?_ rfl hF_h.out (fun W' hW' => ?_) ?_; rotate_left; · (obtain ⟨⟨x0, x1, x2⟩, x3, x4, x5⟩ := box3 hW'; clear hW'; go_simp; first | done | with_reducible rfl)
    simp only [Act.put, nS]
    refine tkC 3 ?_ rfl hF_h.out (fun W' hW' => ?_) ?_; rotate_left; · (obtain ⟨⟨x0, x1, x2⟩, x3, x4, x5⟩ := box3 hW'; clear hW'; go_simp; first | done | with_reducible rfl)
    simp only [Act.put, nS]
    refine tkC 5 ?_ rfl hF_h.out (fun W' hW' => ?_) ?_; rotate_left; · (obtain ⟨⟨x0, x1, x2⟩, x3, x4, x5⟩ := box3 hW'; clear hW'; go_simp; first | done | with_reducible rfl)
    simp only [Act.put, nS]
    refine tkC 6 ?_ rfl hF_h.out (fun W' hW' => ?_) ?_; rotate_left; · (obtain ⟨⟨x0, x1, x2⟩, x3, x4, x5⟩ := box3 hW'; clear hW'; go_simp; first | done | with_reducible rfl)
    simp only [Act.put, nS]
    refine callZ 4 (f := ?f1) (args := ?args1) rfl (by kernel_rfl) (by rfl) ?hrun1 ?hcall1
    case hrun1 => (go_simp; first | done | with_reducible rfl | (constructor <;> with_reducible rfl))
    case hcall1 =>
     refine (hU_h.out _).mono ?_
     rintro e w2 ⟨Aa, ca, rfl, hia, hfa, hb2⟩
     rw [unitV_length]
     replace hF_h := lH (box_below hF_h.out hb2)
     have hB2 := below_trans hB_h.out hb2 hB_h.out.size
     refine ⟨_, rfl, fun _ => hF_h.out, ?_⟩
     simp only [Act.put, nS]
     have hia_h := lH hia; have hfa_h := lH hfa; have hb2_h := lH hb2; have hB2_h := lH hB2; clear hia hfa hb2 hB2
     refine callZ 7 (f := ?f2) (args := ?args2) rfl (by kernel_rfl) (by rfl) ?hrun2 ?hcall2
     case hrun2 => (go_simp; first | done | with_reducible rfl | (constructor <;> with_reducible rfl))
     case hcall2 =>
      refine (hU_h.out _).mono ?_
      rintro e w3 ⟨Ab, cb, rfl, hib, hfb, hb3⟩
      rw [unitV_length]
      replace hF_h := lH (box_below hF_h.out hb3)
      have hB3 := below_trans hB2_h.out hb3 hB2_h.out.size
      have hia3 := hia_h.out.below hb3
      refine ⟨_, rfl, fun _ => hF_h.out, ?_⟩
      simp only [Act.put, nS]
      have hal3 := below_alloc w3 (.cells #[.slice Aa n ca, .slice Ab n cb] 23)
      have hlr := laid_rdr (w := w3) [(Aa, ca, unitV n k), (Ab, cb, unitV n k)] (fun y hy => by
       simp only [List.mem_cons, List.not_mem_nil, or_false] at hy
       rcases hy with rfl | rfl
       · exact hia3.rd
       · exact hib.rd) (by unfold maxLen; simp)
      have e : (([(Aa, ca, unitV n k), (Ab, cb, unitV n k)] : List Hd).map Hd.val).toArray = #[.slice Aa n ca, .slice Ab n cb] := by simp [Hd.val]
      rw [e] at hlr
      have e2 : (([(Aa, ca, unitV n k), (Ab, cb, unitV n k)] : List Hd).map fun h : Hd => h.2.2).flatten = row := by rw [hrow_h.out]; simp
      have hJ := joined_any (some ⟨w3.heap.size, 0, none⟩) 2 [(Aa, ca, unitV n k), (Ab, cb, unitV n k)] _ hlr (by simp) (by rw [e2, hrl_h.out, hN_h.out]; omega)
      rw [e2] at hJ
      have hF3 := box_below hF_h.out hal3
      clear hlr e e2; have hB3_h := lH hB3; have hal3_h := lH hal3; have hJ_h := lH hJ; have hF3_h := lH hF3; clear hB3 hal3 hJ hF3
      refine oneZ 8 rfl (by kernel_rfl) (by rfl) (fun K hK => ?_)
      go_simp
      refine hK _ _ (fun _ => hF3_h.out) ?_
      clear hK K
      refine callZ 9 (f := ?f3) (args := ?args3) rfl (by kernel_rfl) (by rfl) ?hrun3 ?hcall3
      case hrun3 => (go_simp; first | done | with_reducible rfl | (constructor <;> with_reducible rfl))
      case hcall3 =>
       refine (hJ_h.out).mono ?_
       rintro e w4 ⟨A7, c7, rfl, hi7, hf7, hb4⟩
       rw [hrl_h.out]
       replace hF3_h := lH (box_below hF3_h.out hb4)
       have hB4 := below_trans hB3_h.out (below_trans hal3_h.out hb4 hal3_h.out.size) hB3_h.out.size
       have hfA7 : Fresh wo.heap.size A7 := fun b hb => by have := hf7 b hb; have := hal3_h.out.size; have := hB3_h.out.size; omega
       refine ⟨_, rfl, fun _ => hF3_h.out, ?_⟩
       simp only [Act.put, nS]
       have hal := below_alloc w4 (.cells #[.slice A7 N c7] 23)
       have hba := below_trans hB4 hal hB4.size
       have hF4 := box_below hF3_h.out hal
       obtain ⟨ys, hLy, hOy, hfy, h0y, h1y, h2y⟩ := hOM_h.out
       have hyl : ys.length = q := by have := congrArg List.length hLy; rw [List.length_map, List.length_take, idRows_len] at this; have := hq_h.out; omega
       have hsl : Sl (w4.alloc (.cells #[.slice A7 N c7] 23)) 23 1 A1 q c1 (ys.map Hd.val) := by
        have := (hOy.sl.below hB4).alloc (.cells #[.slice A7 N c7] 23)
        rwa [hyl] at this
       have hi8 := hi7.below hal
       have hF4_h := lH hF4; have hba_h := lH hba; have hal_h := lH hal; have hsl_h := lH hsl; have hi8_h := lH hi8; have hfA7_h := lH hfA7; have hLy_h := lH hLy; have hOy_h := lH hOy; have hfy_h := lH hfy; have h0y_h := lH h0y; have hyl_h := lH hyl; have hB4_h := lH hB4; clear hF4 hba hal hsl hi8 hfA7 hLy hOy hfy h0y hyl hB4
       refine oneZ 10 rfl (by kernel_rfl) (by rfl) (fun K hK => ?_)
       go_simp
       refine hK _ _ (fun _ => hF4_h.out) ?_
       clear hK K
       refine appZ 11 rfl (by kernel_rfl) (by rfl) _ _ _ rfl 23 Tryz.underlying52 info_ints rfl (by omega) rfl hsl_h.out rfl (news := [.slice A7 N c7]) rfl (Sl.rdc (Sl.laid w4 23 1 1 #[.slice A7 N c7] (by unfold maxLen; omega) rfl)) (by intro u hu; simp at hu; subst hu; rfl) (by unfold maxLen; omega) (by omega) ?_
       intro A6 c6 w6 hsA6 hA6 hkA6 hrdA6
       clear hrdA6
       have hO6 := OMx.snoc (l := row) (w1 := w4.alloc (.cells #[.slice A7 N c7] 23)) hLy_h.out hOy_h.out hfy_h.out h0y_h.out h1y h2y hba_h.out hi8_h.out hfA7_h.out (by rw [hyl_h.out]) (by rw [hrl_h.out]; exact hsA6) hA6 hkA6
       have hF7 := box_keeps hF4_h.out hkA6 (fun h => (hfy_h.out _ (List.mem_append_left _ h)).2 rfl)
       refine ⟨fun _ => hF7, ?_⟩
       obtain ⟨s1, s2⟩ := set_f2d (b := .slice A6 (q + 1) c6) hF7
       have hO7 := hO6.store s2
       rw [← htk_h.out] at hO7
       obtain ⟨⟨x0, x1, x2⟩, x3, x4, x5⟩ := box3 hF7
       clear hsA6 hA6 hkA6 hO6 s2; have hF7_h := lH hF7; have hO7_h := lH hO7; have s1_h := lH s1; clear hF7 hO7 s1
       simp only [Act.put, nS]
       refine tkC 12 ?_ rfl hF7_h.out (fun W' hW' => ?_) ?_; rotate_left; · (skip; clear hW'; go_simp; first | done | with_reducible rfl)
       simp only [Act.put, nS]
       refine oneZ 13 rfl (by kernel_rfl) (by rfl) (fun K hK => ?_)
       go_simp
       refine hK _ _ (fun h => by cases h) ?_
       clear hK K
       refine doneZ (by kernel_rfl) ?_
       go_wp2_with (fail)
       go_roundw
       case rel => exact ⟨k + 1, q + 1, A6, c6, by omega, by go_num, by have := hq_h.out; omega, s1_h.out, hO7_h.out⟩
       case measure => simp [intOf]; omega
  · obtain rfl : n = k := by omega
    obtain rfl : n = q := hq.symm
    have hO2 : OMx W0 bx wo A1 c1 (idRows n) := by have := hOM; rwa [List.take_of_length_le (by rw [idRows_len]; exact Nat.le_refl _)] at this
    have k0r := box_below k0_h.out hO2.below_
    obtain ⟨⟨x0, x1, x2⟩, x3, x4, x5⟩ := box3 kx
    obtain ⟨⟨y0, y1, y2⟩, y3, y4, y5⟩ := box3 k0r
    obtain ⟨s1, s2⟩ := set3 (a := .int .i64 (n : Int)) (b := .int .i64 (n : Int)) (c := .slice A1 n c1) k0r
    have hbb := below_trans bW0_h.out hO2.below_ bW0_h.out.size
    have hz0 : w.heap.size < W0.heap.size := by have := hbx_h.out; have := hbx1_h.out; omega
    have hbw := below_keeps hbb s2 hbb.size (fun k hk => by omega)
    obtain ⟨fp, h1, h2⟩ := OwSys.of_ret (a := (n : Int)) (b := (n : Int)) hO2.om s2 (fun k hk => by omega) (idRows_len n)
    have h3 := h2.mono bW0_h.out.size
    clear hOM hO2 kx k0r h2 s2 hbb; have s1_h := lH s1; have h1_h := lH h1; have h3_h := lH h3; have hbw_h := lH hbw; clear s1 h1 h3 hbw
    go_wp2_with (fail)
    refine bodyPost_ret (results_cell_row rfl _ _ w.heap.size _ _ (0, 0) _ rfl s1_h.out Tryz.underlying82 rfl (by kernel_rfl)) rfl ?_
    exact ⟨_, rfl, fp, h1_h.out, h3_h.out, hbw_h.out⟩
theorem leafRows_le (k v : Int) : (leafRows k v).length ≤ 2 := by
 unfold leafRows
 repeat' split
 all_goals simp
set_option maxRecDepth 100000 in
set_option maxHeartbeats 4000000 in
theorem leafRelation_any (p k v : Int) (nm : ByteArray) (w : World) (hf : fieldB p = true) (ok : okLf p (k, v, nm)) :
  Calls Tryz.prog 61 #[.int .i64 p, .agg #[.int .i64 k, .int .i64 v, .string nm]] w fun e w' => ∃ v' fp, e = .returned v' ∧ OwSys w' v' (leafV p (k, v, nm)) fp ∧ FreshL w.heap.size fp ∧ Below w.heap.size w w' := by
 have hpb := fieldB_bounds hf
 obtain ⟨V, hV⟩ : ∃ V, V = leafV p (k, v, nm) := ⟨_, rfl⟩
 rw [← hV]
 have hV0 := hV
 unfold leafV at hV
 obtain ⟨W, hW, bW, k0, k1⟩ := alloc2 w (.cells #[.int .i64 k, .int .i64 v, .string nm] 85) (.cells #[.int .i64 0, .int .i64 0, .slice none 0 0] tRelD)
 have hl := ok.1
 have hl1 := hl
 unfold leafB at hl1
 simp only [decide_eq_true_eq] at hl1
 have hfit := leaf_fit hl
 have hbz := bW.size
 have hbz2 := box_lt k1
 by_cases h1 : k = 1
 · rw [if_pos h1] at hV
   have hv0 : 0 ≤ v ∧ v ≤ 12 := by omega
   obtain ⟨n, rfl⟩ : ∃ n : Nat, v = (n : Int) := ⟨v.toNat, by omega⟩
   have hC := identityRelation_any n W (by omega)
   have e : (((n : Int), (n : Int), idRows n) : Sys) = V := by rw [hV]; rfl
   rw [e] at hC
   have hb1 : (k == 1) = true := by rw [h1]; rfl
   clear hV hl hl1 hfit ok e hV0 h1; have k0_h := lH k0; have k1_h := lH k1; have bW_h := lH bW; have hC_h := lH hC; clear k0 k1 bW hC
   go_enter Tryz.func61, Tryz.ntmps61
   go_upto_region 1 with (fail)
   rw [← hW]
   clear hW
   obtain ⟨⟨c0, c1, c2⟩, f0, f1, f2⟩ := box3 k0_h.out
   go_wp2_with (fail)
   refine (hC_h.out).mono ?_
   rintro e w2 ⟨v2, fp9, rfl, hO9, hf9, hb2⟩
   obtain ⟨A9, n9, c9, rfl⟩ := hO9.shape
   replace k1_h := lH (box_below k1_h.out hb2)
   have hB8 := below_trans bW_h.out hb2 bW_h.out.size
   have hBz := bW_h.out.size
   have hw0 := box_lt k1_h.out
   obtain ⟨⟨d0, d1, d2⟩, g0, g1, g2⟩ := box3 k1_h.out
   obtain ⟨s1, s2⟩ := set3 (a := .int .i64 V.1) (b := .int .i64 V.2.1) (c := .slice A9 n9 c9) k1_h.out
   have hB9 := below_keeps hB8 s2 hB8.size (fun k hk => by omega)
   have hO8 := hO9.keeps s2 (fun k hk e => by have := hf9 k hk; omega)
   have hf8 := hf9.mono hBz
   clear hB8 hO9 hf9; have s1_h := lH s1; have s2_h := lH s2; have hB9_h := lH hB9; have hO8_h := lH hO8; have hf8_h := lH hf8; clear s1 s2 hB9 hO8 hf8
   go_wp2_with (fail)
   refine bodyPost_ret (results_cell_row rfl _ _ (w.heap.size + 1) _ _ (0, 0) _ rfl s1_h.out Tryz.underlying82 rfl (by kernel_rfl)) rfl ?_
   first | exact ⟨_, fp9, rfl, hO8_h.out, hf8_h.out, hB9_h.out⟩ | exact ⟨_, rfl, fp9, hO8_h.out, hf8_h.out, hB9_h.out⟩
 · rw [if_neg h1] at hV
   have hb1 : (k == 1) = false := by rw [beq_eq_false_iff_ne]; exact h1
   by_cases h2 : k = 2
   · rw [if_pos h2] at hV
     have hb2 : (k == 2) = true := by rw [h2]; rfl
     have r0 := rd_laid (W) [1, 0, 0, 1] (by unfold maxLen; simp)
     have b0 := below_alloc (W) (.cells (ints [1, 0, 0, 1]).toArray 3)
     have r1 := rd_laid ((W).alloc (.cells (ints [1, 0, 0, 1]).toArray 3)) [0, 1, 1, 0] (by unfold maxLen; simp)
     have b1 := below_alloc ((W).alloc (.cells (ints [1, 0, 0, 1]).toArray 3)) (.cells (ints [0, 1, 1, 0]).toArray 3)
     simp only [World.size_alloc] at r1
     have r0 := r0.below b1
     have hlr := laid_rdr (w := ((W).alloc (.cells (ints [1, 0, 0, 1]).toArray 3)).alloc (.cells (ints [0, 1, 1, 0]).toArray 3)) ([((some ⟨W.heap.size, 0, none⟩ : Option Addr), 4, ([1, 0, 0, 1] : List Int)), ((some ⟨W.heap.size + 1, 0, none⟩ : Option Addr), 4, ([0, 1, 1, 0] : List Int))] : List Hd) (fun x hx => by
      simp only [List.mem_cons, List.not_mem_nil, or_false] at hx
      rcases hx with rfl | rfl
      · exact r0
      · exact r1) (by unfold maxLen; simp)
     simp only [World.size_alloc] at hlr
     have hbl := below_trans (below_trans b0 b1 b0.size) (below_alloc _ (.cells (([((some ⟨W.heap.size, 0, none⟩ : Option Addr), 4, ([1, 0, 0, 1] : List Int)), ((some ⟨W.heap.size + 1, 0, none⟩ : Option Addr), 4, ([0, 1, 1, 0] : List Int))] : List Hd).map Hd.val).toArray 23)) (below_trans b0 b1 b0.size).size
     have hC := relation_any p 2 2 4 _ 2 _ _ hlr hf (by omega) (swapRows_mat (by omega)) (by simp) (by omega)
     have e : ((2, 2, redM p 4 swapRows) : Sys) = V := hV.symm
     have hC' : Calls Tryz.prog 82 #[.int .i64 p, .int .i64 2, .int .i64 2, .slice (some ⟨W.heap.size + 1 + 1, 0, none⟩) 2 2] (((W.alloc (.cells (ints [1, 0, 0, 1]).toArray 3)).alloc (.cells (ints [0, 1, 1, 0]).toArray 3)).alloc (.cells (([((some ⟨W.heap.size, 0, none⟩ : Option Addr), 4, ([1, 0, 0, 1] : List Int)), ((some ⟨W.heap.size + 1, 0, none⟩ : Option Addr), 4, ([0, 1, 1, 0] : List Int))] : List Hd).map Hd.val).toArray 23)) (fun e w' => ∃ v' fp, e = .returned v' ∧ OwSys w' v' V fp ∧ FreshL (((W.alloc (.cells (ints [1, 0, 0, 1]).toArray 3)).alloc (.cells (ints [0, 1, 1, 0]).toArray 3)).alloc (.cells (([((some ⟨W.heap.size, 0, none⟩ : Option Addr), 4, ([1, 0, 0, 1] : List Int)), ((some ⟨W.heap.size + 1, 0, none⟩ : Option Addr), 4, ([0, 1, 1, 0] : List Int))] : List Hd).map Hd.val).toArray 23)).heap.size fp ∧ Below (((W.alloc (.cells (ints [1, 0, 0, 1]).toArray 3)).alloc (.cells (ints [0, 1, 1, 0]).toArray 3)).alloc (.cells (([((some ⟨W.heap.size, 0, none⟩ : Option Addr), 4, ([1, 0, 0, 1] : List Int)), ((some ⟨W.heap.size + 1, 0, none⟩ : Option Addr), 4, ([0, 1, 1, 0] : List Int))] : List Hd).map Hd.val).toArray 23)).heap.size (((W.alloc (.cells (ints [1, 0, 0, 1]).toArray 3)).alloc (.cells (ints [0, 1, 1, 0]).toArray 3)).alloc (.cells (([((some ⟨W.heap.size, 0, none⟩ : Option Addr), 4, ([1, 0, 0, 1] : List Int)), ((some ⟨W.heap.size + 1, 0, none⟩ : Option Addr), 4, ([0, 1, 1, 0] : List Int))] : List Hd).map Hd.val).toArray 23)) w') := by rw [← e]; exact hC
     clear hV hl hl1 hfit ok e hV0 hlr hC r0 r1 b0 b1 h1 h2; have k0_h := lH k0; have k1_h := lH k1; have bW_h := lH bW; have hC'_h := lH hC'; have hbl_h := lH hbl; clear k0 k1 bW hC' hbl
     go_enter Tryz.func61, Tryz.ntmps61
     go_upto_region 1 with (fail)
     rw [← hW]
     clear hW
     obtain ⟨⟨c0, c1, c2⟩, f0, f1, f2⟩ := box3 k0_h.out
     go_wp2_with (fail)
     refine (hC'_h.out).mono ?_
     rintro e w2 ⟨v2, fp9, rfl, hO9, hf9, hb2'⟩
     obtain ⟨A9, n9, c9, rfl⟩ := hO9.shape
     have hbb := below_trans hbl_h.out hb2' hbl_h.out.size
     replace k1_h := lH (box_below k1_h.out hbb)
     have hB8 := below_trans bW_h.out hbb bW_h.out.size
     have hBz := Nat.le_trans bW_h.out.size hbl_h.out.size
     have hz7 := hbl_h.out.size
     have hw0 := box_lt k1_h.out
     obtain ⟨⟨d0, d1, d2⟩, g0, g1, g2⟩ := box3 k1_h.out
     obtain ⟨s1, s2⟩ := set3 (a := .int .i64 V.1) (b := .int .i64 V.2.1) (c := .slice A9 n9 c9) k1_h.out
     have hB9 := below_keeps hB8 s2 hB8.size (fun k hk => by omega)
     have hO8 := hO9.keeps s2 (fun k hk e => by have := hf9 k hk; omega)
     have hf8 := hf9.mono hBz
     clear hB8 hO9 hf9; have s1_h := lH s1; have s2_h := lH s2; have hB9_h := lH hB9; have hO8_h := lH hO8; have hf8_h := lH hf8; clear s1 s2 hB9 hO8 hf8
     go_wp2_with (fail)
     refine bodyPost_ret (results_cell_row rfl _ _ (w.heap.size + 1) _ _ (0, 0) _ rfl s1_h.out Tryz.underlying82 rfl (by kernel_rfl)) rfl ?_
     first | exact ⟨_, fp9, rfl, hO8_h.out, hf8_h.out, hB9_h.out⟩ | exact ⟨_, rfl, fp9, hO8_h.out, hf8_h.out, hB9_h.out⟩
   · rw [if_neg h2] at hV
     have hb2 : (k == 2) = false := by rw [beq_eq_false_iff_ne]; exact h2
     have hk := gen_of_leaf hl h1 h2 ok.2.1 ok.2.2.1
     have hv := ok.val (by omega) h1
     have hk : genB k := hk
     have hv : 0 ≤ v ∧ v < p := hv
     by_cases h9 : 9 ≤ k
     · have hb9 : decide (9 ≤ k) = true := decide_eq_true h9
       have hb9' : decide (k ≥ 9) = true := decide_eq_true h9
       have hk5 : k = 9 ∨ k = 10 ∨ k = 11 ∨ k = 12 ∨ k = 13 := by unfold genB at hk; omega
       have hcv := conv_leaf hf hk5 hv
       obtain ⟨a, b, c, d⟩ := kindTy_nn (k - 6)
       have hg6 : genB (k - 6) := by unfold genB; omega
       have hrok := RelOk.mk_red hf a b c (by omega) (leafRows_mat (by omega) hg6 hv)
       have hM := fun (W' : World) => mirror_any k W' (by omega) (by omega)
       have hGW := fun (W' : World) => generatorWires_any (k - 6) W' (by omega) (by omega)
       have hGR := fun (W' : World) => generatorRows_any (k - 6) v W' (by omega)
       have hmt := leafRows_mat (p := p) (v := v) (by omega) hg6 hv
       have hV' : ((kindTy k).1, (kindTy k).2, nullM p (kdN k) (leafEq p k v)) = V := hV.symm
       rw [hV'] at hcv
       obtain ⟨x, hx⟩ : ∃ x, x = (kindTy (k - 6)).1 := ⟨_, rfl⟩
       obtain ⟨y, hy⟩ : ∃ y, y = (kindTy (k - 6)).2 := ⟨_, rfl⟩
       obtain ⟨N, hN⟩ : ∃ y, y = kdN (k - 6) := ⟨_, rfl⟩
       simp only [← hx, ← hy] at hGW
       rw [← hx, ← hy, ← hN] at c
       rw [← hx, ← hy, ← hN] at hrok hcv
       rw [← hN] at hmt d
       clear hV hl hl1 hfit ok hV0 hk hv hk5 a b hg6 hV' h1 h2; have k0_h := lH k0; have k1_h := lH k1; have bW_h := lH bW; have hcv_h := lH hcv; have c_h := lH c; have d_h := lH d; have hrok_h := lH hrok; have hM_h := lH hM; have hGW_h := lH hGW; have hGR_h := lH hGR; have hmt_h := lH hmt; have hx_h := lH hx; have hy_h := lH hy; have hN_h := lH hN; clear k0 k1 bW hcv c d hrok hM hGW hGR hmt hx hy hN
       go_enter Tryz.func61, Tryz.ntmps61
       go_upto_region 1 with (fail)
       rw [← hW]
       clear hW
       obtain ⟨⟨c0, c1, c2⟩, f0, f1, f2⟩ := box3 k0_h.out
       go_wp2_with (fail)
       refine (hM_h.out _).mono ?_
       rintro e w' ⟨rfl, rfl⟩
       go_wp2_with (fail)
       refine (hGW_h.out _).mono ?_
       rintro e w3 ⟨rfl, hb3⟩
       replace k0_h := lH (box_below k0_h.out hb3)
       replace k1_h := lH (box_below k1_h.out hb3)
       obtain ⟨w4, hw4⟩ : ∃ w4, w4 = w3.alloc (.cells #[.int .i64 x, .int .i64 y] 105) := ⟨_, rfl⟩
       have hb4 : Below w3.heap.size w3 w4 := by rw [hw4]; exact below_alloc _ _
       have k5 : w4.heap[w3.heap.size]? = some (.cells #[.int .i64 x, .int .i64 y] 105) := by rw [hw4]; exact heap_alloc_new _ _
       replace k0_h := lH (box_below k0_h.out hb4)
       replace k1_h := lH (box_below k1_h.out hb4)
       have hbW4 := below_trans hb3 hb4 hb3.size
       have hz3 := hb3.size
       clear c0 c1 c2 f0 f1 f2 hb3 hb4; have k5_h := lH k5; have hbW4_h := lH hbW4; clear k5 hbW4
       go_upto_region 7 with (fail)
       rw [← hw4]
       clear hw4
       have hbd : Below w4.heap.size w4 w4.drew := below_drewN (Below.refl _ _) 1
       have hbd_h := lH hbd; clear hbd
       refine beginH (fun w' => w'.heap[w.heap.size]? = some (.cells #[.int .i64 k, .int .i64 v, .string nm] 85) ∧ w'.heap[w3.heap.size]? = some (.cells #[.int .i64 x, .int .i64 y] 105)) (by kernel_rfl) ?_
       replace k0_h := lH (box_below k0_h.out hbd_h.out)
       replace k1_h := lH (box_below k1_h.out hbd_h.out)
       replace k5_h := lH (box_below k5_h.out hbd_h.out)
       refine tkH 0 ?_ rfl ⟨k0_h.out, k5_h.out⟩ (fun W' hW' => ?_) ?_; rotate_left; · (obtain ⟨⟨x0, x1, x2⟩, x3, x4, x5⟩ := box3 hW'.1; obtain ⟨⟨y0, y1⟩, y3, y4⟩ := box2 hW'.2; clear hW'; go_simp; first | done | with_reducible rfl)
       simp only [Act.put, nS]
       refine tkH 1 ?_ rfl ⟨k0_h.out, k5_h.out⟩ (fun W' hW' => ?_) ?_; rotate_left; · (obtain ⟨⟨x0, x1, x2⟩, x3, x4, x5⟩ := box3 hW'.1; obtain ⟨⟨y0, y1⟩, y3, y4⟩ := box2 hW'.2; clear hW'; go_simp; first | done | with_reducible rfl)
       simp only [Act.put, nS]
       refine tkH 2 ?_ rfl ⟨k0_h.out, k5_h.out⟩ (fun W' hW' => ?_) ?_; rotate_left; · (obtain ⟨⟨x0, x1, x2⟩, x3, x4, x5⟩ := box3 hW'.1; obtain ⟨⟨y0, y1⟩, y3, y4⟩ := box2 hW'.2; clear hW'; go_simp; first | done | with_reducible rfl)
       simp only [Act.put, nS]
       refine tkH 3 ?_ rfl ⟨k0_h.out, k5_h.out⟩ (fun W' hW' => ?_) ?_; rotate_left; · (obtain ⟨⟨x0, x1, x2⟩, x3, x4, x5⟩ := box3 hW'.1; obtain ⟨⟨y0, y1⟩, y3, y4⟩ := box2 hW'.2; clear hW'; go_simp; first | done | with_reducible rfl)
       simp only [Act.put, nS]
       refine tkH 4 ?_ rfl ⟨k0_h.out, k5_h.out⟩ (fun W' hW' => ?_) ?_; rotate_left; · (obtain ⟨⟨x0, x1, x2⟩, x3, x4, x5⟩ := box3 hW'.1; obtain ⟨⟨y0, y1⟩, y3, y4⟩ := box2 hW'.2; clear hW'; go_simp; first | done | with_reducible rfl)
       simp only [Act.put, nS]
       refine tkH 5 ?_ rfl ⟨k0_h.out, k5_h.out⟩ (fun W' hW' => ?_) ?_; rotate_left; · (obtain ⟨⟨x0, x1, x2⟩, x3, x4, x5⟩ := box3 hW'.1; obtain ⟨⟨y0, y1⟩, y3, y4⟩ := box2 hW'.2; clear hW'; go_simp; first | done | with_reducible rfl)
       simp only [Act.put, nS]
       refine tkH 6 ?_ rfl ⟨k0_h.out, k5_h.out⟩ (fun W' hW' => ?_) ?_; rotate_left; · (obtain ⟨⟨x0, x1, x2⟩, x3, x4, x5⟩ := box3 hW'.1; obtain ⟨⟨y0, y1⟩, y3, y4⟩ := box2 hW'.2; clear hW'; go_simp; first | done | with_reducible rfl)
       simp only [Act.put, nS]
       refine tkH 7 ?_ rfl ⟨k0_h.out, k5_h.out⟩ (fun W' hW' => ?_) ?_; rotate_left; · (obtain ⟨⟨x0, x1, x2⟩, x3, x4, x5⟩ := box3 hW'.1; obtain ⟨⟨y0, y1⟩, y3, y4⟩ := box2 hW'.2; clear hW'; go_simp; first | done | with_reducible rfl)
       simp only [Act.put, nS]
       refine tkH 9 ?_ rfl ⟨k0_h.out, k5_h.out⟩ (fun W' hW' => ?_) ?_; rotate_left; · (obtain ⟨⟨x0, x1, x2⟩, x3, x4, x5⟩ := box3 hW'.1; obtain ⟨⟨y0, y1⟩, y3, y4⟩ := box2 hW'.2; clear hW'; go_simp; first | done | with_reducible rfl)
       simp only [Act.put, nS]
       refine tkH 10 ?_ rfl ⟨k0_h.out, k5_h.out⟩ (fun W' hW' => ?_) ?_; rotate_left; · (obtain ⟨⟨x0, x1, x2⟩, x3, x4, x5⟩ := box3 hW'.1; obtain ⟨⟨y0, y1⟩, y3, y4⟩ := box2 hW'.2; clear hW'; go_simp; first | done | with_reducible rfl)
       simp only [Act.put, nS]
       refine' callH 8 (f := _) (args := _) rfl (by kernel_rfl) (by rfl) ?_ ?_; rotate_left 2; · (go_simp; first | done | with_reducible rfl | (constructor <;> with_reducible rfl))
       refine (hM_h.out _).mono ?_
       rintro e w' ⟨rfl, hw'⟩
       subst hw'
       refine ⟨_, rfl, ⟨k0_h.out, k5_h.out⟩, ?_⟩
       simp only [Act.put, nS]
       refine' callH 11 (f := _) (args := _) rfl (by kernel_rfl) (by rfl) ?_ ?_; rotate_left 2; · (go_simp; first | done | with_reducible rfl | (constructor <;> with_reducible rfl))
       refine (hGR_h.out _).mono ?_
       rintro e w6 ⟨Ar, cr, hr, nr, rfl, hrn, hrl, hrr, hb6⟩
       replace k0_h := lH (box_below k0_h.out hb6)
       replace k1_h := lH (box_below k1_h.out hb6)
       replace k5_h := lH (box_below k5_h.out hb6)
       have hB6 := below_trans hbW4_h.out (below_trans hbd_h.out hb6 hbd_h.out.size) hbW4_h.out.size
       have hC := relation_any p x y N Ar cr hr w6 hrr hf c_h.out.symm.symm (by rw [hrl]; have := hmt_h.out; rwa [show (leafRows (k - 6) v).length = hr.length by rw [← hrl, List.length_map]] at this) (by have := congrArg List.length hrl; rw [List.length_map] at this; have := leafRows_le (k - 6) v; omega) (by have := d_h.out; omega)
       rw [hrl, hrn] at hC
       refine ⟨_, rfl, ⟨k0_h.out, k5_h.out⟩, ?_⟩
       simp only [Act.put, nS]
       clear hrl hrn hrr; have hb6_h := lH hb6; have hB6_h := lH hB6; have hC_h := lH hC; clear hb6 hB6 hC
       refine' callH 12 (f := _) (args := _) rfl (by kernel_rfl) (by rfl) ?_ ?_; rotate_left 2; · (go_simp; first | done | with_reducible rfl | (constructor <;> with_reducible rfl))
       refine (hC_h.out).mono ?_
       rintro e w7 ⟨v7, fp7, rfl, hO7, hf7, hb7⟩
       obtain ⟨A7, n7, c7, rfl⟩ := id hO7.shape
       replace k0_h := lH (box_below k0_h.out hb7)
       replace k1_h := lH (box_below k1_h.out hb7)
       replace k5_h := lH (box_below k5_h.out hb7)
       have hB7 := below_trans hB6_h.out hb7 hB6_h.out.size
       have hCv := converse_any p w7 hO7 hrok_h.out
       rw [hcv_h.out] at hCv
       refine ⟨_, rfl, ⟨k0_h.out, k5_h.out⟩, ?_⟩
       simp only [Act.put, nS]
       clear hO7 hf7 hb7; have hB7_h := lH hB7; have hCv_h := lH hCv; clear hB7 hCv
       refine' callH 13 (f := _) (args := _) rfl (by kernel_rfl) (by rfl) ?_ ?_; rotate_left 2; · (go_simp; first | done | with_reducible rfl | (constructor <;> with_reducible rfl))
       refine (hCv_h.out).mono ?_
       rintro e w8 ⟨v2, fp9, rfl, hO9, hf9, hb8⟩
       obtain ⟨A9, n9, c9, rfl⟩ := hO9.shape
       replace k0_h := lH (box_below k0_h.out hb8)
       replace k1_h := lH (box_below k1_h.out hb8)
       replace k5_h := lH (box_below k5_h.out hb8)
       have hB8' := below_trans hB7_h.out hb8 hB7_h.out.size
       have hB8 := below_trans bW_h.out hB8' bW_h.out.size
       have hBz := Nat.le_trans bW_h.out.size hB7_h.out.size
       have hz7 := hB7_h.out.size
       refine ⟨_, rfl, ⟨k0_h.out, k5_h.out⟩, ?_⟩
       simp only [Act.put, nS]
       have hw3z := box_lt k5_h.out
       have hw0 := box_lt k1_h.out
       obtain ⟨⟨d0, d1, d2⟩, g0, g1, g2⟩ := box3 k1_h.out
       obtain ⟨s1, s2⟩ := set3 (a := .int .i64 V.1) (b := .int .i64 V.2.1) (c := .slice A9 n9 c9) k1_h.out
       have hB9 := below_keeps hB8 s2 hB8.size (fun k hk => by omega)
       have hO8 := hO9.keeps s2 (fun k hk e => by have := hf9 k hk; omega)
       have hf8 := hf9.mono hBz
       clear hB8 hO9 hf9; have s1_h := lH s1; have s2_h := lH s2; have hB9_h := lH hB9; have hO8_h := lH hO8; have hf8_h := lH hf8; clear s1 s2 hB9 hO8 hf8
       have k0s := box_keeps k0_h.out s2_h.out (by omega)
       have k5s := box_keeps k5_h.out s2_h.out (by omega)
       have k0s_h := lH k0s; have k5s_h := lH k5s; clear k0s k5s
       refine oneH 14 rfl (by kernel_rfl) (by rfl) (fun K hK => ?_)
       go_simp
       refine hK _ _ ⟨k0s_h.out, k5s_h.out⟩ ?_
       clear hK K
       refine doneH (by kernel_rfl) ?_
       go_wp2_with (fail)
       refine bodyPost_ret (results_cell_row rfl _ _ (w.heap.size + 1) _ _ (0, 0) _ rfl s1_h.out Tryz.underlying82 rfl (by kernel_rfl)) rfl ?_
       first | exact ⟨_, fp9, rfl, hO8_h.out, hf8_h.out, hB9_h.out⟩ | exact ⟨_, rfl, fp9, hO8_h.out, hf8_h.out, hB9_h.out⟩
     · have hb9 : decide (9 ≤ k) = false := decide_eq_false h9
       have hk5 : k = 3 ∨ k = 4 ∨ k = 5 ∨ k = 6 ∨ k = 7 := by unfold genB at hk; omega
       obtain ⟨a, b, c, d⟩ := kindTy_nn k
       have hGW := fun (W' : World) => generatorWires_any k W' (by omega) (by omega)
       have hGR := fun (W' : World) => generatorRows_any k v W' hk5
       have hmt := leafRows_mat (p := p) (v := v) (by omega) hk hv
       have hV' : ((kindTy k).1, (kindTy k).2, redM p (kdN k) (leafRows k v)) = V := by rw [leaf_null hf hk hv]; exact hV.symm
       obtain ⟨x, hx⟩ : ∃ x, x = (kindTy k).1 := ⟨_, rfl⟩
       obtain ⟨y, hy⟩ : ∃ y, y = (kindTy k).2 := ⟨_, rfl⟩
       obtain ⟨N, hN⟩ : ∃ y, y = kdN k := ⟨_, rfl⟩
       simp only [← hx, ← hy] at hGW
       rw [← hx, ← hy, ← hN] at c hV'
       rw [← hN] at hmt d
       clear hV hl hl1 hfit ok hV0 hk hv hk5 a b h1 h2; have k0_h := lH k0; have k1_h := lH k1; have bW_h := lH bW; have c_h := lH c; have d_h := lH d; have hGW_h := lH hGW; have hGR_h := lH hGR; have hmt_h := lH hmt; have hx_h := lH hx; have hy_h := lH hy; have hN_h := lH hN; have hV'_h := lH hV'; clear k0 k1 bW c d hGW hGR hmt hx hy hN hV'
       have h9' : ¬ k ≥ 9 := h9
       go_enter Tryz.func61, Tryz.ntmps61
       go_upto_region 1 with (fail)
       rw [← hW]
       clear hW
       obtain ⟨⟨c0, c1, c2⟩, f0, f1, f2⟩ := box3 k0_h.out
       go_wp2_with (fail)
       refine (hGW_h.out _).mono ?_
       rintro e w3 ⟨rfl, hb3⟩
       replace k0_h := lH (box_below k0_h.out hb3)
       replace k1_h := lH (box_below k1_h.out hb3)
       obtain ⟨w4, hw4⟩ : ∃ w4, w4 = w3.alloc (.cells #[.int .i64 x, .int .i64 y] 105) := ⟨_, rfl⟩
       have hb4 : Below w3.heap.size w3 w4 := by rw [hw4]; exact below_alloc _ _
       have k5 : w4.heap[w3.heap.size]? = some (.cells #[.int .i64 x, .int .i64 y] 105) := by rw [hw4]; exact heap_alloc_new _ _
       replace k0_h := lH (box_below k0_h.out hb4)
       replace k1_h := lH (box_below k1_h.out hb4)
       have hbW4 := below_trans hb3 hb4 hb3.size
       have hz3 := hb3.size
       clear c0 c1 c2 f0 f1 f2 hb3 hb4; have k5_h := lH k5; have hbW4_h := lH hbW4; clear k5 hbW4
       go_upto_region 9 with (fail)
       rw [← hw4]
       clear hw4
       have hbd : Below w4.heap.size w4 w4.drew := below_drewN (Below.refl _ _) 1
       have hbd_h := lH hbd; clear hbd
       refine beginH (fun w' => w'.heap[w.heap.size]? = some (.cells #[.int .i64 k, .int .i64 v, .string nm] 85) ∧ w'.heap[w3.heap.size]? = some (.cells #[.int .i64 x, .int .i64 y] 105)) (by kernel_rfl) ?_
       replace k0_h := lH (box_below k0_h.out hbd_h.out)
       replace k1_h := lH (box_below k1_h.out hbd_h.out)
       replace k5_h := lH (box_below k5_h.out hbd_h.out)
       refine tkH 0 ?_ rfl ⟨k0_h.out, k5_h.out⟩ (fun W' hW' => ?_) ?_; rotate_left; · (obtain ⟨⟨x0, x1, x2⟩, x3, x4, x5⟩ := box3 hW'.1; obtain ⟨⟨y0, y1⟩, y3, y4⟩ := box2 hW'.2; clear hW'; go_simp; first | done | with_reducible rfl)
       simp only [Act.put, nS]
       refine tkH 1 ?_ rfl ⟨k0_h.out, k5_h.out⟩ (fun W' hW' => ?_) ?_; rotate_left; · (obtain ⟨⟨x0, x1, x2⟩, x3, x4, x5⟩ := box3 hW'.1; obtain ⟨⟨y0, y1⟩, y3, y4⟩ := box2 hW'.2; clear hW'; go_simp; first | done | with_reducible rfl)
       simp only [Act.put, nS]
       refine tkH 2 ?_ rfl ⟨k0_h.out, k5_h.out⟩ (fun W' hW' => ?_) ?_; rotate_left; · (obtain ⟨⟨x0, x1, x2⟩, x3, x4, x5⟩ := box3 hW'.1; obtain ⟨⟨y0, y1⟩, y3, y4⟩ := box2 hW'.2; clear hW'; go_simp; first | done | with_reducible rfl)
       simp only [Act.put, nS]
       refine tkH 3 ?_ rfl ⟨k0_h.out, k5_h.out⟩ (fun W' hW' => ?_) ?_; rotate_left; · (obtain ⟨⟨x0, x1, x2⟩, x3, x4, x5⟩ := box3 hW'.1; obtain ⟨⟨y0, y1⟩, y3, y4⟩ := box2 hW'.2; clear hW'; go_simp; first | done | with_reducible rfl)
       simp only [Act.put, nS]
       refine tkH 4 ?_ rfl ⟨k0_h.out, k5_h.out⟩ (fun W' hW' => ?_) ?_; rotate_left; · (obtain ⟨⟨x0, x1, x2⟩, x3, x4, x5⟩ := box3 hW'.1; obtain ⟨⟨y0, y1⟩, y3, y4⟩ := box2 hW'.2; clear hW'; go_simp; first | done | with_reducible rfl)
       simp only [Act.put, nS]
       refine tkH 5 ?_ rfl ⟨k0_h.out, k5_h.out⟩ (fun W' hW' => ?_) ?_; rotate_left; · (obtain ⟨⟨x0, x1, x2⟩, x3, x4, x5⟩ := box3 hW'.1; obtain ⟨⟨y0, y1⟩, y3, y4⟩ := box2 hW'.2; clear hW'; go_simp; first | done | with_reducible rfl)
       simp only [Act.put, nS]
       refine tkH 6 ?_ rfl ⟨k0_h.out, k5_h.out⟩ (fun W' hW' => ?_) ?_; rotate_left; · (obtain ⟨⟨x0, x1, x2⟩, x3, x4, x5⟩ := box3 hW'.1; obtain ⟨⟨y0, y1⟩, y3, y4⟩ := box2 hW'.2; clear hW'; go_simp; first | done | with_reducible rfl)
       simp only [Act.put, nS]
       refine tkH 7 ?_ rfl ⟨k0_h.out, k5_h.out⟩ (fun W' hW' => ?_) ?_; rotate_left; · (obtain ⟨⟨x0, x1, x2⟩, x3, x4, x5⟩ := box3 hW'.1; obtain ⟨⟨y0, y1⟩, y3, y4⟩ := box2 hW'.2; clear hW'; go_simp; first | done | with_reducible rfl)
       simp only [Act.put, nS]
       refine tkH 8 ?_ rfl ⟨k0_h.out, k5_h.out⟩ (fun W' hW' => ?_) ?_; rotate_left; · (obtain ⟨⟨x0, x1, x2⟩, x3, x4, x5⟩ := box3 hW'.1; obtain ⟨⟨y0, y1⟩, y3, y4⟩ := box2 hW'.2; clear hW'; go_simp; first | done | with_reducible rfl)
       simp only [Act.put, nS]
       refine' callH 9 (f := _) (args := _) rfl (by kernel_rfl) (by rfl) ?_ ?_; rotate_left 2; · (go_simp; first | done | with_reducible rfl | (constructor <;> with_reducible rfl))
       refine (hGR_h.out _).mono ?_
       rintro e w6 ⟨Ar, cr, hr, nr, rfl, hrn, hrl, hrr, hb6⟩
       replace k0_h := lH (box_below k0_h.out hb6)
       replace k1_h := lH (box_below k1_h.out hb6)
       replace k5_h := lH (box_below k5_h.out hb6)
       have hB6 := below_trans hbW4_h.out (below_trans hbd_h.out hb6 hbd_h.out.size) hbW4_h.out.size
       have hC := relation_any p x y N Ar cr hr w6 hrr hf c_h.out (by rw [hrl]; have := hmt_h.out; rwa [show (leafRows k v).length = hr.length by rw [← hrl, List.length_map]] at this) (by have := congrArg List.length hrl; rw [List.length_map] at this; have := leafRows_le k v; omega) (by have := d_h.out; omega)
       rw [hrl, hrn, hV'_h.out] at hC
       refine ⟨_, rfl, ⟨k0_h.out, k5_h.out⟩, ?_⟩
       simp only [Act.put, nS]
       clear hrl hrn hrr; have hb6_h := lH hb6; have hB6_h := lH hB6; have hC_h := lH hC; clear hb6 hB6 hC
       refine' callH 10 (f := _) (args := _) rfl (by kernel_rfl) (by rfl) ?_ ?_; rotate_left 2; · (go_simp; first | done | with_reducible rfl | (constructor <;> with_reducible rfl))
       refine (hC_h.out).mono ?_
       rintro e w8 ⟨v2, fp9, rfl, hO9, hf9, hb8⟩
       obtain ⟨A9, n9, c9, rfl⟩ := hO9.shape
       replace k0_h := lH (box_below k0_h.out hb8)
       replace k1_h := lH (box_below k1_h.out hb8)
       replace k5_h := lH (box_below k5_h.out hb8)
       have hB8' := below_trans hB6_h.out hb8 hB6_h.out.size
       have hB8 := below_trans bW_h.out hB8' bW_h.out.size
       have hBz := Nat.le_trans bW_h.out.size hB6_h.out.size
       have hz7 := hB6_h.out.size
       refine ⟨_, rfl, ⟨k0_h.out, k5_h.out⟩, ?_⟩
       simp only [Act.put, nS]
       have hw3z := box_lt k5_h.out
       have hw0 := box_lt k1_h.out
       obtain ⟨⟨d0, d1, d2⟩, g0, g1, g2⟩ := box3 k1_h.out
       obtain ⟨s1, s2⟩ := set3 (a := .int .i64 V.1) (b := .int .i64 V.2.1) (c := .slice A9 n9 c9) k1_h.out
       have hB9 := below_keeps hB8 s2 hB8.size (fun k hk => by omega)
       have hO8 := hO9.keeps s2 (fun k hk e => by have := hf9 k hk; omega)
       have hf8 := hf9.mono hBz
       clear hB8 hO9 hf9; have s1_h := lH s1; have s2_h := lH s2; have hB9_h := lH hB9; have hO8_h := lH hO8; have hf8_h := lH hf8; clear s1 s2 hB9 hO8 hf8
       have k0s := box_keeps k0_h.out s2_h.out (by omega)
       have k5s := box_keeps k5_h.out s2_h.out (by omega)
       have k0s_h := lH k0s; have k5s_h := lH k5s; clear k0s k5s
       refine oneH 11 rfl (by kernel_rfl) (by rfl) (fun K hK => ?_)
       go_simp
       refine hK _ _ ⟨k0s_h.out, k5s_h.out⟩ ?_
       clear hK K
       refine doneH (by kernel_rfl) ?_
       go_wp2_with (fail)
       refine bodyPost_ret (results_cell_row rfl _ _ (w.heap.size + 1) _ _ (0, 0) _ rfl s1_h.out Tryz.underlying82 rfl (by kernel_rfl)) rfl ?_
       first | exact ⟨_, fp9, rfl, hO8_h.out, hf8_h.out, hB9_h.out⟩ | exact ⟨_, rfl, fp9, hO8_h.out, hf8_h.out, hB9_h.out⟩
theorem IS.ne_outer {w : World} {A B : Option Addr} {c n cap : Nat} {l : List Int} {xs : List Value} (h : IS w A c l) (h' : Sl w 23 1 B n cap xs) : ∀ x, x ∈ fpA A → x ∉ fpA B := by
 intro x hx hx'
 rcases h.2.2.2 with ⟨rfl, _⟩ | ⟨g, off, cur, rfl, hg, _⟩
 · simp at hx
 rcases h'.2.2.2 with ⟨rfl, _⟩ | ⟨g', off', cur', rfl, hg', _⟩
 · simp at hx'
 simp at hx hx'
 subst hx
 subst hx'
 rw [hg] at hg'
 injection hg' with hg'
 injection hg' with _ h2 _
 exact absurd h2 (by decide)
theorem Keeps.after {S T : Nat → Prop} {a w w' : World} (h : Keeps T a w) (hk : Keeps S w w') (hS : ∀ k, k < a.heap.size → S k → T k) : Keeps T a w' :=
 ⟨hk.os.trans h.os, hk.tape.trans h.tape, hk.output.trans h.output, Nat.le_trans h.size hk.size, fun i hi ht => (hk.block i (Nat.lt_of_lt_of_le hi h.size) (fun hs => ht (hS i hi hs))).trans (h.block i hi ht)⟩
structure Aside (w : World) (A : Option Addr) (cap : Nat) (hs : List Hd) (B : Option Addr) : Prop where
 sl : Sl w 23 1 A hs.length cap (hs.map Hd.val)
 rows : ∀ x, x ∈ hs → IS w x.1 x.2.1 x.2.2
 off : ∀ b, b ∈ fpA A → ¬ b ∈ fpA B
theorem Aside.rdr {w : World} {A B : Option Addr} {cap : Nat} {hs : List Hd} (h : Aside w A cap hs B) : RdR w A hs :=
 ⟨fun i x hi => by obtain ⟨ad, hA, _, hc, _⟩ := h.sl.cell (j := i) (u := x.val) (by simp [hi]); exact ⟨ad, hA, by simpa using hc⟩, fun x hx => (h.rows x hx).rd⟩
theorem Aside.step {w w1 w2 : World} {A B B' : Option Addr} {cap n c : Nat} {hs : List Hd} {xs : List Value} (h : Aside w A cap hs B) (hB : Sl w 23 1 B n c xs) (hb : Below w.heap.size w w1) (hk : Keeps (· ∈ fpA B) w1 w2) (hB' : ∀ b, b ∈ fpA B' → b ∈ fpA B ∨ w1.heap.size ≤ b) : Aside w2 A cap hs B' :=
 ⟨(h.sl.below hb).keeps hk fun b hb1 hb2 => h.off b hb1 hb2, fun x hx => ((h.rows x hx).below hb).keeps hk fun b hb1 hb2 => IS.ne_outer (h.rows x hx) hB b hb1 hb2, fun b hb1 hb2 => by
   rcases hB' b hb2 with h1 | h1
   · exact h.off b hb1 h1
   · have := h.sl.lt b hb1; have := hb.size; omega⟩
def wcs : List Tr → List Value
 | [] => []
 | t :: r => wcs r ++ [.int .i64 (ty t).1, .int .i64 (ty t).2]
def TyA (l : List Nd) (w : World) (e : Ending) (w' : World) : Prop :=
 ∃ (i o : Int) (b : Bool), e = .returned (.tuple #[.agg #[.int .i64 i, .int .i64 o], .bool b]) ∧ b = (treeM l).isSome ∧ (∀ t, treeM l = some t → (i, o) = ty t) ∧ Below w.heap.size w w'
structure TyR (B : Nat) (w : World) (l : List Nd) (k : Nat) (st : List Tr) (A1 : Option Addr) (c1 : Nat) (wr : World) : Prop where
 par : parse [] (l.take k) = some st
 sl : Sl wr tWires 2 A1 st.length c1 (wcs st)
 fr : ∀ b, b ∈ fpA A1 → B + 1 ≤ b
 box : wr.heap[B]? = some (.cells #[.int .i64 0, .int .i64 0] tWires)
 bel : Below B w wr
theorem TyR.below {B : Nat} {w wr w1 : World} {l : List Nd} {k : Nat} {st : List Tr} {A1 : Option Addr} {c1 : Nat} (h : TyR B w l k st A1 c1 wr) (hb : Below wr.heap.size wr w1) : TyR B w l k st A1 c1 w1 :=
 ⟨h.par, h.sl.below hb, h.fr, t_box_below h.box hb, below_trans h.bel hb (Nat.le_of_lt (t_box_lt h.box))⟩
theorem TyR.push {B : Nat} {w X w2 : World} {l : List Nd} {k : Nat} {t : Tr} {r : List Tr} {A1 A2 : Option Addr} {c2 n2 : Nat} {i o : Int} (hbel : Below B w X) (hbox : X.heap[B]? = some (.cells #[.int .i64 0, .int .i64 0] tWires)) (hfr : ∀ b, b ∈ fpA A1 → B + 1 ≤ b)
  (hp : parse [] (l.take (k + 1)) = some (t :: r)) (hn : n2 = r.length) (hio : (i, o) = ty t) (hs : Sl w2 tWires 2 A2 (n2 + 1) c2 (wcs r ++ [.int .i64 i, .int .i64 o])) (hA : ∀ b, b ∈ fpA A2 → b ∈ fpA A1 ∨ X.heap.size ≤ b) (hk : Keeps (· ∈ fpA A1) X w2) : TyR B w l (k + 1) (t :: r) A2 c2 w2 := by
 have hB := t_box_lt hbox
 refine ⟨hp, ?_, fun b hb => ?_, t_box_keeps hbox hk (fun h => by have := hfr _ h; omega), below_keeps hbel hk (Nat.le_of_lt hB) (fun b hb => by have := hfr b hb; omega)⟩
 · simp only [wcs, List.length_cons, ← hio, ← hn]; exact hs
 · rcases hA b hb with h | h
   · exact hfr b h
   · omega
theorem Sl.take {w : World} {e : TypeId} {sz n cap : Nat} {A : Option Addr} {xs : List Value} (h : Sl w e sz A n cap xs) {k : Nat} (hk : k ≤ n) : Sl w e sz A k cap (xs.take (k * sz)) := by
 obtain ⟨h1, h2, h3, h4⟩ := h
 have hm := Nat.mul_le_mul_right sz hk
 refine ⟨by rw [List.length_take, h1]; omega, by omega, h3, ?_⟩
 rcases h4 with h4 | ⟨g, off, cur, ha, hg, hc, ht⟩
 · exact .inl h4
 · exact .inr ⟨g, off, cur, ha, hg, hc, by rw [← ht, List.take_take]; congr 1; omega⟩
theorem TyA.no {l : List Nd} {w w' : World} {i o : Int} (hN : treeM l = none) (hb : Below w.heap.size w w') : TyA l w (.returned (.tuple #[.agg #[.int .i64 i, .int .i64 o], .bool false])) w' :=
 ⟨i, o, false, rfl, by rw [hN]; rfl, fun t ht => (by rw [hN] at ht; cases ht), hb⟩
def frL (st : List Tr) : List Int := (infos st).map fun x => (x.1 : Int)
def inL (st : List Tr) : List Int := (infos st).map (·.2.1)
def ouL (st : List Tr) : List Int := (infos st).map (·.2.2)
abbrev RV := Int × Int × Option Addr × Nat × Nat
def rc (h : RV) : List Value := [.int .i64 h.1, .int .i64 h.2.1, .slice h.2.2.1 h.2.2.2.1 h.2.2.2.2]
def rv (h : RV) : Value := .agg #[.int .i64 h.1, .int .i64 h.2.1, .slice h.2.2.1 h.2.2.2.1 h.2.2.2.2]
def rcs : List RV → List Value
 | [] => []
 | n :: r => rc n ++ rcs r
theorem rcs_append (l m : List RV) : rcs (l ++ m) = rcs l ++ rcs m := by
 induction l with
 | nil => rfl
 | cons n r ih => simp [rcs, ih]
@[simp] theorem rcs_length (l : List RV) : (rcs l).length = l.length * 3 := by
  induction l with
  | nil => rfl
  | cons n r ih => simp only [rcs, rc, List.length_append, List.length_cons, List.length_nil, ih]; omega
theorem rcs_take : ∀ (l : List RV) (k : Nat), rcs (l.take k) = (rcs l).take (k * 3)
 | [], k => by simp [rcs]
 | n :: r, 0 => by simp [rcs]
 | n :: r, k + 1 => by
   rw [show (k + 1) * 3 = k * 3 + 1 + 1 + 1 by omega]
   simp only [List.take_succ_cons, rcs, rc, List.cons_append, List.nil_append, rcs_take r k]
theorem rcs_get {l : List RV} {j : Nat} {n : RV} (h : l[j]? = some n) : (rcs l)[j * 3]? = some (.int .i64 n.1) ∧ (rcs l)[j * 3 + 1]? = some (.int .i64 n.2.1) ∧ (rcs l)[j * 3 + 2]? = some (.slice n.2.2.1 n.2.2.2.1 n.2.2.2.2) := by
 induction l generalizing j with
 | nil => simp at h
 | cons a r ih =>
   cases j with
   | zero =>
     obtain rfl : a = n := by simpa using h
     simp [rcs, rc]
   | succ j =>
     have := ih (j := j) (by simpa using h)
     have hl : (rc a).length = 3 := rfl
     simp only [rcs]
     rw [List.getElem?_append_right (by omega), List.getElem?_append_right (by omega), List.getElem?_append_right (by omega), hl]
     rw [show (j + 1) * 3 - 3 = j * 3 by omega, show (j + 1) * 3 + 1 - 3 = j * 3 + 1 by omega, show (j + 1) * 3 + 2 - 3 = j * 3 + 2 by omega]
     exact this
theorem Sl.apart_ty {w : World} {e e' : TypeId} {sz sz' n n' c c' : Nat} {A B : Option Addr} {xs ys : List Value} (h : Sl w e sz A n c xs) (h' : Sl w e' sz' B n' c' ys) (he : e ≠ e') : ∀ b, b ∈ fpA A → ¬ b ∈ fpA B := by
 intro x hx hx'
 rcases h.2.2.2 with ⟨rfl, _⟩ | ⟨g, off, cur, rfl, hg, _⟩
 · simp at hx
 rcases h'.2.2.2 with ⟨rfl, _⟩ | ⟨g', off', cur', rfl, hg', _⟩
 · simp at hx'
 simp at hx hx'
 subst hx
 subst hx'
 rw [hg] at hg'
 injection hg' with hg'
 injection hg' with _ h2 _
 exact he h2
theorem OwSys.apart_rel {w : World} {v : Value} {s : Sys} {fp : List Nat} {n c : Nat} {B : Option Addr} {ys : List Value} (h : OwSys w v s fp) (h' : Sl w tRelD 3 B n c ys) : ∀ b, b ∈ fp → ¬ b ∈ fpA B := by
 obtain ⟨A, c, hs, rfl, _, hO, rfl⟩ := h
 intro b hb
 rcases List.mem_append.1 hb with hb | hb
 · exact hO.sl.apart_ty h' (by decide) b hb
 · obtain ⟨x, hx, hb⟩ := mem_fpR.1 hb
   exact Sl.apart_ty (hO.rows x hx) h' (by decide) b hb
theorem bx1_d {w : World} {B : Nat} {x : Value} {t : TypeId} (h : w.heap[B]? = some (.cells #[x] t)) : w.cell? ⟨B, 0, none⟩ = some x ∧ w.frozen? ⟨B, 0, none⟩ = false := by simp [World.cell?, World.frozen?, h]
structure Stk (w0 w : World) (A : Option Addr) (cap : Nat) (hs : List RV) (L : List Sys) : Prop where
 sl : Sl w tRelD 3 A hs.length cap (rcs hs)
 els : ∀ (i : Nat) (s : Sys), L[i]? = some s → ∃ h fp, hs[i]? = some h ∧ OwSys w (rv h) s fp ∧ FreshL w0.heap.size fp
 len : hs.length = L.length
 new : ∀ b, b ∈ fpA A → w0.heap.size ≤ b
 below_ : Below w0.heap.size w0 w
theorem Stk.below {w0 w w' : World} {A : Option Addr} {cap : Nat} {hs : List RV} {L : List Sys} (h : Stk w0 w A cap hs L) (hb : Below w.heap.size w w') : Stk w0 w' A cap hs L :=
 ⟨h.sl.below hb, fun i s hi => by obtain ⟨x, fp, h1, h2, h3⟩ := h.els i s hi; exact ⟨x, fp, h1, h2.below hb, h3⟩, h.len, h.new, below_trans h.below_ hb h.below_.size⟩
theorem Stk.take {w0 w : World} {A : Option Addr} {cap : Nat} {hs : List RV} {L : List Sys} (h : Stk w0 w A cap hs L) {k : Nat} (hk : k ≤ hs.length) : Stk w0 w A cap (hs.take k) (L.take k) := by
 have h1 := Sl.take h.sl hk
 rw [← rcs_take] at h1
 refine ⟨by rw [List.length_take, Nat.min_eq_left hk]; exact h1, fun i s hi => ?_, by rw [List.length_take, List.length_take, h.len], h.new, h.below_⟩
 rw [List.getElem?_take] at hi
 split at hi
 · rename_i hlt
   obtain ⟨x, fp, h1, h2, h3⟩ := h.els i s hi
   exact ⟨x, fp, by rw [List.getElem?_take, if_pos hlt]; exact h1, h2, h3⟩
 · cases hi
theorem Stk.push {w0 w w1 w2 : World} {A : Option Addr} {cap : Nat} {hs : List RV} {L : List Sys} (h : Stk w0 w A cap hs L) (hb : Below w.heap.size w w1) {v : RV} {s : Sys} {fp : List Nat} (hv : OwSys w1 (rv v) s fp) (hf : FreshL w0.heap.size fp) {A' : Option Addr} {cap' n : Nat} (hn : n = hs.length + 1) (hs' : Sl w2 tRelD 3 A' n cap' (rcs hs ++ rc v)) (hA' : ∀ b, b ∈ fpA A' → b ∈ fpA A ∨ w1.heap.size ≤ b) (hk : Keeps (· ∈ fpA A) w1 w2) : Stk w0 w2 A' cap' (hs ++ [v]) (L ++ [s]) := by
 have hsl := h.sl.below hb
 have hb1 := below_trans h.below_ hb h.below_.size
 subst hn
 refine ⟨by rw [rcs_append, List.length_append]; simpa [rcs] using hs', fun i x hi => ?_, by rw [List.length_append, List.length_append, h.len]; rfl, fun b hb' => ?_, below_keeps hb1 hk hb1.size h.new⟩
 · by_cases hlt : i < L.length
   · rw [List.getElem?_append_left hlt] at hi
     obtain ⟨y, fq, h1, h2, h3⟩ := h.els i x hi
     exact ⟨y, fq, by rw [List.getElem?_append_left (by rw [h.len]; exact hlt)]; exact h1, (h2.below hb).keeps hk ((h2.below hb).apart_rel hsl), h3⟩
   · rw [List.getElem?_append_right (by omega)] at hi
     have hi0 : i - L.length = 0 := by
      rcases Nat.eq_zero_or_pos (i - L.length) with h0 | h0
      · exact h0
      · rw [List.getElem?_eq_none (by simp; omega)] at hi; cases hi
     rw [hi0] at hi
     obtain rfl : s = x := by simpa using hi
     exact ⟨v, fp, by rw [List.getElem?_append_right (by rw [h.len]; omega), h.len, hi0]; rfl, hv.keeps hk (hv.apart_rel hsl), hf⟩
 · rcases hA' b hb' with h1 | h1
   · exact h.new b h1
   · have := hb1.size; omega
theorem Stk.at_ {w0 w : World} {A : Option Addr} {cap : Nat} {hs : List RV} {L : List Sys} (h : Stk w0 w A cap hs L) {i : Nat} {s : Sys} (hi : L[i]? = some s) : ∃ ad x y B n c fp, A = some ad ∧ w.cell? (ad.add (i * 3)) = some (.int .i64 x) ∧ w.cell? ⟨(ad.add (i * 3)).block, (ad.add (i * 3)).off + 1, none⟩ = some (.int .i64 y) ∧ w.cell? ⟨(ad.add (i * 3)).block, (ad.add (i * 3)).off + 2, none⟩ = some (.slice B n c) ∧ OwSys w (.agg #[.int .i64 x, .int .i64 y, .slice B n c]) s fp ∧ FreshL w0.heap.size fp := by
 obtain ⟨⟨x, y, B, n, c⟩, fp, h1, h2, h3⟩ := h.els i s hi
 obtain ⟨g0, g1, g2⟩ := rcs_get h1
 obtain ⟨ad, hA, _, c0, _⟩ := h.sl.cell g0
 obtain ⟨ad1, hA1, _, c1, _⟩ := h.sl.cell g1
 obtain ⟨ad2, hA2, _, c2, _⟩ := h.sl.cell g2
 rw [hA] at hA1 hA2
 obtain rfl := Option.some.inj hA1
 obtain rfl := Option.some.inj hA2
 rw [add_next _ _ 1 (by omega)] at c1
 rw [add_next _ _ 2 (by omega)] at c2
 exact ⟨ad, x, y, B, n, c, fp, hA, c0, c1, c2, h2, h3⟩
def dens (p : Int) (st : List Tr) : List Sys := (st.map (den p)).reverse
@[simp] theorem dens_length (p : Int) (st : List Tr) : (dens p st).length = st.length := by simp [dens]
@[simp] theorem rangeI_length' (k : Nat) : (rangeI k).length = k := by simp [rangeI]
def lfI (n k : Nat) : List Int := (rangeI k).take n
def lfO (n k : Nat) : List Int := (rangeI k).drop n
@[simp] theorem lfI_length (n k : Nat) : (lfI n k).length = min n k := by simp [lfI]
@[simp] theorem lfO_length (n k : Nat) : (lfO n k).length = k - n := by simp [lfO]
theorem sm_set {n q : Nat} {l : List Int} (hq : q < n) (hl : l.length = n) (y : Int) (x : Nat → Int) : (sm n fun j => (l.set q y).getD j 0 * x j) = (sm n fun j => l.getD j 0 * x j) + (y - l.getD q 0) * x q := by
 have h : (sm n fun j => (l.set q y).getD j 0 * x j) - (sm n fun j => l.getD j 0 * x j) = (y - l.getD q 0) * x q := by
  rw [← sm_sub, sm_one hq fun j hj hne => by rw [getD_set_ne' (Ne.symm hne), Int.sub_self], getD_set_self (by omega), Int.sub_mul]
 omega
theorem sprTo_dot {p : Int} {n : Nat} {at_ v : List Int} (hat : ∀ a, a ∈ at_ → 0 ≤ a ∧ a < (n : Int)) (x : Nat → Int) : ∀ k, k ≤ at_.length →
  p ∣ (sm n fun j => (sprTo p n at_ v k).getD j 0 * x j) - sm k fun i => v.getD i 0 * x (at_.getD i 0).toNat
 | 0, _ => by
   rw [sm_congr (g := fun _ => 0) (fun j hj => by simp [sprTo, List.getD, hj]), sm_zero]
   exact Int.dvd_zero p
 | k + 1, hk => by
   have ih := sprTo_dot (p := p) (v := v) hat x k (by omega)
   have hq : (at_.getD k 0).toNat < n := by
    have := hat (at_.getD k 0) (by rw [getD_lt (by omega : k < at_.length)]; exact List.getElem_mem _)
    omega
   rw [sprTo, sm_set hq (sprTo_length _ _ _ _ _), sm]
   obtain ⟨q, hqe⟩ : ∃ q, q = (at_.getD k 0).toNat := ⟨_, rfl⟩
   rw [← hqe]
   have e1 := dvd_l (dvd_emod_sub p ((sprTo p n at_ v k).getD q 0 + v.getD k 0)) (x q)
   have e2 := Int.dvd_add e1 ih
   have e3 : ∀ A B C D E : Int, A + (C - B) * E - (D + (C - B) * E) = A - D := by intros; omega
   have e4 : (sm n fun j => (sprTo p n at_ v k).getD j 0 * x j) + (((sprTo p n at_ v k).getD q 0 + v.getD k 0) % p - (sprTo p n at_ v k).getD q 0) * x q - ((sm k fun i => v.getD i 0 * x (at_.getD i 0).toNat) + v.getD k 0 * x q)
     = (((sprTo p n at_ v k).getD q 0 + v.getD k 0) % p - ((sprTo p n at_ v k).getD q 0 + v.getD k 0)) * x q + ((sm n fun j => (sprTo p n at_ v k).getD j 0 * x j) - sm k fun i => v.getD i 0 * x (at_.getD i 0).toNat) := by
    rw [Int.sub_mul, Int.sub_mul, Int.add_mul]
    omega
   rw [e4]
   exact e2
theorem spr_dvd {p : Int} {n : Nat} {at_ v : List Int} (hat : ∀ a, a ∈ at_ → 0 ≤ a ∧ a < (n : Int)) (x : Nat → Int) :
  (p ∣ sm n fun j => (sprV p n at_ v).getD j 0 * x j) ↔ p ∣ sm at_.length fun i => v.getD i 0 * x (at_.getD i 0).toNat := by
 have h := sprTo_dot (p := p) (v := v) hat x at_.length (Nat.le_refl _)
 constructor
 · intro h1
   have := Int.dvd_sub h1 h
   rwa [show sprV p n at_ v = sprTo p n at_ v at_.length from rfl, Int.sub_sub_self] at this
 · intro h1
   have := Int.dvd_add h h1
   rwa [Int.sub_add_cancel] at this
theorem sprV_mat {p : Int} (hp : 0 < p) (n : Nat) (at_ v : List Int) : (sprV p n at_ v).length = n ∧ Res p (sprV p n at_ v) := ⟨sprTo_length _ _ _ _ _, sprTo_res hp _ _ _ _⟩
def edEqs (p : Int) (n : Nat) (e : Eg) : List (List Int) := (perpM p (kdN e.1) (leafV p (e.1, e.2.1, .empty)).2.2).map (sprV p n (e.2.2.1 ++ e.2.2.2))
def imEqs (p : Int) (g : Gr) : List (List Int) := g.2.1.flatMap (edEqs p g.1.toNat)
section
variable {p : Int} (hf : fieldB p = true)
include hf
theorem perp_null {N : Nat} {E : List (List Int)} (hE : Mat p E.length N E) (u : Nat → Int) : NulL p N (perpM p N (nullM p N E)) u ↔ NulL p N E u := by
 have hpb := fieldB_bounds hf
 have hBg := nullM_genL hf hE
 have hB := nullM_red hf N E
 have hPg : GenL p N (NulL p N (nullM p N E)) (perpM p N (nullM p N E)) := by
  rw [perpM_eq]
  have hg := perp_gen hf hB.1
  have hs := redM_spec hf hg.1
  refine ⟨hs.1.1, fun k hk => ?_, fun x hx => hg.2.2 x ((hs.2.1 x).1 hx)⟩
  intro i hi
  have hrow : NulL p N ((redTo p (transM (nullM p N E) N) (idM N) (nullM p N E).length).2.2.drop (redTo p (transM (nullM p N E) N) (idM N) (nullM p N E).length).1) fun j => en (nullM p N E) i j := fun q hq => by
   have := hg.2.1 q hq i hi
   rw [sm_congr (g := fun j => en (nullM p N E) i j * en ((redTo p (transM (nullM p N E) N) (idM N) (nullM p N E).length).2.2.drop (redTo p (transM (nullM p N E) N) (idM N) (nullM p N E).length).1) q j) (fun j _ => Int.mul_comm _ _)]
   exact this
  have := (hs.2.1 _).2 hrow k hk
  rw [sm_congr (g := fun j => en (redM p N ((redTo p (transM (nullM p N E) N) (idM N) (nullM p N E).length).2.2.drop (redTo p (transM (nullM p N E) N) (idM N) (nullM p N E).length).1)) k j * en (nullM p N E) i j) (fun j _ => Int.mul_comm _ _)]
  exact this
 constructor
 · intro hu i hi
   have hrow : NulL p N (nullM p N E) fun j => en E i j := fun q hq => by
    have := hBg.2.1 q hq i hi
    rw [sm_congr (g := fun j => en E i j * en (nullM p N E) q j) (fun j _ => Int.mul_comm _ _)]
    exact this
   have := hPg.2.2 u hu _ hrow
   rw [sm_congr (g := fun j => u j * en E i j) (fun j _ => Int.mul_comm _ _)]
   exact this
 · intro hu k hk
   exact hBg.2.2 _ (hPg.2.1 k hk) u hu
theorem perpM_mat {N : Nat} {L : List (List Int)} (hL : Mat p L.length N L) : Mat p (perpM p N L).length N (perpM p N L) := by
 rw [perpM_eq]
 exact (redM_spec hf (perp_gen hf hL).1).1.1
end
structure EdOk (n : Nat) (e : Eg) : Prop where
 inl : e.2.2.1.length = (kindTy e.1).1.toNat
 outl : e.2.2.2.length = (kindTy e.1).2.toNat
 wi : ∀ a, a ∈ e.2.2.1 → 0 ≤ a ∧ a < (n : Int)
 wo : ∀ a, a ∈ e.2.2.2 → 0 ≤ a ∧ a < (n : Int)
theorem len1 {α : Type} {l : List α} (h : l.length = 1) : ∃ a, l = [a] := by
 match l, h with
 | [a], _ => exact ⟨a, rfl⟩
theorem len2 {α : Type} {l : List α} (h : l.length = 2) : ∃ a b, l = [a, b] := by
 match l, h with
 | [a, b], _ => exact ⟨a, b, rfl⟩
theorem leaf_rows_at {p : Int} {n : Nat} {e : Eg} (hk : genB e.1) (ok : EdOk n e) (x : Nat → Int) :
  NulL p (kdN e.1) (leafEq p e.1 e.2.1) (fun i => x ((e.2.2.1 ++ e.2.2.2).getD i 0).toNat) ↔ NulL p n (dnRowsM p n e) x := by
 obtain ⟨k, v, I, O⟩ := e
 obtain ⟨h1, h2, h3, h4⟩ := ok
 simp only at hk h1 h2 h3 h4
 have hs : ∀ (at_ w : List Int), (∀ a, a ∈ at_ → a ∈ I ∨ a ∈ O) → ((p ∣ sm n fun j => (sprV p n at_ w).getD j 0 * x j) ↔ p ∣ sm at_.length fun i => w.getD i 0 * x (at_.getD i 0).toNat) := fun at_ w h =>
  spr_dvd (fun a ha => (h a ha).elim (fun h' => h3 a h') (fun h' => h4 a h')) x
 rcases hk with rfl | rfl | rfl | rfl | rfl | rfl | rfl | rfl | rfl | rfl
 · obtain ⟨a, rfl⟩ := len1 h1
   obtain ⟨b, c, rfl⟩ := len2 h2
   show NulL p 3 [[p - 1, 1, 0], [p - 1, 0, 1]] _ ↔ NulL p n [sprV p n [b, a] [1, p - 1], sprV p n [c, a] [1, p - 1]] x
   rw [nul2, nul2, hs [b, a] _ (by simp), hs [c, a] _ (by simp)]
   simp [sm]
   rw [Int.add_comm (x b.toNat), Int.add_comm (x c.toNat)]
 · show NulL p _ [] _ ↔ NulL p n [] x
   rw [nul0, nul0]
 · obtain ⟨a, b, rfl⟩ := len2 h1
   obtain ⟨c, rfl⟩ := len1 h2
   show NulL p 3 [[p - 1, p - 1, 1]] _ ↔ NulL p n [sprV p n [c, a, b] [1, p - 1, p - 1]] x
   rw [nul1, nul1, hs [c, a, b] _ (by simp)]
   simp [sm]
   rw [Int.add_comm _ (x c.toNat), Int.add_assoc]
 · obtain ⟨c, rfl⟩ := len1 h2
   obtain rfl : I = [] := List.eq_nil_of_length_eq_zero h1
   show NulL p 1 [[1]] _ ↔ NulL p n [sprV p n [c] [1]] x
   rw [nul1, nul1, hs [c] _ (by simp)]
   simp [sm]
 · obtain ⟨a, rfl⟩ := len1 h1
   obtain ⟨c, rfl⟩ := len1 h2
   show NulL p 2 [[(-v) % p, 1]] _ ↔ NulL p n [sprV p n [c, a] [1, -v % p]] x
   rw [nul1, nul1, hs [c, a] _ (by simp)]
   simp [sm]
   rw [Int.add_comm]
 · obtain ⟨a, b, rfl⟩ := len2 h1
   obtain ⟨c, rfl⟩ := len1 h2
   show NulL p 3 [[1, 0, p - 1], [0, 1, p - 1]] _ ↔ NulL p n [sprV p n [a, c] [1, p - 1], sprV p n [b, c] [1, p - 1]] x
   rw [nul2, nul2, hs [a, c] _ (by simp), hs [b, c] _ (by simp)]
   simp [sm]
 · show NulL p _ [] _ ↔ NulL p n [] x
   rw [nul0, nul0]
 · obtain ⟨a, rfl⟩ := len1 h1
   obtain ⟨b, c, rfl⟩ := len2 h2
   show NulL p 3 [[1, p - 1, p - 1]] _ ↔ NulL p n [sprV p n [a, b, c] [1, p - 1, p - 1]] x
   rw [nul1, nul1, hs [a, b, c] _ (by simp)]
   simp [sm]
 · obtain ⟨a, rfl⟩ := len1 h1
   obtain rfl : O = [] := List.eq_nil_of_length_eq_zero h2
   show NulL p 1 [[1]] _ ↔ NulL p n [sprV p n [a] [1]] x
   rw [nul1, nul1, hs [a] _ (by simp)]
   simp [sm]
 · obtain ⟨a, rfl⟩ := len1 h1
   obtain ⟨c, rfl⟩ := len1 h2
   show NulL p 2 [[1, (-v) % p]] _ ↔ NulL p n [sprV p n [a, c] [1, -v % p]] x
   rw [nul1, nul1, hs [a, c] _ (by simp)]
   simp [sm]
theorem leafV_gen {p k v : Int} (hk : genB k) : leafV p (k, v, .empty) = ((kindTy k).1, (kindTy k).2, nullM p (kdN k) (leafEq p k v)) := by
 unfold leafV
 rcases hk with rfl | rfl | rfl | rfl | rfl | rfl | rfl | rfl | rfl | rfl <;> rfl
theorem nulL_map {p : Int} {n : Nat} {L : List (List Int)} {x : Nat → Int} : NulL p n L x ↔ ∀ v, v ∈ L → p ∣ sm n fun j => v.getD j 0 * x j := by
 constructor
 · intro h v hv
   obtain ⟨i, hi, rfl⟩ := List.getElem_of_mem hv
   have := h i hi
   unfold en at this
   rwa [getD_lt hi] at this
 · intro h i hi
   unfold en
   exact h _ (by rw [getD_lt hi]; exact List.getElem_mem hi)
theorem edEqs_nul {p : Int} (hf : fieldB p = true) {n : Nat} {e : Eg} (hk : genB e.1) (ok : EdOk n e) (x : Nat → Int) : NulL p n (edEqs p n e) x ↔ NulL p n (dnRowsM p n e) x := by
 have hpb := fieldB_bounds hf
 have hE := leafEq_mat (p := p) (v := e.2.1) (by omega) hk
 rw [← leaf_rows_at hk ok, ← perp_null hf hE]
 unfold edEqs
 rw [leafV_gen hk]
 simp only
 have hN := kindTy_nn e.1
 have hlen : (e.2.2.1 ++ e.2.2.2).length = kdN e.1 := by rw [List.length_append, ok.inl, ok.outl]; rfl
 have hat : ∀ a, a ∈ e.2.2.1 ++ e.2.2.2 → 0 ≤ a ∧ a < (n : Int) := fun a ha => by
  exact (List.mem_append.1 ha).elim (ok.wi a) (ok.wo a)
 rw [nulL_map, nulL_map]
 simp only [List.mem_map, forall_exists_index, and_imp, forall_apply_eq_imp_iff₂]
 refine forall_congr' fun v => imp_congr_right fun _ => ?_
 rw [spr_dvd hat, hlen]
theorem imEqs_nul {p : Int} (hf : fieldB p = true) {g : Gr} (hk : ∀ e, e ∈ g.2.1 → genB e.1 ∧ EdOk g.1.toNat e) (x : Nat → Int) : NulL p g.1.toNat (imEqs p g) x ↔ NulL p g.1.toNat (dnEqs p g) x := by
 have h := fun e he => edEqs_nul hf (hk e he).1 (hk e he).2 x
 simp only [nulL_map] at h ⊢
 unfold imEqs dnEqs
 simp only [List.mem_flatMap, forall_exists_index, and_imp]
 exact ⟨fun hh v e he hv => (h e he).1 (fun v' hv' => hh v' e he hv') v hv, fun hh v e he hv => (h e he).2 (fun v' hv' => hh v' e he hv') v hv⟩
theorem edEqs_mat {p : Int} (hp : 0 < p) {n : Nat} {e : Eg} {v : List Int} (hv : v ∈ edEqs p n e) : v.length = n ∧ Res p v := by
 obtain ⟨u, _, rfl⟩ := List.mem_map.1 hv
 exact sprV_mat hp _ _ _
theorem imEqs_mat {p : Int} (hp : 0 < p) (g : Gr) : Mat p (imEqs p g).length g.1.toNat (imEqs p g) := by
 refine ⟨rfl, fun v hv => ?_⟩
 obtain ⟨e, _, h⟩ := List.mem_flatMap.1 hv
 exact edEqs_mat hp h
theorem dnEqs_mat' {p : Int} (hp : 0 < p) (g : Gr) : Mat p (dnEqs p g).length g.1.toNat (dnEqs p g) := by
 refine ⟨rfl, fun v hv => ?_⟩
 obtain ⟨e, _, h⟩ := List.mem_flatMap.1 hv
 exact dnRowsM_mat hp g.1.toNat e v h
def LbA (l : List Nd) (w : World) (e : Ending) (w' : World) : Prop :=
 ∃ (A0 A1 A2 : Option Addr) (c0 c1 c2 n0 n1 n2 : Nat) (b : Bool), e = .returned (.tuple #[.agg #[.slice A0 n0 c0, .slice A1 n1 c1, .slice A2 n2 c2], .bool b]) ∧ b = (treeM l).isSome ∧
   (∀ t, treeM l = some t → n0 = sz t ∧ n1 = sz t ∧ n2 = sz t ∧ RdC w' A0 (ints (frL [t])) ∧ RdC w' A1 (ints (inL [t])) ∧ RdC w' A2 (ints (ouL [t])) ∧ ∀ b, b ∈ fpA A0 ∨ b ∈ fpA A1 ∨ b ∈ fpA A2 → w.heap.size ≤ b) ∧ Below w.heap.size w w'
theorem LbA.no {l : List Nd} {w w' : World} {A0 A1 A2 : Option Addr} {c0 c1 c2 n0 n1 n2 : Nat} (hN : treeM l = none) (hb : Below w.heap.size w w') : LbA l w (.returned (.tuple #[.agg #[.slice A0 n0 c0, .slice A1 n1 c1, .slice A2 n2 c2], .bool false])) w' :=
 ⟨A0, A1, A2, c0, c1, c2, n0, n1, n2, false, rfl, by rw [hN]; rfl, fun t ht => (by rw [hN] at ht; cases ht), hb⟩
theorem RdC.keeps {w w' : World} {A : Option Addr} {xs : List Value} (h : RdC w A xs) {S : Nat → Prop} (hk : Keeps S w w') (hS : ∀ b, b ∈ fpA A → ¬ S b) : RdC w' A xs := fun j u hj => by
 obtain ⟨ad, hA, hc⟩ := h j u hj
 have hl := World.block_lt_of_cell? w _ hc
 rw [block_of_add] at hl
 exact ⟨ad, hA, (World.cell?_of_block (a := ad.add j) (by rw [block_of_add]; exact hk.block _ hl (hS _ (by simp [hA])))).trans hc⟩
theorem NS.set {w : World} {A : Option Addr} {cap : Nat} {l : List Nd} (h : NS w A cap l) {ad : Addr} (hA : A = some ad) {j : Nat} (k v : Int) (s : ByteArray) (hj : j < l.length) :
  NS (((w.setCell (ad.add (j * 3)) (.int .i64 k)).setCell ⟨(ad.add (j * 3)).block, (ad.add (j * 3)).off + 1, none⟩ (.int .i64 v)).setCell ⟨(ad.add (j * 3)).block, (ad.add (j * 3)).off + 2, none⟩ (.string s)) A cap (l.set j (k, v, s)) ∧
  Keeps (· ∈ fpA A) w (((w.setCell (ad.add (j * 3)) (.int .i64 k)).setCell ⟨(ad.add (j * 3)).block, (ad.add (j * 3)).off + 1, none⟩ (.int .i64 v)).setCell ⟨(ad.add (j * 3)).block, (ad.add (j * 3)).off + 2, none⟩ (.string s)) := by
 have hl : (ncs l).length = l.length * 3 := ncs_length l
 have s1 := Sl.set h hA (j * 3) (.int .i64 k) (by omega)
 have s2 := Sl.set s1 hA (j * 3 + 1) (.int .i64 v) (by rw [List.length_set]; omega)
 have s3 := Sl.set s2 hA (j * 3 + 2) (.string s) (by rw [List.length_set, List.length_set]; omega)
 have e := ncs_set (l := l) (j := j) (k, v, s) hj
 simp only at e
 rw [e, add_next ad (j * 3) 1 (by omega), add_next ad (j * 3) 2 (by omega)] at s3
 refine ⟨by unfold NS; rw [List.length_set]; exact s3, ?_⟩
 have hb : (ad.add (j * 3)).block ∈ fpA A := by rw [block_of_add, hA]; simp
 exact (((Keeps.refl _ w).setCell (p := ad.add (j * 3)) hb _).setCell (p := ⟨(ad.add (j * 3)).block, (ad.add (j * 3)).off + 1, none⟩) hb _).setCell (p := ⟨(ad.add (j * 3)).block, (ad.add (j * 3)).off + 2, none⟩) hb _
theorem NS.mid {w : World} {ad : Addr} {cap : Nat} {l : List Nd} (h : NS w (some ad) cap l) {j : Nat} (k v : Int) (hj : j < l.length) :
  (∃ x, (w.setCell (ad.add (j * 3)) (.int .i64 k)).cell? ⟨(ad.add (j * 3)).block, (ad.add (j * 3)).off + 1, none⟩ = some x) ∧ (w.setCell (ad.add (j * 3)) (.int .i64 k)).frozen? ⟨(ad.add (j * 3)).block, (ad.add (j * 3)).off + 1, none⟩ = false ∧
  (∃ x, ((w.setCell (ad.add (j * 3)) (.int .i64 k)).setCell ⟨(ad.add (j * 3)).block, (ad.add (j * 3)).off + 1, none⟩ (.int .i64 v)).cell? ⟨(ad.add (j * 3)).block, (ad.add (j * 3)).off + 2, none⟩ = some x) ∧
  ((w.setCell (ad.add (j * 3)) (.int .i64 k)).setCell ⟨(ad.add (j * 3)).block, (ad.add (j * 3)).off + 1, none⟩ (.int .i64 v)).frozen? ⟨(ad.add (j * 3)).block, (ad.add (j * 3)).off + 2, none⟩ = false := by
 have hl : (ncs l).length = l.length * 3 := ncs_length l
 have s1 := Sl.set h rfl (j * 3) (.int .i64 k) (by omega)
 have s2 := Sl.set s1 rfl (j * 3 + 1) (.int .i64 v) (by rw [List.length_set]; omega)
 rw [← add_next ad (j * 3) 1 (by omega), ← add_next ad (j * 3) 2 (by omega)]
 obtain ⟨a1, h1, _, c1, f1⟩ := Sl.cell s1 (j := j * 3 + 1) (u := _) (List.getElem?_eq_getElem (by rw [List.length_set]; omega))
 obtain ⟨a2, h2, _, c2, f2⟩ := Sl.cell s2 (j := j * 3 + 2) (u := _) (List.getElem?_eq_getElem (by rw [List.length_set, List.length_set]; omega))
 obtain rfl := Option.some.inj h1
 obtain rfl := Option.some.inj h2
 exact ⟨⟨_, c1⟩, f1 _, ⟨_, c2⟩, f2 _⟩
theorem NS.free {w : World} {A : Option Addr} {cap : Nat} {l : List Nd} (h : NS w A cap l) {j : Nat} (hj : j < l.length) : ∃ ad, A = some ad ∧ w.frozen? (ad.add (j * 3)) = false ∧ w.frozen? ⟨(ad.add (j * 3)).block, (ad.add (j * 3)).off + 1, none⟩ = false ∧ w.frozen? ⟨(ad.add (j * 3)).block, (ad.add (j * 3)).off + 2, none⟩ = false := by
 obtain ⟨ad, hA, _, hf⟩ := h.at_ hj
 refine ⟨ad, hA, hf _, ?_, ?_⟩
 · rw [← add_next ad (j * 3) 1 (by omega)]; exact hf _
 · rw [← add_next ad (j * 3) 2 (by omega)]; exact hf _
theorem bx1 {w : World} {B : Nat} {x : Value} {t : TypeId} (h : w.heap[B]? = some (.cells #[x] t)) : w.cell? ⟨B, 0, none⟩ = some x ∧ w.frozen? ⟨B, 0, none⟩ = false := by simp [World.cell?, World.frozen?, h]
theorem isDelay_any (k : Int) (w : World) : Calls Tryz.prog 41 #[.int .i64 k] w fun e w' => e = .returned (.bool (!noDl k)) ∧ w' = w := by
 unfold noDl
 by_cases h8 : k = 8
 · subst h8
   go_enter Tryz.func41, Tryz.ntmps41
   go_wp2_with (fail)
   go_ret
   exact ⟨rfl, rfl⟩
 · have b8 : (k == 8) = false := by rw [beq_eq_false_iff_ne]; exact h8
   by_cases h14 : k = 14
   · subst h14
     go_enter Tryz.func41, Tryz.ntmps41
     go_wp2_with (fail)
     go_ret
     exact ⟨rfl, rfl⟩
   · have b14 : (k == 14) = false := by rw [beq_eq_false_iff_ne]; exact h14
     go_enter Tryz.func41, Tryz.ntmps41
     go_wp2_with (fail)
     go_ret
     exact ⟨by simp [h8, h14], rfl⟩
abbrev tBool : TypeId := 4
abbrev tBools : TypeId := 99
theorem info_bool : (Tryz.prog.info? tBool).map (fun i => (i.zero, i.size, i.bytes)) = some (some (.bool false), 1, 1) := by kernel_rfl
def bls (l : List Bool) : List Value := l.map Value.bool
theorem bls_get {l : List Bool} {j : Nat} {b : Bool} (h : l[j]? = some b) : (bls l)[j]? = some (.bool b) := by simp [bls, h]
theorem bls_set (l : List Bool) (j : Nat) (b : Bool) : (bls l).set j (.bool b) = bls (l.set j b) := by simp [bls, List.map_set]
theorem madeBls (m : Nat) : (madeCells (Value.bool false).cells (m * 1)).toList.take (m * 1) = bls (List.replicate m false) := by
 rw [Nat.mul_one]; simp [Value.cells, toList_madeCells_one, bls]
abbrev tWiresG : TypeId := 105
theorem run_eq_intG (d : Nat) (x y : Int) (W : World) : (Op.equalIn (d + 1) tInt (.int .i64 x) (.int .i64 y)).run Tryz.prog W = .ok (x == y) W := by
 unfold Op.equalIn
 simp [run_underlying Tryz.underlying3]
theorem part_g0 (a b : Int) (W : World) : (part tInt #[.int .i64 a, .int .i64 b] 0).run Tryz.prog W = .ok (.int .i64 a) W := by kernel_rfl
theorem part_g1 (a b : Int) (W : World) : (part tInt #[.int .i64 a, .int .i64 b] 1).run Tryz.prog W = .ok (.int .i64 b) W := by kernel_rfl
theorem wires_eq (a b c d : Int) (W : World) : (binOp .eql tWiresG (.agg #[.int .i64 a, .int .i64 b]) (.agg #[.int .i64 c, .int .i64 d])).run Tryz.prog W = .ok (.bool (decide (a = c ∧ b = d))) W := by
 have hk : ∀ m, (Op.equalIn (m + 1 + 1) tWiresG (.agg #[.int .i64 a, .int .i64 b]) (.agg #[.int .i64 c, .int .i64 d])).run Tryz.prog W = .ok (decide (a = c ∧ b = d)) W := by
  intro m
  conv => lhs; unfold Op.equalIn
  simp only [Sem.run_bind, run_underlying Tryz.underlying105, Result.andThen_ok]
  simp [part_g0, part_g1, run_eq_intG]
  by_cases h1 : a = c <;> by_cases h2 : b = d <;> simp [h1, h2]
 have e0 : Op.maxDepth = (Op.maxDepth - 2) + 1 + 1 := rfl
 simp only [binOp, Op.equal, Sem.run_bind]
 rw [e0, hk]
 simp
def egH (k v : Int) (p q : Nat) : Bool := t_inB k 3 14 && (gvB k v && decide (((p : Int), (q : Int)) = kindTy k))
set_option maxRecDepth 100000 in
set_option maxHeartbeats 4000000 in
theorem isEdge_any (k v : Int) (B C : Option Addr) (b c p q : Nat) (w : World) :
  Calls Tryz.prog 78 #[.agg #[.int .i64 k, .int .i64 v, .slice B p b, .slice C q c]] w fun e w' => e = .returned (.bool (egH k v p q)) ∧ Below w.heap.size w w' := by
 obtain ⟨D, hD⟩ : ∃ D, D = egH k v p q := ⟨_, rfl⟩
 have hDD := hD
 unfold egH at hDD
 rw [← hD]
 have hG := fun (W : World) => isGenerator_any k W
 have hV := fun (W : World) => isGeneratorValue_any k v W
 obtain ⟨W, hW, bW, k0⟩ := (⟨_, rfl, t_below_alloc _ _, heap_alloc_new _ _⟩ : ∃ W, W = w.alloc (.cells #[.int .i64 k, .int .i64 v, .slice B p b, .slice C q c] tEd) ∧ Below w.heap.size w W ∧ W.heap[w.heap.size]? = some (.cells #[.int .i64 k, .int .i64 v, .slice B p b, .slice C q c] tEd))
 obtain ⟨⟨c0, c1, c2, c3⟩, f0, f1, f2, f3⟩ := t_box4 k0
 by_cases h0 : t_inB k 3 14 = true
 case neg =>
  have h0' : t_inB k 3 14 = false := by simpa using h0
  obtain rfl : D = false := by rw [hDD, h0']; rfl
  simp only [h0'] at hG
  clear h0 h0' hDD; have hG_h := lH hG; have hV_h := lH hV; have k0_h := lH k0; have bW_h := lH bW; have hD_h := lH hD; clear hG hV k0 bW hD
  go_enter Tryz.func78, Tryz.ntmps78
  go_upto_region 1 with (fail)
  rw [← hW]
  clear hW
  go_wp2_with (fail)
  refine (hG_h.out _).mono ?_
  rintro e w1 ⟨rfl, rfl⟩
  go_wp2_with (fail)
  go_ret
  exact ⟨rfl, bW_h.out⟩
 have hkb : 3 ≤ k ∧ k ≤ 14 := of_decide_eq_true h0
 simp only [h0] at hG
 rw [h0, Bool.true_and] at hDD
 by_cases h1 : gvB k v = true
 case neg =>
  have h1' : gvB k v = false := by simpa using h1
  obtain rfl : D = false := by rw [hDD, h1']; rfl
  simp only [h1'] at hV
  clear h0 h1 h1' hDD; have hG_h := lH hG; have hV_h := lH hV; have k0_h := lH k0; have bW_h := lH bW; have hD_h := lH hD; clear hG hV k0 bW hD
  go_enter Tryz.func78, Tryz.ntmps78
  go_upto_region 1 with (fail)
  rw [← hW]
  clear hW
  go_wp2_with (fail)
  refine (hG_h.out _).mono ?_
  rintro e w1 ⟨rfl, rfl⟩
  go_wp2_with (fail)
  refine (hV_h.out _).mono ?_
  rintro e w1 ⟨rfl, rfl⟩
  go_wp2_with (fail)
  go_ret
  exact ⟨rfl, bW_h.out⟩
 simp only [h1] at hV
 rw [h1, Bool.true_and] at hDD
 have hgw := fun (W : World) => generatorWires_any k W hkb.1 hkb.2
 obtain ⟨i1, hi1⟩ : ∃ i, i = (kindTy k).1 := ⟨_, rfl⟩
 obtain ⟨i2, hi2⟩ : ∃ i, i = (kindTy k).2 := ⟨_, rfl⟩
 have hDw : D = decide (i1 = (p : Int) ∧ i2 = (q : Int)) := by
  rw [hDD, Bool.eq_iff_iff, decide_eq_true_eq, decide_eq_true_eq, hi1, hi2]
  exact ⟨fun h => ⟨(congrArg Prod.fst h).symm, (congrArg Prod.snd h).symm⟩, fun h => Prod.ext h.1.symm h.2.symm⟩
 simp only [← hi1, ← hi2] at hgw
 have hwe := fun (W : World) => wires_eq i1 i2 (p : Int) (q : Int) W
 simp only [← hDw] at hwe
 clear h0 h1 hDD hkb hi1 hi2; have hG_h := lH hG; have hV_h := lH hV; have hgw_h := lH hgw; have k0_h := lH k0; have bW_h := lH bW; have hD_h := lH hD; have hDw_h := lH hDw; clear hG hV hgw k0 bW hD hDw
 go_enter Tryz.func78, Tryz.ntmps78
 go_upto_region 1 with (fail)
 rw [← hW]
 clear hW
 go_wp2_with (fail)
 refine (hG_h.out _).mono ?_
 rintro e w1 ⟨rfl, rfl⟩
 go_wp2_with (fail)
 refine (hV_h.out _).mono ?_
 rintro e w1 ⟨rfl, rfl⟩
 go_wp2_with (fail)
 obtain ⟨W, rfl⟩ : ∃ x, x = w1 := ⟨_, rfl⟩
 clear c0 c1 c2 c3 f0 f1 f2 f3
 refine beginB (by kernel_rfl) (fun W1 hW1 => ?_)
 have hbw : Below W.heap.size W W1 := by rw [hW1]; exact below_drew (Below.refl _ _)
 clear hW1
 have k1 := t_box_below k0_h.out hbw
 have k1_h := lH k1; clear k1
 refine tkH 0 ?_ rfl (Below.refl _ _) (fun W' hW' => ?_) ?_; rotate_left; · (obtain ⟨⟨a0, a1, a2, a3⟩, b0, b1, b2, b3⟩ := t_box4 (t_box_below k1_h.out hW'); clear hW'; go_simp; first | done | with_reducible rfl)
 simp only [Act.put, nS]
 refine tkH 1 ?_ rfl (Below.refl _ _) (fun W' hW' => ?_) ?_; rotate_left; · (obtain ⟨⟨a0, a1, a2, a3⟩, b0, b1, b2, b3⟩ := t_box4 (t_box_below k1_h.out hW'); clear hW'; go_simp; first | done | with_reducible rfl)
 simp only [Act.put, nS]
 refine tkH 3 ?_ rfl (Below.refl _ _) (fun W' hW' => ?_) ?_; rotate_left; · (obtain ⟨⟨a0, a1, a2, a3⟩, b0, b1, b2, b3⟩ := t_box4 (t_box_below k1_h.out hW'); clear hW'; go_simp; first | done | with_reducible rfl)
 simp only [Act.put, nS]
 refine tkH 4 ?_ rfl (Below.refl _ _) (fun W' hW' => ?_) ?_; rotate_left; · (obtain ⟨⟨a0, a1, a2, a3⟩, b0, b1, b2, b3⟩ := t_box4 (t_box_below k1_h.out hW'); clear hW'; go_simp; first | done | with_reducible rfl)
 simp only [Act.put, nS]
 refine tkH 5 ?_ rfl (Below.refl _ _) (fun W' hW' => ?_) ?_; rotate_left; · (obtain ⟨⟨a0, a1, a2, a3⟩, b0, b1, b2, b3⟩ := t_box4 (t_box_below k1_h.out hW'); clear hW'; go_simp; first | done | with_reducible rfl)
 simp only [Act.put, nS]
 refine tkH 6 ?_ rfl (Below.refl _ _) (fun W' hW' => ?_) ?_; rotate_left; · (obtain ⟨⟨a0, a1, a2, a3⟩, b0, b1, b2, b3⟩ := t_box4 (t_box_below k1_h.out hW'); clear hW'; go_simp; first | done | with_reducible rfl)
 simp only [Act.put, nS]
 refine tkH 7 ?_ rfl (Below.refl _ _) (fun W' hW' => ?_) ?_; rotate_left; · (obtain ⟨⟨a0, a1, a2, a3⟩, b0, b1, b2, b3⟩ := t_box4 (t_box_below k1_h.out hW'); clear hW'; go_simp; first | done | with_reducible rfl)
 simp only [Act.put, nS]
 refine tkH 8 ?_ rfl (Below.refl _ _) (fun W' hW' => ?_) ?_; rotate_left; · (obtain ⟨⟨a0, a1, a2, a3⟩, b0, b1, b2, b3⟩ := t_box4 (t_box_below k1_h.out hW'); clear hW'; go_simp; first | done | with_reducible rfl)
 simp only [Act.put, nS]
 refine tkH 9 ?_ rfl (Below.refl _ _) (fun W' hW' => ?_) ?_; rotate_left; · (obtain ⟨⟨a0, a1, a2, a3⟩, b0, b1, b2, b3⟩ := t_box4 (t_box_below k1_h.out hW'); clear hW'; go_simp; first | done | with_reducible rfl)
 simp only [Act.put, nS]
 refine' callH 2 (f := _) (args := _) rfl (by kernel_rfl) (by rfl) ?_ ?_; rotate_left 2; · (go_simp; first | done | with_reducible rfl | (constructor <;> with_reducible rfl))
 refine (hgw_h.out _).mono ?_
 rintro e w2 ⟨rfl, hb2⟩
 refine ⟨_, rfl, hb2, ?_⟩
 simp only [Act.put, nS]
 refine tkH 10 ?_ rfl hb2 (fun W' hW' => ?_) ?_; rotate_left; · (have hwe' := hwe W'; clear hW'; go_simp; first | done | with_reducible rfl)
 simp only [Act.put, nS]
 refine tkH 11 ?_ rfl hb2 (fun W' hW' => ?_) ?_; rotate_left; · (have hwe' := hwe W'; clear hW'; go_simp; first | done | with_reducible rfl)
 simp only [Act.put, nS]
 refine doneH (by kernel_rfl) ?_
 have hB2 := below_trans (below_trans bW_h.out hbw bW_h.out.size) hb2 (Nat.le_trans bW_h.out.size hbw.size)
 have hB2_h := lH hB2; clear hB2
 go_wp2_with (fail)
 go_ret
 exact ⟨rfl, hB2_h.out⟩
set_option maxRecDepth 100000 in
set_option maxHeartbeats 4000000 in
theorem lists_any {v : Value} {g : Gr} (wE : World) (h : RdGr wE v g) (ok : OkG g) (F : FuncId) (cap : Array Value) (hE : ∀ (args : Array Value) (w : World), (callFunc F args).run Tryz.prog w = .ok (.enter F args) w)
  (I : List Int → World → Prop) (S : List Nat) (hS : ∀ b, b ∈ S → wE.heap.size ≤ b) (hal : ∀ l W W', I l W → Below W.heap.size W W' → I l W')
  (hF : ∀ l B c (m : List Int) W, I l W → (∀ W', Keeps (· ∈ S) W W' → RdI W' B m) → (∀ x, x ∈ m → x ∈ t_allW g) → m.length ≤ 1048576 → Calls Tryz.prog F (#[.slice B m.length c] ++ cap) W fun e w' => e = .returned (.tuple #[]) ∧ I (l ++ m) w' ∧ Keeps (· ∈ S) W w')
  (w : World) (hw : I [] w) (hbw : Below wE.heap.size wE w) (hSw : ∀ b, b ∈ S → b < w.heap.size) :
  Calls Tryz.prog 79 #[v, .func (.func F) #[] cap] w fun e w' => e = .returned (.tuple #[]) ∧ I (t_allW g) w' ∧ Keeps (· ∈ S) w w' := by
 obtain ⟨A, c, hs, ⟨B, b, s⟩, ⟨C, d, t⟩, rfl, e1, e2, e3, hEd, hRa, hRb⟩ := h
 obtain ⟨z, es, s0, t0⟩ := g
 have a1 : es = hs.map egOf := e1
 have a2 : s = s0 := e2
 have a3 : t = t0 := e3
 subst a2 a3
 have hlen1 : es.length ≤ 1048576 := ok.1.1
 have hlen2 : s.length ≤ 1048576 := ok.1.2.1
 have hlen3 : t.length ≤ 1048576 := ok.1.2.2
 have hlE : ∀ x, x ∈ es → x.2.2.1.length ≤ 1048576 ∧ x.2.2.2.length ≤ 1048576 := ok.2.1
 have hall : t_allW (z, es, s, t) = s ++ (t ++ edW es) := rfl
 rw [hall] at hF ⊢
 have hRa0 : RdI wE B s := hRa
 have hRb0 : RdI wE C t := hRb
 obtain ⟨m, hm⟩ : ∃ m, m = hs.length := ⟨_, rfl⟩
 obtain ⟨p, hp⟩ : ∃ p, p = s.length := ⟨_, rfl⟩
 obtain ⟨r, hr⟩ : ∃ r, r = t.length := ⟨_, rfl⟩
 have hmes : es.length = m := by rw [a1, List.length_map, hm]
 show Calls Tryz.prog _ #[.agg #[.int .i64 z, .slice A hs.length c, .slice B s.length b, .slice C t.length d], .func (.func F) #[] cap] w _
 rw [← hm, ← hp, ← hr]
 obtain ⟨W, hW, bW, k0⟩ := (⟨_, rfl, t_below_alloc _ _, heap_alloc_new _ _⟩ : ∃ W, W = w.alloc (.cells #[.int .i64 z, .slice A m c, .slice B p b, .slice C r d] tGr) ∧ Below w.heap.size w W ∧ W.heap[w.heap.size]? = some (.cells #[.int .i64 z, .slice A m c, .slice B p b, .slice C r d] tGr))
 have hbW := below_trans hbw bW hbw.size
 have hI0 := hal _ _ _ hw bW
 have hC1 := hF [] B b s W hI0 (fun W' hk => hRa0.below (below_keeps hbW hk hbW.size hS)) (fun x hx => by simp [hx]) hlen2
 rw [← hp, List.nil_append] at hC1
 obtain ⟨⟨c0, c1, c2, c3⟩, f0, f1, f2, f3⟩ := t_box4 k0
 have hmb : (m : Int) ≤ 1048576 := by omega
 have hE1 := hE (#[.slice B p b] ++ cap) W
 have hnS : ¬ w.heap.size ∈ S := fun hh => by have := hSw _ hh; omega
 clear hRa hRb ok e1 e2 e3 hlen1 hlen2 hall hw hI0; have hS_h := lH hS; have hal_h := lH hal; have hF_h := lH hF; have hSw_h := lH hSw; have hbw_h := lH hbw; have hbW_h := lH hbW; have bW_h := lH bW; have k0_h := lH k0; have hC1_h := lH hC1; have hEd_h := lH hEd; have hRa0_h := lH hRa0; have hRb0_h := lH hRb0; have a1_h := lH a1; have hlE_h := lH hlE; have hm_h := lH hm; have hp_h := lH hp; have hr_h := lH hr; have hmes_h := lH hmes; have hE_h := lH hE; have hnS_h := lH hnS; clear hS hal hF hSw hbw hbW bW k0 hC1 hEd hRa0 hRb0 a1 hlE hm hp hr hmes hE hnS
 go_enter Tryz.func79, Tryz.ntmps79
 go_upto_region 1 with (fail)
 rw [← hW]
 clear hW
 go_wp2_with (fail)
 refine (hC1_h.out).mono ?_
 rintro e w1 ⟨rfl, hI1, hk1⟩
 have k1 := t_box_keeps k0_h.out hk1 hnS_h.out
 have hb1 := below_keeps hbW_h.out hk1 hbW_h.out.size hS_h.out
 have hC2 := hF_h.out s C d t w1 hI1 (fun W' hk => hRb0_h.out.below (below_keeps hb1 hk hb1.size hS_h.out)) (fun x hx => by simp [hx]) hlen3
 rw [← hr_h.out] at hC2
 clear c0 c1 c2 c3 f0 f1 f2 f3 hI1 hE1
 obtain ⟨⟨c0, c1, c2, c3⟩, f0, f1, f2, f3⟩ := t_box4 k1
 have hE1 := hE_h.out (#[.slice C r d] ++ cap) w1
 have hk1_h := lH hk1; have k1_h := lH k1; have hb1_h := lH hb1; have hC2_h := lH hC2; clear hk1 k1 hb1 hC2
 go_wp2_with (fail)
 refine (hC2_h.out).mono ?_
 rintro e w2 ⟨rfl, hI2, hk2⟩
 have k2 := t_box_keeps k1_h.out hk2 hnS_h.out
 have hb2 := below_keeps hb1_h.out hk2 hb1_h.out.size hS_h.out
 have hk02 := hk1_h.out.trans hk2
 clear c0 c1 c2 c3 f0 f1 f2 f3 hE1 hk2
 obtain ⟨⟨c0, c1, c2, c3⟩, f0, f1, f2, f3⟩ := t_box4 k2
 have hI20 : I (s ++ (t ++ edW (es.take 0))) w2 := by simpa [edW] using hI2
 have hk02_h := lH hk02; have k2_h := lH k2; have hb2_h := lH hb2; have hI20_h := lH hI20; clear hk02 k2 hb2 hI20; clear hI2
 go_wp2_with (fail)
 clear c0 c1 c2 c3 f0 f1 f2 f3
 go_loopw [17] (fun i wr => ∃ k : Nat, k ≤ m ∧ i = .int .i64 k ∧ I (s ++ (t ++ edW (es.take k))) wr ∧ Keeps (· ∈ S) W wr) (fun i _ => m - (intOf i).toNat)
 case atStart => exact ⟨0, Nat.zero_le _, rfl, hI20_h.out, hk02_h.out⟩
 case round =>
  clear hI20_h hk02_h
  obtain ⟨k, hk, rfl, hI3, hk3⟩ := hrel
  have hb3 := below_keeps hbW_h.out hk3 hbW_h.out.size hS_h.out
  by_cases hlt : k < m
  · obtain ⟨ad, κ, vv, B1, b1, s1, C1, b2, t1, rfl, hn, ⟨d0, d1, d2, d3⟩, hr1, hr2⟩ := (hEd_h.out.below hb3).at_ (j := k) (by rw [← hm_h.out]; exact hlt)
    have hek : es[k]? = some (κ, vv, s1, t1) := by rw [a1_h.out, List.getElem?_map, hn]; rfl
    have hln := hlE_h.out _ (List.mem_of_getElem? hek)
    obtain ⟨hm1, hm2⟩ := mem_edW_of (List.mem_of_getElem? hek)
    obtain ⟨wo, rfl⟩ : ∃ x, x = wr := ⟨_, rfl⟩
    obtain ⟨p1, hp1⟩ : ∃ p1, p1 = s1.length := ⟨_, rfl⟩
    obtain ⟨r1, hr1'⟩ : ∃ r1, r1 = t1.length := ⟨_, rfl⟩
    rw [← hp1] at d2
    rw [← hr1'] at d3
    obtain ⟨W6, hW6, bW6, k6⟩ := (⟨_, rfl, t_below_alloc _ _, heap_alloc_new _ _⟩ : ∃ W, W = wo.alloc (.cells #[.int .i64 κ, .int .i64 vv, .slice B1 p1 b1, .slice C1 r1 b2] tEd) ∧ Below wo.heap.size wo W ∧ W.heap[wo.heap.size]? = some (.cells #[.int .i64 κ, .int .i64 vv, .slice B1 p1 b1, .slice C1 r1 b2] tEd))
    have hb6 := below_trans hb3 bW6 hb3.size
    have hI6 := hal_h.out _ _ _ hI3 bW6
    have hRB : RdI wE B1 s1 := (hEd_h.out.2 _ (List.mem_of_getElem? hn)).1
    have hC3 := hF_h.out _ B1 b1 s1 W6 hI6 (fun W' hk => hRB.below (below_keeps hb6 hk hb6.size hS_h.out)) (fun x hx => by simp [hm1 x hx]) hln.1
    rw [← hp1] at hC3
    have hk6 := hk3.trans (Keeps.of_below bW6 _)
    have hnS6 : ¬ wo.heap.size ∈ S := fun hh => by have := hSw_h.out _ hh; have := hk3.size; have := bW_h.out.size; omega
    have hRC : RdI wE C1 t1 := (hEd_h.out.2 _ (List.mem_of_getElem? hn)).2
    have hkI : (k : Int) < (m : Int) := by omega
    obtain ⟨⟨c0, c1, c2, c3⟩, f0, f1, f2, f3⟩ := t_box4 k6
    have hE1 := hE_h.out (#[.slice B1 p1 b1] ++ cap) W6
    have hr1_h := lH hr1'; clear hr1' hI6 hI3 hr1 hr2 hn hm1 hb3 hk3 hRB; have hek_h := lH hek; have hp1_h := lH hp1; have bW6_h := lH bW6; have k6_h := lH k6; have hC3_h := lH hC3; have hk6_h := lH hk6; have hnS6_h := lH hnS6; have hb6_h := lH hb6; have hRC_h := lH hRC; have hm2_h := lH hm2; have hln_h := lH hln; clear hek hp1 bW6 k6 hC3 hk6 hnS6 hb6 hRC hm2 hln
    go_upto_region 6 with (fail)
    rw [← hW6]
    clear hW6
    go_wp2_with (fail)
    refine (hC3_h.out).mono ?_
    rintro e w7 ⟨rfl, hI7, hk7⟩
    have k7 := t_box_keeps k6_h.out hk7 hnS6_h.out
    have hb7 := below_keeps hb6_h.out hk7 hb6_h.out.size hS_h.out
    have hC4 := hF_h.out _ C1 b2 t1 w7 hI7 (fun W' hk => hRC_h.out.below (below_keeps hb7 hk hb7.size hS_h.out)) (fun x hx => by simp [hm2_h.out x hx]) hln_h.out.2
    rw [← hr1_h.out] at hC4
    have hk8 := hk6_h.out.trans hk7
    clear c0 c1 c2 c3 f0 f1 f2 f3 hE1 hI7 hk7 d0 d1 d2 d3
    obtain ⟨⟨c0, c1, c2, c3⟩, f0, f1, f2, f3⟩ := t_box4 k7
    have hE1 := hE_h.out (#[.slice C1 r1 b2] ++ cap) w7
    have k7_h := lH k7; have hb7_h := lH hb7; have hC4_h := lH hC4; have hk8_h := lH hk8; clear k7 hb7 hC4 hk8
    go_wp2_with (fail)
    refine (hC4_h.out).mono ?_
    rintro e w8 ⟨rfl, hI8, hk9⟩
    have hk10 := hk8_h.out.trans hk9
    have hI9 : I (s ++ (t ++ edW (es.take (k + 1)))) w8 := by
     have e : s ++ (t ++ edW (es.take (k + 1))) = s ++ (t ++ edW (es.take k)) ++ s1 ++ t1 := by
      rw [List.take_add_one, hek_h.out, edW_append]; simp [edW]
     rw [e]; exact hI8
    clear c0 c1 c2 c3 f0 f1 f2 f3 hE1 hI8 hk9; have hk10_h := lH hk10; have hI9_h := lH hI9; clear hk10 hI9
    go_wp2_with (fail)
    go_roundw
    case rel => exact ⟨k + 1, by omega, by go_num, hI9_h.out, hk10_h.out⟩
    case measure => simp [intOf]; omega
  · obtain rfl : m = k := by omega
    rw [List.take_of_length_le (by rw [hmes_h.out]; exact Nat.le_refl _)] at hI3
    have hkf := (Keeps.of_below bW_h.out (· ∈ S)).trans hk3
    have hI3_h := lH hI3; have hkf_h := lH hkf; clear hI3 hkf; clear hk3
    go_wp2_with (fail)
    go_end0
    exact ⟨rfl, hI3_h.out, hkf_h.out⟩
theorem boxg1 {w : World} {B : Nat} {x : Value} {t : TypeId} (h : w.heap[B]? = some (.cells #[x] t)) : w.cell? ⟨B, 0, none⟩ = some x ∧ w.frozen? ⟨B, 0, none⟩ = false := by simp [World.cell?, World.frozen?, h]
theorem seenM_step {n : Nat} {l : List Int} {q : Nat} (hq : q < n) (hs : l.contains (q : Int) = true) : seenC n (l ++ [(q : Int)]) = seenC n l := by unfold seenC; rw [seenM_old hq hs]
theorem inW_snoc (n : Int) (l : List Int) (x : Int) : inW n (l ++ [x]) = (inW n l && t_inB x 0 (n - 1)) := by rw [inW_append]; simp [inW]
structure GI (n gB bG bS bC : Nat) (Gs : Addr) (V1 V2 V3 : Value) (l : List Int) (W : World) : Prop where
 hg : W.heap[gB]? = some (.cells #[.int .i64 (n : Int), V1, V2, V3] tGr)
 hgd : W.heap[bG]? = some (.cells #[.bool (inW n l)] tBool)
 hsl : W.heap[bS]? = some (.cells #[.slice (some Gs) n n] tBools)
 hct : W.heap[bC]? = some (.cells #[.int .i64 (seenC n l : Int)] tInt)
 hse : Sl W tBool 1 (some Gs) n n (bls (seenM n l))
theorem GI.below {n gB bG bS bC : Nat} {Gs : Addr} {V1 V2 V3 : Value} {l : List Int} {W W' : World} (h : GI n gB bG bS bC Gs V1 V2 V3 l W) (hb : Below W.heap.size W W') : GI n gB bG bS bC Gs V1 V2 V3 l W' :=
 ⟨t_box_below h.hg hb, t_box_below h.hgd hb, t_box_below h.hsl hb, t_box_below h.hct hb, h.hse.below hb⟩
set_option maxRecDepth 100000 in
set_option maxHeartbeats 4000000 in
theorem isGraphC_any (n gB bG bS bC : Nat) (Gs : Addr) (V1 V2 V3 : Value) (l : List Int) (B : Option Addr) (c : Nat) (m : List Int) (W : World) (hn : n ≤ 100) (hml : m.length ≤ 1048576)
  (h1 : bG ≠ bC) (h2 : bG ≠ Gs.block) (h3 : bC ≠ Gs.block) (h4 : gB ≠ bG ∧ gB ≠ bC ∧ gB ≠ Gs.block) (h5 : bS ≠ bG ∧ bS ≠ bC ∧ bS ≠ Gs.block)
  (hI : GI n gB bG bS bC Gs V1 V2 V3 l W) (hm : ∀ W', Keeps (· ∈ [bG, bC, Gs.block]) W W' → RdI W' B m) :
  Calls Tryz.prog 80 #[.slice B m.length c, .pointer (some ⟨gB, 0, none⟩), .pointer (some ⟨bG, 0, none⟩), .pointer (some ⟨bS, 0, none⟩), .pointer (some ⟨bC, 0, none⟩)] W fun e w' => e = .returned (.tuple #[]) ∧ GI n gB bG bS bC Gs V1 V2 V3 (l ++ m) w' ∧ Keeps (· ∈ [bG, bC, Gs.block]) W w' := by
 obtain ⟨p, hp⟩ : ∃ p, p = m.length := ⟨_, rfl⟩
 rw [← hp] at hml ⊢
 have hp_h := lH hp; have hm_h := lH hm; have hI_h := lH hI; clear hp hm hI
 go_enter Tryz.func80, Tryz.ntmps80
 go_wp2_with (fail)
 go_loopw [10] (fun i wr => ∃ k : Nat, k ≤ p ∧ i = .int .i64 k ∧ GI n gB bG bS bC Gs V1 V2 V3 (l ++ m.take k) wr ∧ Keeps (· ∈ [bG, bC, Gs.block]) W wr) (fun i _ => p - (intOf i).toNat)
 case atStart => exact ⟨0, Nat.zero_le _, rfl, by simpa using hI_h.out, Keeps.refl _ _⟩
 case round =>
  clear hI_h
  obtain ⟨k, hk, rfl, hI, hkp⟩ := hrel
  by_cases hlt : k < p
  · obtain ⟨xd, x, rfl, hx, hxc⟩ := (hm_h.out wr hkp).at_ (j := k) (by rw [← hp_h.out]; exact hlt)
    have hkI : (k : Int) < (p : Int) := by omega
    have htk : m.take (k + 1) = m.take k ++ [x] := by rw [List.take_add_one, hx]; rfl
    have hlx : l ++ m.take (k + 1) = (l ++ m.take k) ++ [x] := by rw [htk, List.append_assoc]
    obtain ⟨L, hL⟩ : ∃ L, L = l ++ m.take k := ⟨_, rfl⟩
    rw [← hL] at hI hlx
    have hC := fun (W : World) => t_within_any x 0 ((n : Int) - 1) W
    have wn : IntKind.i64.wrap ((n : Int) - 1) = (n : Int) - 1 := IntWalk.i64_in _ (by omega)
    obtain ⟨⟨c0, c1, c2, c3⟩, f0, f1, f2, f3⟩ := t_box4 hI.hg
    by_cases hin : t_inB x 0 ((n : Int) - 1) = true
    · have hb : 0 ≤ x ∧ x ≤ (n : Int) - 1 := of_decide_eq_true hin
      obtain ⟨q, rfl⟩ : ∃ q : Nat, x = (q : Int) := ⟨x.toNat, by omega⟩
      have hqn : q < n := by omega
      simp only [hin] at hC
      have hinL : inW n (L ++ [(q : Int)]) = inW n L := by rw [inW_snoc, hin, Bool.and_true]
      obtain ⟨gd, hgd, hgb, hgc, hgf⟩ := Sl.cell hI.hse (bls_get (seenM_get hqn))
      obtain rfl := Option.some.inj hgd
      obtain ⟨s0, s1⟩ := boxg1 hI.hsl
      have hqI : (q : Int) < (n : Int) := by omega
      have hq0 : (0 : Int) ≤ (q : Int) := by omega
      by_cases hc : L.contains (q : Int) = true
      · have hI2 : GI n gB bG bS bC Gs V1 V2 V3 (l ++ m.take (k + 1)) wr := by
         rw [hlx]
         exact ⟨hI.hg, by rw [hinL]; exact hI.hgd, hI.hsl, by rw [seenM_step hqn hc]; exact hI.hct, by rw [seenM_old hqn hc]; exact hI.hse⟩
        rw [hc] at hgc
        clear hI hin hb hx htk hlx hL hinL hgf hgd; have hC_h := lH hC; have hI2_h := lH hI2; have hkp_h := lH hkp; have hc_h := lH hc; clear hC hI2 hkp hc
        go_wp2_with (fail)
        refine (hC_h.out _).mono ?_
        rintro e w1 ⟨rfl, rfl⟩
        go_wp2_with (fail)
        go_roundw
        case rel => exact ⟨k + 1, by omega, by go_num, hI2_h.out, hkp_h.out⟩
        case measure => simp [intOf]; omega
      · have hc' : L.contains (q : Int) = false := by simpa using hc
        rw [hc'] at hgc
        have hfq := hgf q
        obtain ⟨W1, hW1⟩ : ∃ W1, W1 = wr.setCell (Gs.add q) (.bool true) := ⟨_, rfl⟩
        have hset := Sl.set hI.hse rfl q (.bool true) (by simp [bls]; omega)
        rw [bls_set, ← seenM_in hqn, ← hW1] at hset
        have hk1 : Keeps (· = Gs.block) wr W1 := by rw [hW1]; exact (Keeps.refl (fun b => b = Gs.block) wr).setCell (p := Gs.add q) (by rw [block_of_add]) _
        have g1 := t_box_keeps hI.hg hk1 h4.2.2
        have g2 := t_box_keeps hI.hgd hk1 h2
        have g3 := t_box_keeps hI.hsl hk1 h5.2.2
        have g4 := t_box_keeps hI.hct hk1 h3
        obtain ⟨t0, t1⟩ := boxg1 g4
        obtain ⟨W2, hW2⟩ : ∃ W2, W2 = W1.setCell ⟨bC, 0, none⟩ (.int .i64 ((seenC n L : Int) + 1)) := ⟨_, rfl⟩
        obtain ⟨n4, hk2⟩ := box_set g4 0 (.int .i64 ((seenC n L : Int) + 1))
        rw [← hW2] at n4 hk2
        have n4' : W2.heap[bC]? = some (.cells #[.int .i64 ((seenC n L : Int) + 1)] tInt) := n4
        have hcle := seenC_le n L
        have hI2 : GI n gB bG bS bC Gs V1 V2 V3 (l ++ m.take (k + 1)) W2 := by
         rw [hlx]
         refine ⟨t_box_keeps g1 hk2 h4.2.1, by rw [hinL]; exact t_box_keeps g2 hk2 h1, t_box_keeps g3 hk2 h5.2.1, ?_, hset.keeps hk2 (fun b hb e => by simp at hb; omega)⟩
         rw [seenC_new hqn hc', show ((seenC n L + 1 : Nat) : Int) = (seenC n L : Int) + 1 by omega]; exact n4'
        have hkf : Keeps (· ∈ [bG, bC, Gs.block]) W W2 := (hkp.trans (hk1.mono fun b _ hb => by simp [hb])).trans (hk2.mono fun b _ hb => by simp [hb])
        have hsz : (seenC n L : Int) ≤ 100 := by omega
        have hsz0 : (0 : Int) ≤ (seenC n L : Int) := by omega
        clear hI hin hb hx htk hlx hL hinL hgf hgd hset hk1 g1 g2 g3 g4 n4 hk2 n4' hkp hcle; have hC_h := lH hC; have hI2_h := lH hI2; have hc_h := lH hc; have hc'_h := lH hc'; have hkf_h := lH hkf; clear hC hI2 hc hc' hkf
        go_wp2_with (fail)
        refine (hC_h.out _).mono ?_
        rintro e w1 ⟨rfl, rfl⟩
        go_upto_region 7 with (fail)
        rw [← hW1]
        clear hW1
        go_upto_region 8 with (fail)
        rw [← hW2]
        clear hW2
        go_wp2_with (fail)
        go_roundw
        case rel => exact ⟨k + 1, by omega, by go_num, hI2_h.out, hkf_h.out⟩
        case measure => simp [intOf]; omega
    · have hin' : t_inB x 0 ((n : Int) - 1) = false := by simpa using hin
      simp only [hin'] at hC
      have hinL : inW n (L ++ [x]) = false := by rw [inW_snoc, hin', Bool.and_false]
      have hxo : ¬ (0 ≤ x ∧ x < (n : Int)) := fun hh => by
       rw [show t_inB x 0 ((n : Int) - 1) = true from decide_eq_true ⟨hh.1, by omega⟩] at hin'; cases hin'
      obtain ⟨s0, s1⟩ := boxg1 hI.hgd
      obtain ⟨W1, hW1⟩ : ∃ W1, W1 = wr.setCell ⟨bG, 0, none⟩ (.bool false) := ⟨_, rfl⟩
      obtain ⟨n2, hk1⟩ := box_set hI.hgd 0 (.bool false)
      rw [← hW1] at n2 hk1
      have n2' : W1.heap[bG]? = some (.cells #[.bool false] tBool) := n2
      have hI2 : GI n gB bG bS bC Gs V1 V2 V3 (l ++ m.take (k + 1)) W1 := by
       rw [hlx]
       refine ⟨t_box_keeps hI.hg hk1 h4.1, by rw [hinL]; exact n2', t_box_keeps hI.hsl hk1 h5.1, ?_, ?_⟩
       · have e : seenC n (L ++ [x]) = seenC n L := by unfold seenC; rw [seenM_out hxo]
         rw [e]; exact t_box_keeps hI.hct hk1 (fun e => h1 e.symm)
       · rw [seenM_out hxo]; exact hI.hse.keeps hk1 (fun b hb e => by simp at hb; omega)
      have hkf : Keeps (· ∈ [bG, bC, Gs.block]) W W1 := hkp.trans (hk1.mono fun b _ hb => by simp [hb])
      clear hI hin hin' hx htk hlx hL hinL n2 hk1 n2' hkp; have hC_h := lH hC; have hI2_h := lH hI2; have hkf_h := lH hkf; have hxo_h := lH hxo; clear hC hI2 hkf hxo
      go_wp2_with (fail)
      refine (hC_h.out _).mono ?_
      rintro e w1 ⟨rfl, rfl⟩
      go_upto_region 8 with (fail)
      rw [← hW1]
      clear hW1
      go_wp2_with (fail)
      go_roundw
      case rel => exact ⟨k + 1, by omega, by go_num, hI2_h.out, hkf_h.out⟩
      case measure => simp [intOf]; omega
  · obtain rfl : p = k := by omega
    rw [List.take_of_length_le (by rw [← hp_h.out]; exact Nat.le_refl _)] at hI
    have hI_h := lH hI; have hkp_h := lH hkp; clear hI hkp
    go_wp2_with (fail)
    go_end0
    exact ⟨rfl, hI_h.out, hkp_h.out⟩
theorem egH_eg (k v : Int) (l m : List Int) : egH k v l.length m.length = egB (k, v, l, m) := rfl
theorem madeSeen (n : Nat) : bls (List.replicate n false) = bls (seenM n []) := by rw [seenM_nil]
set_option maxRecDepth 100000 in
set_option maxHeartbeats 8000000 in
theorem isGraph_any {v : Value} {g : Gr} (w : World) (h : RdGr w v g) (ok : OkG g) :
  Calls Tryz.prog 58 #[v] w fun e w' => e = .returned (.bool (grB g)) ∧ Below w.heap.size w w' := by
 have hG0 := h
 obtain ⟨A, c, hs, ⟨B, b, s⟩, ⟨C, d, t⟩, rfl, e1, e2, e3, hE, hRa, hRb⟩ := h
 obtain ⟨z, es, s0, t0⟩ := g
 have a1 : es = hs.map egOf := e1
 have a2 : s = s0 := e2
 have a3 : t = t0 := e3
 subst a2 a3
 have hok := ok
 have hlen1 : es.length ≤ 1048576 := ok.1.1
 have hlen2 : s.length ≤ 1048576 := ok.1.2.1
 have hlen3 : t.length ≤ 1048576 := ok.1.2.2
 have hlE : ∀ x, x ∈ hs → x.2.2.1.2.2.length ≤ 1048576 ∧ x.2.2.2.2.2.length ≤ 1048576 := fun x hx => ok.2.1 _ (by show egOf x ∈ es; rw [a1]; exact List.mem_map_of_mem hx)
 obtain ⟨D, hD⟩ : ∃ D, D = grB (z, es, s, t) := ⟨_, rfl⟩
 have hDD := hD
 unfold grB at hDD
 simp only [Bool.and_assoc] at hDD
 rw [← hD]
 obtain ⟨m, hm⟩ : ∃ m, m = hs.length := ⟨_, rfl⟩
 obtain ⟨p, hp⟩ : ∃ p, p = s.length := ⟨_, rfl⟩
 obtain ⟨r, hr⟩ : ∃ r, r = t.length := ⟨_, rfl⟩
 have hmes : es.length = m := by rw [a1, List.length_map, hm]
 have hRa0 : RdI w B s := hRa
 have hRb0 : RdI w C t := hRb
 rw [hmes, ← hp, ← hr] at hDD
 change RdGr w (.agg #[.int .i64 z, .slice A hs.length c, .slice B s.length b, .slice C t.length d]) (z, es, s, t) at hG0
 rw [← hm, ← hp, ← hr] at hG0
 show Calls Tryz.prog _ #[.agg #[.int .i64 z, .slice A hs.length c, .slice B s.length b, .slice C t.length d]] w _
 rw [← hm, ← hp, ← hr]
 obtain ⟨W, hW, bW, k0⟩ := (⟨_, rfl, t_below_alloc _ _, heap_alloc_new _ _⟩ : ∃ W, W = w.alloc (.cells #[.int .i64 z, .slice A m c, .slice B p b, .slice C r d] tGr) ∧ Below w.heap.size w W ∧ W.heap[w.heap.size]? = some (.cells #[.int .i64 z, .slice A m c, .slice B p b, .slice C r d] tGr))
 obtain ⟨⟨c0, c1, c2, c3⟩, f0, f1, f2, f3⟩ := t_box4 k0
 have hI := fun (W : World) => t_within_any z 0 100 W
 clear hRa hRb ok e1 e2 e3 hRa0 hRb0
 by_cases h0 : t_inB z 0 100 = true
 case neg =>
  have h0' : t_inB z 0 100 = false := by simpa using h0
  obtain rfl : D = false := by rw [hDD, h0']; rfl
  simp only [h0'] at hI
  clear h0 h0'; have hI_h := lH hI; have k0_h := lH k0; have bW_h := lH bW; have hm_h := lH hm; have hp_h := lH hp; have hr_h := lH hr; have hD_h := lH hD; have hDD_h := lH hDD; have hmes_h := lH hmes; have hlE_h := lH hlE; have hok_h := lH hok; have a1_h := lH a1; have hE_h := lH hE; have hG0_h := lH hG0; clear hI k0 bW hm hp hr hD hDD hmes hlE hok a1 hE hG0
  go_enter Tryz.func58, Tryz.ntmps58
  go_upto_region 1 with (fail)
  rw [← hW]
  clear hW
  go_wp2_with (fail)
  refine (hI_h.out _).mono ?_
  rintro e w1 ⟨rfl, rfl⟩
  go_wp2_with (fail)
  go_ret
  exact ⟨rfl, bW_h.out⟩
 have hz : 0 ≤ z ∧ z ≤ 100 := of_decide_eq_true h0
 simp only [h0] at hI
 rw [h0, Bool.true_and] at hDD
 clear h0
 have wz : IntKind.i64.wrap (z - 1) = z - 1 := IntWalk.i64_in _ (by omega)
 by_cases h1 : m ≤ 60
 case neg =>
  obtain rfl : D = false := by rw [hDD, decide_eq_false h1]; rfl
  have h1' : ¬ ((m : Int) ≤ 60) := by omega
  have hI_h := lH hI; have k0_h := lH k0; have bW_h := lH bW; have hm_h := lH hm; have hp_h := lH hp; have hr_h := lH hr; have hD_h := lH hD; have hDD_h := lH hDD; have hmes_h := lH hmes; have hlE_h := lH hlE; have hok_h := lH hok; have a1_h := lH a1; have hE_h := lH hE; have hG0_h := lH hG0; clear hI k0 bW hm hp hr hD hDD hmes hlE hok a1 hE hG0
  go_enter Tryz.func58, Tryz.ntmps58
  go_upto_region 1 with (fail)
  rw [← hW]
  clear hW
  go_wp2_with (fail)
  refine (hI_h.out _).mono ?_
  rintro e w1 ⟨rfl, rfl⟩
  go_wp2_with (fail)
  go_ret
  exact ⟨rfl, bW_h.out⟩
 rw [decide_eq_true h1, Bool.true_and] at hDD
 have h1' : (m : Int) ≤ 60 := by omega
 by_cases h2 : p ≤ 12
 case neg =>
  obtain rfl : D = false := by rw [hDD, decide_eq_false h2]; rfl
  have h2' : ¬ ((p : Int) ≤ 12) := by omega
  have hI_h := lH hI; have k0_h := lH k0; have bW_h := lH bW; have hm_h := lH hm; have hp_h := lH hp; have hr_h := lH hr; have hD_h := lH hD; have hDD_h := lH hDD; have hmes_h := lH hmes; have hlE_h := lH hlE; have hok_h := lH hok; have a1_h := lH a1; have hE_h := lH hE; have hG0_h := lH hG0; clear hI k0 bW hm hp hr hD hDD hmes hlE hok a1 hE hG0
  go_enter Tryz.func58, Tryz.ntmps58
  go_upto_region 1 with (fail)
  rw [← hW]
  clear hW
  go_wp2_with (fail)
  refine (hI_h.out _).mono ?_
  rintro e w1 ⟨rfl, rfl⟩
  go_wp2_with (fail)
  go_ret
  exact ⟨rfl, bW_h.out⟩
 rw [decide_eq_true h2, Bool.true_and] at hDD
 have h2' : (p : Int) ≤ 12 := by omega
 by_cases h3 : r ≤ 12
 case neg =>
  obtain rfl : D = false := by rw [hDD, decide_eq_false h3]; rfl
  have h3' : ¬ ((r : Int) ≤ 12) := by omega
  have hI_h := lH hI; have k0_h := lH k0; have bW_h := lH bW; have hm_h := lH hm; have hp_h := lH hp; have hr_h := lH hr; have hD_h := lH hD; have hDD_h := lH hDD; have hmes_h := lH hmes; have hlE_h := lH hlE; have hok_h := lH hok; have a1_h := lH a1; have hE_h := lH hE; have hG0_h := lH hG0; clear hI k0 bW hm hp hr hD hDD hmes hlE hok a1 hE hG0
  go_enter Tryz.func58, Tryz.ntmps58
  go_upto_region 1 with (fail)
  rw [← hW]
  clear hW
  go_wp2_with (fail)
  refine (hI_h.out _).mono ?_
  rintro e w1 ⟨rfl, rfl⟩
  go_wp2_with (fail)
  go_ret
  exact ⟨rfl, bW_h.out⟩
 rw [decide_eq_true h3, Bool.true_and] at hDD
 have h3' : (r : Int) ≤ 12 := by omega
 have hI_h := lH hI; have k0_h := lH k0; have bW_h := lH bW; have hm_h := lH hm; have hp_h := lH hp; have hr_h := lH hr; have hD_h := lH hD; have hDD_h := lH hDD; have hmes_h := lH hmes; have hlE_h := lH hlE; have hok_h := lH hok; have a1_h := lH a1; have hE_h := lH hE; have hG0_h := lH hG0; clear hI k0 bW hm hp hr hD hDD hmes hlE hok a1 hE hG0
 go_enter Tryz.func58, Tryz.ntmps58
 go_upto_region 1 with (fail)
 rw [← hW]
 clear hW
 go_wp2_with (fail)
 refine (hI_h.out _).mono ?_
 rintro e w1 ⟨rfl, rfl⟩
 obtain ⟨W, rfl⟩ : ∃ x, x = w1 := ⟨_, rfl⟩
 go_wp2_with (fail)
 clear c0 c1 c2 c3 f0 f1 f2 f3
 go_loopw [33] (fun i wr => ∃ k : Nat, k ≤ m ∧ i = .int .i64 k ∧ (es.take k).all egB = true ∧ Below W.heap.size W wr) (fun i _ => m - (intOf i).toNat)
 case atStart => exact ⟨0, Nat.zero_le _, rfl, by simp, Below.refl _ _⟩
 case round =>
  obtain ⟨k, hk, rfl, hall, hB1⟩ := hrel
  have kr := t_box_below k0_h.out hB1
  have hBw := below_trans bW_h.out hB1 bW_h.out.size
  by_cases hlt : k < m
  · obtain ⟨ad, κ, vv, B1, b1, s1, C1, b2, t1, rfl, hn, ⟨d0, d1, d2, d3⟩, hr1, hr2⟩ := (hE_h.out.below hBw).at_ (j := k) (by rw [← hm_h.out]; exact hlt)
    have hek : es[k]? = some (κ, vv, s1, t1) := by rw [a1_h.out, List.getElem?_map, hn]; rfl
    have hln := hlE_h.out _ (List.mem_of_getElem? hn)
    obtain ⟨wo, rfl⟩ : ∃ x, x = wr := ⟨_, rfl⟩
    have hC := fun (W' : World) (_ : Below wo.heap.size wo W') => isEdge_any κ vv B1 C1 b1 b2 s1.length t1.length W'
    obtain ⟨p1, hp1⟩ : ∃ p1, p1 = s1.length := ⟨_, rfl⟩
    obtain ⟨r1, hr1'⟩ : ∃ r1, r1 = t1.length := ⟨_, rfl⟩
    simp only [egH_eg] at hC
    simp only [← hp1, ← hr1'] at hC
    rw [← hp1] at d2
    rw [← hr1'] at d3
    obtain ⟨W6, hW6, bW6, k6⟩ := (⟨_, rfl, t_below_alloc _ _, heap_alloc_new _ _⟩ : ∃ W, W = wo.alloc (.cells #[.int .i64 κ, .int .i64 vv, .slice B1 p1 b1, .slice C1 r1 b2] tEd) ∧ Below wo.heap.size wo W ∧ W.heap[wo.heap.size]? = some (.cells #[.int .i64 κ, .int .i64 vv, .slice B1 p1 b1, .slice C1 r1 b2] tEd))
    have hCW := hC W6 bW6
    have hkI : (k : Int) < (m : Int) := by omega
    have kr6 := t_box_below kr bW6
    have hBW6 := below_trans hB1 bW6 hB1.size
    obtain ⟨⟨c0, c1, c2, c3⟩, f0, f1, f2, f3⟩ := t_box4 k6
    obtain ⟨⟨y0, y1, y2, y3⟩, g0, g1, g2, g3⟩ := t_box4 kr6
    obtain ⟨H, hH⟩ : ∃ H, H = egB (κ, vv, s1, t1) := ⟨_, rfl⟩
    rw [← hH] at hCW
    have hr1_h := lH hr1'; clear hr1' hr1 hr2 hn hln hC kr hB1 kr6; have hCW_h := lH hCW; have hek_h := lH hek; have hall_h := lH hall; have hp1_h := lH hp1; have bW6_h := lH bW6; have k6_h := lH k6; have hBW6_h := lH hBW6; have hBw_h := lH hBw; have hH_h := lH hH; clear hCW hek hall hp1 bW6 k6 hBW6 hBw hH
    go_upto_region 6 with (fail)
    rw [← hW6]
    clear hW6
    go_wp2_with (fail)
    refine (hCW_h.out).mono ?_
    rintro e w7 ⟨rfl, hb7⟩
    have hB8 := below_trans hBW6_h.out hb7 hBW6_h.out.size
    clear hb7 c0 c1 c2 c3 f0 f1 f2 f3 y0 y1 y2 y3 g0 g1 g2 g3 d0 d1 d2 d3
    cases H
    · have hf : D = false := by
       rw [hDD_h.out, show es.all egB = false from ?_]; rfl
       rw [Bool.eq_false_iff]
       intro hh
       have := List.all_eq_true.1 hh _ (List.mem_of_getElem? hek_h.out)
       rw [← hH_h.out] at this; cases this
      subst hf
      have hBz := below_trans bW_h.out hB8 bW_h.out.size
      have hB8_h := lH hB8; have hBz_h := lH hBz; clear hB8 hBz
      go_wp2_with (fail)
      go_ret
      exact ⟨rfl, hBz_h.out⟩
    · have hall2 : (es.take (k + 1)).all egB = true := by rw [List.take_add_one, hek_h.out, List.all_append, hall_h.out]; simp [← hH_h.out]
      have hB8_h := lH hB8; have hall2_h := lH hall2; clear hB8 hall2
      go_wp2_with (fail)
      go_roundw
      case rel => exact ⟨k + 1, by omega, by go_num, hall2_h.out, hB8_h.out⟩
      case measure => simp [intOf]; omega
  · obtain rfl : m = k := by omega
    rw [List.take_of_length_le (by rw [hmes_h.out]; exact Nat.le_refl _)] at hall
    have hD3 := hDD_h.out
    rw [hall, Bool.true_and] at hD3
    obtain ⟨n, rfl⟩ : ∃ n : Nat, z = (n : Int) := ⟨z.toNat, by omega⟩
    obtain ⟨⟨y0, y1, y2, y3⟩, g0, g1, g2, g3⟩ := t_box4 kr
    have hn100 : n ≤ 100 := by omega
    clear hall hDD_h hB1; have hD3_h := lH hD3; have kr_h := lH kr; have hBw_h := lH hBw; clear hD3 kr hBw
    go_upto_region 10 with (at_make; refine wpList_make_Sl _ rfl _ _ _ rfl tBool Tryz.underlying99 info_bool n n rfl rfl rfl rfl (Nat.le_refl _) (by omega) (by unfold maxLen; omega) ?_; intro Gs w2 hs2 hG2 hb2)
    have hsn : Sl w2 tBool 1 (some Gs) n n (bls (seenM n [])) := by rw [← madeSeen, ← madeBls]; exact hs2
    have hB2 := below_trans hBw_h.out hb2 hBw_h.out.size
    have kr2 := t_box_below kr_h.out hb2
    have hGl : Gs.block < w2.heap.size := hsn.lt Gs.block (by simp)
    obtain ⟨W3, hW3, bW3, j0, j1, j2⟩ := allocs3 w2 (.cells #[.slice (some Gs) n n] tBools) (.cells #[.bool true] tBool) (.cells #[.int .i64 0] tInt)
    have hB3 := below_trans hB2 bW3 hB2.size
    have hws := hBw_h.out.size
    have hw1 := t_box_lt kr_h.out
    have hI0 : GI n w.heap.size (w2.heap.size + 1) w2.heap.size (w2.heap.size + 1 + 1) Gs (.slice A m c) (.slice B p b) (.slice C r d) [] W3 :=
     ⟨t_box_below kr2 bW3, j1, j0, by
      have e : seenC n [] = 0 := by unfold seenC; rw [seenM_nil]; simp [List.count_replicate]
      rw [e]; exact j2, hsn.below bW3⟩
    have hLI := lists_any w hG0_h.out hok_h.out 80 #[.pointer (some ⟨w.heap.size, 0, none⟩), .pointer (some ⟨w2.heap.size + 1, 0, none⟩), .pointer (some ⟨w2.heap.size, 0, none⟩), .pointer (some ⟨w2.heap.size + 1 + 1, 0, none⟩)] (fun _ _ => rfl)
     (fun l W => GI n w.heap.size (w2.heap.size + 1) w2.heap.size (w2.heap.size + 1 + 1) Gs (.slice A m c) (.slice B p b) (.slice C r d) l W) [w2.heap.size + 1, w2.heap.size + 1 + 1, Gs.block]
     (fun x hx => by simp at hx; omega) (fun l W W' h hb => h.below hb)
     (fun l B' c' m' W' hI hm' _ hml => isGraphC_any n w.heap.size (w2.heap.size + 1) w2.heap.size (w2.heap.size + 1 + 1) Gs (.slice A m c) (.slice B p b) (.slice C r d) l B' c' m' W' hn100 hml (by omega) (by omega) (by omega) ⟨by omega, by omega, by omega⟩ ⟨by omega, by omega, by omega⟩ hI hm')
     W3 hI0 hB3 (fun x hx => by have := t_box_lt j2; simp at hx; omega)
    have hmf : ∀ (fn : Fn) (first cap : Array Value) (w : World), (Instr.makeFunc fn first cap).run Tryz.prog w = .ok (.func fn first cap) w := fun _ _ _ _ => rfl
    have kr3 := t_box_below kr2 bW3
    obtain ⟨L, hL⟩ : ∃ L, L = t_allW ((n : Int), es, s, t) := ⟨_, rfl⟩
    have hsf := seenC_full n L
    have hD5 : D = (inW (n : Int) L && decide (seenC n L = n)) := by rw [hD3_h.out, hsf, hL]; rfl
    rw [← hL] at hLI
    have hSge : ∀ x, x ∈ [w2.heap.size + 1, w2.heap.size + 1 + 1, Gs.block] → w.heap.size ≤ x := fun x hx => by simp at hx; omega
    clear hs2 hsn hB2 kr2 hI0 hsf y0 y1 y2 y3 g0 g1 g2 g3 j0 j1 j2
    obtain ⟨⟨y0, y1, y2, y3⟩, g0, g1, g2, g3⟩ := t_box4 kr3
    have hB3_h := lH hB3; have kr3_h := lH kr3; have hLI_h := lH hLI; have hL_h := lH hL; have hD5_h := lH hD5; have bW3_h := lH bW3; have hSge_h := lH hSge; clear hB3 kr3 hLI hL hD5 bW3 hSge
    rw [← hW3]
    clear hW3
    go_wp2_with (fail)
    refine (hLI_h.out).mono ?_
    rintro e w9 ⟨rfl, hI9, hk9⟩
    have hB9 := below_keeps hB3_h.out hk9 hB3_h.out.size hSge_h.out
    clear y0 y1 y2 y3 g0 g1 g2 g3 hmf
    obtain ⟨⟨y0, y1, y2, y3⟩, g0, g1, g2, g3⟩ := t_box4 hI9.hg
    obtain ⟨z0, z1⟩ := boxg1 hI9.hgd
    obtain ⟨z2, z3⟩ := boxg1 hI9.hct
    have hD6 := hD5_h.out
    clear hI9 hk9
    cases hiw : inW (n : Int) L
    · rw [hiw] at hD6 z0
      obtain rfl : D = false := hD6
      have hB9_h := lH hB9; have hiw_h := lH hiw; clear hB9 hiw
      go_wp2_with (fail)
      go_ret
      exact ⟨rfl, hB9_h.out⟩
    · rw [hiw, Bool.true_and] at hD6
      rw [hiw] at z0
      obtain ⟨x, hx⟩ : ∃ x, x = seenC n L := ⟨_, rfl⟩
      rw [← hx] at z2 hD6
      by_cases hxn : x = n
      · subst hxn
        obtain rfl : D = true := by rw [hD6]; exact decide_eq_true rfl
        have hbe : ((x : Int) == (x : Int)) = true := by simp
        clear hD6; have hB9_h := lH hB9; have hiw_h := lH hiw; have hx_h := lH hx; clear hB9 hiw hx
        go_wp2_with (fail)
        go_ret
        exact ⟨rfl, hB9_h.out⟩
      · obtain rfl : D = false := by rw [hD6]; exact decide_eq_false hxn
        have hbe : ((x : Int) == (n : Int)) = false := by rw [beq_eq_false_iff_ne]; omega
        clear hD6; have hB9_h := lH hB9; have hiw_h := lH hiw; have hx_h := lH hx; clear hB9 hiw hx
        go_wp2_with (fail)
        go_ret
        exact ⟨rfl, hB9_h.out⟩
def ovB (p : Int) (e : Eg) : Bool := !(hvB e.1 && decide (p ≤ e.2.1))
theorem gOver_eq {p : Int} {g : Gr} : gOverB p g = (fieldB p && (grB g && g.2.1.all (ovB p))) := by
 unfold gOverB
 cases hf : fieldB p
 · rfl
 · have hpb := fieldB_bounds hf
   cases hg : grB g
   · rfl
   · simp only [Bool.true_and]
     have he : g.2.1.all egB = true := by
      unfold grB at hg
      simp only [Bool.and_eq_true] at hg
      exact hg.2.1
     have h : ∀ e, e ∈ g.2.1 → decide (e.2.1 < p) = ovB p e := fun e hm => by
      have h1 := List.all_eq_true.1 he e hm
      unfold egB gvB at h1
      simp only [Bool.and_eq_true] at h1
      have h2 := h1.2.1
      unfold ovB
      cases hv : hvB e.1
      · rw [hv] at h2
        simp at h2
        rw [h2]
        simp
        omega
      · simp only [Bool.true_and]
        by_cases hp : e.2.1 < p
        · rw [decide_eq_true hp, decide_eq_false (by omega)]; rfl
        · rw [decide_eq_false hp, decide_eq_true (by omega)]; rfl
     rw [Bool.eq_iff_iff, List.all_eq_true, List.all_eq_true]
     exact ⟨fun hh e hm => by rw [← h e hm]; exact hh e hm, fun hh e hm => by rw [h e hm]; exact hh e hm⟩
set_option maxRecDepth 100000 in
set_option maxHeartbeats 4000000 in
theorem isGraphOver_any (p : Int) {v : Value} {g : Gr} (w : World) (h : RdGr w v g) (ok : OkG g) (hT : Tab w) :
  Calls Tryz.prog 40 #[.int .i64 p, v] w fun e w' => e = .returned (.bool (gOverB p g)) ∧ Below w.heap.size w w' := by
 rw [gOver_eq]
 obtain ⟨A, c, hs, ⟨B, b, s⟩, ⟨C, d, t⟩, rfl, e1, e2, e3, hE, hRa, hRb⟩ := id h
 obtain ⟨z, es, s0, t0⟩ := g
 have a1 : es = hs.map egOf := e1
 have a2 : s = s0 := e2
 have a3 : t = t0 := e3
 subst a2 a3
 clear e1 e2 e3
 obtain ⟨m, hm⟩ : ∃ m, m = hs.length := ⟨_, rfl⟩
 have hmes : es.length = m := by rw [a1, List.length_map, hm]
 have hm20 : m ≤ 1048576 := by rw [← hmes]; exact ok.1.1
 change RdGr w (.agg #[.int .i64 z, .slice A hs.length c, .slice B s.length b, .slice C t.length d]) (z, es, s, t) at h
 show Calls Tryz.prog _ #[.int .i64 p, .agg #[.int .i64 z, .slice A hs.length c, .slice B s.length b, .slice C t.length d]] w _
 rw [← hm] at h ⊢
 obtain ⟨W, hW, bW, k0⟩ := (⟨_, rfl, below_alloc _ _, heap_alloc_new _ _⟩ : ∃ W, W = w.alloc (.cells #[.int .i64 z, .slice A m c, .slice B s.length b, .slice C t.length d] tGr) ∧ Below w.heap.size w W ∧ W.heap[w.heap.size]? = some (.cells #[.int .i64 z, .slice A m c, .slice B s.length b, .slice C t.length d] tGr))
 obtain ⟨⟨c0, c1, c2, c3⟩, f0, f1, f2, f3⟩ := box4 k0
 have hV := fun W' (hb : Below w.heap.size w W') => isGraph_any W' (h.below hb) ok
 have hG := isField_any p W (hT.below bW hT.lt)
 obtain ⟨D, hD⟩ : ∃ D, D = (fieldB p && (grB (z, es, s, t) && es.all (ovB p))) := ⟨_, rfl⟩
 show Calls Tryz.prog _ _ w fun e w' => e = .returned (.bool (fieldB p && (grB (z, es, s, t) && es.all (ovB p)))) ∧ _
 rw [← hD]
 clear h hT
 by_cases hf : fieldB p = true
 case neg =>
  have hf' : fieldB p = false := by simpa using hf
  simp only [hf'] at hG
  rw [hf', Bool.false_and] at hD
  subst hD
  clear hf hf' ok hV; have hG_h := lH hG; have k0_h := lH k0; have bW_h := lH bW; have hm_h := lH hm; have hmes_h := lH hmes; have a1_h := lH a1; have hE_h := lH hE; clear hG k0 bW hm hmes a1 hE
  go_enter Tryz.func40, Tryz.ntmps40
  go_upto_region 1 with (fail)
  rw [← hW]
  clear hW
  go_wp2_with (fail)
  refine (hG_h.out).mono ?_
  rintro e w' ⟨rfl, hw'⟩
  subst hw'
  go_wp2_with (fail)
  go_ret
  exact ⟨rfl, bW_h.out⟩
 simp only [hf] at hG
 rw [hf, Bool.true_and] at hD
 by_cases hg : grB (z, es, s, t) = true
 case neg =>
  have hg' : grB (z, es, s, t) = false := by simpa using hg
  simp only [hg'] at hV
  rw [hg', Bool.false_and] at hD
  subst hD
  clear hf hg hg' ok; have hV_h := lH hV; have hG_h := lH hG; have k0_h := lH k0; have bW_h := lH bW; have hm_h := lH hm; have hmes_h := lH hmes; have a1_h := lH a1; have hE_h := lH hE; clear hV hG k0 bW hm hmes a1 hE
  go_enter Tryz.func40, Tryz.ntmps40
  go_upto_region 1 with (fail)
  rw [← hW]
  clear hW
  go_wp2_with (fail)
  refine (hG_h.out).mono ?_
  rintro e w' ⟨rfl, hw'⟩
  subst hw'
  go_wp2_with (fail)
  refine (hV_h.out _ bW_h.out).mono ?_
  rintro e wq ⟨rfl, hb1⟩
  go_wp2_with (fail)
  go_ret
  exact ⟨rfl, below_trans bW_h.out hb1 bW_h.out.size⟩
 simp only [hg] at hV
 rw [hg, Bool.true_and] at hD
 have hDD : (es.all (ovB p) = true) → D = true := fun h => by rw [hD]; exact h
 have hDN : (es.all (ovB p) = false) → D = false := fun h => by rw [hD]; exact h
 clear hf hg hD ok; have hV_h := lH hV; have hG_h := lH hG; have hm_h := lH hm; have hmes_h := lH hmes; have a1_h := lH a1; have hE_h := lH hE; have k0_h := lH k0; have bW_h := lH bW; have hDD_h := lH hDD; have hDN_h := lH hDN; clear hV hG hm hmes a1 hE k0 bW hDD hDN
 go_enter Tryz.func40, Tryz.ntmps40
 go_upto_region 1 with (fail)
 rw [← hW]
 clear hW
 go_wp2_with (fail)
 refine (hG_h.out).mono ?_
 rintro e w' ⟨rfl, hw'⟩
 subst hw'
 go_wp2_with (fail)
 refine (hV_h.out _ bW_h.out).mono ?_
 rintro e wq ⟨rfl, hb1⟩
 clear c0 c1 c2 c3 f0 f1 f2 f3
 have hbq := below_trans bW_h.out hb1 bW_h.out.size
 have hE := hE_h.out.below hbq
 replace k0_h := lH (box_below k0_h.out hb1)
 clear hb1; have hbq_h := lH hbq; have hE_h := lH hE; clear hbq hE
 obtain ⟨⟨c0, c1, c2, c3⟩, f0, f1, f2, f3⟩ := box4 k0_h.out
 go_wp2_with (fail)
 clear c0 c1 c2 c3 f0 f1 f2 f3
 go_loopw [18] (fun i wr => ∃ k : Nat, k ≤ m ∧ i = .int .i64 k ∧ Below wq.heap.size wq wr ∧ ∀ (j : Nat) (e : Eg), es[j]? = some e → j < k → (ovB p) e = true) (fun i _ => m - (intOf i).toNat)
 case atStart => exact ⟨0, Nat.zero_le _, rfl, Below.refl _ _, fun j e _ h => absurd h (Nat.not_lt_zero j)⟩
 case round =>
  obtain ⟨k, hk, rfl, hbr, hall⟩ := hrel
  obtain ⟨wo, rfl⟩ : ∃ x, x = wr := ⟨_, rfl⟩
  by_cases hlt : k < m
  · obtain ⟨ad, κ, v, B', b', l, C', c', mm, rfl, hx, ⟨d0, d1, d2, d3⟩, _, _⟩ := (hE_h.out.below hbr).at_ (j := k) (by rw [← hm_h.out]; exact hlt)
    have hxe : es[k]? = some (κ, v, l, mm) := by rw [a1_h.out, List.getElem?_map, hx]; rfl
    have hkI : (k : Int) < (m : Int) := by omega
    have hbo := below_trans hbq_h.out hbr hbq_h.out.size
    obtain ⟨wN, hwN⟩ : ∃ wN, wN = wo.alloc (.cells #[.int .i64 κ, .int .i64 v, .slice B' l.length b', .slice C' mm.length c'] tEd) := ⟨_, rfl⟩
    have hbN : Below wo.heap.size wo wN := by rw [hwN]; exact below_alloc _ _
    have kN : wN.heap[wo.heap.size]? = some (.cells #[.int .i64 κ, .int .i64 v, .slice B' l.length b', .slice C' mm.length c'] tEd) := by rw [hwN]; exact heap_alloc_new _ _
    have hba := below_trans hbo hbN hbo.size
    have hbr2 := below_trans hbr hbN hbr.size
    have hnx : ∀ (e : Eg), (ovB p) (κ, v, l, mm) = true → es[k]? = some e → (ovB p) e = true := fun e he h2 => by rw [hxe] at h2; obtain rfl := Option.some.inj h2; exact he
    have hall2 : (ovB p) (κ, v, l, mm) = true → ∀ (j : Nat) (e : Eg), es[j]? = some e → j < k + 1 → (ovB p) e = true := fun he j e h2 h3 => by
     rcases Nat.lt_or_ge j k with h4 | h4
     · exact hall j e h2 h4
     · obtain rfl : j = k := by omega
       exact hnx e he h2
    obtain ⟨⟨e0, e1, e2, e3⟩, j0, j1, j2, j3⟩ := box4 kN
    have hCV := fun W' => hasValue_any κ W'
    clear hx hall hnx kN hbN
    cases hh : hvB κ
    · rw [hh] at hCV
      have hall3 := hall2 (by unfold ovB; simp [hh])
      clear hall2; have hall3_h := lH hall3; have hbr2_h := lH hbr2; have hbr_h := lH hbr; have hba_h := lH hba; have hbo_h := lH hbo; have hxe_h := lH hxe; have hCV_h := lH hCV; clear hall3 hbr2 hbr hba hbo hxe hCV
      go_upto_region 6 with (fail)
      rw [← hwN]
      clear hwN d0 d1 d2 d3
      go_wp2_with (fail)
      refine (hCV_h.out _).mono ?_
      rintro e w' ⟨rfl, hw'⟩
      subst hw'
      go_wp2_with (fail)
      go_roundw
      case rel => exact ⟨k + 1, by omega, by go_num, hbr2_h.out, hall3_h.out⟩
      case measure => simp [intOf]; omega
    · rw [hh] at hCV
      by_cases hv : p ≤ v
      · have hvn : v ≥ p := hv
        have hfin := hDN_h.out (allE_no hxe (by unfold ovB; simp [hh, hv]))
        clear hv
        subst hfin
        clear hall2; have hbr2_h := lH hbr2; have hbr_h := lH hbr; have hba_h := lH hba; have hbo_h := lH hbo; have hxe_h := lH hxe; have hCV_h := lH hCV; clear hbr2 hbr hba hbo hxe hCV
        go_upto_region 6 with (fail)
        rw [← hwN]
        clear hwN d0 d1 d2 d3
        go_wp2_with (fail)
        refine (hCV_h.out _).mono ?_
        rintro e w' ⟨rfl, hw'⟩
        subst hw'
        go_wp2_with (fail)
        go_ret
        exact ⟨rfl, hba_h.out⟩
      · have hvn : ¬ v ≥ p := hv
        have hall3 := hall2 (by unfold ovB; simp [hh, hv])
        clear hall2 hv; have hall3_h := lH hall3; have hbr2_h := lH hbr2; have hbr_h := lH hbr; have hba_h := lH hba; have hbo_h := lH hbo; have hxe_h := lH hxe; have hCV_h := lH hCV; clear hall3 hbr2 hbr hba hbo hxe hCV
        go_upto_region 6 with (fail)
        rw [← hwN]
        clear hwN d0 d1 d2 d3
        go_wp2_with (fail)
        refine (hCV_h.out _).mono ?_
        rintro e w' ⟨rfl, hw'⟩
        subst hw'
        go_wp2_with (fail)
        go_roundw
        case rel => exact ⟨k + 1, by omega, by go_num, hbr2_h.out, hall3_h.out⟩
        case measure => simp [intOf]; omega
  · obtain rfl : m = k := by omega
    have hyes := allE_yes (f := (ovB p)) (l := es) fun j e h1 h2 => hall j e h1 (by rw [← hmes_h.out]; exact h2)
    have hbo := below_trans hbq_h.out hbr hbq_h.out.size
    have hfin := hDD_h.out hyes
    subst hfin
    clear hall; have hbo_h := lH hbo; clear hbo
    go_wp2_with (fail)
    go_ret
    exact ⟨rfl, hbo_h.out⟩
set_option maxRecDepth 100000 in
set_option maxHeartbeats 4000000 in
theorem gStatic_any (p : Int) {v : Value} {g : Gr} (w : World) (h : RdGr w v g) (ok : OkG g) (hT : Tab w) :
  Calls Tryz.prog 20 #[v, .int .i64 p] w fun e w' => e = .returned (.bool (dnAskB p g)) ∧ Below w.heap.size w w' := by
 obtain ⟨A, c, hs, ⟨B, b, s⟩, ⟨C, d, t⟩, rfl, e1, e2, e3, hE, hRa, hRb⟩ := id h
 obtain ⟨z, es, s0, t0⟩ := g
 have a1 : es = hs.map egOf := e1
 have a2 : s = s0 := e2
 have a3 : t = t0 := e3
 subst a2 a3
 clear e1 e2 e3
 obtain ⟨m, hm⟩ : ∃ m, m = hs.length := ⟨_, rfl⟩
 have hmes : es.length = m := by rw [a1, List.length_map, hm]
 have hm20 : m ≤ 1048576 := by rw [← hmes]; exact ok.1.1
 change RdGr w (.agg #[.int .i64 z, .slice A hs.length c, .slice B s.length b, .slice C t.length d]) (z, es, s, t) at h
 show Calls Tryz.prog _ #[.agg #[.int .i64 z, .slice A hs.length c, .slice B s.length b, .slice C t.length d], .int .i64 p] w _
 rw [← hm] at h ⊢
 obtain ⟨W, hW, bW, k0⟩ := (⟨_, rfl, below_alloc _ _, heap_alloc_new _ _⟩ : ∃ W, W = w.alloc (.cells #[.int .i64 z, .slice A m c, .slice B s.length b, .slice C t.length d] tGr) ∧ Below w.heap.size w W ∧ W.heap[w.heap.size]? = some (.cells #[.int .i64 z, .slice A m c, .slice B s.length b, .slice C t.length d] tGr))
 obtain ⟨⟨c0, c1, c2, c3⟩, f0, f1, f2, f3⟩ := box4 k0
 have hV := isGraphOver_any p W (h.below bW) ok (hT.below bW hT.lt)
 obtain ⟨D, hD⟩ : ∃ D, D = dnAskB p (z, es, s, t) := ⟨_, rfl⟩
 rw [← hD]
 unfold dnAskB at hD
 clear h hT
 by_cases hg : gOverB p (z, es, s, t) = true
 case neg =>
  have hg' : gOverB p (z, es, s, t) = false := by simpa using hg
  simp only [hg'] at hV
  rw [hg', Bool.false_and] at hD
  subst hD
  clear hg hg' ok; have hV_h := lH hV; have k0_h := lH k0; have bW_h := lH bW; have hm_h := lH hm; have hmes_h := lH hmes; have a1_h := lH a1; have hE_h := lH hE; clear hV k0 bW hm hmes a1 hE
  go_enter Tryz.func20, Tryz.ntmps20
  go_upto_region 1 with (fail)
  rw [← hW]
  clear hW
  go_wp2_with (fail)
  refine (hV_h.out).mono ?_
  rintro e wq ⟨rfl, hb1⟩
  go_wp2_with (fail)
  go_ret
  exact ⟨rfl, below_trans bW_h.out hb1 bW_h.out.size⟩
 simp only [hg] at hV
 rw [hg, Bool.true_and] at hD
 have hDD : (es.all (fun e : Eg => noDl e.1) = true) → D = true := fun h => by rw [hD]; exact h
 have hDN : (es.all (fun e : Eg => noDl e.1) = false) → D = false := fun h => by rw [hD]; exact h
 clear hg hD ok; have hV_h := lH hV; have hm_h := lH hm; have hmes_h := lH hmes; have a1_h := lH a1; have hE_h := lH hE; have k0_h := lH k0; have bW_h := lH bW; have hDD_h := lH hDD; have hDN_h := lH hDN; clear hV hm hmes a1 hE k0 bW hDD hDN
 go_enter Tryz.func20, Tryz.ntmps20
 go_upto_region 1 with (fail)
 rw [← hW]
 clear hW
 go_wp2_with (fail)
 refine (hV_h.out).mono ?_
 rintro e wq ⟨rfl, hb1⟩
 clear c0 c1 c2 c3 f0 f1 f2 f3
 have hbq := below_trans bW_h.out hb1 bW_h.out.size
 have hE := hE_h.out.below hbq
 replace k0_h := lH (box_below k0_h.out hb1)
 clear hb1; have hbq_h := lH hbq; have hE_h := lH hE; clear hbq hE
 obtain ⟨⟨c0, c1, c2, c3⟩, f0, f1, f2, f3⟩ := box4 k0_h.out
 go_wp2_with (fail)
 clear c0 c1 c2 c3 f0 f1 f2 f3
 go_loopw [14] (fun i wr => ∃ k : Nat, k ≤ m ∧ i = .int .i64 k ∧ Below wq.heap.size wq wr ∧ ∀ (j : Nat) (e : Eg), es[j]? = some e → j < k → (fun e : Eg => noDl e.1) e = true) (fun i _ => m - (intOf i).toNat)
 case atStart => exact ⟨0, Nat.zero_le _, rfl, Below.refl _ _, fun j e _ h => absurd h (Nat.not_lt_zero j)⟩
 case round =>
  obtain ⟨k, hk, rfl, hbr, hall⟩ := hrel
  obtain ⟨wo, rfl⟩ : ∃ x, x = wr := ⟨_, rfl⟩
  by_cases hlt : k < m
  · obtain ⟨ad, κ, v, B', b', l, C', c', mm, rfl, hx, ⟨d0, d1, d2, d3⟩, _, _⟩ := (hE_h.out.below hbr).at_ (j := k) (by rw [← hm_h.out]; exact hlt)
    have hxe : es[k]? = some (κ, v, l, mm) := by rw [a1_h.out, List.getElem?_map, hx]; rfl
    have hkI : (k : Int) < (m : Int) := by omega
    have hbo := below_trans hbq_h.out hbr hbq_h.out.size
    obtain ⟨wN, hwN⟩ : ∃ wN, wN = wo.alloc (.cells #[.int .i64 κ, .int .i64 v, .slice B' l.length b', .slice C' mm.length c'] tEd) := ⟨_, rfl⟩
    have hbN : Below wo.heap.size wo wN := by rw [hwN]; exact below_alloc _ _
    have kN : wN.heap[wo.heap.size]? = some (.cells #[.int .i64 κ, .int .i64 v, .slice B' l.length b', .slice C' mm.length c'] tEd) := by rw [hwN]; exact heap_alloc_new _ _
    have hba := below_trans hbo hbN hbo.size
    have hbr2 := below_trans hbr hbN hbr.size
    have hnx : ∀ (e : Eg), (fun e : Eg => noDl e.1) (κ, v, l, mm) = true → es[k]? = some e → (fun e : Eg => noDl e.1) e = true := fun e he h2 => by rw [hxe] at h2; obtain rfl := Option.some.inj h2; exact he
    have hall2 : (fun e : Eg => noDl e.1) (κ, v, l, mm) = true → ∀ (j : Nat) (e : Eg), es[j]? = some e → j < k + 1 → (fun e : Eg => noDl e.1) e = true := fun he j e h2 h3 => by
     rcases Nat.lt_or_ge j k with h4 | h4
     · exact hall j e h2 h4
     · obtain rfl : j = k := by omega
       exact hnx e he h2
    obtain ⟨⟨e0, e1, e2, e3⟩, j0, j1, j2, j3⟩ := box4 kN
    have hCV := fun W' => isDelay_any κ W'
    clear hx hall hnx kN hbN
    cases hh : noDl κ
    · rw [hh] at hCV
      have hfin := hDN_h.out (allE_no hxe hh)
      subst hfin
      clear hall2; have hbr2_h := lH hbr2; have hbr_h := lH hbr; have hba_h := lH hba; have hbo_h := lH hbo; have hxe_h := lH hxe; have hCV_h := lH hCV; clear hbr2 hbr hba hbo hxe hCV
      go_upto_region 6 with (fail)
      rw [← hwN]
      clear hwN d0 d1 d2 d3
      go_wp2_with (fail)
      refine (hCV_h.out _).mono ?_
      rintro e w' ⟨rfl, hw'⟩
      subst hw'
      go_wp2_with (fail)
      go_ret
      exact ⟨rfl, hba_h.out⟩
    · rw [hh] at hCV
      have hall3 := hall2 hh
      clear hall2; have hall3_h := lH hall3; have hbr2_h := lH hbr2; have hbr_h := lH hbr; have hba_h := lH hba; have hbo_h := lH hbo; have hxe_h := lH hxe; have hCV_h := lH hCV; clear hall3 hbr2 hbr hba hbo hxe hCV
      go_upto_region 6 with (fail)
      rw [← hwN]
      clear hwN d0 d1 d2 d3
      go_wp2_with (fail)
      refine (hCV_h.out _).mono ?_
      rintro e w' ⟨rfl, hw'⟩
      subst hw'
      go_wp2_with (fail)
      go_roundw
      case rel => exact ⟨k + 1, by omega, by go_num, hbr2_h.out, hall3_h.out⟩
      case measure => simp [intOf]; omega
  · obtain rfl : m = k := by omega
    have hyes := allE_yes (f := (fun e : Eg => noDl e.1)) (l := es) fun j e h1 h2 => hall j e h1 (by rw [← hmes_h.out]; exact h2)
    have hbo := below_trans hbq_h.out hbr hbq_h.out.size
    have hfin := hDD_h.out hyes
    subst hfin
    clear hall; have hbo_h := lH hbo; clear hbo
    go_wp2_with (fail)
    go_ret
    exact ⟨rfl, hbo_h.out⟩
end Go.Proofs.YtjompikdkhhlgaaGreatDoor
namespace Go.Proofs.YtjompikdkhhlgaaGreatDoor
open Go.RowKit Go.Shelf
structure CellsKept (n0 : Nat) (A B : World) : Prop where
 os : B.os = A.os
 tape : B.tape = A.tape
 output : B.output = A.output
 size : A.heap.size ≤ B.heap.size
 same : ∀ (b : Nat) (o : Obj), A.heap[b]? = some o → o.isCells = true → B.heap[b]? = some o
 low : ∀ b, b < n0 → b < A.heap.size → B.heap[b]? = A.heap[b]?
theorem CellsKept.of_below {n0 : Nat} {A B : World} (h : Below A.heap.size A B) : CellsKept n0 A B := ⟨h.os, h.tape, h.output, h.size, fun b _ hb _ => (h.block b (Array.getElem?_eq_some_iff.1 hb).1).trans hb, fun b _ hb => h.block b hb⟩
theorem CellsKept.putObj {n0 : Nat} {W : World} {l : Nat} {o : Obj} (o' : Obj) (hl : W.heap[l]? = some o) (ho : o.isCells = false) (hn : n0 ≤ l) : CellsKept n0 W (W.putObj l o') := by
 refine ⟨rfl, rfl, rfl, ?_, fun b x hb hx => ?_, fun b hb _ => World.putObj_heap_other (by omega)⟩
 · exact (grownBy_putObj' W l o').size
 · rw [World.putObj_heap_other]
   · exact hb
   · intro e
     subst e
     rw [hl] at hb
     cases hb
     rw [ho] at hx
     cases hx
theorem CellsKept.below {n0 : Nat} {w A B : World} (h : CellsKept n0 A B) (hb : Below n0 w A) (hn : n0 ≤ w.heap.size) : Below n0 w B :=
 ⟨h.os.trans hb.os, h.tape.trans hb.tape, h.output.trans hb.output, Nat.le_trans hb.size h.size, fun b hk => (h.low b hk (Nat.lt_of_lt_of_le hk (Nat.le_trans hn hb.size))).trans (hb.block b hk)⟩
theorem CellsKept.mono0 {n0 m0 : Nat} {A B : World} (h : CellsKept n0 A B) (hm : m0 ≤ n0) : CellsKept m0 A B := ⟨h.os, h.tape, h.output, h.size, h.same, fun b hb => h.low b (Nat.lt_of_lt_of_le hb hm)⟩
theorem CellsKept.sl {n0 : Nat} {A B : World} (h : CellsKept n0 A B) {e : TypeId} {sz n cap : Nat} {C : Option Addr} {xs : List Value} (hs : Sl A e sz C n cap xs) : Sl B e sz C n cap xs := by
 obtain ⟨h1, h2, h3, h4⟩ := hs
 refine ⟨h1, h2, h3, ?_⟩
 rcases h4 with h4 | ⟨g, off, cur, h5, h6, h7⟩
 · exact .inl h4
 · exact .inr ⟨g, off, cur, h5, h.same _ _ h6 rfl, h7⟩
def blk : Value → List Nat
 | .slice A _ _ => fpA A
 | _ => []
theorem Sl.is_cells {w : World} {e : TypeId} {sz n cap : Nat} {A : Option Addr} {xs : List Value} (h : Sl w e sz A n cap xs) : ∀ b, b ∈ fpA A → ∃ o : Obj, w.heap[b]? = some o ∧ o.isCells = true := by
 intro b hb
 rcases h.2.2.2 with ⟨rfl, _⟩ | ⟨g, off, cur, rfl, hg, _⟩
 · simp at hb
 · simp at hb
   subst hb
   exact ⟨_, hg, rfl⟩
def SeqT (F : Fence) (n : Nat) (P : Program) (g : Nat) (lb : Array Value) (X : Nat → Prop) (E : Nat → World → (Nat → Prop) → Value → Prop) (N : Nat) (w : World) : Prop :=
 ∀ (l : Nat) (J : Nat → (Nat → Prop) → World → Prop) (Jx : World → Prop) (W : World) (T : Nat → Prop), Below w.heap.size w W → (∀ b, T b → ¬ X b ∧ b < W.heap.size) →
   (∀ k T A B, J k T A → Below A.heap.size A B → J k T B) →
   (∀ k T A v, k < N → J k T A → E k A T v → YieldAt F (n - 1) P l #[v] A fun e B =>
    (e = .returned (.bool true) ∧ ∃ T', J (k + 1) T' B ∧ Keeps (fun b => T b ∨ b ∈ blk v) A B ∧ ∀ b, T' b → (T b ∨ A.heap.size ≤ b ∨ b ∈ blk v) ∧ b < B.heap.size) ∨ (e = .returned (.bool false) ∧ Jx B)) →
   J 0 T W → CallsIn F n P g (#[.func (.yield l) #[] #[]] ++ lb) W fun e B => (∃ v, e = .returned v) ∧ ((∃ T', J N T' B) ∨ Jx B)
def postT (I : Nat → (Nat → Prop) → World → Prop) (Ix : Code → World → Prop) (k : Nat) (T : Nat → Prop) (v : Value) (W : World) : Exit → Act → World → Prop
 | .normal, _, W' => KeepsOthers W W' ∧ ∃ T', I (k + 1) T' W' ∧ Keeps (fun b => T b ∨ b ∈ blk v) W W' ∧ ∀ b, T' b → (T b ∨ W.heap.size ≤ b ∨ b ∈ blk v) ∧ b < W'.heap.size
 | .ret, _, W' => KeepsOthers W W' ∧ Ix .ret W'
 | .exit id, _, W' => KeepsOthers W W' ∧ Ix (.exit id) W'
 | .goto t, _, W' => KeepsOthers W W' ∧ Ix (.goto t) W'
 | .panic _, _, _ => False
 | .outgrown, _, _ => False
theorem wpIn_rangeFuncT {F : Fence} {n : Nat} {P : Program} {g : Operand} {ps : Array Tmp} {assign body : Code} {Q : Exit → Act → World → Prop} {a : Act} {w : World}
  (hro : F.round = none) (h1 : 1 ≤ n) {gf : Nat} {lb : Array Value} (hg : a.eval g = .func (.func gf) #[] lb) (hFg : F.fn gf) (eg : ∀ args w, (callFunc gf args).run P w = .ok (.enter gf args) w)
  {X : Nat → Prop} {E : Nat → World → (Nat → Prop) → Value → Prop} {N : Nat} (hseq : SeqT F (n - 1) P gf lb X E N w) (hps : ps.size = 1)
  (I : Nat → (Nat → Prop) → World → Prop) (Ix : Code → World → Prop) (hI : ∀ k T A B, I k T A → CellsKept w.heap.size A B → I k T B) (hIx : ∀ c A B, Ix c A → CellsKept w.heap.size A B → Ix c B)
  (hE : ∀ k T A B v, E k A T v → CellsKept w.heap.size A B → E k B T v)
  (hEb : ∀ k T A v, E k A T v → ∀ b, b ∈ blk v → ∃ o : Obj, A.heap[b]? = some o ∧ o.isCells = true)
  (T0 : Nat → Prop) (hT0 : ∀ b, T0 b → ¬ X b ∧ b < w.heap.size) (h0 : I 0 T0 w)
  (hround : ∀ (l : Nat) (k : Nat) (T : Nat → Prop) (x : Value) (W : World), k < N → I k T W → E k W T x → ∀ (K : Act → World → Prop),
   (∀ a1, (∀ W', I k T W' → E k W' T x → body.wpIn (F.inRound l) (n - 1 - 1) P (postT I Ix k T x W') a1 W') → K a1 W) →
   assign.wpIn (F.inRound l) (n - 1 - 1) P (Exit.then K (fun _ _ _ => False)) { tmps := (ps.zip #[x]).foldl (fun t (p, v) => t.setIfInBounds p v) a.tmps, defers := [] } W)
  (hdone : ∀ (D : Nat) (T : Nat → Prop) (W : World), I N T W → W.heap[D]? = some (.deferred (some [])) → w.heap.size ≤ D → Q .normal { a with defers := { target := .collected D, args := #[] } :: a.defers } W)
  (hstop : ∀ (D : Nat) (c : Code) (W : World), Ix c W → W.heap[D]? = some (.deferred (some [])) → w.heap.size ≤ D → c.wpIn F n P Q { a with defers := { target := .collected D, args := #[] } :: a.defers } W) :
  (Code.rangeFunc g ps assign body).wpIn F n P Q a w := by
 refine wpIn_rangeFunc ?_
 intro fn hfn
 rw [hro]
 obtain ⟨rec, hrec⟩ : ∃ rec : LoopState → Option Code → Loop, rec = fun st pe => { state := st, pending := pe, fn, tmps := a.tmps, params := ps, assign, body, defers := w.heap.size } := ⟨_, rfl⟩
 obtain ⟨W1, hW1⟩ : ∃ W1, (w.alloc (.deferred (some []))).alloc (.loop (rec .ready none)) = W1 := ⟨_, rfl⟩
 have hb1 : Below w.heap.size w W1 := by
  rw [← hW1]; exact ((Below.refl _ w).alloc (Nat.le_refl _) _).alloc (by simp) _
 have hz1 : W1.heap.size = w.heap.size + 1 + 1 := by rw [← hW1]; simp
 have hL1 : W1.heap[w.heap.size + 1]? = some (.loop (rec .ready none)) := by
  rw [← hW1]; have := World.alloc_heap_new (w.alloc (.deferred (some []))) (.loop (rec .ready none)); rwa [World.size_alloc] at this
 have hK1 : W1.heap[w.heap.size]? = some (.deferred (some [])) := by
  rw [← hW1]; exact (Below.heap_alloc _ _ _ (by simp)).trans (World.alloc_heap_new w _)
 have hI1 : I 0 T0 W1 := hI _ _ _ _ h0 (CellsKept.of_below hb1)
 refine ⟨w.heap.size + 1, [{ target := .collected w.heap.size, args := #[] }], W1, { target := .fn (.func gf) lb, args := #[.func (.yield (w.heap.size + 1)) #[] #[]] }, W1, gf,
  #[.func (.yield (w.heap.size + 1)) #[] #[]] ++ lb, W1, ?_, ?_, ?_, ?_, fun _ => h1, ?_⟩
 · rw [← hW1, hrec]; exact run_enterLoop_outer _ _ _ _ _
 · simp only [resolve, hg]
   simp [go_sem]
 · intro f' hf'; simp [Target.leads] at hf'; subst hf'; exact hFg
 · simp [invoke, go_sem, eg]
 · refine (hseq (w.heap.size + 1)
    (fun k T W => I k T W ∧ W.heap[w.heap.size + 1]? = some (.loop (rec .ready none)) ∧ W.heap[w.heap.size]? = some (.deferred (some [])) ∧ ∀ b, T b → b ≠ w.heap.size ∧ b ≠ w.heap.size + 1)
    (fun W => ∃ c, Ix c W ∧ W.heap[w.heap.size + 1]? = some (.loop (rec .done (some c))) ∧ W.heap[w.heap.size]? = some (.deferred (some [])))
    W1 T0 hb1 (fun b hb => ⟨(hT0 b hb).1, by have := (hT0 b hb).2; omega⟩)
    (fun k T A B h hb => ⟨hI _ _ _ _ h.1 (CellsKept.of_below hb), (hb.block _ (Array.getElem?_eq_some_iff.1 h.2.1).1).trans h.2.1, (hb.block _ (Array.getElem?_eq_some_iff.1 h.2.2.1).1).trans h.2.2.1, h.2.2.2⟩)
    ?_ ⟨hI1, hL1, hK1, fun b hb => by have := (hT0 b hb).2; omega⟩).mono ?_
   · -- one round
     rintro k T W v hk ⟨hi, hl, hd, hTn⟩ hEv
     have hlt : w.heap.size + 1 < W.heap.size := (Array.getElem?_eq_some_iff.1 hl).1
     have hy := run_yield (P := P) (args := #[v]) hl (by rw [hrec]; simp [hps])
     rw [hrec] at hy
     refine ⟨fn, _, assign, body, hy, roundIn_of_wpIn hfn (hround _ k T v W hk hi hEv _ (fun a1 hbody => ⟨_, run_beginRound hl (by rw [hrec]), ?_⟩))⟩
     have hl2 : (W.putObj (w.heap.size + 1) (.loop { rec .ready none with state := .busy })).heap[w.heap.size + 1]? = some (.loop { rec .ready none with state := .busy }) := World.putObj_heap_same hlt
     have hk2 : (W.putObj (w.heap.size + 1) (.loop { rec .ready none with state := .busy })).heap[w.heap.size]? = some (.deferred (some [])) := (World.putObj_heap_other (by omega)).trans hd
     have hC2 := CellsKept.putObj (n0 := w.heap.size) (.loop { rec .ready none with state := .busy }) hl rfl (by omega)
     refine wpIn_mono (hbody _ (hI _ _ _ _ hi hC2) (hE _ _ _ _ _ hEv hC2)) ?_
     have fin : ∀ (jump : Option Code) (W3 : World), KeepsOthers (W.putObj (w.heap.size + 1) (.loop { rec .ready none with state := .busy })) W3 →
       (Instr.endRound (w.heap.size + 1) jump).run P W3 = .ok (.bool jump.isNone) (W3.putObj (w.heap.size + 1) (.loop (rec (if jump.isNone then .ready else .done) jump))) ∧
       W3.heap[w.heap.size + 1]? = some (.loop { rec .ready none with state := .busy }) ∧
       (W3.putObj (w.heap.size + 1) (.loop (rec (if jump.isNone then .ready else .done) jump))).heap[w.heap.size + 1]? = some (.loop (rec (if jump.isNone then .ready else .done) jump)) ∧
       (W3.putObj (w.heap.size + 1) (.loop (rec (if jump.isNone then .ready else .done) jump))).heap[w.heap.size]? = some (.deferred (some [])) := fun jump W3 hk3 => by
      have hl3 := hk3.same _ _ hl2 rfl
      have := run_endRound (P := P) jump hl3
      rw [hrec] at this ⊢
      exact ⟨this, by rw [hrec] at hl3; exact hl3, World.putObj_heap_same (Array.getElem?_eq_some_iff.1 hl3).1, (World.putObj_heap_other (by omega)).trans (hk3.same _ _ hk2 rfl)⟩
     rintro e a3 W3 hp
     cases e with
     | normal =>
       obtain ⟨hk3, T', hi3, hkT, hT'⟩ := hp
       obtain ⟨hr, hl3, hl4, hk4⟩ := fin none W3 hk3
       have hzW : ∀ o, (W.putObj (w.heap.size + 1) o).heap.size = W.heap.size := fun o => by simp [World.putObj]
       have hz3 : (W3.putObj (w.heap.size + 1) (.loop (rec .ready none))).heap.size = W3.heap.size := by simp [World.putObj]
       have hT2 : ∀ b, T' b → (T b ∨ W.heap.size ≤ b ∨ b ∈ blk v) ∧ b < W3.heap.size := fun b hb => by have := hT' b hb; rwa [hzW] at this
       refine ⟨_, _, hr, .inl ⟨rfl, T', ⟨hI _ _ _ _ hi3 (CellsKept.putObj _ hl3 rfl (by omega)), hl4, hk4, fun b hb => ?_⟩, ?_, fun b hb => ?_⟩⟩
       · rcases (hT2 b hb).1 with h | h | h
         · exact hTn b h
         · omega
         · obtain ⟨o, ho, hc⟩ := hEb _ _ _ _ hEv b h
           exact ⟨fun e => (by subst e; rw [hd] at ho; cases ho; cases hc), fun e => (by subst e; rw [hl] at ho; cases ho; cases hc)⟩
       · refine ⟨hkT.os, hkT.tape, hkT.output, ?_, fun b hb hnT => ?_⟩
         · have h3 := hkT.size
           rw [hzW] at h3
           show _ ≤ (W3.putObj (w.heap.size + 1) (.loop (rec .ready none))).heap.size
           omega
         · by_cases e : b = w.heap.size + 1
           · subst e
             exact hl4.trans hl.symm
           · show (W3.putObj (w.heap.size + 1) (.loop (rec .ready none))).heap[b]? = _
             rw [World.putObj_heap_other e, hkT.block b (by rw [hzW]; exact hb) hnT, World.putObj_heap_other e]
       · have := hT2 b hb
         exact ⟨this.1, by show b < (W3.putObj (w.heap.size + 1) (.loop (rec .ready none))).heap.size; omega⟩
     | ret =>
       obtain ⟨hk3, hi3⟩ := hp
       obtain ⟨hr, hl3, hl4, hk4⟩ := fin (some .ret) W3 hk3
       exact ⟨_, _, hr, .inr ⟨rfl, .ret, hIx _ _ _ hi3 (CellsKept.putObj _ hl3 rfl (by omega)), hl4, hk4⟩⟩
     | exit id =>
       obtain ⟨hk3, hi3⟩ := hp
       obtain ⟨hr, hl3, hl4, hk4⟩ := fin (some (.exit id)) W3 hk3
       exact ⟨_, _, hr, .inr ⟨rfl, .exit id, hIx _ _ _ hi3 (CellsKept.putObj _ hl3 rfl (by omega)), hl4, hk4⟩⟩
     | goto t =>
       obtain ⟨hk3, hi3⟩ := hp
       obtain ⟨hr, hl3, hl4, hk4⟩ := fin (some (.goto t)) W3 hk3
       exact ⟨_, _, hr, .inr ⟨rfl, .goto t, hIx _ _ _ hi3 (CellsKept.putObj _ hl3 rfl (by omega)), hl4, hk4⟩⟩
     | panic ch => exact hp.elim
     | outgrown => exact hp.elim
   · -- behind the iterator
     rintro e W2 ⟨⟨v, rfl⟩, (⟨T', hi, hl, hk, _⟩ | ⟨c, hi, hl, hk⟩)⟩
     · exact ⟨none, _, by have := run_endLoop (P := P) hl (by rw [hrec]; simp); rw [hrec] at this; exact this, hdone _ T' _ (hI _ _ _ _ hi (CellsKept.putObj _ hl rfl (by omega))) ((World.putObj_heap_other (by omega)).trans hk) (Nat.le_refl _)⟩
     · exact ⟨some c, _, by have := run_endLoop (P := P) hl (by rw [hrec]; simp); rw [hrec] at this; exact this, hstop _ c _ (hIx _ _ _ hi (CellsKept.putObj _ hl rfl (by omega))) ((World.putObj_heap_other (by omega)).trans hk) (Nat.le_refl _)⟩
theorem postM_mark {F : Fence} {n : Nat} {P : Program} {fn : Func} {R : Ending → World → Prop} {a : Act} {w : World} {v : Value} {D : Nat} (hd : a.defers = [{ target := .collected D, args := #[] }]) (hD : w.heap[D]? = some (.deferred (some [])))
  (h : (results fn a.tmps).run P (w.putObj D (.deferred none)) = .ok v (w.putObj D (.deferred none))) (hR : R (.returned v) (w.putObj D (.deferred none))) : bodyPostM F n P fn R .ret a w := by
 show LeavesInM F n P fn a.tmps R a.defers .returning w
 rw [hd]
 exact ⟨by simp, .inl ⟨D, _, rfl, run_takeDeferred hD, v, h, hR⟩⟩
end Go.Proofs.YtjompikdkhhlgaaGreatDoor
