/-
  What the texts above it need, part 6.
-/
import Derived.Test.YtjompikdkhhlgaaGreatKIsomorphismOf5
namespace Go.Proofs.YtjompikdkhhlgaaGreat
open Go.RowKit
theorem info_ints : (Tryz.prog.info? 23).map (fun i => (i.zero, i.size, i.bytes)) = some (some (.slice none 0 0), 1, 24) := by kernel_rfl
def rowsO (a : Hd) (hs : List EHd) (k : Nat) : List Hd := a :: (hs.take k).map fun h => h.2.2.2
def rowsI (a : Hd) (hs : List EHd) (k : Nat) : List Hd := a :: (hs.take k).map fun h => h.2.2.1
theorem rowsO_step {a : Hd} {hs : List EHd} {k : Nat} {x : EHd} (h : hs[k]? = some x) : rowsO a hs (k + 1) = rowsO a hs k ++ [x.2.2.2] := by
 unfold rowsO; rw [List.take_add_one, h]; simp
theorem rowsI_step {a : Hd} {hs : List EHd} {k : Nat} {x : EHd} (h : hs[k]? = some x) : rowsI a hs (k + 1) = rowsI a hs k ++ [x.2.2.1] := by
 unfold rowsI; rw [List.take_add_one, h]; simp
theorem outW_flat (hs : List EHd) : outW (hs.map egOf) = ((hs.map fun h => h.2.2.2).map fun h : Hd => h.2.2).flatten := by
 induction hs with
 | nil => rfl
 | cons x r ih => simp only [List.map_cons, outW, List.flatten_cons, ih]; rfl
theorem inpW_flat (hs : List EHd) : inpW (hs.map egOf) = ((hs.map fun h => h.2.2.1).map fun h : Hd => h.2.2).flatten := by
 induction hs with
 | nil => rfl
 | cons x r ih => simp only [List.map_cons, inpW, List.flatten_cons, ih]; rfl
theorem rows_rd {w : World} {A : Option Addr} {n c : Nat} {hs : List Hd} (h : Sl w 23 1 A n c (hs.map Hd.val)) (hr : ∀ x, x ∈ hs → RdI w x.1 x.2.2) : RdR w A hs :=
 ⟨fun i x hx => by
  obtain ⟨ad, hA, _, hc, _⟩ := Sl.cell h (show (hs.map Hd.val)[i]? = some x.val by rw [List.getElem?_map, hx]; rfl)
  exact ⟨ad, hA, hc⟩, hr⟩
set_option maxRecDepth 100000 in
set_option maxHeartbeats 8000000 in
theorem isMonogamous_any {v : Value} {g : Gr} (w : World) (h : RdGr w v g) (ok : OkG g) :
  Calls Tryz.prog 29 #[v] w fun e w' => e = .returned (.bool (monoB g)) ∧ Below w.heap.size w w' := by
 obtain ⟨D, hD⟩ : ∃ D, D = monoB g := ⟨_, rfl⟩
 have hDD := hD
 unfold monoB at hDD
 rw [← hD]
 have hG0 := h
 obtain ⟨A, c, hs, ⟨B, b, s⟩, ⟨C, d, t⟩, rfl, e1, e2, e3, hE, hRa, hRb⟩ := h
 obtain ⟨z, es, s0, t0⟩ := g
 have a1 : es = hs.map egOf := e1
 have a2 : s = s0 := e2
 have a3 : t = t0 := e3
 subst a2 a3
 obtain ⟨m, hm⟩ : ∃ m, m = hs.length := ⟨_, rfl⟩
 obtain ⟨p, hp⟩ : ∃ p, p = s.length := ⟨_, rfl⟩
 obtain ⟨r, hr⟩ : ∃ r, r = t.length := ⟨_, rfl⟩
 change RdGr w (.agg #[.int .i64 z, .slice A hs.length c, .slice B s.length b, .slice C t.length d]) (z, es, s, t) at hG0
 show Calls Tryz.prog _ #[.agg #[.int .i64 z, .slice A hs.length c, .slice B s.length b, .slice C t.length d]] w _
 rw [← hm, ← hp, ← hr] at hG0 ⊢
 obtain ⟨W, hW, bW, k0⟩ := (⟨_, rfl, t_below_alloc _ _, heap_alloc_new _ _⟩ : ∃ W, W = w.alloc (.cells #[.int .i64 z, .slice A m c, .slice B p b, .slice C r d] tGr) ∧ Below w.heap.size w W ∧ W.heap[w.heap.size]? = some (.cells #[.int .i64 z, .slice A m c, .slice B p b, .slice C r d] tGr))
 have hG := isGraph_any W (hG0.below bW) ok
 obtain ⟨T, hT⟩ : ∃ T, T = grB (z, es, s, t) := ⟨_, rfl⟩
 rw [← hT] at hG hDD
 have hol := out_len es
 have hOk := ok.2.2
 have hL1 : (s ++ outW es).length ≤ 16777216 := by
  have : cntE es + s.length + t.length ≤ 8388608 := hOk
  rw [List.length_append]; omega
 have hL2 : (t ++ inpW es).length ≤ 16777216 := by
  have : cntE es + s.length + t.length ≤ 8388608 := hOk
  rw [List.length_append]; omega
 have hEW := hE.below bW
 have hRaW : RdI W B s := RdI.below hRa bW
 have hRbW : RdI W C t := RdI.below hRb bW
 obtain ⟨⟨c0, c1, c2, c3⟩, f0, f1, f2, f3⟩ := t_box4 k0
 cases T
 case false =>
  obtain rfl : D = false := by rw [hDD]; rfl
  clear hDD hT hol hOk hL1 hL2; have hG_h := lH hG; have bW_h := lH bW; have k0_h := lH k0; have hD_h := lH hD; have hm_h := lH hm; have hp_h := lH hp; have hr_h := lH hr; clear hG bW k0 hD hm hp hr
  go_enter Tryz.func29, Tryz.ntmps29
  go_upto_region 1 with (fail)
  rw [← hW]
  clear hW
  go_wp2_with (fail)
  refine (hG_h.out).mono ?_
  rintro e w1 ⟨rfl, hb1⟩
  have hB := below_trans bW_h.out hb1 bW_h.out.size
  clear hb1; have hB_h := lH hB; clear hB
  go_wp2_with (fail)
  go_ret
  exact ⟨rfl, hB_h.out⟩
 case true =>
 obtain ⟨n, e1', hn1, hm60, hs12, ht12, hinW⟩ := grB_parts hT.symm
 have e1'' : z = (n : Int) := e1'
 subst e1''
 have hegB : ∀ e, e ∈ es → egB e = true := by
  have hv := hT.symm
  unfold grB at hv
  simp only [Bool.and_eq_true] at hv
  exact List.all_eq_true.1 hv.2.1
 have hm60' : m ≤ 60 := by have : es.length ≤ 60 := hm60; rw [a1, List.length_map] at this; omega
 have hsp : p ≤ 12 := by rw [hp]; exact hs12
 have htr : r ≤ 12 := by rw [hr]; exact ht12
 rw [Bool.true_and] at hDD
 have hO1 : ((rowsO (B, b, s) hs m).map fun h : Hd => h.2.2).flatten = orgW ((n : Int), es, s, t) := by
  unfold rowsO; rw [List.take_of_length_le (by omega), List.map_cons, List.flatten_cons, ← outW_flat, ← a1]; rfl
 have hI1 : ((rowsI (C, d, t) hs m).map fun h : Hd => h.2.2).flatten = dstW ((n : Int), es, s, t) := by
  unfold rowsI; rw [List.take_of_length_le (by omega), List.map_cons, List.flatten_cons, ← inpW_flat, ← a1]; rfl
 have hl1 : (rowsO (B, b, s) hs m).length = m + 1 := by unfold rowsO; simp; omega
 have hl2 : (rowsI (C, d, t) hs m).length = m + 1 := by unfold rowsI; simp; omega
 have hrd1 : ∀ W', Below W.heap.size W W' → ∀ x, x ∈ rowsO (B, b, s) hs m → RdI W' x.1 x.2.2 := fun W' hb x hx => by
  rcases List.mem_cons.1 hx with rfl | hx
  · exact hRaW.below hb
  · obtain ⟨y, hy, rfl⟩ := List.mem_map.1 hx
    exact ((hEW.below hb).2 y (List.mem_of_mem_take hy)).2
 have hrd2 : ∀ W', Below W.heap.size W W' → ∀ x, x ∈ rowsI (C, d, t) hs m → RdI W' x.1 x.2.2 := fun W' hb x hx => by
  rcases List.mem_cons.1 hx with rfl | hx
  · exact hRbW.below hb
  · obtain ⟨y, hy, rfl⟩ := List.mem_map.1 hx
    exact ((hEW.below hb).2 y (List.mem_of_mem_take hy)).1
 have hLo : (orgW ((n : Int), es, s, t)).length ≤ 1048576 ∧ (dstW ((n : Int), es, s, t)).length ≤ 1048576 := by
  have hb : ∀ l : List Eg, (∀ e, e ∈ l → egB e = true) → (outW l).length ≤ 2 * l.length ∧ (inpW l).length ≤ 2 * l.length := by
   intro l
   induction l with
   | nil => intro _; simp [outW, inpW]
   | cons e r ih =>
     intro h
     have h1 := egB_len (h e (by simp))
     have h2 := ih fun x hx => h x (by simp [hx])
     simp only [outW, inpW, List.length_append, List.length_cons]; omega
  have h2 := hb es hegB
  have h3 : es.length ≤ 60 := hm60
  have h4 : s.length ≤ 12 := hs12
  have h5 : t.length ≤ 12 := ht12
  constructor
  · show (s ++ outW es).length ≤ _
    rw [List.length_append]; omega
  · show (t ++ inpW es).length ≤ _
    rw [List.length_append]; omega
 have hU1 := fun (W' : World) (Q : Option Addr) (q : Nat) (hb : Below W.heap.size W W') (h : Sl W' 23 1 Q (m + 1) q ((rowsO (B, b, s) hs m).map Hd.val)) => occursOnce_any (n : Int) Q q (m + 1) (rowsO (B, b, s) hs m) (orgW ((n : Int), es, s, t)) W' (rows_rd h (hrd1 W' hb)) hl1 (by omega) hO1 hLo.1
 have hU2 := fun (W' : World) (Q : Option Addr) (q : Nat) (hb : Below W.heap.size W W') (h : Sl W' 23 1 Q (m + 1) q ((rowsI (C, d, t) hs m).map Hd.val)) => occursOnce_any (n : Int) Q q (m + 1) (rowsI (C, d, t) hs m) (dstW ((n : Int), es, s, t)) W' (rows_rd h (hrd2 W' hb)) hl2 (by omega) hI1 hLo.2
 obtain ⟨T1, hT1⟩ : ∃ T, T = prmN (n : Int) (orgW ((n : Int), es, s, t)) := ⟨_, rfl⟩
 obtain ⟨T2, hT2⟩ : ∃ T, T = prmN (n : Int) (dstW ((n : Int), es, s, t)) := ⟨_, rfl⟩
 simp only [← hT1] at hU1
 simp only [← hT2] at hU2
 have hDT : D = (T1 && T2) := by rw [hDD, hT1, hT2]
 have hsv : (Hd.val (B, b, s)) = .slice B p b := by unfold Hd.val; rw [hp]
 have htv : (Hd.val (C, d, t)) = .slice C r d := by unfold Hd.val; rw [hr]
 clear hDD hT hol hOk hL1 hL2 hegB hinW e1' hO1 hI1 hl1 hl2 hrd1 hrd2 hLo hT1 hT2 hD hRa hRb hE e1 e2 e3 hG0 ok hm60 hs12 ht12; have hG_h := lH hG; have bW_h := lH bW; have k0_h := lH k0; have hm_h := lH hm; have hp_h := lH hp; have hr_h := lH hr; have a1_h := lH a1; have hEW_h := lH hEW; have hRaW_h := lH hRaW; have hRbW_h := lH hRbW; have hU1_h := lH hU1; have hU2_h := lH hU2; have hDT_h := lH hDT; have hsv_h := lH hsv; have htv_h := lH htv; clear hG bW k0 hm hp hr a1 hEW hRaW hRbW hU1 hU2 hDT hsv htv
 go_enter Tryz.func29, Tryz.ntmps29
 go_upto_region 1 with (fail)
 rw [← hW]
 clear hW
 go_wp2_with (fail)
 refine (hG_h.out).mono ?_
 rintro e w1 ⟨rfl, hb1⟩
 have k1 := t_box_below k0_h.out hb1
 clear c0 c1 c2 c3 f0 f1 f2 f3; have hb1_h := lH hb1; have k1_h := lH k1; clear hb1 k1
 go_wp2_with (fail)
 go_cut [3, 4] (fun x y wx => ∃ Q1 Q2 : Nat, x = .slice (some ⟨Q1, 0, none⟩) 1 1 ∧ y = .slice (some ⟨Q2, 0, none⟩) 1 1 ∧ Sl wx 23 1 (some ⟨Q1, 0, none⟩) 1 1 [.slice B p b] ∧ Sl wx 23 1 (some ⟨Q2, 0, none⟩) 1 1 [.slice C r d] ∧ Q1 ≠ Q2 ∧ W.heap.size ≤ Q1 ∧ W.heap.size ≤ Q2 ∧ Below W.heap.size W wx)
 case first =>
  refine beginH (fun w' => w'.heap[w.heap.size]? = some (.cells #[.int .i64 (n : Int), .slice A m c, .slice B p b, .slice C r d] tGr)) (by kernel_rfl) ?_
  have hbd : Below w1.heap.size w1 w1.drew := below_drew (Below.refl _ _)
  generalize w1.drew = W4 at hbd ⊢
  have k4 := t_box_below k1_h.out hbd
  have hb4 := below_trans hb1_h.out hbd hb1_h.out.size
  have hz4 := hb4.size
  clear hbd; have k4_h := lH k4; have hb4_h := lH hb4; clear k4 hb4
  refine tkH 0 ?_ rfl k4_h.out (fun W' hW' => ?_) ?_; rotate_left; · (obtain ⟨⟨y0, y1, y2, y3⟩, y4, y5, y6, y7⟩ := t_box4 hW'; clear hW'; go_simp; first | done | with_reducible rfl)
  simp only [Act.put, nS]
  refine tkH 1 ?_ rfl k4_h.out (fun W' hW' => ?_) ?_; rotate_left; · (obtain ⟨⟨y0, y1, y2, y3⟩, y4, y5, y6, y7⟩ := t_box4 hW'; clear hW'; go_simp; first | done | with_reducible rfl)
  simp only [Act.put, nS]
  refine tkH 3 ?_ rfl k4_h.out (fun W' hW' => ?_) ?_; rotate_left; · (obtain ⟨⟨y0, y1, y2, y3⟩, y4, y5, y6, y7⟩ := t_box4 hW'; clear hW'; go_simp; first | done | with_reducible rfl)
  simp only [Act.put, nS]
  refine tkH 4 ?_ rfl k4_h.out (fun W' hW' => ?_) ?_; rotate_left; · (obtain ⟨⟨y0, y1, y2, y3⟩, y4, y5, y6, y7⟩ := t_box4 hW'; clear hW'; go_simp; first | done | with_reducible rfl)
  simp only [Act.put, nS]
  refine valOrH 2 5 (vi := .slice (some ⟨W4.heap.size, 0, none⟩) 1 1) (wi := W4.alloc (.cells #[.slice B p b] 23)) (vj := .slice (some ⟨W4.heap.size, 0, none⟩) 1 1) (wj := W4.alloc (.cells #[.slice C r d] 23)) rfl rfl (by kernel_rfl) (by rfl) (by rfl) ?hr1 ?hr2 ?hS1 ?h1 ?hS2 ?h2
  case hr1 => (go_simp; first | done | with_reducible rfl | (constructor <;> with_reducible rfl))
  case hr2 => (go_simp; first | done | with_reducible rfl | (constructor <;> with_reducible rfl))
  case hS1 => exact t_box_below k4_h.out (t_below_alloc _ _)
  case hS2 => exact t_box_below k4_h.out (t_below_alloc _ _)
  case h1 =>
   have hs1 : Sl (W4.alloc (.cells #[.slice B p b] 23)) 23 1 (some ⟨W4.heap.size, 0, none⟩) 1 1 [.slice B p b] := Sl.laid W4 23 1 1 #[.slice B p b] (by unfold maxLen; omega) rfl
   have bA := t_below_alloc W4 (.cells #[.slice B p b] 23)
   have hzA : (W4.alloc (.cells #[.slice B p b] 23)).heap.size = W4.heap.size + 1 := World.size_alloc _ _
   have kA := t_box_below k4_h.out bA
   have hbA := below_trans hb4_h.out bA hb4_h.out.size
   generalize W4.alloc (.cells #[.slice B p b] 23) = W5 at hs1 bA hzA kA hbA ⊢
   have bB := t_below_alloc W5 (.cells #[.slice C r d] 23)
   have kB := t_box_below kA bB
   have hs1' := hs1.below bB
   have hs2 : Sl (W5.alloc (.cells #[.slice C r d] 23)) 23 1 (some ⟨W5.heap.size, 0, none⟩) 1 1 [.slice C r d] := Sl.laid W5 23 1 1 #[.slice C r d] (by unfold maxLen; omega) rfl
   have hbB := below_trans hbA bB hbA.size
   clear hs1 bA bB hbA; have kA_h := lH kA; have kB_h := lH kB; have hs1'_h := lH hs1'; have hs2_h := lH hs2; have hbB_h := lH hbB; have hzA_h := lH hzA; clear kA kB hs1' hs2 hbB hzA
   simp only [Act.put, nS]
   refine tkH 6 ?_ rfl kA_h.out (fun W' hW' => ?_) ?_; rotate_left; · (skip; clear hW'; go_simp; first | done | with_reducible rfl)
   simp only [Act.put, nS]
   refine oneH 5 rfl (by kernel_rfl) (by rfl) (fun K hK => ?_)
   go_simp
   refine hK _ _ kB_h.out ?_
   clear hK K
   refine tkH 7 ?_ rfl kB_h.out (fun W' hW' => ?_) ?_; rotate_left; · (skip; clear hW'; go_simp; first | done | with_reducible rfl)
   simp only [Act.put, nS]
   refine doneH (by kernel_rfl) ?_
   go_wp2_with (fail)
   go_meet
   exact ⟨W4.heap.size, W5.heap.size, rfl, rfl, hs1'_h.out, hs2_h.out, by have := hzA_h.out; omega, hz4, by have := hzA_h.out; omega, hbB_h.out⟩
  case h2 =>
   have hs1 : Sl (W4.alloc (.cells #[.slice C r d] 23)) 23 1 (some ⟨W4.heap.size, 0, none⟩) 1 1 [.slice C r d] := Sl.laid W4 23 1 1 #[.slice C r d] (by unfold maxLen; omega) rfl
   have bA := t_below_alloc W4 (.cells #[.slice C r d] 23)
   have hzA : (W4.alloc (.cells #[.slice C r d] 23)).heap.size = W4.heap.size + 1 := World.size_alloc _ _
   have kA := t_box_below k4_h.out bA
   have hbA := below_trans hb4_h.out bA hb4_h.out.size
   generalize W4.alloc (.cells #[.slice C r d] 23) = W5 at hs1 bA hzA kA hbA ⊢
   have bB := t_below_alloc W5 (.cells #[.slice B p b] 23)
   have kB := t_box_below kA bB
   have hs1' := hs1.below bB
   have hs2 : Sl (W5.alloc (.cells #[.slice B p b] 23)) 23 1 (some ⟨W5.heap.size, 0, none⟩) 1 1 [.slice B p b] := Sl.laid W5 23 1 1 #[.slice B p b] (by unfold maxLen; omega) rfl
   have hbB := below_trans hbA bB hbA.size
   clear hs1 bA bB hbA; have kA_h := lH kA; have kB_h := lH kB; have hs1'_h := lH hs1'; have hs2_h := lH hs2; have hbB_h := lH hbB; have hzA_h := lH hzA; clear kA kB hs1' hs2 hbB hzA
   simp only [Act.put, nS]
   refine oneH 2 rfl (by kernel_rfl) (by rfl) (fun K hK => ?_)
   go_simp
   refine hK _ _ kB_h.out ?_
   clear hK K
   refine tkH 6 ?_ rfl kB_h.out (fun W' hW' => ?_) ?_; rotate_left; · (skip; clear hW'; go_simp; first | done | with_reducible rfl)
   simp only [Act.put, nS]
   refine tkH 7 ?_ rfl kB_h.out (fun W' hW' => ?_) ?_; rotate_left; · (skip; clear hW'; go_simp; first | done | with_reducible rfl)
   simp only [Act.put, nS]
   refine doneH (by kernel_rfl) ?_
   go_wp2_with (fail)
   go_meet
   exact ⟨W5.heap.size, W4.heap.size, rfl, rfl, hs2_h.out, hs1'_h.out, by have := hzA_h.out; omega, by have := hzA_h.out; omega, hz4, hbB_h.out⟩
 case rest =>
 obtain ⟨Q1, Q2, rfl, rfl, hs1, hs2, hne, hq1, hq2, hWc⟩ := hcut
 obtain ⟨w2, rfl⟩ : ∃ x, x = wc := ⟨_, rfl⟩
 have k2 := t_box_below k0_h.out hWc
 obtain ⟨⟨c0, c1, c2, c3⟩, f0, f1, f2, f3⟩ := t_box4 k2
 have hs1' : Sl w2 23 1 (some ⟨Q1, 0, none⟩) (0 + 1) 1 ((rowsO (B, b, s) hs 0).map Hd.val) := by unfold rowsO; simp only [List.take_zero, List.map_nil, List.map_cons]; rw [hsv_h.out]; exact hs1
 have hs2' : Sl w2 23 1 (some ⟨Q2, 0, none⟩) (0 + 1) 1 ((rowsI (C, d, t) hs 0).map Hd.val) := by unfold rowsI; simp only [List.take_zero, List.map_nil, List.map_cons]; rw [htv_h.out]; exact hs2
 have hap : ∀ x, x ∈ fpA (some (⟨Q1, 0, none⟩ : Addr)) → ¬ x ∈ fpA (some (⟨Q2, 0, none⟩ : Addr)) := fun x hx hx' => by simp at hx hx'; omega
 have hf1 : Fresh W.heap.size (some (⟨Q1, 0, none⟩ : Addr)) := fun x hx => by simp at hx; omega
 have hf2 : Fresh W.heap.size (some (⟨Q2, 0, none⟩ : Addr)) := fun x hx => by simp at hx; omega
 clear hs1 hs2 k2 hne hq1 hq2; have hs1'_h := lH hs1'; have hs2'_h := lH hs2'; have hap_h := lH hap; have hf1_h := lH hf1; have hf2_h := lH hf2; have hWc_h := lH hWc; clear hs1' hs2' hap hf1 hf2 hWc
 go_wp2_with (fail)
 clear c0 c1 c2 c3 f0 f1 f2 f3
 go_loopw [19, 3, 4] (fun i x y wr => ∃ (k c1 c2 : Nat) (A1 A2 : Option Addr), k ≤ m ∧ i = .int .i64 k ∧ x = .slice A1 (k + 1) c1 ∧ y = .slice A2 (k + 1) c2 ∧ Sl wr 23 1 A1 (k + 1) c1 ((rowsO (B, b, s) hs k).map Hd.val) ∧ Sl wr 23 1 A2 (k + 1) c2 ((rowsI (C, d, t) hs k).map Hd.val) ∧ (∀ x, x ∈ fpA A1 → ¬ x ∈ fpA A2) ∧ Fresh W.heap.size A1 ∧ Fresh W.heap.size A2 ∧ Below W.heap.size W wr) (fun i _ _ _ => m - (intOf i).toNat)
 case atStart => exact ⟨0, 1, 1, _, _, Nat.zero_le _, rfl, rfl, rfl, hs1'_h.out, hs2'_h.out, hap_h.out, hf1_h.out, hf2_h.out, hWc_h.out⟩
 case round =>
  clear hs1'_h hs2'_h hap_h hf1_h hf2_h hWc_h
  obtain ⟨k, e1, e2, A1, A2, hk, rfl, rfl, rfl, hS1, hS2, hap, hf1, hf2, hB1⟩ := hrel
  obtain ⟨wo, rfl⟩ : ∃ x, x = wr := ⟨_, rfl⟩
  have kr := t_box_below k0_h.out hB1
  by_cases hlt : k < m
  · obtain ⟨ad, κ, vv, B1, b1, s1, C1, b2, t1, rfl, hn, ⟨d0, d1, d2, d3⟩, -, -⟩ := (hEW_h.out.below hB1).at_ (j := k) (by rw [← hm_h.out]; exact hlt)
    have hst1 := rowsO_step (a := (B, b, s)) hn
    have hst2 := rowsI_step (a := (C, d, t)) hn
    simp only at hst1 hst2
    obtain ⟨p1, hp1⟩ : ∃ p1, p1 = s1.length := ⟨_, rfl⟩
    obtain ⟨r1, hr1'⟩ : ∃ r1, r1 = t1.length := ⟨_, rfl⟩
    rw [← hp1] at d2
    rw [← hr1'] at d3
    obtain ⟨W6, hW6, bW6, k6⟩ := (⟨_, rfl, t_below_alloc _ _, heap_alloc_new _ _⟩ : ∃ W, W = wo.alloc (.cells #[.int .i64 κ, .int .i64 vv, .slice B1 p1 b1, .slice C1 r1 b2] tEd) ∧ Below wo.heap.size wo W ∧ W.heap[wo.heap.size]? = some (.cells #[.int .i64 κ, .int .i64 vv, .slice B1 p1 b1, .slice C1 r1 b2] tEd))
    obtain ⟨⟨y0, y1, y2, y3⟩, g0, g1, g2, g3⟩ := t_box4 k6
    have hS1' := (hS1.below bW6).alloc (.cells #[.slice C1 r1 b2] 23)
    have hlt1 := hS1.lt
    have hlt2 := hS2.lt
    have hz6 := bW6.size
    have hz0 := hB1.size
    have hS26 := hS2.below bW6
    have hB6 := below_trans hB1 bW6 hB1.size
    have hr1_h := lH hr1'
    have hkI : (k : Int) < (m : Int) := by omega
    clear hr1' hn kr hS1 hS2 hB1; have hp1_h := lH hp1; have k6_h := lH k6; have hst1_h := lH hst1; have hst2_h := lH hst2; have hS1'_h := lH hS1'; have hS26_h := lH hS26; have hap_h := lH hap; have hf1_h := lH hf1; have hf2_h := lH hf2; have hB6_h := lH hB6; have hlt1_h := lH hlt1; have hlt2_h := lH hlt2; have bW6_h := lH bW6; clear hp1 k6 hst1 hst2 hS1' hS26 hap hf1 hf2 hB6 hlt1 hlt2 bW6
    go_upto_region 7 with (fail)
    rw [← hW6]
    clear hW6 d0 d1 d2 d3
    go_upto_region 8 with (at_builtin; refine wpList_append_Sl _ rfl _ _ _ rfl 23 Tryz.underlying80 info_ints rfl (by omega) rfl (hS1'_h.out) rfl (news := [.slice C1 r1 b2]) rfl (Sl.rdc (Sl.laid W6 23 1 1 #[.slice C1 r1 b2] (by unfold maxLen; omega) rfl)) (by intro u hu; simp at hu; subst hu; rfl) (by unfold maxLen; omega) (by omega) ?_; intro A3 c3 w3 hsA3 hA3 hkA3)
    have bal := t_below_alloc W6 (.cells #[.slice C1 r1 b2] 23)
    have hza : (W6.alloc (.cells #[.slice C1 r1 b2] 23)).heap.size = W6.heap.size + 1 := World.size_alloc _ _
    have hf1' := hf1_h.out
    have hf2' := hf2_h.out
    have hl1' := hlt1_h.out
    have hl2' := hlt2_h.out
    have hap' := hap_h.out
    have hS2a := (hS26_h.out.alloc (.cells #[.slice C1 r1 b2] 23)).keeps hkA3 (fun x hx e => hap' x e hx)
    have k6' := t_box_keeps (t_box_below k6_h.out bal) hkA3 (fun e => by have := hl1' _ e; omega)
    have hB7 := below_keeps (below_trans hB6_h.out bal hB6_h.out.size) hkA3 (Nat.le_trans hB6_h.out.size bal.size) hf1'
    have hsz3 := hkA3.size
    have hap3 : ∀ x, x ∈ fpA A3 → ¬ x ∈ fpA A2 := fun x hx hx' => by
     rcases hA3 x hx with h | h
     · exact hap' x h hx'
     · have := hl2' x hx'; omega
    have hf3 : Fresh W.heap.size A3 := fun x hx => by
     rcases hA3 x hx with h | h
     · exact hf1' x h
     · omega
    have hl3 := hsA3.lt
    have hl2b := hS2a.lt
    have hS2b := hS2a.alloc (.cells #[.slice B1 p1 b1] 23)
    clear y0 y1 y2 y3 g0 g1 g2 g3 hA3 hkA3 bal hf1' hl1' hl2' hap'
    obtain ⟨⟨y0, y1, y2, y3⟩, g0, g1, g2, g3⟩ := t_box4 k6'
    clear k6' hS2a hf2'; have hsA3_h := lH hsA3; have hS2b_h := lH hS2b; have hB7_h := lH hB7; have hap3_h := lH hap3; have hf3_h := lH hf3; have hl3_h := lH hl3; have hl2b_h := lH hl2b; clear hsA3 hS2b hB7 hap3 hf3 hl3 hl2b
    go_wp2_with (at_builtin; refine wpList_append_Sl _ rfl _ _ _ rfl 23 Tryz.underlying80 info_ints rfl (by omega) rfl (hS2b_h.out) rfl (news := [.slice B1 p1 b1]) rfl (Sl.rdc (Sl.laid w3 23 1 1 #[.slice B1 p1 b1] (by unfold maxLen; omega) rfl)) (by intro u hu; simp at hu; subst hu; rfl) (by unfold maxLen; omega) (by omega) ?_; intro A4 c4 w4 hsA4 hA4 hkA4)
    have bal := t_below_alloc w3 (.cells #[.slice B1 p1 b1] 23)
    have hzb : (w3.alloc (.cells #[.slice B1 p1 b1] 23)).heap.size = w3.heap.size + 1 := World.size_alloc _ _
    have hap3' := hap3_h.out
    have hl3' := hl3_h.out
    have hf2' := hf2_h.out
    have hS1c := (hsA3_h.out.alloc (.cells #[.slice B1 p1 b1] 23)).keeps hkA4 (fun x hx e => hap3' x hx e)
    have hB8 := below_keeps (below_trans hB7_h.out bal hB7_h.out.size) hkA4 (Nat.le_trans hB7_h.out.size bal.size) hf2'
    have hsz7 := hB7_h.out.size
    have hap4 : ∀ x, x ∈ fpA A3 → ¬ x ∈ fpA A4 := fun x hx hx' => by
     rcases hA4 x hx' with h | h
     · exact hap3' x hx h
     · have := hl3' x hx; omega
    have hf4 : Fresh W.heap.size A4 := fun x hx => by
     rcases hA4 x hx with h | h
     · exact hf2' x h
     · omega
    have hS1d : Sl w4 23 1 A3 (k + 1 + 1) c3 ((rowsO (B, b, s) hs (k + 1)).map Hd.val) := by
     rw [hst1_h.out, List.map_append]
     show Sl w4 _ 1 A3 (k + 1 + 1) c3 (_ ++ [.slice C1 t1.length b2])
     rw [← hr1_h.out]; exact hS1c
    have hS2d : Sl w4 23 1 A4 (k + 1 + 1) c4 ((rowsI (C, d, t) hs (k + 1)).map Hd.val) := by
     rw [hst2_h.out, List.map_append]
     show Sl w4 _ 1 A4 (k + 1 + 1) c4 (_ ++ [.slice B1 s1.length b1])
     rw [← hp1_h.out]; exact hsA4
    clear y0 y1 y2 y3 g0 g1 g2 g3 hA4 hkA4 bal hap3' hl3' hf2' hS1c hsA4; have hS1d_h := lH hS1d; have hS2d_h := lH hS2d; have hB8_h := lH hB8; have hap4_h := lH hap4; have hf4_h := lH hf4; clear hS1d hS2d hB8 hap4 hf4
    go_wp2_with (fail)
    go_roundw
    case rel => exact ⟨k + 1, c3, c4, A3, A4, by omega, by go_num, rfl, rfl, hS1d_h.out, hS2d_h.out, hap4_h.out, hf3_h.out, hf4_h.out, hB8_h.out⟩
    case measure => simp [intOf]; omega
  · obtain rfl : m = k := by omega
    have hV1 := hU1_h.out wo A1 e1 hB1 hS1
    obtain ⟨⟨y0, y1, y2, y3⟩, g0, g1, g2, g3⟩ := t_box4 kr
    clear hap hf1 hf2 kr hS1; have hV1_h := lH hV1; have hB1_h := lH hB1; have hS2_h := lH hS2; clear hV1 hB1 hS2
    go_wp2_with (fail)
    refine (hV1_h.out).mono ?_
    rintro e w3 ⟨rfl, hb3⟩
    have hB3 := below_trans hB1_h.out hb3 hB1_h.out.size
    have hS23 := hS2_h.out.below hb3
    have kr3 := t_box_below k0_h.out hB3
    have hBz := below_trans bW_h.out hB3 bW_h.out.size
    clear y0 y1 y2 y3 g0 g1 g2 g3 hb3
    cases T1
    case false =>
     obtain rfl : D = false := hDT_h.out
     clear hS23 kr3 hB3; have hBz_h := lH hBz; clear hBz
     go_wp2_with (fail)
     go_ret
     exact ⟨rfl, hBz_h.out⟩
    case true =>
     obtain rfl : D = T2 := hDT_h.out.trans (Bool.true_and _)
     have hV2 := hU2_h.out w3 A2 e2 hB3 hS23
     obtain ⟨⟨y0, y1, y2, y3⟩, g0, g1, g2, g3⟩ := t_box4 kr3
     clear hS23 kr3 hB3; have hBz_h := lH hBz; have hV2_h := lH hV2; clear hBz hV2
     go_wp2_with (fail)
     refine (hV2_h.out).mono ?_
     rintro e w4 ⟨rfl, hb4⟩
     have hBy := below_trans hBz_h.out hb4 hBz_h.out.size
     clear hb4 y0 y1 y2 y3 g0 g1 g2 g3; have hBy_h := lH hBy; clear hBy
     go_wp2_with (fail)
     go_ret
     exact ⟨rfl, hBy_h.out⟩
theorem mono_gr {g : Gr} (h : monoB g = true) : grB g = true := by
 unfold monoB at h
 simp only [Bool.and_eq_true] at h
 exact h.1
def cgG (g : Gr) : Gr := renG g (cnM g).1 (cnM g).2
theorem cgG_ok {g : Gr} {n : Nat} (ok : OkG g) (hMo : Mono g n) : OkG (cgG g) := renG_ok ok (cnM_perm hMo).2.1 (cnM_perm hMo).2.2
theorem mono_inW {g : Gr} {n : Nat} (h : Mono g n) : inW (n : Int) (t_allW g) = true := by
 unfold inW
 rw [List.all_eq_true]
 intro x hx
 have := h.inn x hx
 show t_inB x 0 ((n : Int) - 1) = true
 unfold t_inB
 rw [decide_eq_true_eq]
 omega
set_option maxRecDepth 100000 in
set_option maxHeartbeats 4000000 in
theorem canonical_any {v : Value} {g : Gr} (w : World) (n : Nat) (h : RdGr w v g) (ok : OkG g) (hMo : Mono g n) (hv : grB g = true) :
  Calls Tryz.prog 30 #[v] w fun e w' => ∃ v' fp, e = .returned v' ∧ OwGr w' v' (cgG g) fp ∧ FreshL w.heap.size fp ∧ Below w.heap.size w w' := by
 obtain ⟨m, hm⟩ : ∃ m, g.2.1.length = m := ⟨_, rfl⟩
 have hl1 := (cnM_perm hMo).1.2
 have hl2 := (cnM_perm hMo).2.2
 have hpe := (cnM_perm hMo).2.1
 rw [hm] at hl2
 have hm60 : m ≤ 60 := by rw [← hm]; exact hMo.m60
 have hin := mono_inW hMo
 obtain ⟨P, hP⟩ : ∃ P, cgG g = P := ⟨_, rfl⟩
 have hP' : renG g (cnM g).1 (cnM g).2 = P := hP
 rw [hP]
 obtain ⟨A, n0, c, B, m0, d, C, k0', e0, rfl⟩ := h.shape
 obtain ⟨z, hz⟩ : ∃ z, z = g.1 := ⟨_, rfl⟩
 rw [← hz] at h ⊢
 obtain ⟨W, hW, bW, k0, k1⟩ := allocs2 w (.cells #[.int .i64 z, .slice A n0 c, .slice B m0 d, .slice C k0' e0] tGr) (.cells #[.int .i64 0, .slice none 0 0, .slice none 0 0, .slice none 0 0] tGr)
 have hF := fun (W' : World) (hb : Below W.heap.size W W') => canonicalNumbers_any W' n m ((h.below bW).below hb) hMo hv hm
 have hR := fun (W' : World) (T U : Addr) (hb : Below W.heap.size W W') (ht : IS W' (some T) n (cnM g).1) (hu : IS W' (some U) m (cnM g).2) => renumbered_any W' n m (some T) n (cnM g).1 (some U) m (cnM g).2 ((h.below bW).below hb) ok ht.rd hu.rd hMo.hn hm hl1 hl2 hin hpe hm60
 simp only [hP'] at hR
 obtain ⟨⟨c0, c1, c2, c3⟩, f0, f1, f2, f3⟩ := t_box4 k0
 clear hMo hv hm h hz hP hP' hl1 hl2 hpe hin; have bW_h := lH bW; have k0_h := lH k0; have k1_h := lH k1; have hF_h := lH hF; have hR_h := lH hR; clear bW k0 k1 hF hR
 go_enter Tryz.func30, Tryz.ntmps30
 go_upto_region 1 with (fail)
 rw [← hW]
 clear hW
 refine beginH (fun w' => w'.heap[w.heap.size]? = some (.cells #[.int .i64 z, .slice A n0 c, .slice B m0 d, .slice C k0' e0] tGr)) (by kernel_rfl) ?_
 have hbd : Below W.heap.size W W.drew := below_drewN (Below.refl _ _) 1
 generalize W.drew = W1 at hbd ⊢
 have kd := t_box_below k0_h.out hbd
 clear c0 c1 c2 c3 f0 f1 f2 f3
 refine tkH 0 ?_ rfl kd (fun W' hW' => ?_) ?_; rotate_left; · (obtain ⟨⟨y0, y1, y2, y3⟩, z0, z1, z2, z3⟩ := t_box4 hW'; clear hW'; go_simp; first | done | with_reducible rfl)
 simp only [Act.put, nS]
 refine tkH 1 ?_ rfl kd (fun W' hW' => ?_) ?_; rotate_left; · (obtain ⟨⟨y0, y1, y2, y3⟩, z0, z1, z2, z3⟩ := t_box4 hW'; clear hW'; go_simp; first | done | with_reducible rfl)
 simp only [Act.put, nS]
 refine' callH 2 (f := _) (args := _) rfl (by kernel_rfl) (by rfl) ?_ ?_; rotate_left 2; · (go_simp; first | done | with_reducible rfl | (constructor <;> with_reducible rfl))
 refine (hF_h.out W1 hbd).mono ?_
 rintro e w2 ⟨Wa, Ea, rfl, hI1, hI2, _, _, _, hb2⟩
 have hb12 := below_trans hbd hb2 hbd.size
 have kd2 := t_box_below kd hb2
 have hRc := hR_h.out w2 Wa Ea hb12 hI1 hI2
 refine ⟨_, rfl, kd2, ?_⟩
 simp only [Act.put, nS]
 refine tkH 3 ?_ rfl kd2 (fun W' hW' => ?_) ?_; rotate_left; · (skip; clear hW'; go_simp; first | done | with_reducible rfl)
 simp only [Act.put, nS]
 refine tkH 4 ?_ rfl kd2 (fun W' hW' => ?_) ?_; rotate_left; · (skip; clear hW'; go_simp; first | done | with_reducible rfl)
 simp only [Act.put, nS]
 refine' callH 5 (f := _) (args := _) rfl (by kernel_rfl) (by rfl) ?_ ?_; rotate_left 2; · (go_simp; first | done | with_reducible rfl | (constructor <;> with_reducible rfl))
 refine (hRc).mono ?_
 rintro e w6 ⟨v6, fp6, rfl, hO6, hf6, hb6⟩
 have kd6 := t_box_below kd2 hb6
 obtain ⟨A6, n6, c6, B6, m6, d6, C6, q6, u6, rfl⟩ := hO6.shape
 refine ⟨_, rfl, kd6, ?_⟩
 simp only [Act.put, nS]
 have hb16 := below_trans hb12 hb6 hb12.size
 have k1d := t_box_below k1_h.out hb16
 have hk1 := t_box_lt k1_h.out
 have hz2 := hb12.size
 have hB6 := below_trans bW_h.out hb16 bW_h.out.size
 obtain ⟨⟨d0, d1, d2, d3⟩, g0', g1, g2, g3⟩ := t_box4 k1d
 obtain ⟨s1, s2⟩ := set4 (a := .int .i64 P.1) (b := .slice A6 n6 c6) (c := .slice B6 m6 d6) (d := .slice C6 q6 u6) k1d
 have hBs := below_keeps hB6 s2 hB6.size (fun k hk => by omega)
 have hwW := bW_h.out.size
 have hOs := hO6.keeps s2 (fun x hx e => by have := hf6 x hx; omega)
 have hFs : FreshL w.heap.size fp6 := fun x hx => by have := hf6 x hx; omega
 have kds := t_box_keeps kd6 s2 (by omega)
 clear hb6 hO6 hB6 k1d s2 hf6 hRc hI1 hI2 hb2 hbd kd kd2 hb12; have s1_h := lH s1; have hBs_h := lH hBs; have hOs_h := lH hOs; have hFs_h := lH hFs; clear s1 hBs hOs hFs
 refine oneH 6 rfl (by kernel_rfl) (by rfl) (fun K hK => ?_)
 go_simp
 refine hK _ _ kds ?_
 clear hK K
 refine doneH (by kernel_rfl) ?_
 go_wp2_with (fail)
 refine bodyPost_ret (results_cell_row rfl _ _ (w.heap.size + 1) _ _ (0, 0) _ rfl s1_h.out Tryz.underlying29 rfl (by kernel_rfl)) rfl ?_
 exact ⟨_, _, rfl, hOs_h.out, hFs_h.out, hBs_h.out⟩
set_option maxRecDepth 100000 in
set_option maxHeartbeats 4000000 in
theorem cnGraph_any {v : Value} {g : Gr} (w : World) (n : Nat) (h : RdGr w v g) (ok : OkG g) (hMo : Mono g n) (_hv : grB g = true) :
  Calls Tryz.prog 26 #[v] w fun e w' => ∃ v' fp, e = .returned v' ∧ OwGr w' v' (cgG g) fp ∧ FreshL w.heap.size fp ∧ Below w.heap.size w w' := by
 obtain ⟨m, hm⟩ : ∃ m, g.2.1.length = m := ⟨_, rfl⟩
 have hl1 := (cnM_perm hMo).1.2
 have hl2 := (cnM_perm hMo).2.2
 have hpe := (cnM_perm hMo).2.1
 rw [hm] at hl2
 have hm60 : m ≤ 60 := by rw [← hm]; exact hMo.m60
 have hin := mono_inW hMo
 obtain ⟨P, hP⟩ : ∃ P, cgG g = P := ⟨_, rfl⟩
 have hP' : renG g (cnM g).1 (cnM g).2 = P := hP
 rw [hP]
 obtain ⟨A, n0, c, B, m0, d, C, k0', e0, rfl⟩ := h.shape
 obtain ⟨z, hz⟩ : ∃ z, z = g.1 := ⟨_, rfl⟩
 rw [← hz] at h ⊢
 obtain ⟨W, hW, bW, k0, k1⟩ := allocs2 w (.cells #[.int .i64 z, .slice A n0 c, .slice B m0 d, .slice C k0' e0] tGr) (.cells #[.int .i64 0, .slice none 0 0, .slice none 0 0, .slice none 0 0] tGr)
 have hF := fun (W' : World) (hb : Below W.heap.size W W') => cnNumbers_any W' n m ((h.below bW).below hb) hMo hm
 have hR := fun (W' : World) (T U : Addr) (hb : Below W.heap.size W W') (ht : IS W' (some T) n (cnM g).1) (hu : IS W' (some U) m (cnM g).2) => hgRenumber_any W' n m (some T) n (cnM g).1 (some U) m (cnM g).2 ((h.below bW).below hb) ok ht.rd hu.rd hMo.hn hm hl1 hl2 hin hpe hm60
 simp only [hP'] at hR
 obtain ⟨⟨c0, c1, c2, c3⟩, f0, f1, f2, f3⟩ := t_box4 k0
 clear hMo _hv hm h hz hP hP' hl1 hl2 hpe hin; have bW_h := lH bW; have k0_h := lH k0; have k1_h := lH k1; have hF_h := lH hF; have hR_h := lH hR; clear bW k0 k1 hF hR
 go_enter Tryz.func26, Tryz.ntmps26
 go_upto_region 1 with (fail)
 rw [← hW]
 clear hW
 go_wp2_with (fail)
 refine (hF_h.out W (Below.refl _ _)).mono ?_
 rintro e w2 ⟨Wa, Ea, rfl, hI1, hI2, _, _, _, hb2⟩
 have kd2 := t_box_below k0_h.out hb2
 have hRc := hR_h.out w2 Wa Ea hb2 hI1 hI2
 have k1b := t_box_below k1_h.out hb2
 have hB2 := below_trans bW_h.out hb2 bW_h.out.size
 have hz2 := hb2.size
 clear c0 c1 c2 c3 f0 f1 f2 f3
 obtain ⟨⟨c0, c1, c2, c3⟩, f0, f1, f2, f3⟩ := t_box4 kd2
 clear hb2 hI1 hI2 kd2; have hRc_h := lH hRc; have k1b_h := lH k1b; have hB2_h := lH hB2; clear hRc k1b hB2
 go_wp2_with (fail)
 refine (hRc_h.out).mono ?_
 rintro e w6 ⟨v6, fp6, rfl, hO6, hf6, hb6⟩
 obtain ⟨A6, n6, c6, B6, m6, d6, C6, q6, u6, rfl⟩ := hO6.shape
 have k1d := t_box_below k1b_h.out hb6
 have hk1 := t_box_lt k1b_h.out
 have hB6 := below_trans hB2_h.out hb6 hB2_h.out.size
 obtain ⟨⟨d0, d1, d2, d3⟩, g0', g1, g2, g3⟩ := t_box4 k1d
 obtain ⟨s1, s2⟩ := set4 (a := .int .i64 P.1) (b := .slice A6 n6 c6) (c := .slice B6 m6 d6) (d := .slice C6 q6 u6) k1d
 have hBs := below_keeps hB6 s2 hB6.size (fun k hk => by omega)
 have hwW := bW_h.out.size
 have hOs := hO6.keeps s2 (fun x hx e => by have := hf6 x hx; omega)
 have hFs : FreshL w.heap.size fp6 := fun x hx => by have := hf6 x hx; omega
 clear hb6 hO6 hB6 k1d s2 hf6; have s1_h := lH s1; have hBs_h := lH hBs; have hOs_h := lH hOs; have hFs_h := lH hFs; clear s1 hBs hOs hFs
 go_wp2_with (fail)
 refine bodyPost_ret (results_cell_row rfl _ _ (w.heap.size + 1) _ _ (0, 0) _ rfl s1_h.out Tryz.underlying29 rfl (by kernel_rfl)) rfl ?_
 exact ⟨_, _, rfl, hOs_h.out, hFs_h.out, hBs_h.out⟩
set_option maxRecDepth 100000 in
set_option maxHeartbeats 8000000 in
theorem axSame_any {v v' : Value} {g g' : Gr} (w : World) (h : RdGr w v g) (h' : RdGr w v' g') (ok : OkG g) (ok' : OkG g') :
  Calls Tryz.prog 61 #[v, v'] w fun e w' => e = .returned (.bool (decide (g = g'))) ∧ Below w.heap.size w w' := by
 obtain ⟨D, hD⟩ : ∃ D, D = decide (g = g') := ⟨_, rfl⟩
 rw [← hD]
 obtain ⟨A, c, hs, ⟨B, b, s⟩, ⟨C, d, t⟩, rfl, e1, e2, e3, hE, hRa, hRb⟩ := h
 obtain ⟨A', c', hs', ⟨B', b', s'⟩, ⟨C', d', t'⟩, rfl, e1', e2', e3', hE', hRa', hRb'⟩ := h'
 obtain ⟨z, L, s0, t0⟩ := g
 obtain ⟨z', L', s0', t0'⟩ := g'
 have a1 : L = hs.map egOf := e1
 have a2 : s = s0 := e2
 have a3 : t = t0 := e3
 have a1' : L' = hs'.map egOf := e1'
 have a2' : s' = s0' := e2'
 have a3' : t' = t0' := e3'
 subst a2 a3 a2' a3'
 have hRs : RdI w B s := hRa
 have hRt : RdI w C t := hRb
 have hRs' : RdI w B' s' := hRa'
 have hRt' : RdI w C' t' := hRb'
 obtain ⟨E1, hE1⟩ : ∃ E, E = decide (s = s') := ⟨_, rfl⟩
 obtain ⟨E2, hE2⟩ : ∃ E, E = decide (t = t') := ⟨_, rfl⟩
 obtain ⟨E3, hE3⟩ : ∃ E, E = decide (L = L') := ⟨_, rfl⟩
 have hDD : D = (decide (z = z') && (E3 && (E1 && E2))) := by
  rw [hD, hE1, hE2, hE3, Bool.eq_iff_iff]
  simp only [Prod.mk.injEq, decide_eq_true_eq, Bool.and_eq_true]
 have hLl : L.length = hs.length := by rw [a1, List.length_map]
 have hLl' : L'.length = hs'.length := by rw [a1', List.length_map]
 have hlen1 : L.length ≤ 1048576 := ok.1.1
 have hlen2 : L'.length ≤ 1048576 := ok'.1.1
 have ls : s.length ≤ 1048576 := ok.1.2.1
 have lt : t.length ≤ 1048576 := ok.1.2.2
 have ls' : s'.length ≤ 1048576 := ok'.1.2.1
 have lt' : t'.length ≤ 1048576 := ok'.1.2.2
 have hlE : ∀ x, x ∈ L → x.2.2.1.length ≤ 1048576 ∧ x.2.2.2.length ≤ 1048576 := ok.2.1
 have hlE' : ∀ x, x ∈ L' → x.2.2.1.length ≤ 1048576 ∧ x.2.2.2.length ≤ 1048576 := ok'.2.1
 show Calls Tryz.prog _ #[.agg #[.int .i64 z, .slice A hs.length c, .slice B s.length b, .slice C t.length d], .agg #[.int .i64 z', .slice A' hs'.length c', .slice B' s'.length b', .slice C' t'.length d']] w _
 obtain ⟨p, hp⟩ : ∃ p, s.length = p := ⟨_, rfl⟩
 obtain ⟨r, hr⟩ : ∃ p, t.length = p := ⟨_, rfl⟩
 obtain ⟨p', hp'⟩ : ∃ p, s'.length = p := ⟨_, rfl⟩
 obtain ⟨r', hr'⟩ : ∃ p, t'.length = p := ⟨_, rfl⟩
 obtain ⟨m, hm⟩ : ∃ p, hs.length = p := ⟨_, rfl⟩
 obtain ⟨m', hm'⟩ : ∃ p, hs'.length = p := ⟨_, rfl⟩
 have hS1 := fun (W : World) (hb : Below w.heap.size w W) => l1Same_any B B' b b' p p' s s' W (hRs.below hb) (hRs'.below hb) hp hp' (by omega) (by omega)
 have hS2 := fun (W : World) (hb : Below w.heap.size w W) => l1Same_any C C' d d' r r' t t' W (hRt.below hb) (hRt'.below hb) hr hr' (by omega) (by omega)
 simp only [← hE1] at hS1
 simp only [← hE2] at hS2
 rw [hp, hr, hp', hr', hm, hm']
 rw [hm] at hLl
 rw [hm'] at hLl'
 obtain ⟨W, hW, bW, k0, k1⟩ := allocs2 w (.cells #[.int .i64 z, .slice A m c, .slice B p b, .slice C r d] tGr) (.cells #[.int .i64 z', .slice A' m' c', .slice B' p' b', .slice C' r' d'] tGr)
 obtain ⟨⟨c0, c1, c2, c3⟩, f0, f1, f2, f3⟩ := t_box4 k0
 obtain ⟨⟨d0, d1, d2, d3⟩, g0, g1, g2, g3⟩ := t_box4 k1
 have hmI : m ≤ 1048576 ∧ m' ≤ 1048576 := by omega
 clear hD hE1 hE2 e1 e2 e3 e1' e2' e3' hRa hRb hRa' hRb' hRs hRt hRs' hRt' hlen1 hlen2 ls lt ls' lt' ok ok' hp hr hp' hr'; have hS1_h := lH hS1; have hS2_h := lH hS2; have bW_h := lH bW; have k0_h := lH k0; have k1_h := lH k1; have hDD_h := lH hDD; have hE_h := lH hE; have hE'_h := lH hE'; have a1_h := lH a1; have a1'_h := lH a1'; have hLl_h := lH hLl; have hLl'_h := lH hLl'; have hlE_h := lH hlE; have hlE'_h := lH hlE'; have hE3_h := lH hE3; have hm_h := lH hm; have hm'_h := lH hm'; clear hS1 hS2 bW k0 k1 hDD hE hE' a1 a1' hLl hLl' hlE hlE' hE3 hm hm'
 by_cases hk : z = z'
 case neg =>
  obtain rfl : D = false := by rw [hDD_h.out, decide_eq_false hk]; rfl
  go_enter Tryz.func61, Tryz.ntmps61
  go_upto_region 1 with (fail)
  rw [← hW]
  clear hW
  go_wp2_with (fail)
  go_ret
  exact ⟨rfl, bW_h.out⟩
 subst hk
 by_cases hmm : m = m'
 case neg =>
  have hmm' : ¬ (m : Int) = (m' : Int) := by omega
  obtain rfl : E3 = false := by
   rw [hE3_h.out]
   exact decide_eq_false fun e => hmm (by rw [← hLl_h.out, ← hLl'_h.out, e])
  obtain rfl : D = false := by rw [hDD_h.out]; simp
  go_enter Tryz.func61, Tryz.ntmps61
  go_upto_region 1 with (fail)
  rw [← hW]
  clear hW
  go_wp2_with (fail)
  go_ret
  exact ⟨rfl, bW_h.out⟩
 subst hmm
 go_enter Tryz.func61, Tryz.ntmps61
 go_upto_region 1 with (fail)
 rw [← hW]
 clear hW
 go_wp2_with (fail)
 refine ((hS1_h.out W bW_h.out)).mono ?_
 rintro e w1 ⟨rfl, hb1⟩
 have hB1 := below_trans bW_h.out hb1 bW_h.out.size
 cases E1
 case false =>
  obtain rfl : D = false := by rw [hDD_h.out]; simp
  clear hb1; have hB1_h := lH hB1; clear hB1
  go_wp2_with (fail)
  go_ret
  exact ⟨rfl, hB1_h.out⟩
 have k01 := t_box_below k0_h.out hb1
 have k11 := t_box_below k1_h.out hb1
 clear c0 c1 c2 c3 f0 f1 f2 f3 d0 d1 d2 d3 g0 g1 g2 g3
 obtain ⟨⟨c0, c1, c2, c3⟩, f0, f1, f2, f3⟩ := t_box4 k01
 obtain ⟨⟨d0, d1, d2, d3⟩, g0, g1, g2, g3⟩ := t_box4 k11
 clear hb1; have hB1_h := lH hB1; have k01_h := lH k01; have k11_h := lH k11; clear hB1 k01 k11
 go_wp2_with (fail)
 refine ((hS2_h.out w1 hB1_h.out)).mono ?_
 rintro e w2 ⟨rfl, hb2⟩
 have hB2 := below_trans hB1_h.out hb2 hB1_h.out.size
 cases E2
 case false =>
  obtain rfl : D = false := by rw [hDD_h.out]; simp
  clear hb2; have hB2_h := lH hB2; clear hB2
  go_wp2_with (fail)
  go_ret
  exact ⟨rfl, hB2_h.out⟩
 have k02 := t_box_below k01_h.out hb2
 have k12 := t_box_below k11_h.out hb2
 have hDE : D = E3 := by rw [hDD_h.out]; simp
 clear c0 c1 c2 c3 f0 f1 f2 f3 d0 d1 d2 d3 g0 g1 g2 g3
 obtain ⟨⟨c0, c1, c2, c3⟩, f0, f1, f2, f3⟩ := t_box4 k02
 obtain ⟨⟨d0, d1, d2, d3⟩, g0, g1, g2, g3⟩ := t_box4 k12
 clear hb2; have hB2_h := lH hB2; have k02_h := lH k02; have k12_h := lH k12; have hDE_h := lH hDE; clear hB2 k02 k12 hDE
 go_wp2_with (fail)
 clear c0 c1 c2 c3 f0 f1 f2 f3 d0 d1 d2 d3 g0 g1 g2 g3
 go_loopw [41] (fun i wr => ∃ k : Nat, k ≤ m ∧ i = .int .i64 k ∧ L.take k = L'.take k ∧ Below w2.heap.size w2 wr) (fun i _ => m - (intOf i).toNat)
 case atStart => exact ⟨0, Nat.zero_le _, rfl, by simp, Below.refl _ _⟩
 case round =>
  obtain ⟨k, hk, rfl, hpre, hbo⟩ := hrel
  obtain ⟨wo, rfl⟩ : ∃ x, x = wr := ⟨_, rfl⟩
  by_cases hlt : k < m
  · have hBo := below_trans hB2_h.out hbo hB2_h.out.size
    obtain ⟨ad, κ, vl, B1, b1, l1, C1, b2, l2, hae, hn1, ⟨u0, u1, u2, u3⟩, hr1, hr2⟩ := (hE_h.out.below hBo).at_ (j := k) (by rw [hm_h.out]; exact hlt)
    obtain ⟨ad', κ', vl', B1', b1', l1', C1', b2', l2', hae', hn1', ⟨v0, v1, v2, v3⟩, hr1', hr2'⟩ := (hE'_h.out.below hBo).at_ (j := k) (by rw [hm'_h.out]; exact hlt)
    subst hae hae'
    have hx : L[k]? = some (κ, vl, l1, l2) := by rw [a1_h.out, List.getElem?_map, hn1]; rfl
    have hx' : L'[k]? = some (κ', vl', l1', l2') := by rw [a1'_h.out, List.getElem?_map, hn1']; rfl
    have hl := hlE_h.out _ (List.mem_of_getElem? hx)
    have hl' := hlE'_h.out _ (List.mem_of_getElem? hx')
    simp only at hl hl'
    have hno : (κ, vl, l1, l2) ≠ (κ', vl', l1', l2') → D = false := fun hne => by
     rw [hDE_h.out, hE3_h.out]
     refine decide_eq_false fun e => hne ?_
     rw [e, hx'] at hx
     exact (Option.some.inj hx).symm
    have hyes : (κ, vl, l1, l2) = (κ', vl', l1', l2') → L.take (k + 1) = L'.take (k + 1) := fun e => by rw [List.take_add_one, List.take_add_one, hx, hx', hpre, e]
    obtain ⟨q1, hq1⟩ : ∃ q, l1.length = q := ⟨_, rfl⟩
    obtain ⟨q2, hq2⟩ : ∃ q, l2.length = q := ⟨_, rfl⟩
    obtain ⟨q1', hq1'⟩ : ∃ q, l1'.length = q := ⟨_, rfl⟩
    obtain ⟨q2', hq2'⟩ : ∃ q, l2'.length = q := ⟨_, rfl⟩
    rw [hq1] at u2
    rw [hq2] at u3
    rw [hq1'] at v2
    rw [hq2'] at v3
    obtain ⟨W7, hW7, b7, k6, k7⟩ := allocs2 wo (.cells #[.int .i64 κ, .int .i64 vl, .slice B1 q1 b1, .slice C1 q2 b2] tEd) (.cells #[.int .i64 κ', .int .i64 vl', .slice B1' q1' b1', .slice C1' q2' b2'] tEd)
    have hs1 := fun (W' : World) (hb : Below wo.heap.size wo W') => l1Same_any B1 B1' b1 b1' q1 q1' l1 l1' W' (hr1.below hb) (hr1'.below hb) hq1 hq1' (by omega) (by omega)
    have hs2 := fun (W' : World) (hb : Below wo.heap.size wo W') => l1Same_any C1 C1' b2 b2' q2 q2' l2 l2' W' (hr2.below hb) (hr2'.below hb) hq2 hq2' (by omega) (by omega)
    obtain ⟨T1, hT1⟩ : ∃ T, decide (l1 = l1') = T := ⟨_, rfl⟩
    obtain ⟨T2, hT2⟩ : ∃ T, decide (l2 = l2') = T := ⟨_, rfl⟩
    simp only [hT1] at hs1
    simp only [hT2] at hs2
    have kz := t_box_below k02_h.out hbo
    have kz' := t_box_below k12_h.out hbo
    have hbo7 := below_trans hbo b7 hbo.size
    have hBo7 := below_trans hBo b7 hBo.size
    have hkI : (k : Int) < (m : Int) := by omega
    obtain ⟨⟨c0, c1, c2, c3⟩, f0, f1, f2, f3⟩ := t_box4 kz
    obtain ⟨⟨d0, d1, d2, d3⟩, g0, g1, g2, g3⟩ := t_box4 kz'
    clear kz kz' hr1 hr2 hr1' hr2' hn1 hn1' hq1 hq2 hq1' hq2' hx hx' hbo hBo hl hl' hpre
    obtain ⟨⟨x0, x1, x2, x3⟩, x4, x5, x6, x7⟩ := t_box4 k6
    obtain ⟨⟨y0, y1, y2, y3⟩, y4, y5, y6, y7⟩ := t_box4 k7
    have hE1 := t_below_alloc wo (.cells #[.int .i64 κ, .int .i64 vl, .slice B1 q1 b1, .slice C1 q2 b2] tEd)
    have c0' := (hE1.cell (World.block_lt_of_cell? _ _ c0)).trans c0
    have c1' := (hE1.cell (World.block_lt_of_cell? _ _ c1)).trans c1
    have d1' := (hE1.cell (World.block_lt_of_cell? _ _ d1)).trans d1
    have v0' := (hE1.cell (World.block_lt_of_cell? _ _ v0)).trans v0
    have v1' := (hE1.cell (World.block_lt_of_cell? _ _ v1)).trans v1
    have v2' := (hE1.cell (World.block_lt_of_cell? _ _ v2)).trans v2
    have v3' := (hE1.cell (World.block_lt_of_cell? _ _ v3)).trans v3
    have hno_h := lH hno; have hyes_h := lH hyes; have b7_h := lH b7; have k6_h := lH k6; have k7_h := lH k7; have hs1_h := lH hs1; have hs2_h := lH hs2; have hT1_h := lH hT1; have hT2_h := lH hT2; have hbo7_h := lH hbo7; have hBo7_h := lH hBo7; have hE1_h := lH hE1; clear hno hyes b7 k6 k7 hs1 hs2 hT1 hT2 hbo7 hBo7 hE1
    go_upto_region 7 with (fail)
    rw [← hW7]
    clear hW7 c0 c1 c2 c3 f0 f1 f2 f3 d0 d1 d2 d3 g0 g1 g2 g3 u0 u1 u2 u3 v0 v1 v2 v3 c0' c1' d1' v0' v1' v2' v3' hE1_h
    by_cases hκ : κ = κ'
    case neg =>
     obtain rfl : D = false := hno_h.out fun e => hκ (congrArg (·.1) e)
     go_wp2_with (fail)
     go_ret
     exact ⟨rfl, hBo7_h.out⟩
    by_cases hvl : vl = vl'
    case neg =>
     obtain rfl : D = false := hno_h.out fun e => hvl (congrArg (·.2.1) e)
     go_wp2_with (fail)
     go_ret
     exact ⟨rfl, hBo7_h.out⟩
    subst hκ hvl
    go_wp2_with (fail)
    refine ((hs1_h.out W7 b7_h.out)).mono ?_
    rintro e w8 ⟨rfl, hb8⟩
    have hBo8 := below_trans hBo7_h.out hb8 hBo7_h.out.size
    cases T1
    case false =>
     obtain rfl : D = false := hno_h.out fun e => (of_decide_eq_false hT1_h.out) (congrArg (·.2.2.1) e)
     clear hb8; have hBo8_h := lH hBo8; clear hBo8
     go_wp2_with (fail)
     go_ret
     exact ⟨rfl, hBo8_h.out⟩
    have k68 := t_box_below k6_h.out hb8
    have k78 := t_box_below k7_h.out hb8
    have b78 := below_trans b7_h.out hb8 b7_h.out.size
    have hbo8 := below_trans hbo7_h.out hb8 hbo7_h.out.size
    clear x0 x1 x2 x3 x4 x5 x6 x7 y0 y1 y2 y3 y4 y5 y6 y7
    obtain ⟨⟨x0, x1, x2, x3⟩, x4, x5, x6, x7⟩ := t_box4 k68
    obtain ⟨⟨y0, y1, y2, y3⟩, y4, y5, y6, y7⟩ := t_box4 k78
    clear k68 k78 hb8; have hBo8_h := lH hBo8; have b78_h := lH b78; have hbo8_h := lH hbo8; clear hBo8 b78 hbo8
    go_wp2_with (fail)
    refine ((hs2_h.out w8 b78_h.out)).mono ?_
    rintro e w9 ⟨rfl, hb9⟩
    have hBo9 := below_trans hBo8_h.out hb9 hBo8_h.out.size
    have hbo9 := below_trans hbo8_h.out hb9 hbo8_h.out.size
    cases T2
    case false =>
     obtain rfl : D = false := hno_h.out fun e => (of_decide_eq_false hT2_h.out) (congrArg (·.2.2.2) e)
     clear hb9; have hBo9_h := lH hBo9; clear hBo9
     go_wp2_with (fail)
     go_ret
     exact ⟨rfl, hBo9_h.out⟩
    have hpre2 := hyes_h.out (by rw [of_decide_eq_true hT1_h.out, of_decide_eq_true hT2_h.out])
    clear hb9 hBo9; have hbo9_h := lH hbo9; have hpre2_h := lH hpre2; clear hbo9 hpre2
    go_wp2_with (fail)
    go_roundw
    case rel => exact ⟨k + 1, by omega, by go_num, hpre2_h.out, hbo9_h.out⟩
    case measure => simp [intOf]; omega
  · obtain rfl : m = k := by omega
    have hLL : L = L' := by rw [List.take_of_length_le (by rw [hLl_h.out]; exact Nat.le_refl _), List.take_of_length_le (by rw [hLl'_h.out]; exact Nat.le_refl _)] at hpre; exact hpre
    have hDt : D = true := by rw [hDE_h.out, hE3_h.out]; exact decide_eq_true hLL
    have hBe := below_trans hB2_h.out hbo hB2_h.out.size
    subst hDt
    have hBe_h := lH hBe; clear hBe
    go_wp2_with (fail)
    go_ret
    exact ⟨rfl, hBe_h.out⟩
set_option maxHeartbeats 400000 in
theorem slicesEqual_any (A B : Option Addr) (c d : Nat) (l m : List Int) (w : World) (ha : RdI w A l) (hb : RdI w B m) (hl : l.length ≤ 17592186044416) :
  Calls Tryz.prog 87 #[.slice A l.length c, .slice B m.length d] w fun e w' => e = .returned (.bool (decide (l = m))) ∧ Qt w w' := by
 by_cases hlen : l.length = m.length
 · have h0 : ((l.length : Int) != (m.length : Int)) = false := by rw [hlen]; simp
   go_enter Tryz.func87, Tryz.ntmps87
   go_wp2
   go_loopw [13] (fun i wr => ∃ k n : Nat, k ≤ l.length ∧ i = .int .i64 k ∧ l.take k = m.take k ∧ wr = w.drewN n)
    (fun i _ => l.length - (intOf i).toNat)
   case atStart => exact ⟨0, 0, Nat.zero_le _, rfl, by simp, rfl⟩
   case round =>
    obtain ⟨k, n, hk, rfl, htk, rfl⟩ := hrel
    by_cases hlt : k < l.length
    · obtain ⟨ad, x, rfl, hx, hc⟩ := ha.at_ hlt
      obtain ⟨ad', y, rfl, hy, hc'⟩ := hb.at_ (j := k) (by omega)
      have hlt2 : (k : Int) < (m.length : Int) := by omega
      have HT := lH htk; have HL := lH hlen; have HX := lH hx; have HY := lH hy; clear htk hlen hx hy ha hb h0
      go_wp2
      go_quiet (fail)
      go_wp2
      · have hne : (x != y) = true := by assumption
        go_ret
        refine ⟨ret_bool ?_, _, World.drewN_drewN _ _ _⟩
        have : ¬ l = m := by
         intro e
         have h1 := HX.out; have h2 := HY.out
         rw [e, h2] at h1
         simp at hne; exact hne (Option.some.inj h1).symm
        simp [this]
      · have heq : (x != y) = false := by assumption
        go_roundw
        case rel =>
         refine ⟨k + 1, _, by omega, by go_num, ?_, rfl⟩
         have e : x = y := by simpa using heq
         rw [List.take_add_one, List.take_add_one, HT.out, HX.out, HY.out, e]
        case measure => simp [intOf]; omega
    · obtain rfl : k = l.length := by omega
      have HT := lH htk; clear htk
      go_wp2
      go_ret
      refine ⟨ret_bool ?_, _, rfl⟩
      have := HT.out
      rw [List.take_of_length_le (Nat.le_refl _), List.take_of_length_le (by omega)] at this
      simp [this]
 · have h0 : ((l.length : Int) != (m.length : Int)) = true := by simp; omega
   go_enter Tryz.func87, Tryz.ntmps87
   go_wp2
   go_ret
   refine ⟨ret_bool ?_, 0, rfl⟩
   have : ¬ l = m := fun e => hlen (by rw [e])
   simp [this]
set_option maxRecDepth 100000 in
set_option maxHeartbeats 4000000 in
theorem equalEdges_any (k v : Int) (B C : Option Addr) (b c : Nat) (l m : List Int) (k' v' : Int) (B' C' : Option Addr) (b' c' : Nat) (l' m' : List Int) (w : World) (h1 : RdI w B l) (h2 : RdI w C m) (h1' : RdI w B' l') (h2' : RdI w C' m') (hl : l.length ≤ 1048576) (hm : m.length ≤ 1048576) :
  Calls Tryz.prog 89 #[.agg #[.int .i64 k, .int .i64 v, .slice B l.length b, .slice C m.length c], .agg #[.int .i64 k', .int .i64 v', .slice B' l'.length b', .slice C' m'.length c']] w fun e w' => e = .returned (.bool (decide (((k, v, l, m) : Eg) = (k', v', l', m')))) ∧ Below w.heap.size w w' := by
 obtain ⟨D, hD⟩ : ∃ D, D = decide (((k, v, l, m) : Eg) = (k', v', l', m')) := ⟨_, rfl⟩
 rw [← hD]
 obtain ⟨E1, hE1⟩ : ∃ E, E = decide (l = l') := ⟨_, rfl⟩
 obtain ⟨E2, hE2⟩ : ∃ E, E = decide (m = m') := ⟨_, rfl⟩
 have hDD : D = (decide (k = k') && (decide (v = v') && (E1 && E2))) := by
  rw [hD, hE1, hE2, Bool.eq_iff_iff]
  simp
 have hS1 := fun (W : World) (hb : Below w.heap.size w W) => slicesEqual_any B B' b b' l l' W (h1.below hb) (h1'.below hb) (by omega)
 have hS2 := fun (W : World) (hb : Below w.heap.size w W) => slicesEqual_any C C' c c' m m' W (h2.below hb) (h2'.below hb) (by omega)
 obtain ⟨p, hp⟩ : ∃ p, p = l.length := ⟨_, rfl⟩
 obtain ⟨q, hq⟩ : ∃ p, p = m.length := ⟨_, rfl⟩
 obtain ⟨p', hp'⟩ : ∃ p, p = l'.length := ⟨_, rfl⟩
 obtain ⟨q', hq'⟩ : ∃ p, p = m'.length := ⟨_, rfl⟩
 simp only [← hp, ← hp', ← hE1] at hS1
 simp only [← hq, ← hq', ← hE2] at hS2
 rw [← hp, ← hq, ← hp', ← hq']
 obtain ⟨W, hW, bW, k0, k1⟩ := allocs2 w (.cells #[.int .i64 k, .int .i64 v, .slice B p b, .slice C q c] tEd) (.cells #[.int .i64 k', .int .i64 v', .slice B' p' b', .slice C' q' c'] tEd)
 obtain ⟨⟨c0, c1, c2, c3⟩, f0, f1, f2, f3⟩ := t_box4 k0
 obtain ⟨⟨d0, d1, d2, d3⟩, g0, g1, g2, g3⟩ := t_box4 k1
 clear hD hE1 hE2 h1 h2 h1' h2' hl hm hp hq hp' hq'; have hS1_h := lH hS1; have hS2_h := lH hS2; have bW_h := lH bW; have k0_h := lH k0; have k1_h := lH k1; have hDD_h := lH hDD; clear hS1 hS2 bW k0 k1 hDD
 by_cases hk : k = k'
 case neg =>
  have hbq : (k == k') = false := by rw [beq_eq_false_iff_ne]; exact hk
  obtain rfl : D = false := by rw [hDD_h.out, decide_eq_false hk]; rfl
  go_enter Tryz.func89, Tryz.ntmps89
  go_upto_region 1 with (fail)
  rw [← hW]
  clear hW
  go_wp2_with (fail)
  go_ret
  exact ⟨rfl, bW_h.out⟩
 subst hk
 by_cases hv : v = v'
 case neg =>
  have hbq : (v == v') = false := by rw [beq_eq_false_iff_ne]; exact hv
  obtain rfl : D = false := by rw [hDD_h.out, decide_eq_false hv]; simp
  go_enter Tryz.func89, Tryz.ntmps89
  go_upto_region 1 with (fail)
  rw [← hW]
  clear hW
  go_wp2_with (fail)
  go_ret
  exact ⟨rfl, bW_h.out⟩
 subst hv
 have hDE : D = (E1 && E2) := by rw [hDD_h.out]; simp
 have hDE_h := lH hDE; clear hDE
 go_enter Tryz.func89, Tryz.ntmps89
 go_upto_region 1 with (fail)
 rw [← hW]
 clear hW
 go_wp2_with (fail)
 refine ((hS1_h.out _ bW_h.out)).mono ?_
 rintro e w1 ⟨rfl, hq1⟩
 have hb1 : Below W.heap.size W w1 := Qt.below hq1
 have hB1 := below_trans bW_h.out hb1 bW_h.out.size
 have k01 := t_box_below k0_h.out hb1
 have k11 := t_box_below k1_h.out hb1
 clear c0 c1 c2 c3 f0 f1 f2 f3 d0 d1 d2 d3 g0 g1 g2 g3 hq1
 obtain ⟨⟨c0, c1, c2, c3⟩, f0, f1, f2, f3⟩ := t_box4 k01
 obtain ⟨⟨d0, d1, d2, d3⟩, g0, g1, g2, g3⟩ := t_box4 k11
 clear k01 k11 hb1
 cases E1
 case false =>
  obtain rfl : D = false := hDE_h.out
  have hB1_h := lH hB1; clear hB1
  go_wp2_with (fail)
  go_ret
  exact ⟨rfl, hB1_h.out⟩
 case true =>
  obtain rfl : D = E2 := hDE_h.out.trans (Bool.true_and _)
  have hB1_h := lH hB1; clear hB1
  go_wp2_with (fail)
  refine ((hS2_h.out _ hB1_h.out)).mono ?_
  rintro e w2 ⟨rfl, hq2⟩
  have hB2 := below_trans hB1_h.out (Qt.below hq2) hB1_h.out.size
  clear hq2; have hB2_h := lH hB2; clear hB2
  go_wp2_with (fail)
  go_ret
  exact ⟨rfl, hB2_h.out⟩
set_option maxRecDepth 100000 in
set_option maxHeartbeats 2000000 in
theorem eqMatch_law {v v' : Value} {m m' : Ma} {w : World} (h : RdMa w v m) (h' : RdMa w v' m') (ok : OkMa m) :
  Calls Tryz.prog 18 #[v, v'] w fun e w' => e = .returned (.bool (decide (m = m'))) ∧ Below w.heap.size w w' := by
 obtain ⟨⟨B, b, s⟩, ⟨C, d, t⟩, rfl, e2, e3, hRa, hRb⟩ := h
 obtain ⟨⟨B', b', s'⟩, ⟨C', d', t'⟩, rfl, e2', e3', hRa', hRb'⟩ := h'
 obtain ⟨s0, t0⟩ := m
 obtain ⟨s0', t0'⟩ := m'
 have a2 : s = s0 := e2
 have a3 : t = t0 := e3
 have b2 : s' = s0' := e2'
 have b3 : t' = t0' := e3'
 subst a2 a3 b2 b3
 obtain ⟨ok2, ok3, -⟩ := ok
 have ok2' : s.length ≤ 1048576 := ok2
 have ok3' : t.length ≤ 1048576 := ok3
 have hQ1 := fun (W : World) (hb : Below w.heap.size w W) => eqIntS_any B B' b b' s s' W (RdI.below hRa hb) (RdI.below hRa' hb) (by omega)
 have hQ2 := fun (W : World) (hb : Below w.heap.size w W) => eqIntS_any C C' d d' t t' W (RdI.below hRb hb) (RdI.below hRb' hb) (by omega)
 show Calls Tryz.prog _ #[.agg #[.slice B s.length b, .slice C t.length d], .agg #[.slice B' s'.length b', .slice C' t'.length d']] w fun e w' => e = .returned (.bool (decide (((s, t) : Ma) = (s', t')))) ∧ Below w.heap.size w w'
 obtain ⟨D, hD⟩ : ∃ D, D = decide (((s, t) : Ma) = (s', t')) := ⟨_, rfl⟩
 obtain ⟨D1, hD1⟩ : ∃ D, D = decide (s = s') := ⟨_, rfl⟩
 obtain ⟨D2, hD2⟩ : ∃ D, D = decide (t = t') := ⟨_, rfl⟩
 rw [← hD]
 simp only [← hD1] at hQ1
 simp only [← hD2] at hQ2
 have hDD : D = (D1 && D2) := by
  rw [hD, hD1, hD2, Bool.eq_iff_iff]; simp
 obtain ⟨p, hp⟩ : ∃ p, p = s.length := ⟨_, rfl⟩
 obtain ⟨q, hq⟩ : ∃ q, q = t.length := ⟨_, rfl⟩
 obtain ⟨p', hp'⟩ : ∃ p, p = s'.length := ⟨_, rfl⟩
 obtain ⟨q', hq'⟩ : ∃ q, q = t'.length := ⟨_, rfl⟩
 simp only [← hp, ← hp'] at hQ1
 simp only [← hq, ← hq'] at hQ2
 rw [← hp, ← hq, ← hp', ← hq']
 obtain ⟨W, hW, bW, k0, k1⟩ := allocs2 w (.cells #[.slice B p b, .slice C q d] tMa) (.cells #[.slice B' p' b', .slice C' q' d'] tMa)
 obtain ⟨⟨c0, c1⟩, f0, f1⟩ := t_box2 k0
 obtain ⟨⟨d0, d1⟩, g0, g1⟩ := t_box2 k1
 clear hRa hRa' hRb hRb' hD hD1 hD2 hp hq hp' hq' e2 e3 e2' e3' ok2 ok3
 cases D1
 · obtain rfl : D = false := by rw [hDD]; rfl
   clear hDD; have hQ1_h := lH hQ1; have hQ2_h := lH hQ2; have k0_h := lH k0; have k1_h := lH k1; have bW_h := lH bW; clear hQ1 hQ2 k0 k1 bW
   go_enter Tryz.func18, Tryz.ntmps18
   go_upto_region 1 with (fail)
   rw [← hW]
   clear hW
   go_wp2_with (fail)
   refine (hQ1_h.out W bW_h.out).mono ?_
   rintro e w2 ⟨rfl, hq2⟩
   have hB2 := below_trans bW_h.out hq2.below bW_h.out.size
   clear hq2; have hB2_h := lH hB2; clear hB2
   go_wp2_with (fail)
   go_ret
   exact ⟨rfl, hB2_h.out⟩
 · obtain rfl : D = D2 := by rw [hDD]; rfl
   clear hDD; have hQ1_h := lH hQ1; have hQ2_h := lH hQ2; have k0_h := lH k0; have k1_h := lH k1; have bW_h := lH bW; clear hQ1 hQ2 k0 k1 bW
   go_enter Tryz.func18, Tryz.ntmps18
   go_upto_region 1 with (fail)
   rw [← hW]
   clear hW
   go_wp2_with (fail)
   refine (hQ1_h.out W bW_h.out).mono ?_
   rintro e w2 ⟨rfl, hq2⟩
   clear c0 c1 f0 f1 d0 d1 g0 g1
   obtain ⟨⟨c0, c1⟩, f0, f1⟩ := t_box2 (box_qt k0_h.out hq2)
   obtain ⟨⟨d0, d1⟩, g0, g1⟩ := t_box2 (box_qt k1_h.out hq2)
   have hB2 := below_trans bW_h.out hq2.below bW_h.out.size
   clear hq2; have hB2_h := lH hB2; clear hB2
   go_wp2_with (fail)
   refine (hQ2_h.out w2 hB2_h.out).mono ?_
   rintro e w3 ⟨rfl, hq3⟩
   have hB3 := below_trans hB2_h.out hq3.below hB2_h.out.size
   clear hq3; have hB3_h := lH hB3; clear hB3
   cases D
   · go_wp2_with (fail)
     go_ret
     exact ⟨rfl, hB3_h.out⟩
   · go_wp2_with (fail)
     go_ret
     exact ⟨rfl, hB3_h.out⟩
theorem cell_below {w w' : World} {ad : Addr} {u : Value} (h : w.cell? ad = some u) (hb : Below w.heap.size w w') : w'.cell? ad = some u := (hb.cell (World.block_lt_of_cell? w _ h)).trans h
set_option maxRecDepth 100000 in
set_option maxHeartbeats 4000000 in
theorem edgesEqual_any (A B : Option Addr) (c d m : Nat) (hs gs : List EHd) (L M : List Eg) (w : World) (ha : RdE w A hs) (hb : RdE w B gs) (ea : L = hs.map egOf) (eb : M = gs.map egOf) (hla : L.length = m) (hlb : M.length = m) (hm : m ≤ 1048576) (hL : ∀ e, e ∈ L → e.2.2.1.length ≤ 1048576 ∧ e.2.2.2.length ≤ 1048576) :
  Calls Tryz.prog 88 #[.slice A m c, .slice B m d, .func (.func 89) #[] #[]] w fun e w' => e = .returned (.bool (decide (L = M))) ∧ Below w.heap.size w w' := by
 obtain ⟨T, hT⟩ : ∃ T, T = decide (L = M) := ⟨_, rfl⟩
 rw [← hT]
 have h1 : hs.length = m := by rw [← hla, ea, List.length_map]
 have h2 : gs.length = m := by rw [← hlb, eb, List.length_map]
 have ea_h := lH ea; have eb_h := lH eb; have hT_h := lH hT; have hL_h := lH hL; have h1_h := lH h1; have h2_h := lH h2; have hla_h := lH hla; have hlb_h := lH hlb; clear ea eb hT hL h1 h2 hla hlb
 go_enter Tryz.func88, Tryz.ntmps88
 go_wp2_with (fail)
 go_loopw [17] (fun i wr => ∃ k : Nat, k ≤ m ∧ i = .int .i64 k ∧ L.take k = M.take k ∧ Below w.heap.size w wr) (fun i _ => m - (intOf i).toNat)
 case atStart => exact ⟨0, Nat.zero_le _, rfl, by simp, Below.refl _ _⟩
 case round =>
  obtain ⟨k, hk, rfl, htk, hB⟩ := hrel
  obtain ⟨wo, rfl⟩ : ∃ x, x = wr := ⟨_, rfl⟩
  by_cases hlt : k < m
  case neg =>
   obtain rfl : m = k := by omega
   have ht : T = true := by
    rw [hT_h.out]
    rw [List.take_of_length_le (Nat.le_of_eq hla_h.out), List.take_of_length_le (Nat.le_of_eq hlb_h.out)] at htk
    exact decide_eq_true htk
   subst ht
   have htk_h := lH htk; have hB_h := lH hB; clear htk hB
   go_wp2_with (fail)
   go_ret
   exact ⟨rfl, hB_h.out⟩
  obtain ⟨ad, κ, vv, B1, b1, s1, C1, b2, t1, rfl, hn, ⟨d0, d1, d2, d3⟩, hr1, hr2⟩ := (ha.below hB).at_ (j := k) (by rw [h1_h.out]; exact hlt)
  obtain ⟨ad3, κ', vv', B3, b3, s3, C3, b4, t3, rfl, hn3, ⟨y0, y1, y2, y3⟩, hr3, hr4⟩ := (hb.below hB).at_ (j := k) (by rw [h2_h.out]; exact hlt)
  have hek : L[k]? = some (κ, vv, s1, t1) := by rw [ea_h.out, List.getElem?_map, hn]; rfl
  have hem : M[k]? = some (κ', vv', s3, t3) := by rw [eb_h.out, List.getElem?_map, hn3]; rfl
  have hln := hL_h.out _ (List.mem_of_getElem? hek)
  have hkI : (k : Int) < (m : Int) := by omega
  obtain ⟨W6, hW6, bW6, k6, k7⟩ := allocs2 wo (.cells #[.int .i64 κ, .int .i64 vv, .slice B1 s1.length b1, .slice C1 t1.length b2] tEd) (.cells #[.int .i64 κ', .int .i64 vv', .slice B3 s3.length b3, .slice C3 t3.length b4] tEd)
  have hQ := equalEdges_any κ vv B1 C1 b1 b2 s1 t1 κ' vv' B3 C3 b3 b4 s3 t3 W6 (hr1.below bW6) (hr2.below bW6) (hr3.below bW6) (hr4.below bW6) hln.1 hln.2
  obtain ⟨E, hE⟩ : ∃ E, E = decide (((κ, vv, s1, t1) : Eg) = (κ', vv', s3, t3)) := ⟨_, rfl⟩
  rw [← hE] at hQ
  have hyes : E = true → L.take (k + 1) = M.take (k + 1) := fun hh => by
   have := of_decide_eq_true (hE.symm.trans hh)
   rw [List.take_add_one, List.take_add_one, hek, hem, htk, this]
  have hnot : E = false → T = false := fun hh => by
   rw [hT_h.out]
   refine decide_eq_false fun e => ?_
   have := of_decide_eq_false (hE.symm.trans hh)
   rw [e, hem] at hek
   exact this (Option.some.inj hek).symm
  have hB6 := below_trans hB bW6 hB.size
  obtain ⟨p1, hp1⟩ : ∃ p1, p1 = s1.length := ⟨_, rfl⟩
  obtain ⟨r1, hr1'⟩ : ∃ r1, r1 = t1.length := ⟨_, rfl⟩
  obtain ⟨p3, hp3⟩ : ∃ p1, p1 = s3.length := ⟨_, rfl⟩
  obtain ⟨r3, hr3'⟩ : ∃ r1, r1 = t3.length := ⟨_, rfl⟩
  rw [← hp1, ← hp3, ← hr1', ← hr3'] at hQ
  rw [← hp1, ← hp3, ← hr1', ← hr3'] at hW6
  rw [← hp1, ← hr1'] at k6
  rw [← hp3, ← hr3'] at k7
  rw [← hp1] at d2
  rw [← hr1'] at d3
  rw [← hp3] at y2
  rw [← hr3'] at y3
  obtain ⟨⟨x0, x1, x2, x3⟩, x4, x5, x6, x7⟩ := t_box4 k6
  obtain ⟨⟨z0, z1, z2, z3⟩, z4, z5, z6, z7⟩ := t_box4 k7
  have bA := t_below_alloc wo (.cells #[.int .i64 κ, .int .i64 vv, .slice B1 p1 b1, .slice C1 r1 b2] tEd)
  have y0 := cell_below y0 bA
  have y1 := cell_below y1 bA
  have y2 := cell_below y2 bA
  have y3 := cell_below y3 bA
  clear hn hn3 hr1 hr2 hr3 hr4 hek hem hln hE hp1 hr1' hp3 hr3' htk hB bA k6 k7 bW6; have hQ_h := lH hQ; have hyes_h := lH hyes; have hnot_h := lH hnot; have hB6_h := lH hB6; clear hQ hyes hnot hB6
  go_upto_region 7 with (fail)
  rw [← hW6]
  clear hW6
  go_wp2_with (fail)
  refine (hQ_h.out).mono ?_
  rintro e w7 ⟨rfl, hb7⟩
  have hB7 := below_trans hB6_h.out hb7 hB6_h.out.size
  clear hb7
  cases E
  case false =>
   obtain rfl : T = false := hnot_h.out rfl
   have hB7_h := lH hB7; clear hB7
   go_wp2_with (fail)
   go_ret
   exact ⟨rfl, hB7_h.out⟩
  case true =>
   have htk := hyes_h.out rfl
   have hB7_h := lH hB7; have htk_h := lH htk; clear hB7 htk
   go_wp2_with (fail)
   go_roundw
   case rel => exact ⟨k + 1, by omega, by go_num, htk_h.out, hB7_h.out⟩
   case measure => simp [intOf]; omega
set_option maxRecDepth 100000 in
set_option maxHeartbeats 4000000 in
theorem edgesLen_any (A B : Option Addr) (c d m n : Nat) (fv : Value) (w : World) (hmn : ¬ m = n) (_hm : m ≤ 1048576) (_hn : n ≤ 1048576) :
  Calls Tryz.prog 88 #[.slice A m c, .slice B n d, fv] w fun e w' => e = .returned (.bool false) ∧ Below w.heap.size w w' := by
 have hI : ¬ (m : Int) = (n : Int) := by omega
 go_enter Tryz.func88, Tryz.ntmps88
 go_wp2_with (fail)
 go_ret
 exact ⟨rfl, Below.refl _ _⟩
set_option maxRecDepth 100000 in
set_option maxHeartbeats 4000000 in
theorem equalGraphs_any {v v' : Value} {g g' : Gr} (w : World) (h : RdGr w v g) (h' : RdGr w v' g') (ok : OkG g) (ok' : OkG g') :
  Calls Tryz.prog 62 #[v, v'] w fun e w' => e = .returned (.bool (decide (g = g'))) ∧ Below w.heap.size w w' := by
 obtain ⟨D, hD⟩ : ∃ D, D = decide (g = g') := ⟨_, rfl⟩
 rw [← hD]
 obtain ⟨A, c, hs, ⟨B, b, s⟩, ⟨C, d, t⟩, rfl, e1, e2, e3, hE, hRa, hRb⟩ := h
 obtain ⟨A', c', hs', ⟨B', b', s'⟩, ⟨C', d', t'⟩, rfl, e1', e2', e3', hE', hRa', hRb'⟩ := h'
 obtain ⟨z, L, s0, t0⟩ := g
 obtain ⟨z', L', s0', t0'⟩ := g'
 have a1 : L = hs.map egOf := e1
 have a2 : s = s0 := e2
 have a3 : t = t0 := e3
 have a1' : L' = hs'.map egOf := e1'
 have a2' : s' = s0' := e2'
 have a3' : t' = t0' := e3'
 subst a2 a3 a2' a3'
 have hRs : RdI w B s := hRa
 have hRt : RdI w C t := hRb
 have hRs' : RdI w B' s' := hRa'
 have hRt' : RdI w C' t' := hRb'
 obtain ⟨E1, hE1⟩ : ∃ E, E = decide (s = s') := ⟨_, rfl⟩
 obtain ⟨E2, hE2⟩ : ∃ E, E = decide (t = t') := ⟨_, rfl⟩
 obtain ⟨E3, hE3⟩ : ∃ E, E = decide (L = L') := ⟨_, rfl⟩
 have hDD : D = (decide (z = z') && (E1 && (E2 && E3))) := by
  rw [hD, hE1, hE2, hE3, Bool.eq_iff_iff]
  simp only [Prod.mk.injEq, decide_eq_true_eq, Bool.and_eq_true]
  exact ⟨fun ⟨q1, q2, q3, q4⟩ => ⟨q1, q3, q4, q2⟩, fun ⟨q1, q3, q4, q2⟩ => ⟨q1, q2, q3, q4⟩⟩
 have hLl : L.length = hs.length := by rw [a1, List.length_map]
 have hLl' : L'.length = hs'.length := by rw [a1', List.length_map]
 have hlen1 : L.length ≤ 1048576 := ok.1.1
 have hlen2 : L'.length ≤ 1048576 := ok'.1.1
 have ls : s.length ≤ 1048576 := ok.1.2.1
 have lt : t.length ≤ 1048576 := ok.1.2.2
 have hlE : ∀ x, x ∈ L → x.2.2.1.length ≤ 1048576 ∧ x.2.2.2.length ≤ 1048576 := ok.2.1
 show Calls Tryz.prog _ #[.agg #[.int .i64 z, .slice A hs.length c, .slice B s.length b, .slice C t.length d], .agg #[.int .i64 z', .slice A' hs'.length c', .slice B' s'.length b', .slice C' t'.length d']] w _
 have hS1 := fun (W : World) (hb : Below w.heap.size w W) => slicesEqual_any B B' b b' s s' W (hRs.below hb) (hRs'.below hb) (by omega)
 have hS2 := fun (W : World) (hb : Below w.heap.size w W) => slicesEqual_any C C' d d' t t' W (hRt.below hb) (hRt'.below hb) (by omega)
 have hS3 : ∀ (W : World), Below w.heap.size w W → Calls Tryz.prog 88 #[.slice A hs.length c, .slice A' hs'.length c', .func (.func 89) #[] #[]] W fun e w' => e = .returned (.bool E3) ∧ Below W.heap.size W w' := fun W hb => by
  by_cases hmn : hs.length = hs'.length
  · have := edgesEqual_any A A' c c' hs.length hs hs' L L' W (hE.below hb) (hE'.below hb) a1 a1' hLl (hLl'.trans hmn.symm) (by omega) hlE
    rw [← hE3] at this
    rw [← hmn]
    exact this
  · have he : E3 = false := by rw [hE3]; exact decide_eq_false fun e => hmn (by rw [← hLl, ← hLl', e])
    rw [he]
    exact edgesLen_any A A' c c' hs.length hs'.length _ W hmn (by omega) (by omega)
 obtain ⟨p, hp⟩ : ∃ p, p = s.length := ⟨_, rfl⟩
 obtain ⟨r, hr⟩ : ∃ p, p = t.length := ⟨_, rfl⟩
 obtain ⟨p', hp'⟩ : ∃ p, p = s'.length := ⟨_, rfl⟩
 obtain ⟨r', hr'⟩ : ∃ p, p = t'.length := ⟨_, rfl⟩
 obtain ⟨m, hm⟩ : ∃ p, p = hs.length := ⟨_, rfl⟩
 obtain ⟨m', hm'⟩ : ∃ p, p = hs'.length := ⟨_, rfl⟩
 simp only [← hp, ← hp', ← hE1] at hS1
 simp only [← hr, ← hr', ← hE2] at hS2
 simp only [← hm, ← hm'] at hS3
 rw [← hp, ← hr, ← hp', ← hr', ← hm, ← hm']
 obtain ⟨W, hW, bW, k0, k1⟩ := allocs2 w (.cells #[.int .i64 z, .slice A m c, .slice B p b, .slice C r d] tGr) (.cells #[.int .i64 z', .slice A' m' c', .slice B' p' b', .slice C' r' d'] tGr)
 obtain ⟨⟨c0, c1, c2, c3⟩, f0, f1, f2, f3⟩ := t_box4 k0
 obtain ⟨⟨d0, d1, d2, d3⟩, g0, g1, g2, g3⟩ := t_box4 k1
 clear hD hE1 hE2 hE3 e1 e2 e3 e1' e2' e3' hE hE' hRa hRb hRa' hRb' hRs hRt hRs' hRt' a1 a1' hLl hLl' hlen1 hlen2 ls lt hlE ok ok' hp hr hp' hr' hm hm'; have hS1_h := lH hS1; have hS2_h := lH hS2; have hS3_h := lH hS3; have bW_h := lH bW; have k0_h := lH k0; have k1_h := lH k1; have hDD_h := lH hDD; clear hS1 hS2 hS3 bW k0 k1 hDD
 by_cases hk : z = z'
 case neg =>
  have hbq : (z == z') = false := by rw [beq_eq_false_iff_ne]; exact hk
  obtain rfl : D = false := by rw [hDD_h.out, decide_eq_false hk]; rfl
  go_enter Tryz.func62, Tryz.ntmps62
  go_upto_region 1 with (fail)
  rw [← hW]
  clear hW
  go_wp2_with (fail)
  go_ret
  exact ⟨rfl, bW_h.out⟩
 subst hk
 have hbq : (z == z) = true := by simp
 have hDE : D = (E1 && (E2 && E3)) := by rw [hDD_h.out]; simp
 have hDE_h := lH hDE; clear hDE
 go_enter Tryz.func62, Tryz.ntmps62
 go_upto_region 1 with (fail)
 rw [← hW]
 clear hW
 go_wp2_with (fail)
 refine ((hS1_h.out _ bW_h.out)).mono ?_
 rintro e w1 ⟨rfl, hq1⟩
 have hb1 : Below W.heap.size W w1 := Qt.below hq1
 have hB1 := below_trans bW_h.out hb1 bW_h.out.size
 have k01 := t_box_below k0_h.out hb1
 have k11 := t_box_below k1_h.out hb1
 clear c0 c1 c2 c3 f0 f1 f2 f3 d0 d1 d2 d3 g0 g1 g2 g3 hq1 hb1
 obtain ⟨⟨c0, c1, c2, c3⟩, f0, f1, f2, f3⟩ := t_box4 k01
 obtain ⟨⟨d0, d1, d2, d3⟩, g0, g1, g2, g3⟩ := t_box4 k11
 cases E1
 case false =>
  obtain rfl : D = false := hDE_h.out
  have hB1_h := lH hB1; clear hB1
  go_wp2_with (fail)
  go_ret
  exact ⟨rfl, hB1_h.out⟩
 have hD2 : D = (E2 && E3) := hDE_h.out.trans (Bool.true_and _)
 have hB1_h := lH hB1; have k01_h := lH k01; have k11_h := lH k11; have hD2_h := lH hD2; clear hB1 k01 k11 hD2
 go_wp2_with (fail)
 refine ((hS2_h.out _ hB1_h.out)).mono ?_
 rintro e w2 ⟨rfl, hq2⟩
 have hb2 : Below w1.heap.size w1 w2 := Qt.below hq2
 have hB2 := below_trans hB1_h.out hb2 hB1_h.out.size
 have k02 := t_box_below k01_h.out hb2
 have k12 := t_box_below k11_h.out hb2
 clear c0 c1 c2 c3 f0 f1 f2 f3 d0 d1 d2 d3 g0 g1 g2 g3 hq2 hb2
 obtain ⟨⟨c0, c1, c2, c3⟩, f0, f1, f2, f3⟩ := t_box4 k02
 obtain ⟨⟨d0, d1, d2, d3⟩, g0, g1, g2, g3⟩ := t_box4 k12
 cases E2
 case false =>
  obtain rfl : D = false := hD2_h.out
  have hB2_h := lH hB2; have k02_h := lH k02; have k12_h := lH k12; clear hB2 k02 k12
  go_wp2_with (fail)
  go_ret
  exact ⟨rfl, hB2_h.out⟩
 obtain rfl : D = E3 := hD2_h.out.trans (Bool.true_and _)
 have hB2_h := lH hB2; have k02_h := lH k02; have k12_h := lH k12; clear hB2 k02 k12
 go_wp2_with (fail)
 refine ((hS3_h.out _ hB2_h.out)).mono ?_
 rintro e w3 ⟨rfl, hb3⟩
 have hB3 := below_trans hB2_h.out hb3 hB2_h.out.size
 clear hb3; have hB3_h := lH hB3; clear hB3
 go_wp2_with (fail)
 go_ret
 exact ⟨rfl, hB3_h.out⟩
set_option maxRecDepth 100000 in
set_option maxHeartbeats 4000000 in
theorem isomorphic_any {v v' : Value} {g g' : Gr} (w : World) (n n' : Nat) (h : RdGr w v g) (ok : OkG g) (hMo : Mono g n) (hv : grB g = true) (h' : RdGr w v' g') (ok' : OkG g') (hMo' : Mono g' n') (hv' : grB g' = true) :
  Calls Tryz.prog 39 #[v, v'] w fun e w' => e = .returned (.bool (decide (cgG g = cgG g'))) ∧ Below w.heap.size w w' := by
 have okc := cgG_ok ok hMo
 have okc' := cgG_ok ok' hMo'
 obtain ⟨A, n0, c, B, m0, d, C, k0', e0, rfl⟩ := h.shape
 obtain ⟨A', n0', c', B', m0', d', C', k0'', e0', rfl⟩ := h'.shape
 obtain ⟨z, hz⟩ : ∃ z, z = g.1 := ⟨_, rfl⟩
 obtain ⟨z', hz'⟩ : ∃ z, z = g'.1 := ⟨_, rfl⟩
 rw [← hz] at h ⊢
 rw [← hz'] at h' ⊢
 obtain ⟨W, hW, bW, k0, k1⟩ := allocs2 w (.cells #[.int .i64 z, .slice A n0 c, .slice B m0 d, .slice C k0' e0] tGr) (.cells #[.int .i64 z', .slice A' n0' c', .slice B' m0' d', .slice C' k0'' e0'] tGr)
 have hC1 := fun (W' : World) (hb : Below W.heap.size W W') => canonical_any W' n ((h.below bW).below hb) ok hMo hv
 have hC2 := fun (W' : World) (hb : Below W.heap.size W W') => canonical_any W' n' ((h'.below bW).below hb) ok' hMo' hv'
 obtain ⟨P, hP⟩ : ∃ P, cgG g = P := ⟨_, rfl⟩
 obtain ⟨P', hP'⟩ : ∃ P, cgG g' = P := ⟨_, rfl⟩
 simp only [hP] at hC1 okc
 simp only [hP'] at hC2 okc'
 rw [hP, hP']
 clear h h' hz hz' ok ok' hMo hMo' hv hv' hP hP'; have bW_h := lH bW; have k0_h := lH k0; have k1_h := lH k1; have hC1_h := lH hC1; have hC2_h := lH hC2; have okc_h := lH okc; have okc'_h := lH okc'; clear bW k0 k1 hC1 hC2 okc okc'
 go_enter Tryz.func39, Tryz.ntmps39
 go_upto_region 1 with (fail)
 rw [← hW]
 clear hW
 refine beginH (fun w' => Below W.heap.size W w') (by kernel_rfl) ?_
 have hbd : Below W.heap.size W W.drew := below_drewN (Below.refl _ _) 1
 generalize W.drew = W1 at hbd ⊢
 refine tkH 0 ?_ rfl hbd (fun W' hW' => ?_) ?_; rotate_left; · (obtain ⟨⟨⟨c0, c1, c2, c3⟩, f0, f1, f2, f3⟩, ⟨d0, d1, d2, d3⟩, g0, g1, g2, g3⟩ := (⟨t_box4 (t_box_below k0_h.out hW'), t_box4 (t_box_below k1_h.out hW')⟩ : _ ∧ _); clear hW'; go_simp; first | done | with_reducible rfl)
 simp only [Act.put, nS]
 refine tkH 2 ?_ rfl hbd (fun W' hW' => ?_) ?_; rotate_left; · (obtain ⟨⟨⟨c0, c1, c2, c3⟩, f0, f1, f2, f3⟩, ⟨d0, d1, d2, d3⟩, g0, g1, g2, g3⟩ := (⟨t_box4 (t_box_below k0_h.out hW'), t_box4 (t_box_below k1_h.out hW')⟩ : _ ∧ _); clear hW'; go_simp; first | done | with_reducible rfl)
 simp only [Act.put, nS]
 refine relT [(1, 6), (3, 8)] (fun _ => []) (fun d _ v w => if d = 6 then RdGr w v P else RdGr w v P') (fun _ _ => []) 2 rfl (by kernel_rfl) ?st1 ?co1 (fun w' hw' => below_trans hbd hw' hbd.size) ?sp1 ?fi1
 case st1 => exact fun d xs => Stb.ite (fun _ _ _ h hb => h.below hb) (fun _ _ _ h hb => h.below hb)
 case co1 => exact fun z hz xs ys v w hd h => h
 case sp1 =>
  refine ⟨⟨_, rfl, fun xs w5 hb5 hd K hK => ?_⟩, ⟨_, rfl, fun xs w5 hb5 hd K hK => ?_⟩, trivial⟩
  · simp only [putZ, List.foldl_cons, List.foldl_nil, Act.put, nS] at hK ⊢
    refine wp_callZ (f := ?f_1) (args := ?args_1) ?hr_1 ?hc_1
    case hr_1 => (go_simp; first | done | with_reducible rfl | (constructor <;> with_reducible rfl))
    case hc_1 =>
     refine (hC1_h.out w5 (below_trans hbd hb5 hbd.size)).mono ?_
     rintro e w6 ⟨v6, fp6, rfl, hO6, _, hb6⟩
     exact ⟨_, rfl, hK _ _ hb6 hO6.rd fun b hb => by cases hb⟩
  · simp only [putZ, List.foldl_cons, List.foldl_nil, Act.put, nS] at hK ⊢
    refine wp_callZ (f := ?f_2) (args := ?args_2) ?hr_2 ?hc_2
    case hr_2 => (go_simp; first | done | with_reducible rfl | (constructor <;> with_reducible rfl))
    case hc_2 =>
     refine (hC2_h.out w5 (below_trans hbd hb5 hbd.size)).mono ?_
     rintro e w6 ⟨v6, fp6, rfl, hO6, _, hb6⟩
     exact ⟨_, rfl, hK _ _ hb6 hO6.rd fun b hb => by cases hb⟩
 case fi1 =>
  intro xs w6 hb6 hR hO hD
  have h1 : RdGr w6 (xs 6) P := hR (1, 6) (by simp)
  have h2 : RdGr w6 (xs 8) P' := hR (3, 8) (by simp)
  obtain ⟨va, hva⟩ : ∃ v, xs 6 = v := ⟨_, rfl⟩
  obtain ⟨vb, hvb⟩ : ∃ v, xs 8 = v := ⟨_, rfl⟩
  rw [hva] at h1
  rw [hvb] at h2
  have hEq := equalGraphs_any w6 h1 h2 okc_h.out okc'_h.out
  have hb26 := below_trans hbd hb6 hbd.size
  clear hR hO hD h1 h2; have hEq_h := lH hEq; clear hEq
  simp only [putZ, List.foldl_cons, List.foldl_nil, Act.put, nS, hva, hvb, mkZ]
  refine' callH 4 (f := _) (args := _) rfl (by kernel_rfl) (by rfl) ?_ ?_; rotate_left 2; · (go_simp; first | done | with_reducible rfl | (constructor <;> with_reducible rfl))
  refine (hEq_h.out).mono ?_
  rintro e w7 ⟨rfl, hb7⟩
  have hb27 := below_trans hb26 hb7 hb26.size
  refine ⟨_, rfl, hb27, ?_⟩
  simp only [Act.put, nS]
  refine tkH 5 ?_ rfl hb27 (fun W' hW' => ?_) ?_; rotate_left; · (skip; clear hW'; go_simp; first | done | with_reducible rfl)
  simp only [Act.put, nS]
  refine doneH (by kernel_rfl) ?_
  have hBe := below_trans bW_h.out hb27 bW_h.out.size
  go_wp2_with (fail)
  go_ret
  exact ⟨rfl, hBe⟩
set_option maxRecDepth 100000 in
set_option maxHeartbeats 4000000 in
theorem cnSame_any {v v' : Value} {g g' : Gr} (w : World) (n n' : Nat) (h : RdGr w v g) (ok : OkG g) (hMo : Mono g n) (hv : grB g = true) (h' : RdGr w v' g') (ok' : OkG g') (hMo' : Mono g' n') (hv' : grB g' = true) :
  Calls Tryz.prog 38 #[v, v'] w fun e w' => e = .returned (.bool (decide (cgG g = cgG g'))) ∧ Below w.heap.size w w' := by
 have okc := cgG_ok ok hMo
 have okc' := cgG_ok ok' hMo'
 obtain ⟨A, n0, c, B, m0, d, C, k0', e0, rfl⟩ := h.shape
 obtain ⟨A', n0', c', B', m0', d', C', k0'', e0', rfl⟩ := h'.shape
 obtain ⟨z, hz⟩ : ∃ z, z = g.1 := ⟨_, rfl⟩
 obtain ⟨z', hz'⟩ : ∃ z, z = g'.1 := ⟨_, rfl⟩
 rw [← hz] at h ⊢
 rw [← hz'] at h' ⊢
 obtain ⟨W, hW, bW, k0, k1⟩ := allocs2 w (.cells #[.int .i64 z, .slice A n0 c, .slice B m0 d, .slice C k0' e0] tGr) (.cells #[.int .i64 z', .slice A' n0' c', .slice B' m0' d', .slice C' k0'' e0'] tGr)
 have hC1 := fun (W' : World) (hb : Below W.heap.size W W') => cnGraph_any W' n ((h.below bW).below hb) ok hMo hv
 have hC2 := fun (W' : World) (hb : Below W.heap.size W W') => cnGraph_any W' n' ((h'.below bW).below hb) ok' hMo' hv'
 obtain ⟨P, hP⟩ : ∃ P, cgG g = P := ⟨_, rfl⟩
 obtain ⟨P', hP'⟩ : ∃ P, cgG g' = P := ⟨_, rfl⟩
 simp only [hP] at hC1 okc
 simp only [hP'] at hC2 okc'
 rw [hP, hP']
 clear h h' hz hz' ok ok' hMo hMo' hv hv' hP hP'; have bW_h := lH bW; have k0_h := lH k0; have k1_h := lH k1; have hC1_h := lH hC1; have hC2_h := lH hC2; have okc_h := lH okc; have okc'_h := lH okc'; clear bW k0 k1 hC1 hC2 okc okc'
 go_enter Tryz.func38, Tryz.ntmps38
 go_upto_region 1 with (fail)
 rw [← hW]
 clear hW
 refine beginH (fun w' => Below W.heap.size W w') (by kernel_rfl) ?_
 have hbd : Below W.heap.size W W.drew := below_drewN (Below.refl _ _) 1
 generalize W.drew = W1 at hbd ⊢
 refine tkH 0 ?_ rfl hbd (fun W' hW' => ?_) ?_; rotate_left; · (obtain ⟨⟨⟨c0, c1, c2, c3⟩, f0, f1, f2, f3⟩, ⟨d0, d1, d2, d3⟩, g0, g1, g2, g3⟩ := (⟨t_box4 (t_box_below k0_h.out hW'), t_box4 (t_box_below k1_h.out hW')⟩ : _ ∧ _); clear hW'; go_simp; first | done | with_reducible rfl)
 simp only [Act.put, nS]
 refine tkH 2 ?_ rfl hbd (fun W' hW' => ?_) ?_; rotate_left; · (obtain ⟨⟨⟨c0, c1, c2, c3⟩, f0, f1, f2, f3⟩, ⟨d0, d1, d2, d3⟩, g0, g1, g2, g3⟩ := (⟨t_box4 (t_box_below k0_h.out hW'), t_box4 (t_box_below k1_h.out hW')⟩ : _ ∧ _); clear hW'; go_simp; first | done | with_reducible rfl)
 simp only [Act.put, nS]
 refine relT [(1, 6), (3, 8)] (fun _ => []) (fun d _ v w => if d = 6 then RdGr w v P else RdGr w v P') (fun _ _ => []) 2 rfl (by kernel_rfl) ?st1 ?co1 (fun w' hw' => below_trans hbd hw' hbd.size) ?sp1 ?fi1
 case st1 => exact fun d xs => Stb.ite (fun _ _ _ h hb => h.below hb) (fun _ _ _ h hb => h.below hb)
 case co1 => exact fun z hz xs ys v w hd h => h
 case sp1 =>
  refine ⟨⟨_, rfl, fun xs w5 hb5 hd K hK => ?_⟩, ⟨_, rfl, fun xs w5 hb5 hd K hK => ?_⟩, trivial⟩
  · simp only [putZ, List.foldl_cons, List.foldl_nil, Act.put, nS] at hK ⊢
    refine wp_callZ (f := ?f_1) (args := ?args_1) ?hr_1 ?hc_1
    case hr_1 => (go_simp; first | done | with_reducible rfl | (constructor <;> with_reducible rfl))
    case hc_1 =>
     refine (hC1_h.out w5 (below_trans hbd hb5 hbd.size)).mono ?_
     rintro e w6 ⟨v6, fp6, rfl, hO6, _, hb6⟩
     exact ⟨_, rfl, hK _ _ hb6 hO6.rd fun b hb => by cases hb⟩
  · simp only [putZ, List.foldl_cons, List.foldl_nil, Act.put, nS] at hK ⊢
    refine wp_callZ (f := ?f_2) (args := ?args_2) ?hr_2 ?hc_2
    case hr_2 => (go_simp; first | done | with_reducible rfl | (constructor <;> with_reducible rfl))
    case hc_2 =>
     refine (hC2_h.out w5 (below_trans hbd hb5 hbd.size)).mono ?_
     rintro e w6 ⟨v6, fp6, rfl, hO6, _, hb6⟩
     exact ⟨_, rfl, hK _ _ hb6 hO6.rd fun b hb => by cases hb⟩
 case fi1 =>
  intro xs w6 hb6 hR hO hD
  have h1 : RdGr w6 (xs 6) P := hR (1, 6) (by simp)
  have h2 : RdGr w6 (xs 8) P' := hR (3, 8) (by simp)
  obtain ⟨va, hva⟩ : ∃ v, xs 6 = v := ⟨_, rfl⟩
  obtain ⟨vb, hvb⟩ : ∃ v, xs 8 = v := ⟨_, rfl⟩
  rw [hva] at h1
  rw [hvb] at h2
  have hEq := axSame_any w6 h1 h2 okc_h.out okc'_h.out
  have hb26 := below_trans hbd hb6 hbd.size
  clear hR hO hD h1 h2; have hEq_h := lH hEq; clear hEq
  simp only [putZ, List.foldl_cons, List.foldl_nil, Act.put, nS, hva, hvb, mkZ]
  refine' callH 4 (f := _) (args := _) rfl (by kernel_rfl) (by rfl) ?_ ?_; rotate_left 2; · (go_simp; first | done | with_reducible rfl | (constructor <;> with_reducible rfl))
  refine (hEq_h.out).mono ?_
  rintro e w7 ⟨rfl, hb7⟩
  have hb27 := below_trans hb26 hb7 hb26.size
  refine ⟨_, rfl, hb27, ?_⟩
  simp only [Act.put, nS]
  refine tkH 5 ?_ rfl hb27 (fun W' hW' => ?_) ?_; rotate_left; · (skip; clear hW'; go_simp; first | done | with_reducible rfl)
  simp only [Act.put, nS]
  refine doneH (by kernel_rfl) ?_
  have hBe := below_trans bW_h.out hb27 bW_h.out.size
  go_wp2_with (fail)
  go_ret
  exact ⟨rfl, hBe⟩
def HeMa (w : World) (v : Value) (m : Ma) (k : Nat) (fp : List Nat) : Prop := OwMa w v (marks k m.1.length, marks (k + m.1.length) m.2.length) fp
theorem HeMa.below {w w' : World} {v : Value} {m : Ma} {k : Nat} {fp : List Nat} (h : HeMa w v m k fp) (hb : Below w.heap.size w w') : HeMa w' v m k fp := OwMa.below h hb
theorem HeMa.keeps {w w' : World} {v : Value} {m : Ma} {k : Nat} {fp : List Nat} (h : HeMa w v m k fp) {S : Nat → Prop} (hk : Keeps S w w') (hS : ∀ b, b ∈ fp → ¬ S b) : HeMa w' v m k fp := OwMa.keeps h hk hS
theorem two_apart {A B : Option Addr} {x y : List Int} {a b : Nat} {w : World} {fp : List Nat} (h : OwLs w fp [(A, a, x), (B, b, y)]) : ∀ q, q ∈ fpA A → ¬ q ∈ fpA B := by
 have := h.apart
 rw [List.pairwise_cons] at this
 exact this.1 (B, b, y) (by simp)
set_option maxRecDepth 100000 in
set_option maxHeartbeats 2000000 in
theorem markMatch_law {v : Value} {m : Ma} {fp : List Nat} {K : Int} {w : World} (k : Nat) (h : OwMa w v m fp) (hK : K = (k : Int)) (_ok : OkMa m) (hl : k + cntMa m ≤ 17592186044000 ∧ 0 < k) :
  Calls Tryz.prog 19 #[v, .int .i64 K] w fun e w' => e = .returned (.int .i64 (K + (cntMa m : Int))) ∧ HeMa w' v m k fp ∧ Keeps (· ∈ fp) w w' := by
 subst hK
 obtain ⟨⟨A, a, x⟩, ⟨B, b, y⟩, rfl, e1, e2, hO, rfl⟩ := h
 obtain ⟨x0, y0⟩ := m
 have a1 : x = x0 := e1
 have a2 : y = y0 := e2
 subst a1 a2
 clear e1 e2 _ok
 have hap := two_apart hO
 have hIx := hO.rows (A, a, x) (by simp)
 have hIy := hO.rows (B, b, y) (by simp)
 simp only at hIx hIy
 have hl2 : k + (x.length + y.length) ≤ 17592186044000 := hl.1
 have hfp : ∀ q, q ∈ fpR [(A, a, x), (B, b, y)] ↔ q ∈ fpA A ∨ q ∈ fpA B := fun q => by simp [fpR]
 obtain ⟨fp, hfpe⟩ : ∃ f, fpR [((A, a, x) : Hd), (B, b, y)] = f := ⟨_, rfl⟩
 have hOl := hO.lt
 rw [hfpe] at hfp hOl ⊢
 obtain ⟨W, hW, bW, k0⟩ := (⟨_, rfl, t_below_alloc _ _, heap_alloc_new _ _⟩ : ∃ W, W = w.alloc (.cells #[.slice A x.length a, .slice B y.length b] tMa) ∧ Below w.heap.size w W ∧ W.heap[w.heap.size]? = some (.cells #[.slice A x.length a, .slice B y.length b] tMa))
 have hC1 := markIntS_any A a x k W (hIx.below bW) (by omega)
 have hC2 := fun (W' : World) (hI : IS W' B b y) => markIntS_any B b y (k + x.length) W' hI (by omega)
 show Calls Tryz.prog _ #[.agg #[.slice A x.length a, .slice B y.length b], .int .i64 (k : Int)] w fun e w' => e = .returned (.int .i64 ((k : Int) + ((x.length + y.length : Nat) : Int))) ∧ HeMa w' (.agg #[.slice A x.length a, .slice B y.length b]) (x, y) k fp ∧ Keeps (· ∈ fp) w w'
 obtain ⟨p, hp⟩ : ∃ p, x.length = p := ⟨_, rfl⟩
 obtain ⟨q, hq⟩ : ∃ q, y.length = q := ⟨_, rfl⟩
 obtain ⟨R1, hR1⟩ : ∃ R : Nat, k + p = R := ⟨_, rfl⟩
 obtain ⟨R2, hR2⟩ : ∃ R : Nat, R1 + q = R := ⟨_, rfl⟩
 simp only [hp, hR1] at hC1
 simp only [hp, hq, hR1, hR2] at hC2
 have hfin : (k : Int) + ((p + q : Nat) : Int) = (R2 : Int) := by omega
 rw [hp, hq] at k0 hW
 rw [hp, hq, hfin]
 have hlt := fun b hb => hOl b ((hfp b).2 hb)
 obtain ⟨⟨c0, c1⟩, f0, f1⟩ := t_box2 k0
 clear hl hfin; have hC1_h := lH hC1; have hC2_h := lH hC2; have hIx_h := lH hIx; have hIy_h := lH hIy; have hap_h := lH hap; have hfp_h := lH hfp; have hfpe_h := lH hfpe; have bW_h := lH bW; have k0_h := lH k0; have hlt_h := lH hlt; have hO_h := lH hO; have hp_h := lH hp; have hq_h := lH hq; have hR1_h := lH hR1; have hR2_h := lH hR2; have hOl_h := lH hOl; clear hC1 hC2 hIx hIy hap hfp hfpe bW k0 hlt hO hp hq hR1 hR2 hOl
 go_enter Tryz.func19, Tryz.ntmps19
 go_upto_region 1 with (fail)
 rw [← hW]
 clear hW
 go_wp2_with (fail)
 refine (hC1_h.out).mono ?_
 rintro e w1 ⟨rfl, hI1, hk1⟩
 have k1 := t_box_keeps k0_h.out hk1 (fun hb => by have := hlt_h.out _ (.inl hb); omega)
 have hIy1 := (hIy_h.out.below bW_h.out).keeps hk1 (fun b hb hb' => hap_h.out b hb' hb)
 have hC2' := hC2_h.out w1 hIy1
 clear c0 c1 f0 f1
 obtain ⟨⟨c0, c1⟩, f0, f1⟩ := t_box2 k1
 have hkw1 : Keeps (· ∈ fp) w w1 := (Keeps.of_below bW_h.out _).trans (hk1.mono fun b _ hb => (hfp_h.out b).2 (.inl hb))
 clear hk1 k1; have hC2'_h := lH hC2'; have hI1_h := lH hI1; have hkw1_h := lH hkw1; clear hC2' hI1 hkw1
 go_wp2_with (fail)
 refine (hC2'_h.out).mono ?_
 rintro e w2 ⟨rfl, hI2, hk2⟩
 have hI12 := hI1_h.out.keeps hk2 (fun b hb hb' => hap_h.out b hb hb')
 have hkw2 := hkw1_h.out.trans (hk2.mono (T := (· ∈ fp)) fun b _ hb => (hfp_h.out b).2 (.inr hb))
 clear hk2; have hI2_h := lH hI2; have hI12_h := lH hI12; have hkw2_h := lH hkw2; clear hI2 hI12 hkw2
 go_wp2_with (fail)
 go_ret
 refine ⟨rfl, ⟨(A, a, marks k p), (B, b, marks R1 q), by simp only [marks_length], by rw [← hp_h.out], by rw [← hq_h.out, ← hR1_h.out, ← hp_h.out], ⟨fun h hh => ?_, ?_, fun h hh b _ hb => (by cases hb)⟩, ?_⟩, hkw2_h.out⟩
 · rcases List.mem_cons.1 hh with rfl | hh
   · exact hI12_h.out
   · obtain rfl := List.mem_singleton.1 hh
     exact hI2_h.out
 · rw [List.pairwise_cons]
   refine ⟨fun h hh => ?_, List.pairwise_singleton _ _⟩
   obtain rfl := List.mem_singleton.1 hh
   exact hap_h.out
 · rw [← hfpe_h.out]
   rfl
set_option maxRecDepth 100000 in
set_option maxHeartbeats 2000000 in
theorem heldMatch_law {v : Value} {m : Ma} {k : Nat} {fp : List Nat} {K : Int} {w : World} (h : HeMa w v m k fp) (hK : K = (k : Int)) (_ok : OkMa m) (hl : k + cntMa m ≤ 17592186044000 ∧ 0 < k) :
  Calls Tryz.prog 20 #[v, .int .i64 K] w fun e w' => e = .returned (.int .i64 (K + (cntMa m : Int))) ∧ Below w.heap.size w w' := by
 subst hK
 obtain ⟨⟨A, a, x⟩, ⟨B, b, y⟩, rfl, e1, e2, hRx, hRy⟩ := OwMa.rd h
 obtain ⟨x0, y0⟩ := m
 have a1 : x = marks k x0.length := e1
 have a2 : y = marks (k + x0.length) y0.length := e2
 subst a1 a2
 clear e1 e2 _ok h
 have hl2 : k + (x0.length + y0.length) ≤ 17592186044000 := hl.1
 have hl3 := hl.2
 show Calls Tryz.prog _ #[.agg #[.slice A (marks k x0.length).length a, .slice B (marks (k + x0.length) y0.length).length b], .int .i64 (k : Int)] w fun e w' => e = .returned (.int .i64 ((k : Int) + ((x0.length + y0.length : Nat) : Int))) ∧ Below w.heap.size w w'
 simp only [marks_length]
 obtain ⟨p, hp⟩ : ∃ p, x0.length = p := ⟨_, rfl⟩
 obtain ⟨q, hq⟩ : ∃ q, y0.length = q := ⟨_, rfl⟩
 simp only at hRx hRy
 rw [hp] at hRx hRy hl2 ⊢
 rw [hq] at hRy hl2 ⊢
 obtain ⟨W, hW, bW, k0⟩ := (⟨_, rfl, t_below_alloc _ _, heap_alloc_new _ _⟩ : ∃ W, W = w.alloc (.cells #[.slice A p a, .slice B q b] tMa) ∧ Below w.heap.size w W ∧ W.heap[w.heap.size]? = some (.cells #[.slice A p a, .slice B q b] tMa))
 have hC1 := heldIntS_any A a p k W (hRx.below bW) (by omega)
 have hC2 := heldIntS_any B b q (k + p) W (hRy.below bW) (by omega)
 obtain ⟨R1, hR1⟩ : ∃ R : Nat, k + p = R := ⟨_, rfl⟩
 obtain ⟨R2, hR2⟩ : ∃ R : Nat, R1 + q = R := ⟨_, rfl⟩
 simp only [hR1] at hC1
 simp only [hR1, hR2] at hC2
 have hfin : (k : Int) + ((p + q : Nat) : Int) = (R2 : Int) := by omega
 rw [hfin]
 have hn1 : ¬ (R1 : Int) < 0 := by omega
 have hn2 : ¬ (R2 : Int) < 0 := by omega
 obtain ⟨⟨c0, c1⟩, f0, f1⟩ := t_box2 k0
 clear hl hfin; have hC1_h := lH hC1; have hC2_h := lH hC2; have hRx_h := lH hRx; have hRy_h := lH hRy; have bW_h := lH bW; have hp_h := lH hp; have hq_h := lH hq; have hR1_h := lH hR1; have hR2_h := lH hR2; clear hC1 hC2 hRx hRy bW hp hq hR1 hR2
 go_enter Tryz.func20, Tryz.ntmps20
 go_upto_region 1 with (fail)
 rw [← hW]
 clear hW
 go_wp2_with (fail)
 refine (hC1_h.out).mono ?_
 rintro e w1 ⟨rfl, rfl⟩
 go_wp2_with (fail)
 refine (hC2_h.out).mono ?_
 rintro e w1 ⟨rfl, rfl⟩
 go_wp2_with (fail)
 go_ret
 exact ⟨rfl, bW_h.out⟩
def ioL (a b : List Int) : List Int := a.map fun x => idx b x
theorem ioL_len (a b : List Int) : (ioL a b).length = a.length := by simp [ioL]
def ioR (a b : Gr) : Ma × Bool := if monoB a && monoB b && decide (cgG a = cgG b) then ((ioL (cnM a).1 (cnM b).1, ioL (cnM a).2 (cnM b).2), true) else (([], []), false)
theorem ioR_no {a b : Gr} (h : (monoB a && monoB b && decide (cgG a = cgG b)) = false) : ioR a b = (([], []), false) := by unfold ioR; rw [h]; rfl
theorem ioR_yes {a b : Gr} (h : (monoB a && monoB b && decide (cgG a = cgG b)) = true) : ioR a b = ((ioL (cnM a).1 (cnM b).1, ioL (cnM a).2 (cnM b).2), true) := by unfold ioR; rw [h]; rfl
theorem ioR_ok (a b : Gr) : OkMa (ioR a b).1 := by
 cases h : monoB a && monoB b && decide (cgG a = cgG b)
 · rw [ioR_no h]
   exact ⟨Nat.zero_le _, Nat.zero_le _, Nat.zero_le _⟩
 · rw [ioR_yes h]
   rw [Bool.and_eq_true, Bool.and_eq_true] at h
   obtain ⟨n, hMo⟩ := mono_of h.1.1
   have h1 := (cnM_perm hMo).1.2
   have h2 := (cnM_perm hMo).2.2
   have := hMo.n100
   have := hMo.m60
   refine ⟨?_, ?_, ?_⟩
   · show (ioL _ _).length ≤ _
     rw [ioL_len]; omega
   · show (ioL _ _).length ≤ _
     rw [ioL_len]; omega
   · show (ioL _ _).length + (ioL _ _).length ≤ _
     rw [ioL_len, ioL_len]; omega
theorem cg_sizes {a b : Gr} {n n' : Nat} (ha : Mono a n) (hb : Mono b n') (h : cgG a = cgG b) : n = n' ∧ a.2.1.length = b.2.1.length := by
 have key : ∀ {g : Gr} {q : Nat}, Mono g q → (cgG g).1 = (q : Int) ∧ (cgG g).2.1.length = g.2.1.length := fun {g q} hg => by
  refine ⟨hg.hn, ?_⟩
  have := (lay_all (d := eg0) (xs := g.2.1.map (mapE (cnM g).1)) (cnM_perm hg).2.1 (by rw [(cnM_perm hg).2.2, List.length_map])).length_eq
  rw [List.length_map] at this
  exact this
 have h1 := key ha
 have h2 := key hb
 rw [h] at h1
 constructor
 · have := h1.1.symm.trans h2.1
   omega
 · exact h1.2.symm.trans h2.2
theorem perm_has {a b : List Int} {n : Nat} (ha : permB a = true ∧ a.length = n) (hb : permB b = true ∧ b.length = n) : ∀ x, x ∈ a → (0 ≤ x ∧ x < (n : Int)) ∧ x ∈ b := fun x hx => by
 have h1 := perm_in ha.1 x hx
 rw [ha.2] at h1
 refine ⟨h1, ?_⟩
 have := perm_full (perm_nodup hb.1) (fun k hk => by have := perm_in hb.1 k hk; rw [hb.2] at this; exact this) hb.2 (w := x.toNat) (by omega)
 rw [show ((x.toNat : Nat) : Int) = x by omega] at this
 exact this
theorem back_eq {a b : List Int} {n : Nat} (ha : permB a = true ∧ a.length = n) (hb : permB b = true ∧ b.length = n) : mapL (putN (List.replicate n 0) 0 b) a = ioL a b := by
 unfold mapL ioL
 refine List.map_congr_left fun x hx => ?_
 obtain ⟨h1, h2⟩ := perm_has ha hb x hx
 rw [putN_getD (by simp; omega), show ((x.toNat : Nat) : Int) = x by omega, if_pos h2, Int.zero_add]
set_option maxRecDepth 100000 in
set_option maxHeartbeats 2000000 in
theorem backwards_any (A : Option Addr) (c n : Nat) (l : List Int) (w : World) (h : RdI w A l) (hn : l.length = n) (hnd : l.Nodup) (hr : ∀ x, x ∈ l → 0 ≤ x ∧ x < (n : Int)) (hnb : n ≤ 100) :
  Calls Tryz.prog 66 #[.slice A n c] w fun e w' => ∃ G, e = .returned (.slice (some G) n n) ∧ IS w' (some G) n (putN (List.replicate n 0) 0 l) ∧ w.heap.size ≤ G.block ∧ Below w.heap.size w w' := by
 have hC := t_zeros_any n w (by omega)
 have h_h := lH h; have hn_h := lH hn; have hnd_h := lH hnd; have hr_h := lH hr; clear h hn hnd hr
 go_enter Tryz.func66, Tryz.ntmps66
 go_wp2_with (fail)
 refine (hC).mono ?_
 rintro e w1 ⟨G, rfl, his0, hfG, hb1⟩
 clear hC; have his0_h := lH his0; have hb1_h := lH hb1; clear his0 hb1
 go_wp2_with (fail)
 go_loopw [11] (fun i wr => ∃ k : Nat, k ≤ n ∧ i = .int .i64 k ∧ IS wr (some G) n (putN (List.replicate n 0) 0 (l.take k)) ∧ Below w.heap.size w wr) (fun i _ => n - (intOf i).toNat)
 case atStart => exact ⟨0, Nat.zero_le _, rfl, by rw [List.take_zero, putN_nil]; exact his0_h.out, hb1_h.out⟩
 case round =>
  clear his0_h hb1_h
  obtain ⟨k, hk, rfl, his, hb⟩ := hrel
  obtain ⟨wo, rfl⟩ : ∃ x, x = wr := ⟨_, rfl⟩
  by_cases hlt : k < n
  · obtain ⟨x, hx⟩ : ∃ x, l[k]? = some x := ⟨_, List.getElem?_eq_getElem (by rw [hn_h.out]; exact hlt)⟩
    have hxr := hr_h.out x (List.mem_of_getElem? hx)
    obtain ⟨xx, rfl⟩ : ∃ xx : Nat, x = (xx : Int) := ⟨x.toNat, by omega⟩
    obtain ⟨ad, rfl, pg⟩ := (h_h.out.below hb) k _ hx
    have hlen : (putN (List.replicate n 0) 0 (l.take k)).length = n := by simp
    obtain ⟨zd, z0, ze, _, _, zc, zf⟩ := his.at_ (j := xx) (by rw [hlen]; omega)
    obtain rfl := Option.some.inj ze
    have zfk := zf xx
    have his' := his.set (ad := G) rfl (j := xx) (k : Int) (by rw [hlen]; omega)
    rw [show (k : Int) = 0 + (k : Int) by omega, ← putN_step hnd_h.out hx, Int.zero_add] at his'
    have hb' := hb.setCell (p := G.add xx) (by rw [block_of_add]; exact hfG) (.int .i64 (k : Int))
    have hkI : (k : Int) < (n : Int) := by omega
    have hxI : (xx : Int) < (n : Int) := by omega
    clear zf ze his hb hx hlen; have his'_h := lH his'; have hb'_h := lH hb'; clear his' hb'
    go_wp2_with (fail)
    go_roundw
    case rel => exact ⟨k + 1, by omega, by go_num, his'_h.out, hb'_h.out⟩
    case measure => simp [intOf]; omega
  · obtain rfl : n = k := by omega
    rw [List.take_of_length_le (by rw [hn_h.out]; exact Nat.le_refl _)] at his
    have his_h := lH his; have hb_h := lH hb; clear his hb
    go_wp2_with (fail)
    go_ret
    exact ⟨G, rfl, his_h.out, hfG, hb_h.out⟩
set_option maxRecDepth 100000 in
set_option maxHeartbeats 4000000 in
theorem isomorphism_any {v v' : Value} {g g' : Gr} (w : World) (n m : Nat) (h : RdGr w v g) (hMo : Mono g n) (hv : grB g = true) (hm : g.2.1.length = m) (h' : RdGr w v' g') (hMo' : Mono g' n) (hv' : grB g' = true) (hm' : g'.2.1.length = m) :
  Calls Tryz.prog 41 #[v, v'] w fun e w' => ∃ u fp, e = .returned u ∧ OwMa w' u (ioL (cnM g).1 (cnM g').1, ioL (cnM g).2 (cnM g').2) fp ∧ FreshL w.heap.size fp ∧ Below w.heap.size w w' := by
 have hn100 := hMo.n100
 have hm60 : m ≤ 60 := by rw [← hm]; exact hMo.m60
 have p1 := (cnM_perm hMo).1
 have p2 := (cnM_perm hMo).2
 have q1 := (cnM_perm hMo').1
 have q2 := (cnM_perm hMo').2
 rw [hm] at p2
 rw [hm'] at q2
 obtain ⟨A, n0, c, B, m0, d, C, k0', e0, rfl⟩ := h.shape
 obtain ⟨A', n0', c', B', m0', d', C', k0'', e0', rfl⟩ := h'.shape
 obtain ⟨z, hz⟩ : ∃ z, z = g.1 := ⟨_, rfl⟩
 obtain ⟨z', hz'⟩ : ∃ z, z = g'.1 := ⟨_, rfl⟩
 rw [← hz] at h ⊢
 rw [← hz'] at h' ⊢
 obtain ⟨W, hW, bW, k0, k1, k2⟩ := allocs3 w (.cells #[.int .i64 z, .slice A n0 c, .slice B m0 d, .slice C k0' e0] tGr) (.cells #[.int .i64 z', .slice A' n0' c', .slice B' m0' d', .slice C' k0'' e0'] tGr) (.cells #[.slice none 0 0, .slice none 0 0] tMa)
 have hC1 := canonicalNumbers_any W n m (h.below bW) hMo hv hm
 have hC2 := fun (W' : World) (hb : Below W.heap.size W W') => canonicalNumbers_any W' n m ((h'.below bW).below hb) hMo' hv' hm'
 obtain ⟨⟨a1, a2⟩, ha⟩ : ∃ P, cnM g = P := ⟨_, rfl⟩
 obtain ⟨⟨b1, b2⟩, hb⟩ : ∃ P, cnM g' = P := ⟨_, rfl⟩
 rw [ha] at hC1 p1 p2 ⊢
 simp only [hb] at hC2
 rw [hb] at q1 q2 ⊢
 simp only at p1 p2 q1 q2 hC1 hC2 ⊢
 have r1 := back_eq p1 q1
 have r2 := back_eq p2 q2
 have s1 := perm_has p1 q1
 have s2 := perm_has p2 q2
 have hB1 := fun (W' : World) (E : Addr) (hI : IS W' (some E) n b1) => backwards_any (some E) n n b1 W' hI.rd q1.2 (perm_nodup q1.1) (fun x hx => by have := perm_in q1.1 x hx; rw [q1.2] at this; exact this) hn100
 have hB2 := fun (W' : World) (E : Addr) (hI : IS W' (some E) m b2) => backwards_any (some E) m m b2 W' hI.rd q2.2 (perm_nodup q2.1) (fun x hx => by have := perm_in q2.1 x hx; rw [q2.2] at this; exact this) (by omega)
 have hM1 := fun (W' : World) (E G : Addr) (hI : IS W' (some E) n a1) (hJ : IS W' (some G) n (putN (List.replicate n 0) 0 b1)) => mapped_any (some E) (some G) n n n n a1 (putN (List.replicate n 0) 0 b1) W' hI.rd hJ.rd p1.2 (by simp) (fun x hx => (s1 x hx).1) (by omega)
 have hM2 := fun (W' : World) (E G : Addr) (hI : IS W' (some E) m a2) (hJ : IS W' (some G) m (putN (List.replicate m 0) 0 b2)) => mapped_any (some E) (some G) m m m m a2 (putN (List.replicate m 0) 0 b2) W' hI.rd hJ.rd p2.2 (by simp) (fun x hx => (s2 x hx).1) (by omega)
 simp only [r1] at hM1
 simp only [r2] at hM2
 have l1 : (ioL a1 b1).length = n := by rw [ioL_len]; exact p1.2
 have l2 : (ioL a2 b2).length = m := by rw [ioL_len]; exact p2.2
 obtain ⟨i1, hi1⟩ : ∃ l, ioL a1 b1 = l := ⟨_, rfl⟩
 obtain ⟨i2, hi2⟩ : ∃ l, ioL a2 b2 = l := ⟨_, rfl⟩
 rw [hi1] at l1 ⊢
 rw [hi2] at l2 ⊢
 simp only [hi1] at hM1
 simp only [hi2] at hM2
 obtain ⟨⟨c0, c1, c2, c3⟩, f0, f1, f2, f3⟩ := t_box4 k0
 clear h h' hz hz' hMo hMo' hv hv' hm hm' p1 p2 q1 q2 ha hb r1 r2 s1 s2 hi1 hi2; have bW_h := lH bW; have k0_h := lH k0; have k1_h := lH k1; have k2_h := lH k2; have hC1_h := lH hC1; have hC2_h := lH hC2; have hB1_h := lH hB1; have hB2_h := lH hB2; have hM1_h := lH hM1; have hM2_h := lH hM2; have l1_h := lH l1; have l2_h := lH l2; clear bW k0 k1 k2 hC1 hC2 hB1 hB2 hM1 hM2 l1 l2
 go_enter Tryz.func41, Tryz.ntmps41
 go_upto_region 1 with (fail)
 rw [← hW]
 clear hW
 go_wp2_with (fail)
 refine (hC1_h.out).mono ?_
 rintro e w1 ⟨Wa, Ea, rfl, hI1, hI2, _, _, _, hb1⟩
 have k11 := t_box_below k1_h.out hb1
 clear c0 c1 c2 c3 f0 f1 f2 f3
 obtain ⟨⟨c0, c1, c2, c3⟩, f0, f1, f2, f3⟩ := t_box4 k11
 have hI1_h := lH hI1; have hI2_h := lH hI2; have hb1_h := lH hb1; clear hI1 hI2 hb1
 go_wp2_with (fail)
 refine ((hC2_h.out w1 hb1_h.out)).mono ?_
 rintro e w2 ⟨Wb, Eb, rfl, hJ1, hJ2, _, _, _, hb2⟩
 have hb12 := below_trans hb1_h.out hb2 hb1_h.out.size
 have hI12 := hI1_h.out.below hb2
 have hI22 := hI2_h.out.below hb2
 have hbk := hB1_h.out w2 Wb hJ1
 clear c0 c1 c2 c3 f0 f1 f2 f3 hJ1 hb2; have hJ2_h := lH hJ2; have hb12_h := lH hb12; have hI12_h := lH hI12; have hI22_h := lH hI22; have hbk_h := lH hbk; clear hJ2 hb12 hI12 hI22 hbk
 go_wp2_with (fail)
 refine (hbk_h.out).mono ?_
 rintro e w3 ⟨G1, rfl, hK1, _, hb3⟩
 have hb13 := below_trans hb12_h.out hb3 hb12_h.out.size
 have hmp := hM1_h.out w3 Wa G1 (hI12_h.out.below hb3) hK1
 have hI23 := hI22_h.out.below hb3
 have hJ23 := hJ2_h.out.below hb3
 clear hK1 hb3; have hb13_h := lH hb13; have hmp_h := lH hmp; have hI23_h := lH hI23; have hJ23_h := lH hJ23; clear hb13 hmp hI23 hJ23
 go_wp2_with (fail)
 refine (hmp_h.out).mono ?_
 rintro e w4 ⟨X1, x1, rfl, hO1⟩
 have hX1 := hO1.is
 have hX1n := hO1.new
 have hb4 := hO1.below_
 have hb14 := below_trans hb13_h.out hb4 hb13_h.out.size
 have hbk2 := hB2_h.out w4 Eb (hJ23_h.out.below hb4)
 have hI24 := hI23_h.out.below hb4
 clear hO1 hb4; have hX1_h := lH hX1; have hX1n_h := lH hX1n; have hb14_h := lH hb14; have hbk2_h := lH hbk2; have hI24_h := lH hI24; clear hX1 hX1n hb14 hbk2 hI24
 go_wp2_with (fail)
 refine (hbk2_h.out).mono ?_
 rintro e w5 ⟨G2, rfl, hK2, _, hb5⟩
 have hb15 := below_trans hb14_h.out hb5 hb14_h.out.size
 have hmp2 := hM2_h.out w5 Ea G2 (hI24_h.out.below hb5) hK2
 have hX15 := hX1_h.out.below hb5
 have hzz := hb14_h.out.size
 have hzz3 := hb13_h.out.size
 have hzz5 := hb15.size
 clear hK2 hb5; have hb15_h := lH hb15; have hmp2_h := lH hmp2; have hX15_h := lH hX15; clear hb15 hmp2 hX15
 go_wp2_with (fail)
 refine (hmp2_h.out).mono ?_
 rintro e w6 ⟨X2, x2, rfl, hO2⟩
 have hb6 := hO2.below_
 have hb16 := below_trans hb15_h.out hb6 hb15_h.out.size
 have hLs := OwLs.two (x := (X1, x1, i1)) (y := (X2, x2, i2)) hX15_h.out hb6 hO2.is hO2.new
 have hX2n := hO2.new
 have hB6 := below_trans bW_h.out hb16 bW_h.out.size
 have k26 := t_box_below k2_h.out hb16
 have hk2l := t_box_lt k2_h.out
 have hwW := bW_h.out.size
 obtain ⟨t1, t2⟩ := t_set2 (a := .slice X1 n x1) (b := .slice X2 m x2) k26
 have hBs := below_keeps hB6 t2 hB6.size (fun k hk => by omega)
 have hfr : ∀ b, b ∈ fpR [((X1, x1, i1) : Hd), (X2, x2, i2)] → W.heap.size ≤ b := fun b hb => by
  simp only [fpR, List.flatMap_cons, List.flatMap_nil, List.append_nil, List.mem_append] at hb
  rcases hb with hb | hb
  · have := hX1n_h.out b hb; omega
  · have := hX2n b hb; omega
 have hLe := hLs.keeps t2 (fun b hb e => by have := hfr b hb; omega)
 obtain ⟨⟨d0, d1⟩, g0, g1⟩ := t_box2 k26
 clear hO2 hb6 hb16 hLs hX2n hB6 k26 t2; have t1_h := lH t1; have hBs_h := lH hBs; have hfr_h := lH hfr; have hLe_h := lH hLe; clear t1 hBs hfr hLe
 go_wp2_with (fail)
 refine bodyPost_ret (results_cell_row rfl _ _ (w.heap.size + 1 + 1) _ _ (0, 0) _ rfl t1_h.out Tryz.underlying40 rfl (by kernel_rfl)) rfl ?_
 exact ⟨_, fpR [(X1, x1, i1), (X2, x2, i2)], rfl, ⟨(X1, x1, i1), (X2, x2, i2), by rw [l1_h.out, l2_h.out], rfl, rfl, hLe_h.out, rfl⟩, fun b hb => Nat.le_trans hwW (hfr_h.out b hb), hBs_h.out⟩
set_option maxRecDepth 100000 in
set_option maxHeartbeats 4000000 in
theorem iIsomorphismOf_law {v v' : Value} {g g' : Gr} {w : World} (h : RdGr w v g) (h' : RdGr w v' g') (ok : OkG g) (ok' : OkG g') :
  Calls Tryz.prog 17 #[v, v'] w fun e w' => ∃ u fp, e = .returned (.tuple #[u, .bool (ioR g g').2]) ∧ OwMa w' u (ioR g g').1 fp ∧ FreshL w.heap.size fp ∧ Below w.heap.size w w' := by
 obtain ⟨M, hM⟩ : ∃ M, ioR g g' = M := ⟨_, rfl⟩
 rw [hM]
 obtain ⟨T1, hT1⟩ : ∃ D, monoB g = D := ⟨_, rfl⟩
 obtain ⟨T2, hT2⟩ : ∃ D, monoB g' = D := ⟨_, rfl⟩
 obtain ⟨T3, hT3⟩ : ∃ D, decide (cgG g = cgG g') = D := ⟨_, rfl⟩
 have hno : (T1 && T2 && T3) = false → M = (([], []), false) := fun hh => hM.symm.trans (ioR_no (by rw [hT1, hT2, hT3]; exact hh))
 have hyes : (T1 && T2 && T3) = true → M = ((ioL (cnM g).1 (cnM g').1, ioL (cnM g).2 (cnM g').2), true) := fun hh => hM.symm.trans (ioR_yes (by rw [hT1, hT2, hT3]; exact hh))
 obtain ⟨A, n0, c, B, m0, d, C, k0', e0, rfl⟩ := h.shape
 obtain ⟨A', n0', c', B', m0', d', C', k0'', e0', rfl⟩ := h'.shape
 obtain ⟨z, hz⟩ : ∃ z, z = g.1 := ⟨_, rfl⟩
 obtain ⟨z', hz'⟩ : ∃ z, z = g'.1 := ⟨_, rfl⟩
 rw [← hz] at h ⊢
 rw [← hz'] at h' ⊢
 obtain ⟨W, hW, bW, k0, k1, k2⟩ := allocs3 w (.cells #[.int .i64 z, .slice A n0 c, .slice B m0 d, .slice C k0' e0] tGr) (.cells #[.int .i64 z', .slice A' n0' c', .slice B' m0' d', .slice C' k0'' e0'] tGr) (.cells #[.slice none 0 0, .slice none 0 0] tMa)
 have hG := isMonogamous_any W (h.below bW) ok
 have hG' := fun (W' : World) (hb : Below W.heap.size W W') => isMonogamous_any W' ((h'.below bW).below hb) ok'
 rw [hT1] at hG
 simp only [hT2] at hG'
 have hF : ∀ (W' : World), Below W.heap.size W W' → T1 = true → T2 = true → Calls Tryz.prog 39 #[.agg #[.int .i64 z, .slice A n0 c, .slice B m0 d, .slice C k0' e0], .agg #[.int .i64 z', .slice A' n0' c', .slice B' m0' d', .slice C' k0'' e0']] W' fun e w' => e = .returned (.bool T3) ∧ Below W'.heap.size W' w' := fun W' hb a b => by
  obtain ⟨n, hMo⟩ := mono_of (hT1.trans a)
  obtain ⟨n', hMo'⟩ := mono_of (hT2.trans b)
  have := isomorphic_any W' n n' ((h.below bW).below hb) ok hMo (mono_gr (hT1.trans a)) ((h'.below bW).below hb) ok' hMo' (mono_gr (hT2.trans b))
  rw [hT3] at this
  exact this
 obtain ⟨R, hR⟩ : ∃ R : Ma, (ioL (cnM g).1 (cnM g').1, ioL (cnM g).2 (cnM g').2) = R := ⟨_, rfl⟩
 have hI : ∀ (W' : World), Below W.heap.size W W' → T1 = true → T2 = true → T3 = true → Calls Tryz.prog 41 #[.agg #[.int .i64 z, .slice A n0 c, .slice B m0 d, .slice C k0' e0], .agg #[.int .i64 z', .slice A' n0' c', .slice B' m0' d', .slice C' k0'' e0']] W' fun e w' => ∃ u fp, e = .returned u ∧ OwMa w' u R fp ∧ FreshL W'.heap.size fp ∧ Below W'.heap.size W' w' := fun W' hb a b cc => by
  obtain ⟨n, hMo⟩ := mono_of (hT1.trans a)
  obtain ⟨n', hMo'⟩ := mono_of (hT2.trans b)
  obtain ⟨e1, e2⟩ := cg_sizes hMo hMo' (of_decide_eq_true (hT3.trans cc))
  subst e1
  have := isomorphism_any W' n _ ((h.below bW).below hb) hMo (mono_gr (hT1.trans a)) rfl ((h'.below bW).below hb) hMo' (mono_gr (hT2.trans b)) e2.symm
  rw [hR] at this
  exact this
 rw [hR] at hyes
 obtain ⟨⟨c0, c1, c2, c3⟩, f0, f1, f2, f3⟩ := t_box4 k0
 obtain ⟨⟨d0, d1, d2, d3⟩, g0', g1, g2, g3⟩ := t_box4 k1
 have hk2l := t_box_lt k2
 clear h h' hz hz' hT1 hT2 hT3 ok ok' hM hR; have k0_h := lH k0; have k1_h := lH k1; have k2_h := lH k2; have hG_h := lH hG; have hG'_h := lH hG'; have hF_h := lH hF; have hI_h := lH hI; have hno_h := lH hno; have hyes_h := lH hyes; have bW_h := lH bW; clear k0 k1 k2 hG hG' hF hI hno hyes bW
 go_enter Tryz.func17, Tryz.ntmps17
 go_upto_region 1 with (fail)
 rw [← hW]
 clear hW
 go_cut [19] (fun sv wx => sv = .bool (!(T1 && T2 && T3)) ∧ Below W.heap.size W wx)
 case first =>
  go_wp2_with (fail)
  refine (hG_h.out).mono ?_
  rintro e w1 ⟨rfl, hb1⟩
  cases T1
  case false =>
   have hb1_h := lH hb1; clear hb1
   go_wp2_with (fail)
   go_meet
   exact ⟨rfl, hb1_h.out⟩
  have k01 := t_box_below k0_h.out hb1
  have k11 := t_box_below k1_h.out hb1
  clear c0 c1 c2 c3 f0 f1 f2 f3 d0 d1 d2 d3 g0' g1 g2 g3
  obtain ⟨⟨c0, c1, c2, c3⟩, f0, f1, f2, f3⟩ := t_box4 k01
  obtain ⟨⟨d0, d1, d2, d3⟩, g0', g1, g2, g3⟩ := t_box4 k11
  have hb1_h := lH hb1; have k01_h := lH k01; have k11_h := lH k11; clear hb1 k01 k11
  go_wp2_with (fail)
  refine (hG'_h.out w1 hb1_h.out).mono ?_
  rintro e w2 ⟨rfl, hb2⟩
  have hb12 := below_trans hb1_h.out hb2 hb1_h.out.size
  cases T2
  case false =>
   have hb12_h := lH hb12; clear hb12
   go_wp2_with (fail)
   go_meet
   exact ⟨rfl, hb12_h.out⟩
  have k02 := t_box_below k01_h.out hb2
  have k12 := t_box_below k11_h.out hb2
  clear c0 c1 c2 c3 f0 f1 f2 f3 d0 d1 d2 d3 g0' g1 g2 g3
  obtain ⟨⟨c0, c1, c2, c3⟩, f0, f1, f2, f3⟩ := t_box4 k02
  obtain ⟨⟨d0, d1, d2, d3⟩, g0', g1, g2, g3⟩ := t_box4 k12
  have hF2 := hF_h.out w2 hb12 (by trivial) (by trivial)
  clear hb2; have hb12_h := lH hb12; have hF2_h := lH hF2; clear hb12 hF2
  go_wp2_with (fail)
  refine (hF2_h.out).mono ?_
  rintro e w3 ⟨rfl, hb3⟩
  have hb13 := below_trans hb12_h.out hb3 hb12_h.out.size
  clear hb3; have hb13_h := lH hb13; clear hb13
  go_wp2_with (fail)
  go_meet
  exact ⟨by cases T3 <;> rfl, hb13_h.out⟩
 case rest =>
  obtain ⟨rfl, hWc⟩ := hcut
  obtain ⟨w5, rfl⟩ : ∃ x, x = wc := ⟨_, rfl⟩
  have k0c := t_box_below k0_h.out hWc
  have k1c := t_box_below k1_h.out hWc
  have k2c := t_box_below k2_h.out hWc
  have hB5 := below_trans bW_h.out hWc bW_h.out.size
  clear c0 c1 c2 c3 f0 f1 f2 f3 d0 d1 d2 d3 g0' g1 g2 g3
  obtain ⟨F, hF⟩ : ∃ F, F = (T1 && T2 && T3) := ⟨_, rfl⟩
  rw [← hF]
  cases F
  case false =>
   have hM0 := hno_h.out hF.symm
   obtain ⟨⟨d0, d1⟩, g0', g1⟩ := t_box2 k2c
   obtain ⟨s1, s2⟩ := t_set2 (a := .slice none 0 0) (b := .slice none 0 0) k2c
   have hBs := below_keeps hB5 s2 hB5.size (fun k hk => by omega)
   clear hWc hB5 k0c k1c k2c s2; have hM0_h := lH hM0; have s1_h := lH s1; have hBs_h := lH hBs; have hF_h := lH hF; clear hM0 s1 hBs hF
   go_wp2_with (fail)
   refine bodyPost_ret (t_results_cell_tmp rfl _ _ (w.heap.size + 1 + 1) _ _ (0, 0) _ rfl s1_h.out Tryz.underlying40 rfl (by kernel_rfl)) rfl ?_
   rw [hM0_h.out]
   exact ⟨_, _, rfl, OwMa.zero _, fun b hb => (by cases hb), hBs_h.out⟩
  case true =>
   have hF' := hF.symm
   have hM1 := hyes_h.out hF'
   rw [Bool.and_eq_true, Bool.and_eq_true] at hF'
   have hI5 := hI_h.out w5 hWc hF'.1.1 hF'.1.2 hF'.2
   obtain ⟨⟨c0, c1, c2, c3⟩, f0, f1, f2, f3⟩ := t_box4 k0c
   obtain ⟨⟨d0, d1, d2, d3⟩, g0', g1, g2, g3⟩ := t_box4 k1c
   have hw5 := hWc.size
   clear hF hF' hWc k0c k1c; have hM1_h := lH hM1; have hI5_h := lH hI5; have k2c_h := lH k2c; have hB5_h := lH hB5; clear hM1 hI5 k2c hB5
   go_wp2_with (fail)
   refine (hI5_h.out).mono ?_
   rintro e w6 ⟨u, fp6, rfl, hO6, hf6, hb6⟩
   obtain ⟨X1, p1, x1, X2, p2, x2, rfl⟩ := hO6.shape
   have k26 := t_box_below k2c_h.out hb6
   have hB6 := below_trans hB5_h.out hb6 hB5_h.out.size
   clear c0 c1 c2 c3 f0 f1 f2 f3 d0 d1 d2 d3 g0' g1 g2 g3
   obtain ⟨⟨d0, d1⟩, g0', g1⟩ := t_box2 k26
   obtain ⟨s1, s2⟩ := t_set2 (a := .slice X1 p1 x1) (b := .slice X2 p2 x2) k26
   have hBs := below_keeps hB6 s2 hB6.size (fun k hk => by omega)
   have hwW := bW_h.out.size
   have hOs := hO6.keeps s2 (fun x hx e => by have := hf6 x hx; omega)
   have hFs : FreshL w.heap.size fp6 := fun x hx => by have := hf6 x hx; omega
   clear hb6 hO6 hB6 k26 s2 hf6; have s1_h := lH s1; have hBs_h := lH hBs; have hOs_h := lH hOs; have hFs_h := lH hFs; clear s1 hBs hOs hFs
   go_wp2_with (fail)
   refine bodyPost_ret (t_results_cell_tmp rfl _ _ (w.heap.size + 1 + 1) _ _ (0, 0) _ rfl s1_h.out Tryz.underlying40 rfl (by kernel_rfl)) rfl ?_
   rw [hM1_h.out]
   exact ⟨_, _, rfl, hOs_h.out, hFs_h.out, hBs_h.out⟩
theorem wp_makeI {o : Oper} {a : Act} {w : World} {K : Act → World → Prop} {Q : Exit → Act → World → Prop} (l c : Operand) (ho : o.op = .makeSlice 23 l c) (n : Nat) (hel : a.eval l = .int .i64 (n : Int)) (hec : a.eval c = .int .i64 (n : Int)) (hn : n ≤ 1048576)
  (h : ∀ (G : Addr) w', IS w' (some G) n (List.replicate n 0) → w.heap.size ≤ G.block → Below w.heap.size w w' → K (a.put o.dst (.slice (some G) n n)) w') : o.wp Tryz.prog a w K Q := by
 obtain ⟨i, hi, hz, hz1, hz2⟩ := info_parts info_int
 have hb' : (i.bytes : Int) * (n : Int) ≤ 281474976710656 := by
  rw [hz2]
  omega
 have hrun := run_make (P := Tryz.prog) w 23 tInt i _ Tryz.underlying23 hi hz .i64 .i64 n n (by omega) (by omega) hb' (by omega)
 simp only [Int.toNat_natCast] at hrun
 unfold Oper.wp
 simp only [execOp, ho, hel, hec, hrun, Sem.run_bind, Sem.run_pure, Result.andThen_ok]
 refine h ⟨w.heap.size, 0, none⟩ _ ?_ (Nat.le_refl _) ((Below.refl _ _).alloc (Nat.le_refl _) _)
 rw [hz1]
 have hs : Sl (w.alloc (.cells (madeCells (Value.int .i64 0).cells (n * 1)) tInt)) tInt 1 (some ⟨w.heap.size, 0, none⟩) n n ((madeCells (Value.int .i64 0).cells (n * 1)).toList.take (n * 1)) :=
  ⟨by simp [size_madeCells], Nat.le_refl _, by unfold maxLen; omega, .inr ⟨w.heap.size, 0, _, rfl, heap_alloc_new w _, by simp [size_madeCells], by simp⟩⟩
 unfold IS
 rw [← madeZeros]
 simpa using hs
def isoS (a b : List Int) (i j : Nat) : List Int := (List.range a.length).map fun w : Nat => if w < i ∨ (w = i ∧ idx b (a.getD w 0) < (j : Int)) then idx b (a.getD w 0) else 0
@[simp] theorem isoS_len (a b : List Int) (i j : Nat) : (isoS a b i j).length = a.length := by simp [isoS]
theorem isoS_start (a b : List Int) : isoS a b 0 0 = List.replicate a.length 0 := by
 unfold isoS
 rw [List.eq_replicate_iff]
 refine ⟨by simp, fun x hx => ?_⟩
 obtain ⟨w, _, rfl⟩ := List.mem_map.1 hx
 rw [if_neg]
 rintro (h | ⟨_, h⟩)
 · omega
 · unfold idx at h
   omega
theorem isoS_end (a b : List Int) : isoS a b a.length 0 = ioL a b := by
 unfold isoS ioL
 apply List.ext_getElem?
 intro k
 by_cases hk : k < a.length
 · simp [hk, List.getD]
 · rw [List.getElem?_eq_none (by simpa using hk), List.getElem?_eq_none (by simpa using hk)]
theorem isoS_row {a b : List Int} {i : Nat} (hab : ∀ x, x ∈ a → x ∈ b) : isoS a b (i + 1) 0 = isoS a b i b.length := by
 unfold isoS
 refine List.map_congr_left fun w hw => ?_
 have hwl := List.mem_range.1 hw
 have hm : a.getD w 0 ∈ a := by rw [List.getD_eq_getElem?_getD, List.getElem?_eq_getElem hwl]; exact List.getElem_mem hwl
 have h1 := idx_lt (hab _ hm)
 by_cases h2 : w < i + 1
 · rw [if_pos (.inl h2), if_pos]
   rcases Nat.lt_or_ge w i with h3 | h3
   · exact .inl h3
   · exact .inr ⟨by omega, h1.2⟩
 · rw [if_neg (by rintro (h | ⟨h, h4⟩) <;> omega), if_neg (by rintro (h | ⟨h, h4⟩) <;> omega)]
theorem isoS_hit {a b : List Int} (hnd : b.Nodup) {i j : Nat} {x : Int} (ha : a[i]? = some x) (hb : b[j]? = some x) : isoS a b i (j + 1) = (isoS a b i j).set i (j : Int) := by
 have hi := (List.getElem?_eq_some_iff.1 ha).1
 have hx : a.getD i 0 = x := by rw [List.getD_eq_getElem?_getD, ha]; rfl
 have hj := idx_at hnd hb
 apply List.ext_getElem?
 intro k
 by_cases hk : k < a.length
 · rw [List.getElem?_set]
   by_cases e : i = k
   · subst e
     rw [if_pos rfl, if_pos (by simpa using hk)]
     simp only [isoS, List.getElem?_map, List.getElem?_range hk, Option.map_some]
     rw [if_pos (.inr ⟨trivial, by rw [hx, hj]; omega⟩), hx, hj]
   · rw [if_neg e]
     simp only [isoS, List.getElem?_map, List.getElem?_range hk, Option.map_some]
     by_cases h2 : k < i
     · rw [if_pos (.inl h2), if_pos (.inl h2)]
     · rw [if_neg (by rintro (h | ⟨h, _⟩) <;> omega), if_neg (by rintro (h | ⟨h, _⟩) <;> omega)]
 · rw [List.getElem?_eq_none (by simpa using hk), List.getElem?_eq_none (by simpa using hk)]
theorem isoS_miss {a b : List Int} {i j : Nat} {x y : Int} (ha : a[i]? = some x) (hb : b[j]? = some y) (hxb : x ∈ b) (hne : x ≠ y) : isoS a b i (j + 1) = isoS a b i j := by
 have hx : a.getD i 0 = x := by rw [List.getD_eq_getElem?_getD, ha]; rfl
 unfold isoS
 refine List.map_congr_left fun w _ => ?_
 have key : (w < i ∨ w = i ∧ idx b (a.getD w 0) < ((j + 1 : Nat) : Int)) ↔ (w < i ∨ w = i ∧ idx b (a.getD w 0) < (j : Int)) := by
  constructor
  · rintro (h | ⟨h, h2⟩)
    · exact .inl h
    · subst h
      refine .inr ⟨rfl, ?_⟩
      rw [hx] at h2 ⊢
      have h3 := idx_lt hxb
      have h4 : idx b x ≠ (j : Int) := fun e => hne (by
       have h5 := idx_get hxb
       rw [e, Int.toNat_natCast, hb] at h5
       exact (Option.some.inj h5).symm)
      omega
  · rintro (h | ⟨h, h2⟩)
    · exact .inl h
    · exact .inr ⟨h, by omega⟩
 by_cases hc : w < i ∨ w = i ∧ idx b (a.getD w 0) < (j : Int)
 · rw [if_pos hc, if_pos (key.2 hc)]
 · rw [if_neg hc, if_neg (fun h => hc (key.1 h))]
structure IsS (W : World) (lb : Nat) (G1 G2 : Addr) (n m : Nat) (t1 t2 : List Int) (w : World) : Prop where
 box : w.heap[lb]? = some (.cells #[.slice (some G1) n n, .slice (some G2) m m] tMa)
 i1 : IS w (some G1) n t1
 i2 : IS w (some G2) m t2
 l1 : t1.length = n
 l2 : t2.length = m
 ne : G1.block ≠ G2.block
 new : W.heap.size ≤ lb ∧ W.heap.size ≤ G1.block ∧ W.heap.size ≤ G2.block
 bel : Below W.heap.size W w
section
variable {W w w' : World} {lb n m : Nat} {G1 G2 : Addr} {t1 t2 : List Int}
theorem IsS.below (h : IsS W lb G1 G2 n m t1 t2 w) (hb : Below w.heap.size w w') : IsS W lb G1 G2 n m t1 t2 w' :=
 ⟨t_box_below h.box hb, h.i1.below hb, h.i2.below hb, h.l1, h.l2, h.ne, h.new, below_trans h.bel hb h.bel.size⟩
theorem IsS.set1 (h : IsS W lb G1 G2 n m t1 t2 w) {j : Nat} (x : Int) (hj : j < n) : IsS W lb G1 G2 n m (t1.set j x) t2 (w.setCell (G1.add j) (.int .i64 x)) := by
 have hk : Keeps (fun b => b = G1.block) w (w.setCell (G1.add j) (.int .i64 x)) := Keeps.setCell (S := fun b => b = G1.block) (Keeps.refl _ w) (p := G1.add j) (by rw [block_of_add]) _
 exact ⟨t_box_keeps h.box hk (fun e => is_ne_box h.i1 h.box (by decide) e.symm), h.i1.set rfl x (by rw [h.l1]; exact hj), h.i2.keeps hk (fun b hb e => h.ne (e.symm.trans (by simpa using hb))), by simpa using h.l1, h.l2, h.ne, h.new, below_keeps h.bel hk h.bel.size fun b e => by rw [e]; exact h.new.2.1⟩
theorem IsS.set2 (h : IsS W lb G1 G2 n m t1 t2 w) {j : Nat} (x : Int) (hj : j < m) : IsS W lb G1 G2 n m t1 (t2.set j x) (w.setCell (G2.add j) (.int .i64 x)) := by
 have hk : Keeps (fun b => b = G2.block) w (w.setCell (G2.add j) (.int .i64 x)) := Keeps.setCell (S := fun b => b = G2.block) (Keeps.refl _ w) (p := G2.add j) (by rw [block_of_add]) _
 exact ⟨t_box_keeps h.box hk (fun e => is_ne_box h.i2 h.box (by decide) e.symm), h.i1.keeps hk (fun b hb e => h.ne ((by simpa using hb : b = G1.block).symm.trans e)), h.i2.set rfl x (by rw [h.l2]; exact hj), h.l1, by simpa using h.l2, h.ne, h.new, below_keeps h.bel hk h.bel.size fun b e => by rw [e]; exact h.new.2.2⟩
theorem IsS.ow (h : IsS W lb G1 G2 n m t1 t2 w) : OwMa w (.agg #[.slice (some G1) n n, .slice (some G2) m m]) (t1, t2) [G1.block, G2.block] := by
 refine ⟨(some G1, n, t1), (some G2, m, t2), by rw [h.l1, h.l2], rfl, rfl, ⟨fun x hx => ?_, ?_, fun x hx b _ hb => (by cases hb)⟩, rfl⟩
 · rcases List.mem_cons.1 hx with rfl | hx
   · exact h.i1
   · obtain rfl := List.mem_singleton.1 hx
     exact h.i2
 · rw [List.pairwise_cons]
   refine ⟨fun x hx b hb hb' => ?_, List.pairwise_singleton _ _⟩
   obtain rfl := List.mem_singleton.1 hx
   have e1 : b = G1.block := by simpa using hb
   have e2 : b = G2.block := by simpa using hb'
   exact h.ne (e1.symm.trans e2)
end
set_option maxRecDepth 100000 in
set_option maxHeartbeats 8000000 in
theorem sIsomorphismOf_law {v v' : Value} {g g' : Gr} {w : World} (h : RdGr w v g) (h' : RdGr w v' g') (ok : OkG g) (ok' : OkG g') :
  Calls Tryz.prog 16 #[v, v'] w fun e w' => ∃ u fp, e = .returned (.tuple #[u, .bool (ioR g g').2]) ∧ OwMa w' u (ioR g g').1 fp ∧ FreshL w.heap.size fp ∧ Below w.heap.size w w' := by
 obtain ⟨M, hM⟩ : ∃ M, ioR g g' = M := ⟨_, rfl⟩
 rw [hM]
 obtain ⟨T1, hT1⟩ : ∃ D, (monoB g && monoB g') = D := ⟨_, rfl⟩
 obtain ⟨T3, hT3⟩ : ∃ D, decide (cgG g = cgG g') = D := ⟨_, rfl⟩
 have hno : (T1 && T3) = false → M = (([], []), false) := fun hh => hM.symm.trans (ioR_no (by rw [hT1, hT3]; exact hh))
 have hyes : (T1 && T3) = true → M = ((ioL (cnM g).1 (cnM g').1, ioL (cnM g).2 (cnM g').2), true) := fun hh => hM.symm.trans (ioR_yes (by rw [hT1, hT3]; exact hh))
 obtain ⟨A, n0, c, B, m0, d, C, k0', e0, rfl⟩ := h.shape
 obtain ⟨A', n0', c', B', m0', d', C', k0'', e0', rfl⟩ := h'.shape
 obtain ⟨z, hz⟩ : ∃ z, z = g.1 := ⟨_, rfl⟩
 obtain ⟨z', hz'⟩ : ∃ z, z = g'.1 := ⟨_, rfl⟩
 rw [← hz] at h ⊢
 rw [← hz'] at h' ⊢
 obtain ⟨W, hW, bW, k0, k1, k2⟩ := allocs3 w (.cells #[.int .i64 z, .slice A n0 c, .slice B m0 d, .slice C k0' e0] tGr) (.cells #[.int .i64 z', .slice A' n0' c', .slice B' m0' d', .slice C' k0'' e0'] tGr) (.cells #[.slice none 0 0, .slice none 0 0] tMa)
 have hG := mtTwo_any W (h.below bW) (h'.below bW) ok ok'
 rw [hT1] at hG
 have hF : ∀ (W' : World), Below W.heap.size W W' → T1 = true → Calls Tryz.prog 38 #[.agg #[.int .i64 z, .slice A n0 c, .slice B m0 d, .slice C k0' e0], .agg #[.int .i64 z', .slice A' n0' c', .slice B' m0' d', .slice C' k0'' e0']] W' fun e w' => e = .returned (.bool T3) ∧ Below W'.heap.size W' w' := fun W' hb a => by
  have ha := hT1.trans a
  rw [Bool.and_eq_true] at ha
  obtain ⟨n, hMo⟩ := mono_of ha.1
  obtain ⟨n', hMo'⟩ := mono_of ha.2
  have := cnSame_any W' n n' ((h.below bW).below hb) ok hMo (mono_gr ha.1) ((h'.below bW).below hb) ok' hMo' (mono_gr ha.2)
  rw [hT3] at this
  exact this
 have hI : T1 = true → T3 = true → ∃ n m, (n ≤ 100 ∧ m ≤ 60) ∧ ((permB (cnM g).1 = true ∧ (cnM g).1.length = n) ∧ permB (cnM g').1 = true ∧ (cnM g').1.length = n) ∧ ((permB (cnM g).2 = true ∧ (cnM g).2.length = m) ∧ permB (cnM g').2 = true ∧ (cnM g').2.length = m) ∧
   (∀ (W' : World), Below W.heap.size W W' → Calls Tryz.prog 40 #[.agg #[.int .i64 z, .slice A n0 c, .slice B m0 d, .slice C k0' e0]] W' (RetCn W' n m (cnM g))) ∧
   ∀ (W' : World), Below W.heap.size W W' → Calls Tryz.prog 40 #[.agg #[.int .i64 z', .slice A' n0' c', .slice B' m0' d', .slice C' k0'' e0']] W' (RetCn W' n m (cnM g')) := fun a cc => by
  have ha := hT1.trans a
  rw [Bool.and_eq_true] at ha
  obtain ⟨n, hMo⟩ := mono_of ha.1
  obtain ⟨n', hMo'⟩ := mono_of ha.2
  obtain ⟨e1, e2⟩ := cg_sizes hMo hMo' (of_decide_eq_true (hT3.trans cc))
  subst e1
  have p1 := cnM_perm hMo
  have p2 := cnM_perm hMo'
  rw [← e2] at p2
  exact ⟨n, g.2.1.length, ⟨hMo.n100, hMo.m60⟩, ⟨p1.1, p2.1⟩, ⟨p1.2, p2.2⟩, fun W' hb => cnNumbers_any W' n _ ((h.below bW).below hb) hMo rfl, fun W' hb => cnNumbers_any W' n _ ((h'.below bW).below hb) hMo' e2.symm⟩
 obtain ⟨⟨a1, a2⟩, haP⟩ : ∃ P, cnM g = P := ⟨_, rfl⟩
 obtain ⟨⟨b1, b2⟩, hbP⟩ : ∃ P, cnM g' = P := ⟨_, rfl⟩
 rw [haP, hbP] at hyes
 simp only [haP, hbP] at hI hyes
 obtain ⟨⟨c0, c1, c2, c3⟩, f0, f1, f2, f3⟩ := t_box4 k0
 obtain ⟨⟨d0, d1, d2, d3⟩, g0', g1, g2, g3⟩ := t_box4 k1
 have hk2l := t_box_lt k2
 clear h h' hz hz' hT1 hT3 ok ok' hM haP hbP; have k0_h := lH k0; have k1_h := lH k1; have k2_h := lH k2; have hG_h := lH hG; have hF_h := lH hF; have hI_h := lH hI; have hno_h := lH hno; have hyes_h := lH hyes; have bW_h := lH bW; clear k0 k1 k2 hG hF hI hno hyes bW
 go_enter Tryz.func16, Tryz.ntmps16
 go_upto_region 1 with (fail)
 rw [← hW]
 clear hW
 go_cut [28] (fun sv wx => sv = .bool (!(T1 && T3)) ∧ Below W.heap.size W wx)
 case first =>
  go_wp2_with (fail)
  refine (hG_h.out).mono ?_
  rintro e w2 ⟨rfl, hb12⟩
  cases T1
  case false =>
   have hb12_h := lH hb12; clear hb12
   go_wp2_with (fail)
   go_meet
   exact ⟨rfl, hb12_h.out⟩
  have k02 := t_box_below k0_h.out hb12
  have k12 := t_box_below k1_h.out hb12
  clear c0 c1 c2 c3 f0 f1 f2 f3 d0 d1 d2 d3 g0' g1 g2 g3
  obtain ⟨⟨c0, c1, c2, c3⟩, f0, f1, f2, f3⟩ := t_box4 k02
  obtain ⟨⟨d0, d1, d2, d3⟩, g0', g1, g2, g3⟩ := t_box4 k12
  have hF2 := hF_h.out w2 hb12 (by trivial)
  have hb12_h := lH hb12; have hF2_h := lH hF2; clear hb12 hF2
  go_wp2_with (fail)
  refine (hF2_h.out).mono ?_
  rintro e w3 ⟨rfl, hb3⟩
  have hb13 := below_trans hb12_h.out hb3 hb12_h.out.size
  clear hb3; have hb13_h := lH hb13; clear hb13
  go_wp2_with (fail)
  go_meet
  exact ⟨by cases T3 <;> rfl, hb13_h.out⟩
 case rest =>
  obtain ⟨rfl, hWc⟩ := hcut
  obtain ⟨w5, rfl⟩ : ∃ x, x = wc := ⟨_, rfl⟩
  have k0c := t_box_below k0_h.out hWc
  have k1c := t_box_below k1_h.out hWc
  have k2c := t_box_below k2_h.out hWc
  have hB5 := below_trans bW_h.out hWc bW_h.out.size
  clear c0 c1 c2 c3 f0 f1 f2 f3 d0 d1 d2 d3 g0' g1 g2 g3
  obtain ⟨F, hF⟩ : ∃ F, F = (T1 && T3) := ⟨_, rfl⟩
  rw [← hF]
  cases F
  case false =>
   have hM0 := hno_h.out hF.symm
   obtain ⟨⟨d0, d1⟩, g0', g1⟩ := t_box2 k2c
   obtain ⟨s1, s2⟩ := t_set2 (a := .slice none 0 0) (b := .slice none 0 0) k2c
   have hBs := below_keeps hB5 s2 hB5.size (fun k hk => by omega)
   clear hWc hB5 k0c k1c k2c s2; have hM0_h := lH hM0; have s1_h := lH s1; have hBs_h := lH hBs; have hF_h := lH hF; clear hM0 s1 hBs hF
   go_wp2_with (fail)
   refine bodyPost_ret (t_results_cell_tmp rfl _ _ (w.heap.size + 1 + 1) _ _ (0, 0) _ rfl s1_h.out Tryz.underlying40 rfl (by kernel_rfl)) rfl ?_
   rw [hM0_h.out]
   exact ⟨_, _, rfl, OwMa.zero _, fun b hb => (by cases hb), hBs_h.out⟩
  case true =>
   have hF' := hF.symm
   have hM1 := hyes_h.out hF'
   rw [Bool.and_eq_true] at hF'
   obtain ⟨n, m, ⟨hn, hm⟩, ⟨pa1, pb1⟩, ⟨pa2, pb2⟩, hN1, hN2⟩ := hI_h.out hF'.1 hF'.2
   obtain ⟨⟨c0, c1, c2, c3⟩, f0, f1, f2, f3⟩ := t_box4 k0c
   have hw5 := hWc.size
   clear hF hF' k0c hI_h hF_h hG_h hno_h hyes_h; have hM1_h := lH hM1; have hWc_h := lH hWc; have hN1_h := lH hN1; have hN2_h := lH hN2; have k1c_h := lH k1c; have k2c_h := lH k2c; have hB5_h := lH hB5; have pa1_h := lH pa1; have pb1_h := lH pb1; have pa2_h := lH pa2; have pb2_h := lH pb2; clear hM1 hWc hN1 hN2 k1c k2c hB5 pa1 pb1 pa2 pb2
   go_wp2_with (fail)
   refine (hN1_h.out w5 hWc_h.out).mono ?_
   rintro e w6 ⟨Na, Ea, rfl, hI1, hI2, _, _, _, hb6⟩
   have hW6 := below_trans hWc_h.out hb6 hWc_h.out.size
   have k16 := t_box_below k1c_h.out hb6
   have k26 := t_box_below k2c_h.out hb6
   have hB6 := below_trans hB5_h.out hb6 hB5_h.out.size
   clear c0 c1 c2 c3 f0 f1 f2 f3
   obtain ⟨⟨c0, c1, c2, c3⟩, f0, f1, f2, f3⟩ := t_box4 k16
   clear hb6 k16; have hI1_h := lH hI1; have hI2_h := lH hI2; have hW6_h := lH hW6; have k26_h := lH k26; have hB6_h := lH hB6; clear hI1 hI2 hW6 k26 hB6
   go_wp2_with (fail)
   refine (hN2_h.out w6 hW6_h.out).mono ?_
   rintro e w7 ⟨Nb, Eb, rfl, hJ1, hJ2, _, _, _, hb7⟩
   have k27 := t_box_below k26_h.out hb7
   have hB7 := below_trans hB6_h.out hb7 hB6_h.out.size
   have hI17 := (hI1_h.out.below hb7).rd
   have hI27 := (hI2_h.out.below hb7).rd
   have hJ17 := hJ1.rd
   have hJ27 := hJ2.rd
   clear c0 c1 c2 c3 f0 f1 f2 f3 hb7 hJ1 hJ2; have k27_h := lH k27; have hB7_h := lH hB7; have hI17_h := lH hI17; have hI27_h := lH hI27; have hJ17_h := lH hJ17; have hJ27_h := lH hJ27; clear k27 hB7 hI17 hI27 hJ17 hJ27
   go_upto_region 5 with (fail)
   go_cut [10] (fun s10 wx => ∃ (lb : Nat) (G1 G2 : Addr), s10 = .pointer (some ⟨lb, 0, none⟩) ∧ IsS w7 lb G1 G2 n m (List.replicate n 0) (List.replicate m 0) wx)
   case first =>
    refine beginH (fun w' => Below w7.heap.size w7 w' ) (by kernel_rfl) ?_
    have hbd : Below w7.heap.size w7 w7.drew := below_drewN (Below.refl _ _) 1
    generalize w7.drew = W1 at hbd ⊢
    refine tkH 0 ?_ rfl hbd (fun W' hW' => ?_) ?_; rotate_left; · (skip; clear hW'; go_simp; first | done | with_reducible rfl)
    simp only [Act.put, nS]
    refine tkH 1 ?_ rfl hbd (fun W' hW' => ?_) ?_; rotate_left; · (skip; clear hW'; go_simp; first | done | with_reducible rfl)
    simp only [Act.put, nS]
    refine tkH 3 ?_ rfl hbd (fun W' hW' => ?_) ?_; rotate_left; · (skip; clear hW'; go_simp; first | done | with_reducible rfl)
    simp only [Act.put, nS]
    refine tkH 4 ?_ rfl hbd (fun W' hW' => ?_) ?_; rotate_left; · (skip; clear hW'; go_simp; first | done | with_reducible rfl)
    simp only [Act.put, nS]
    refine relT [(2, 42), (5, 45), (6, 46), (7, 10)] (fun i => if i = 6 then [42, 45] else []) (fun d xs v w => if d = 42 then RepV n 0 v w else if d = 45 then RepV m 0 v w else if d = 46 then v = .agg #[xs 42, xs 45] else ∃ lb, v = .pointer (some ⟨lb, 0, none⟩) ∧ w.heap[lb]? = some (.cells #[.slice none 0 0, .slice none 0 0] tMa)) (fun _ => blkV) 1 rfl (by kernel_rfl) ?st1 ?co1 (fun w' hw' => below_trans hbd hw' hbd.size) ?sp1 ?fi1
    case st1 => exact fun d xs => (RepV.stb n 0).ite ((RepV.stb m 0).ite (Stb.ite (fun _ _ _ h _ => h) fun _ _ _ ⟨lb, e, h⟩ hb => ⟨lb, e, t_box_below h hb⟩))
    case co1 =>
     intro z hz xs ys v w hd h
     simp only [List.mem_cons, List.not_mem_nil, or_false] at hz
     rcases hz with rfl | rfl | rfl | rfl
     · exact h
     · exact h
     · have h1 := hd 42 (by decide)
       have h2 := hd 45 (by decide)
       show v = .agg #[ys 42, ys 45]
       rw [← h1, ← h2]
       exact h
     · exact h
    case sp1 =>
     refine ⟨⟨_, rfl, fun xs w8 hb8 hd K hK => ?_⟩, ⟨_, rfl, fun xs w8 hb8 hd K hK => ?_⟩, ⟨_, rfl, fun xs w8 hb8 hd K hK => ?_⟩, ⟨_, rfl, fun xs w8 hb8 hd K hK => ?_⟩, trivial⟩
     · simp only [putZ, List.foldl_cons, List.foldl_nil, Act.put, nS] at hK ⊢
       refine wp_makeI _ _ rfl n rfl rfl (by omega) (fun G w9 hI hG hb9 => hK _ _ hb9 ⟨G, rfl, hI⟩ fun b hb => ?_)
       obtain rfl : b = G.block := by simpa [blkV] using hb
       exact ⟨hG, hI.lt G.block (by simp)⟩
     · simp only [putZ, List.foldl_cons, List.foldl_nil, Act.put, nS] at hK ⊢
       refine wp_makeI _ _ rfl m rfl rfl (by omega) (fun G w9 hI hG hb9 => hK _ _ hb9 ⟨G, rfl, hI⟩ fun b hb => ?_)
       obtain rfl : b = G.block := by simpa [blkV] using hb
       exact ⟨hG, hI.lt G.block (by simp)⟩
     · obtain ⟨G1, h1, _⟩ := (hd 42 (by decide) : RepV n 0 (xs 42) w8)
       obtain ⟨G2, h2, _⟩ := (hd 45 (by decide) : RepV m 0 (xs 45) w8)
       simp only [putZ, List.foldl_cons, List.foldl_nil, Act.put, nS] at hK ⊢
       simp only [h1, h2] at hK ⊢
       go_simp
       exact hK _ _ (Below.refl _ _) (by simp) fun b hb => by cases hb
     · simp only [putZ, List.foldl_cons, List.foldl_nil, Act.put, nS] at hK ⊢
       go_simp
       exact hK _ _ (t_below_alloc _ _) ⟨_, rfl, heap_alloc_new _ _⟩ fun b hb => by
        obtain rfl : b = w8.heap.size := by simpa [blkV] using hb
        simp
    case fi1 =>
     intro xs w9 hb9 hR hO hD
     obtain ⟨G1, h1, hI1⟩ := (hR (2, 42) (by simp) : RepV n 0 (xs 42) w9)
     obtain ⟨G2, h2, hI2⟩ := (hR (5, 45) (by simp) : RepV m 0 (xs 45) w9)
     have h3 := (hR (6, 46) (by simp) : xs 46 = .agg #[xs 42, xs 45])
     obtain ⟨lb, h4, hbx⟩ := (hR (7, 10) (by simp) : ∃ lb, xs 10 = .pointer (some ⟨lb, 0, none⟩) ∧ w9.heap[lb]? = some (.cells #[.slice none 0 0, .slice none 0 0] tMa))
     have o1 := hO (2, 42) (by simp) G1.block (by show _ ∈ blkV (xs 42); rw [h1]; simp [blkV])
     have o2 := hO (5, 45) (by simp) G2.block (by show _ ∈ blkV (xs 45); rw [h2]; simp [blkV])
     have o4 := hO (7, 10) (by simp) lb (by show _ ∈ blkV (xs 10); rw [h4]; simp [blkV])
     have d12 : G1.block ≠ G2.block := fun e => hD (2, 42) (by simp) (5, 45) (by simp) (by decide) G1.block (by show _ ∈ blkV (xs 42); rw [h1]; simp [blkV]) (by show _ ∈ blkV (xs 45); rw [h2, e]; simp [blkV])
     rw [h1, h2] at h3
     have hbW := below_trans hbd hb9 hbd.size
     have hz1 := hbd.size
     obtain ⟨s1, s2⟩ := t_set2 (a := .slice (some G1) n n) (b := .slice (some G2) m m) hbx
     have hE0 : IsS w7 lb G1 G2 n m (List.replicate n 0) (List.replicate m 0) ((w9.setCell ⟨lb, 0, none⟩ (.slice (some G1) n n)).setCell ⟨lb, 1, none⟩ (.slice (some G2) m m)) :=
      ⟨s1, hI1.keeps s2 (fun b hb e => is_ne_box hI1 hbx (by decide) ((by simpa using hb : b = G1.block).symm.trans e)), hI2.keeps s2 (fun b hb e => is_ne_box hI2 hbx (by decide) ((by simpa using hb : b = G2.block).symm.trans e)), by simp, by simp, d12, ⟨by omega, by omega, by omega⟩, below_keeps hbW s2 hbW.size fun b e => by omega⟩
     obtain ⟨⟨x0, x1⟩, x2, x3⟩ := t_box2 hbx
     clear hR hO hD hI1 hI2 hbx s1 s2 d12 o1 o2 o4; have hE0_h := lH hE0; clear hE0
     simp only [putZ, List.foldl_cons, List.foldl_nil, Act.put, nS, h1, h2, h4, mkZ]
     rw [h3]
     refine oneH 8 rfl (by kernel_rfl) (by rfl) (fun K hK => ?_)
     go_simp
     refine hK _ _ (hE0_h.out.bel) ?_
     clear hK K
     refine doneH (by kernel_rfl) ?_
     go_wp2_with (fail)
     go_meet
     exact ⟨lb, G1, G2, rfl, hE0_h.out⟩
   case rest =>
    obtain ⟨lb, G1, G2, rfl, hE0⟩ := hcut
    have hE0_h := lH hE0; clear hE0
    go_wp2_with (fail)
    have hs1 := perm_has pa1_h.out pb1_h.out
    have hs2 := perm_has pa2_h.out pb2_h.out
    have hs1_h := lH hs1; have hs2_h := lH hs2; clear hs1 hs2
    go_loopw [49] (fun iv wr => ∃ k : Nat, k ≤ n ∧ iv = .int .i64 k ∧ IsS w7 lb G1 G2 n m (isoS a1 b1 k 0) (List.replicate m 0) wr) (fun iv _ => n - (intOf iv).toNat)
    case atStart => exact ⟨0, Nat.zero_le _, rfl, by rw [isoS_start, pa1_h.out.2]; exact hE0_h.out⟩
    case round =>
     clear hE0_h
     obtain ⟨k, hk, rfl, hS⟩ := hrel
     obtain ⟨wo, rfl⟩ : ∃ x, x = wr := ⟨_, rfl⟩
     by_cases hlt : k < n
     · obtain ⟨x, hx⟩ : ∃ x, a1[k]? = some x := ⟨_, List.getElem?_eq_getElem (by rw [pa1_h.out.2]; exact hlt)⟩
       have hxb := (hs1_h.out x (List.mem_of_getElem? hx)).2
       obtain ⟨ad, hA, px⟩ := (hI17_h.out.below hS.bel) k _ hx
       obtain rfl := Option.some.inj hA
       have hkI : (k : Int) < (n : Int) := by omega
       have hS_h := lH hS; have hx_h := lH hx; have hxb_h := lH hxb; clear hS hx hxb
       go_wp2_with (fail)
       clear px
       go_loopw [56] (fun jv wr => ∃ q : Nat, q ≤ n ∧ jv = .int .i64 q ∧ IsS w7 lb G1 G2 n m (isoS a1 b1 k q) (List.replicate m 0) wr) (fun jv _ => n - (intOf jv).toNat)
       case atStart => exact ⟨0, Nat.zero_le _, rfl, hS_h.out⟩
       case round =>
        clear hS_h
        obtain ⟨q, hq, rfl, hQ⟩ := hrel
        obtain ⟨wi, rfl⟩ : ∃ x, x = wr := ⟨_, rfl⟩
        by_cases hltq : q < n
        · obtain ⟨y, hy⟩ : ∃ y, b1[q]? = some y := ⟨_, List.getElem?_eq_getElem (by rw [pb1_h.out.2]; exact hltq)⟩
          obtain ⟨bd, hB, py⟩ := (hJ17_h.out.below hQ.bel) q _ hy
          obtain rfl := Option.some.inj hB
          have hqI : (q : Int) < (n : Int) := by omega
          by_cases hxy : x = y
          · obtain ⟨⟨x0, x1⟩, x2, x3⟩ := t_box2 hQ.box
            obtain ⟨zd, z0, ze, _, _, zc, zf⟩ := hQ.i1.at_ (j := k) (by rw [hQ.l1]; exact hlt)
            obtain rfl := Option.some.inj ze
            have zfk := zf k
            have hQ2 := hQ.set1 (j := k) (q : Int) hlt
            rw [← isoS_hit (perm_nodup pb1_h.out.1) hx_h.out (by rw [hy, hxy])] at hQ2
            clear hQ zf ze hA hB hy; have hQ2_h := lH hQ2; clear hQ2
            go_wp2_with (fail)
            go_roundw
            case rel => exact ⟨q + 1, by omega, by go_num, hQ2_h.out⟩
            case measure => simp [intOf]; omega
          · rw [← isoS_miss hx_h.out hy hxb_h.out hxy] at hQ
            clear hA hB hy; have hQ_h := lH hQ; clear hQ
            go_wp2_with (fail)
            go_roundw
            case rel => exact ⟨q + 1, by omega, by go_num, hQ_h.out⟩
            case measure => simp [intOf]; omega
        · obtain rfl : n = q := by omega
          have hrow : isoS a1 b1 (k + 1) 0 = isoS a1 b1 k b1.length := isoS_row (fun z hz => (hs1_h.out z hz).2)
          rw [pb1_h.out.2] at hrow
          rw [← hrow] at hQ
          clear hrow hA; have hQ_h := lH hQ; clear hQ
          go_wp2_with (fail)
          go_roundw
          case rel => exact ⟨k + 1, by omega, by go_num, hQ_h.out⟩
          case measure => simp [intOf]; omega
     · obtain rfl : n = k := by omega
       have hend := isoS_end a1 b1
       rw [pa1_h.out.2] at hend
       rw [hend] at hS
       clear hend
       have hE0 := hS
       clear hS; have hE0_h := lH hE0; clear hE0
       go_wp2_with (fail)
       go_loopw [73] (fun iv wr => ∃ k : Nat, k ≤ m ∧ iv = .int .i64 k ∧ IsS w7 lb G1 G2 n m (ioL a1 b1) (isoS a2 b2 k 0) wr) (fun iv _ => m - (intOf iv).toNat)
       case atStart => exact ⟨0, Nat.zero_le _, rfl, by rw [isoS_start, pa2_h.out.2]; exact hE0_h.out⟩
       case round =>
        clear hE0_h
        obtain ⟨k, hk, rfl, hS⟩ := hrel
        obtain ⟨wo, rfl⟩ : ∃ x, x = wr := ⟨_, rfl⟩
        by_cases hlt : k < m
        · obtain ⟨x, hx⟩ : ∃ x, a2[k]? = some x := ⟨_, List.getElem?_eq_getElem (by rw [pa2_h.out.2]; exact hlt)⟩
          have hxb := (hs2_h.out x (List.mem_of_getElem? hx)).2
          obtain ⟨ad, hA, px⟩ := (hI27_h.out.below hS.bel) k _ hx
          obtain rfl := Option.some.inj hA
          have hkI : (k : Int) < (m : Int) := by omega
          have hS_h := lH hS; have hx_h := lH hx; have hxb_h := lH hxb; clear hS hx hxb
          go_wp2_with (fail)
          clear px
          go_loopw [80] (fun jv wr => ∃ q : Nat, q ≤ m ∧ jv = .int .i64 q ∧ IsS w7 lb G1 G2 n m (ioL a1 b1) (isoS a2 b2 k q) wr) (fun jv _ => m - (intOf jv).toNat)
          case atStart => exact ⟨0, Nat.zero_le _, rfl, hS_h.out⟩
          case round =>
           clear hS_h
           obtain ⟨q, hq, rfl, hQ⟩ := hrel
           obtain ⟨wi, rfl⟩ : ∃ x, x = wr := ⟨_, rfl⟩
           by_cases hltq : q < m
           · obtain ⟨y, hy⟩ : ∃ y, b2[q]? = some y := ⟨_, List.getElem?_eq_getElem (by rw [pb2_h.out.2]; exact hltq)⟩
             obtain ⟨bd, hB, py⟩ := (hJ27_h.out.below hQ.bel) q _ hy
             obtain rfl := Option.some.inj hB
             have hqI : (q : Int) < (m : Int) := by omega
             by_cases hxy : x = y
             · obtain ⟨⟨x0, x1⟩, x2, x3⟩ := t_box2 hQ.box
               obtain ⟨zd, z0, ze, _, _, zc, zf⟩ := hQ.i2.at_ (j := k) (by rw [hQ.l2]; exact hlt)
               obtain rfl := Option.some.inj ze
               have zfk := zf k
               have hQ2 := hQ.set2 (j := k) (q : Int) hlt
               rw [← isoS_hit (perm_nodup pb2_h.out.1) hx_h.out (by rw [hy, hxy])] at hQ2
               clear hQ zf ze hA hB hy; have hQ2_h := lH hQ2; clear hQ2
               go_wp2_with (fail)
               go_roundw
               case rel => exact ⟨q + 1, by omega, by go_num, hQ2_h.out⟩
               case measure => simp [intOf]; omega
             · rw [← isoS_miss hx_h.out hy hxb_h.out hxy] at hQ
               clear hA hB hy; have hQ_h := lH hQ; clear hQ
               go_wp2_with (fail)
               go_roundw
               case rel => exact ⟨q + 1, by omega, by go_num, hQ_h.out⟩
               case measure => simp [intOf]; omega
           · obtain rfl : m = q := by omega
             have hrow : isoS a2 b2 (k + 1) 0 = isoS a2 b2 k b2.length := isoS_row (fun z hz => (hs2_h.out z hz).2)
             rw [pb2_h.out.2] at hrow
             rw [← hrow] at hQ
             clear hrow hA; have hQ_h := lH hQ; clear hQ
             go_wp2_with (fail)
             go_roundw
             case rel => exact ⟨k + 1, by omega, by go_num, hQ_h.out⟩
             case measure => simp [intOf]; omega
        · obtain rfl : m = k := by omega
          have hend := isoS_end a2 b2
          rw [pa2_h.out.2] at hend
          rw [hend] at hS
          clear hend
          have k2f := t_box_below k27_h.out hS.bel
          have hBf := below_trans hB7_h.out hS.bel hB7_h.out.size
          have hOw := hS.ow
          have hnew := hS.new
          obtain ⟨⟨x0, x1⟩, x2, x3⟩ := t_box2 hS.box
          have hB7s := hB7_h.out.size
          have hk27 := t_box_lt k27_h.out
          obtain ⟨⟨d0, d1⟩, g0', g1⟩ := t_box2 k2f
          obtain ⟨s1, s2⟩ := t_set2 (a := .slice (some G1) n n) (b := .slice (some G2) m m) k2f
          have hBs := below_keeps hBf s2 hBf.size (fun k hk => by omega)
          have hOs := hOw.keeps s2 (fun x hx e => by
           rcases List.mem_cons.1 hx with rfl | hx
           · omega
           · obtain rfl := List.mem_singleton.1 hx
             omega)
          clear hS k2f hBf hOw s2; have s1_h := lH s1; have hBs_h := lH hBs; have hOs_h := lH hOs; clear s1 hBs hOs
          go_wp2_with (fail)
          refine bodyPost_ret (t_results_cell_tmp rfl _ _ (w.heap.size + 1 + 1) _ _ (0, 0) _ rfl s1_h.out Tryz.underlying40 rfl (by kernel_rfl)) rfl ?_
          rw [hM1_h.out]
          refine ⟨_, _, rfl, hOs_h.out, fun b hb => ?_, hBs_h.out⟩
          rcases List.mem_cons.1 hb with rfl | hb
          · omega
          · obtain rfl := List.mem_singleton.1 hb
            omega
theorem eh_get {l : List EHd} {j : Nat} {n : EHd} (h : l[j]? = some n) : (eh l)[2 * j]? = some n.2.2.1 ∧ (eh l)[2 * j + 1]? = some n.2.2.2 := by
 induction l generalizing j with
 | nil => simp at h
 | cons a r ih =>
   cases j with
   | zero =>
     obtain rfl : a = n := by simpa using h
     simp [eh]
   | succ j =>
     have := ih (j := j) (by simpa using h)
     rw [show 2 * (j + 1) = 2 * j + 1 + 1 by omega]
     simpa [eh] using this
theorem eh_set {l : List EHd} {j : Nat} (n : EHd) (h : j < l.length) : ((eh l).set (2 * j) n.2.2.1).set (2 * j + 1) n.2.2.2 = eh (l.set j n) := by
 induction l generalizing j with
 | nil => simp at h
 | cons a r ih =>
   cases j with
   | zero => simp [eh]
   | succ j =>
     have := ih (j := j) (by simpa using h)
     rw [show 2 * (j + 1) = 2 * j + 1 + 1 by omega]
     simpa [eh] using this
@[simp] theorem eh_length (l : List EHd) : (eh l).length = 2 * l.length := by
  induction l with
  | nil => rfl
  | cons a r ih => simp only [eh, List.length_cons, ih]; omega
theorem fpR_map {l m : List Hd} (h : l.map (·.1) = m.map (·.1)) : fpR l = fpR m := by
 have e : ∀ x : List Hd, fpR x = (x.map (·.1)).flatMap fpA := fun x => by unfold fpR; rw [List.flatMap_map]
 rw [e, e, h]
theorem set_same {α : Type} {l : List α} {i : Nat} {x : α} (h : l[i]? = some x) : l.set i x = l := by
 apply List.ext_getElem?
 intro k
 rw [List.getElem?_set]
 split
 · rename_i e; subst e
   have := (List.getElem?_eq_some_iff.1 h).1
   rw [if_pos this, h]
 · rfl
section
variable {w w' : World} {fp : List Nat} {ls : List Hd}
theorem OwLs.wr (h : OwLs w fp ls) {i : Nat} {B : Option Addr} {c : Nat} {l l' : List Int} (hi : ls[i]? = some (B, c, l)) (hk : Keeps (· ∈ fpA B) w w') (hI : IS w' B c l') : OwLs w' fp (ls.set i (B, c, l')) := by
 have hap : ∀ (k : Nat) (x : Hd), ls[k]? = some x → i ≠ k → ∀ b, b ∈ fpA x.1 → ¬ b ∈ fpA B := fun k x hx hne b hb hb' => by
  have hp := List.pairwise_iff_getElem.1 h.apart
  obtain ⟨hi', ei⟩ := List.getElem?_eq_some_iff.1 hi
  obtain ⟨hk', ek⟩ := List.getElem?_eq_some_iff.1 hx
  rcases Nat.lt_or_gt_of_ne hne with hlt | hlt
  · exact hp i k hi' hk' hlt b (by rw [ei]; exact hb') (by rw [ek]; exact hb)
  · exact hp k i hk' hi' hlt b (by rw [ek]; exact hb) (by rw [ei]; exact hb')
 have hget : ∀ (k : Nat) (x : Hd), (ls.set i (B, c, l'))[k]? = some x → ∃ y : Hd, ls[k]? = some y ∧ y.1 = x.1 := by
  intro k x hx
  rw [List.getElem?_set] at hx
  split at hx
  · rename_i hk; subst hk
    simp at hx
    exact ⟨_, hi, by rw [← hx.2]⟩
  · exact ⟨x, hx, rfl⟩
 refine ⟨fun x hx => ?_, ?_, fun x hx => ?_⟩
 · obtain ⟨k, hkk⟩ := List.mem_iff_getElem?.1 hx
   rw [List.getElem?_set] at hkk
   split at hkk
   · simp at hkk
     rw [← hkk.2]
     exact hI
   · rename_i hik
     exact (h.rows x (List.mem_of_getElem? hkk)).keeps hk fun b hb hb' => hap k x hkk hik b hb hb'
 · refine List.pairwise_iff_getElem.2 fun a b ha hb hab => ?_
   obtain ⟨x, hx, ex⟩ := hget a _ (List.getElem?_eq_getElem ha)
   obtain ⟨y, hy, ey⟩ := hget b _ (List.getElem?_eq_getElem hb)
   rw [← ex, ← ey]
   obtain ⟨ha', e1⟩ := List.getElem?_eq_some_iff.1 hx
   obtain ⟨hb', e2⟩ := List.getElem?_eq_some_iff.1 hy
   rw [← e1, ← e2]
   exact List.pairwise_iff_getElem.1 h.apart a b ha' hb' hab
 · obtain ⟨k, hkk⟩ := List.mem_iff_getElem?.1 hx
   obtain ⟨y, hy, e⟩ := hget k x hkk
   rw [← e]; exact h.outer y (List.mem_of_getElem? hy)
theorem set_fst {ls : List Hd} {i : Nat} {B : Option Addr} {c : Nat} {l l' : List Int} (hi : ls[i]? = some (B, c, l)) : (ls.set i (B, c, l')).map (·.1) = ls.map (·.1) := by
 rw [List.map_set]
 exact set_same (by rw [List.getElem?_map, hi]; rfl)
end
theorem ecs_congr {l : List EHd} {j : Nat} {x y : EHd} (h : ec x = ec y) : ecs (l.set j x) = ecs (l.set j y) := by
 induction l generalizing j with
 | nil => rfl
 | cons a r ih =>
   cases j with
   | zero => simp [ecs, h]
   | succ j => simp only [List.set_cons_succ, ecs, ih]
theorem cntE_take_succ {L : List Eg} {j : Nat} {e : Eg} (h : L[j]? = some e) : cntE (L.take (j + 1)) = cntE (L.take j) + (2 + e.2.2.1.length + e.2.2.2.length) := by
 rw [List.take_add_one, h, cntE_append]; simp [cntE]
theorem cntE_take_le (L : List Eg) (j : Nat) : cntE (L.take j) ≤ cntE L := by
 conv => rhs; rw [← List.take_append_drop j L, cntE_append]
 omega
@[simp] theorem marksE_length : ∀ (k : Nat) (L : List Eg), (marksE k L).length = L.length
  | _, [] => rfl
  | k, e :: r => by simp [marksE, marksE_length]
theorem marksE_get : ∀ {L : List Eg} {k j : Nat} {e : Eg}, L[j]? = some e → (marksE k L)[j]? = some (((k + cntE (L.take j) : Nat) : Int), ((k + cntE (L.take j) + 1 : Nat) : Int), marks (k + cntE (L.take j) + 2) e.2.2.1.length, marks (k + cntE (L.take j) + 2 + e.2.2.1.length) e.2.2.2.length)
 | a :: r, k, 0, e, h => by
   obtain rfl : a = e := by simpa using h
   simp [marksE, cntE]
 | a :: r, k, j + 1, e, h => by
   have := marksE_get (L := r) (k := k + 2 + a.2.2.1.length + a.2.2.2.length) (j := j) (e := e) (by simpa using h)
   rw [show k + 2 + a.2.2.1.length + a.2.2.2.length + cntE (r.take j) = k + cntE ((a :: r).take (j + 1)) by simp [cntE]; omega] at this
   simpa [marksE] using this
set_option maxRecDepth 100000 in
set_option maxHeartbeats 4000000 in
theorem markEdgeS_any (A : Option Addr) (c m : Nat) (l : List EHd) (pre : List Hd) (k : Nat) (w : World) (h : Sl w tEd 4 A m c (ecs l)) (hO : OwLs w (fpA A) (pre ++ eh l)) (hm : l.length = m) (hml : m ≤ 1048576) (hl : k + cntE (l.map egOf) ≤ 17592186044000) :
  Calls Tryz.prog 33 #[.slice A m c, .int .i64 k] w fun e w' => ∃ ys : List EHd, e = .returned (.int .i64 ((k + cntE (l.map egOf) : Nat) : Int)) ∧ ys.length = m ∧ ys.map egOf = marksE k (l.map egOf) ∧ Sl w' tEd 4 A m c (ecs ys) ∧ OwLs w' (fpA A) (pre ++ eh ys) ∧ (eh ys).map (·.1) = (eh l).map (·.1) ∧ Keeps (· ∈ fpA A ++ fpR (eh l)) w w' := by
 obtain ⟨L, hL⟩ : ∃ L, L = l.map egOf := ⟨_, rfl⟩
 rw [← hL] at hl ⊢
 have hLm : L.length = m := by rw [hL, List.length_map, hm]
 have hm_h := lH hm; have hL_h := lH hL; have hLm_h := lH hLm; have h_h := lH h; have hO_h := lH hO; clear hm hL hLm h hO
 go_enter Tryz.func33, Tryz.ntmps33
 go_wp2_with (fail)
 go_loopw [1, 5] (fun q i wr => ∃ (j : Nat) (ys : List EHd), j ≤ m ∧ i = .int .i64 j ∧ q = .int .i64 ((k + cntE (L.take j) : Nat) : Int) ∧ ys.length = m ∧ ys.map egOf = (marksE k L).take j ++ L.drop j ∧ Sl wr tEd 4 A m c (ecs ys) ∧ OwLs wr (fpA A) (pre ++ eh ys) ∧ (eh ys).map (·.1) = (eh l).map (·.1) ∧ Keeps (· ∈ fpA A ++ fpR (eh l)) w wr) (fun _ i _ => m - (intOf i).toNat)
 case atStart => exact ⟨0, l, Nat.zero_le _, rfl, by simp [cntE], hm_h.out, by simpa using hL_h.out.symm, h_h.out, hO_h.out, rfl, Keeps.refl _ _⟩
 case round =>
  clear h_h hO_h
  obtain ⟨j, ys, hj, rfl, rfl, hyl, hye, his, hO, hfe, hkp⟩ := hrel
  by_cases hlt : j < m
  · obtain ⟨⟨κ, v, ⟨B, b, s⟩, ⟨C, d, t⟩⟩, hy⟩ : ∃ y, ys[j]? = some y := ⟨_, List.getElem?_eq_getElem (by omega)⟩
    have hLj : L[j]? = some (κ, v, s, t) := by
     have h1 : (ys.map egOf)[j]? = some (κ, v, s, t) := by rw [List.getElem?_map, hy]; rfl
     rw [hye, List.getElem?_append_right (by rw [List.length_take, marksE_length]; omega), List.length_take, marksE_length, List.getElem?_drop] at h1
     rwa [show j + (j - min j L.length) = j by rw [hLm_h.out]; omega] at h1
    obtain ⟨ad, hA, g0, g1⟩ : ∃ ad, A = some ad ∧ (∀ x, wr.frozen? (ad.add x) = false) ∧ ∀ i u, (ecs ys)[i]? = some u → wr.cell? (ad.add i) = some u := by
     obtain ⟨ad, hA, _, _, hf⟩ := Sl.cell his (ecs_get hy).1
     refine ⟨ad, hA, hf, fun i u hu => ?_⟩
     obtain ⟨ad', hA', _, hc, _⟩ := Sl.cell his hu
     rw [hA] at hA'
     obtain rfl := Option.some.inj hA'
     exact hc
    subst hA
    obtain ⟨y0, y1, y2, y3⟩ := ecs_get hy
    have hel : (ecs ys).length = m * 4 := by rw [ecs_length, hyl]
    obtain ⟨K, hK⟩ : ∃ K, K = k + cntE (L.take j) := ⟨_, rfl⟩
    have hcs := cntE_take_succ hLj
    have hcl := cntE_take_le L (j + 1)
    have hKb : K + (2 + s.length + t.length) ≤ 17592186044000 := by
     have : cntE (L.take (j + 1)) = cntE (L.take j) + (2 + s.length + t.length) := hcs
     omega
    -- the two stores
    obtain ⟨W1, hW1⟩ : ∃ W1, W1 = wr.setCell (ad.add (j * 4)) (.int .i64 (K : Int)) := ⟨_, rfl⟩
    have sl1 := Sl.set his rfl (j * 4) (.int .i64 (K : Int)) (by omega)
    rw [← hW1] at sl1
    obtain ⟨W2, hW2⟩ : ∃ W2, W2 = W1.setCell ⟨(ad.add (j * 4)).block, (ad.add (j * 4)).off + 1, none⟩ (.int .i64 ((K + 1 : Nat) : Int)) := ⟨_, rfl⟩
    have sl2 := Sl.set sl1 rfl (j * 4 + 1) (.int .i64 ((K + 1 : Nat) : Int)) (by rw [List.length_set]; omega)
    rw [add_next _ _ 1 (by omega), ← hW2] at sl2
    have q0 := g1 _ _ y0
    have q1 : W1.cell? ⟨(ad.add (j * 4)).block, (ad.add (j * 4)).off + 1, none⟩ = some (.int .i64 v) := by
     obtain ⟨ad', hA', _, hc, _⟩ := Sl.cell sl1 (j := j * 4 + 1) (u := .int .i64 v) (by rw [List.getElem?_set_ne (by omega)]; exact y1)
     obtain rfl := Option.some.inj hA'
     rwa [add_next _ _ 1 (by omega)] at hc
    have q1f : W1.frozen? ⟨(ad.add (j * 4)).block, (ad.add (j * 4)).off + 1, none⟩ = false := by
     obtain ⟨ad', hA', _, _, hf⟩ := Sl.cell sl1 (j := j * 4 + 1) (u := .int .i64 v) (by rw [List.getElem?_set_ne (by omega)]; exact y1)
     obtain rfl := Option.some.inj hA'
     have := hf (j * 4 + 1)
     rwa [add_next _ _ 1 (by omega)] at this
    have q2 : W2.cell? ⟨(ad.add (j * 4)).block, (ad.add (j * 4)).off + 2, none⟩ = some (.slice B s.length b) := by
     obtain ⟨ad', hA', _, hc, _⟩ := Sl.cell sl2 (j := j * 4 + 2) (u := .slice B s.length b) (by rw [List.getElem?_set_ne (by omega), List.getElem?_set_ne (by omega)]; exact y2)
     obtain rfl := Option.some.inj hA'
     rwa [add_next _ _ 2 (by omega)] at hc
    have hkB : Keeps (· ∈ fpA (some ad)) wr W2 := by
     rw [hW2, hW1]
     exact ((Keeps.refl _ wr).setCell (p := ad.add (j * 4)) (by rw [block_of_add]; simp) _).setCell (p := ⟨(ad.add (j * 4)).block, (ad.add (j * 4)).off + 1, none⟩) (by simp [block_of_add]) _
    have hset2 : ((ecs ys).set (j * 4) (.int .i64 (K : Int))).set (j * 4 + 1) (.int .i64 ((K + 1 : Nat) : Int)) = ecs (ys.set j ((K : Int), ((K + 1 : Nat) : Int), (B, b, s), (C, d, t))) := by
     rw [← ecs_set ((K : Int), ((K + 1 : Nat) : Int), (B, b, s), (C, d, t)) (by omega)]
     rw [set_same (i := j * 4 + 2) (by rw [List.getElem?_set_ne (by omega), List.getElem?_set_ne (by omega)]; exact y2), set_same (i := j * 4 + 3) (by rw [List.getElem?_set_ne (by omega), List.getElem?_set_ne (by omega)]; exact y3)]
    rw [hset2] at sl2
    have hO2 := hO.grow (fp' := fpA (some ad)) (fun x hx => .inl hx) hkB
    obtain ⟨z1, z2⟩ := eh_get hy
    have i1 : (pre ++ eh ys)[pre.length + 2 * j]? = some (B, b, s) := by rw [List.getElem?_append_right (by omega), Nat.add_sub_cancel_left]; exact z1
    have i2 : (pre ++ eh ys)[pre.length + (2 * j + 1)]? = some (C, d, t) := by rw [List.getElem?_append_right (by omega), Nat.add_sub_cancel_left]; exact z2
    have hI1 := hO2.rows _ (List.mem_of_getElem? i1)
    obtain ⟨p, hp⟩ : ∃ p, p = s.length := ⟨_, rfl⟩
    obtain ⟨r, hr⟩ : ∃ r, r = t.length := ⟨_, rfl⟩
    have hC1 := markIntS_any B b s (K + 2) W2 hI1 (by omega)
    have hC2 := fun (W : World) (hI : IS W C d t) => markIntS_any C d t (K + 2 + p) W hI (by omega)
    simp only [← hp] at hC1 q2 hKb
    simp only [← hr] at hC2 hKb
    have hjI : (j : Int) < (m : Int) := by omega
    have f0 := g0 (j * 4)
    have hBfp : ∀ x, x ∈ fpA B → x ∈ fpR (eh ys) := fun x hx => mem_fpR.2 ⟨_, List.mem_of_getElem? z1, hx⟩
    have hCfp : ∀ x, x ∈ fpA C → x ∈ fpR (eh ys) := fun x hx => mem_fpR.2 ⟨_, List.mem_of_getElem? z2, hx⟩
    have hfeq := fpR_map hfe
    have hBA : ∀ x, x ∈ fpA B → ¬ x ∈ fpA (some ad) := hO2.outer _ (List.mem_of_getElem? i1)
    rw [← hK]
    have eK1 : ((K : Int) + 1) = ((K + 1 : Nat) : Int) := by omega
    have eK2 : ((K : Int) + 1 + 1) = ((K + 2 : Nat) : Int) := by omega
    clear g0 g1 y0 y1 y2 y3 sl1 his hO hset2 hI1 hyl hcl hcs; have hC1_h := lH hC1; have hC2_h := lH hC2; have hp_h := lH hp; have hr_h := lH hr; have hK_h := lH hK; have hye_h := lH hye; have hy_h := lH hy; have hLj_h := lH hLj; have hkB_h := lH hkB; have hO2_h := lH hO2; have sl2_h := lH sl2; have i1_h := lH i1; have i2_h := lH i2; have z1_h := lH z1; have z2_h := lH z2; have hBfp_h := lH hBfp; have hCfp_h := lH hCfp; have hfeq_h := lH hfeq; have hfe_h := lH hfe; have hkp_h := lH hkp; have hel_h := lH hel; have hBA_h := lH hBA; have eK1_h := lH eK1; have eK2_h := lH eK2; clear hC1 hC2 hp hr hK hye hy hLj hkB hO2 sl2 i1 i2 z1 z2 hBfp hCfp hfeq hfe hkp hel hBA eK1 eK2
    go_upto_region 5 with (fail)
    rw [← hW1]
    clear hW1
    go_upto_region 7 with (fail)
    rw [eK1_h.out, ← hW2]
    clear hW2 q0 q1 q1f f0
    go_wp2_with (fail)
    rw [eK2_h.out]
    refine (hC1_h.out).mono ?_
    rintro e w3 ⟨rfl, hI3, hk3⟩
    have hO3 := hO2_h.out.wr i1_h.out hk3 hI3
    have sl3 := sl2_h.out.keeps hk3 (fun x hx hx' => hBA_h.out x hx' hx)
    have i3 : ((pre ++ eh ys).set (pre.length + 2 * j) (B, b, marks (K + 2) p))[pre.length + (2 * j + 1)]? = some (C, d, t) := by
     rw [List.getElem?_set_ne (by omega)]; exact i2_h.out
    have hI4 := hO3.rows _ (List.mem_of_getElem? i3)
    have hjl : j < ys.length := (List.getElem?_eq_some_iff.1 hy_h.out).1
    have q3 : w3.cell? ⟨(ad.add (j * 4)).block, (ad.add (j * 4)).off + 3, none⟩ = some (.slice C r d) := by
     have e := (ecs_get (l := ys.set j ((K : Int), ((K + 1 : Nat) : Int), (B, b, s), (C, d, t))) (j := j) (n := ((K : Int), ((K + 1 : Nat) : Int), (B, b, s), (C, d, t))) (by rw [List.getElem?_set_self hjl])).2.2.2
     obtain ⟨ad', hA', _, hc, _⟩ := Sl.cell sl3 e
     obtain rfl := Option.some.inj hA'
     rw [add_next _ _ 3 (by omega)] at hc
     rw [hr_h.out]; exact hc
    have hC4 := hC2_h.out w3 hI4
    have hk3' := hkB_h.out.trans (Keeps.of_below (Below.refl _ _) _)
    clear q2 hI3 hI4; have hO3_h := lH hO3; have sl3_h := lH sl3; have i3_h := lH i3; have hC4_h := lH hC4; have hk3_h := lH hk3; clear hO3 sl3 i3 hC4 hk3
    go_wp2_with (fail)
    refine (hC4_h.out).mono ?_
    rintro e w4 ⟨rfl, hI5, hk5⟩
    have hO5 := hO3_h.out.wr i3_h.out hk5 hI5
    have hCA : ∀ x, x ∈ fpA C → ¬ x ∈ fpA (some ad) := hO3_h.out.outer _ (List.mem_of_getElem? i3_h.out)
    have sl5 := sl3_h.out.keeps hk5 (fun x hx hx' => hCA x hx' hx)
    have hys : ecs (ys.set j ((K : Int), ((K + 1 : Nat) : Int), (B, b, s), (C, d, t))) = ecs (ys.set j ((K : Int), ((K + 1 : Nat) : Int), (B, b, marks (K + 2) p), (C, d, marks (K + 2 + p) r))) := ecs_congr (by simp only [ec, Hd.val, marks_length]; rw [← hp_h.out, ← hr_h.out])
    rw [hys] at sl5
    have hOe : ((pre ++ eh ys).set (pre.length + 2 * j) (B, b, marks (K + 2) p)).set (pre.length + (2 * j + 1)) (C, d, marks (K + 2 + p) r) = pre ++ eh (ys.set j ((K : Int), ((K + 1 : Nat) : Int), (B, b, marks (K + 2) p), (C, d, marks (K + 2 + p) r))) := by
     rw [List.set_append_right _ _ (by omega), List.set_append_right _ _ (by omega), Nat.add_sub_cancel_left, Nat.add_sub_cancel_left, ← eh_set _ hjl]
    rw [hOe] at hO5
    have hfe2 : (eh (ys.set j ((K : Int), ((K + 1 : Nat) : Int), (B, b, marks (K + 2) p), (C, d, marks (K + 2 + p) r)))).map (·.1) = (eh l).map (·.1) := by
     rw [← eh_set _ hjl, set_fst (l := t) (by rw [List.getElem?_set_ne (by omega)]; exact z2_h.out), set_fst z1_h.out, hfe_h.out]
    have hye2 : (ys.set j ((K : Int), ((K + 1 : Nat) : Int), (B, b, marks (K + 2) p), (C, d, marks (K + 2 + p) r))).map egOf = (marksE k L).take (j + 1) ++ L.drop (j + 1) := by
     rw [List.map_set, hye_h.out]
     have e := take_append_step (l := marksE k L) (m := L) (k := j) (by rw [marksE_length]) (marksE_get hLj_h.out)
     rw [← hK_h.out] at e
     rw [← e, hp_h.out, hr_h.out]; rfl
    have hkf : Keeps (· ∈ fpA (some ad) ++ fpR (eh l)) w w4 := by
     refine ((hkp_h.out.trans (hkB_h.out.mono fun x _ hx => List.mem_append_left _ hx)).trans (hk3_h.out.mono fun x _ hx => ?_)).trans (hk5.mono fun x _ hx => ?_)
     · rw [← hfeq_h.out]; exact List.mem_append_right _ (hBfp_h.out x hx)
     · rw [← hfeq_h.out]; exact List.mem_append_right _ (hCfp_h.out x hx)
    have hcs2 : k + cntE (L.take (j + 1)) = K + 2 + p + r := by
     have e1 : cntE (L.take (j + 1)) = cntE (L.take j) + (2 + s.length + t.length) := cntE_take_succ hLj_h.out
     have := hK_h.out; have := hp_h.out; have := hr_h.out; omega
    have hyl2 : ys.length = m := by have := hel_h.out; rw [ecs_length] at this; omega
    clear hI5 hk5 hCA hys hOe q3; have hO5_h := lH hO5; have sl5_h := lH sl5; have hfe2_h := lH hfe2; have hye2_h := lH hye2; have hkf_h := lH hkf; have hcs2_h := lH hcs2; have hyl2_h := lH hyl2; clear hO5 sl5 hfe2 hye2 hkf hcs2 hyl2
    go_wp2_with (fail)
    go_roundw
    case rel => exact ⟨j + 1, _, by omega, by go_num, by rw [hcs2_h.out]; go_num, by rw [List.length_set]; exact hyl2_h.out, hye2_h.out, sl5_h.out, hO5_h.out, hfe2_h.out, hkf_h.out⟩
    case measure => simp [intOf]; omega
  · obtain rfl : m = j := by omega
    have hye2 : ys.map egOf = marksE k L := by
     rw [hye, List.take_of_length_le (by rw [marksE_length, hLm_h.out]; exact Nat.le_refl _), List.drop_of_length_le (by rw [hLm_h.out]; exact Nat.le_refl _), List.append_nil]
    have hcn : cntE (L.take m) = cntE L := by rw [List.take_of_length_le (by rw [hLm_h.out]; exact Nat.le_refl _)]
    have hye2_h := lH hye2; have hcn_h := lH hcn; have hyl_h := lH hyl; have his_h := lH his; have hO_h := lH hO; have hfe_h := lH hfe; have hkp_h := lH hkp; clear hye2 hcn hyl his hO hfe hkp; clear hye
    go_wp2_with (fail)
    go_ret
    exact ⟨ret_int (by rw [hcn_h.out]), ys, hyl_h.out, hye2_h.out, his_h.out, hO_h.out, hfe_h.out, hkp_h.out.mono fun x _ hx => List.mem_append.1 hx⟩
set_option maxRecDepth 100000 in
set_option maxHeartbeats 2000000 in
theorem eqGraph_law {v v' : Value} {g g' : Gr} {w : World} (h : RdGr w v g) (h' : RdGr w v' g') (ok : OkG g) :
  Calls Tryz.prog 11 #[v, v'] w fun e w' => e = .returned (.bool (decide (g = g'))) ∧ Below w.heap.size w w' := by
 obtain ⟨A, c, hs, ⟨B, b, s⟩, ⟨C, d, t⟩, rfl, e1, e2, e3, hE, hRa, hRb⟩ := h
 obtain ⟨A', c', hs', ⟨B', b', s'⟩, ⟨C', d', t'⟩, rfl, e1', e2', e3', hE', hRa', hRb'⟩ := h'
 obtain ⟨z, es, s0, t0⟩ := g
 obtain ⟨z', es', s0', t0'⟩ := g'
 have a1 : es = hs.map egOf := e1
 have a2 : s = s0 := e2
 have a3 : t = t0 := e3
 have b1 : es' = hs'.map egOf := e1'
 have b2 : s' = s0' := e2'
 have b3 : t' = t0' := e3'
 subst a1 a2 a3 b1 b2 b3
 obtain ⟨⟨ok1, ok2, ok3⟩, ok4, -⟩ := ok
 have ok1' : hs.length ≤ 1048576 := by have : (hs.map egOf).length ≤ 1048576 := ok1; simpa using this
 have ok2' : s.length ≤ 1048576 := ok2
 have ok3' : t.length ≤ 1048576 := ok3
 have hQ0 := fun (W : World) (hb : Below w.heap.size w W) => eqEdgeS_any A A' c c' hs hs' W (hE.below hb) (hE'.below hb) ok1' (fun x hx => ok4 _ (List.mem_map_of_mem hx))
 have hQ1 := fun (W : World) (hb : Below w.heap.size w W) => eqIntS_any B B' b b' s s' W (RdI.below hRa hb) (RdI.below hRa' hb) (by omega)
 have hQ2 := fun (W : World) (hb : Below w.heap.size w W) => eqIntS_any C C' d d' t t' W (RdI.below hRb hb) (RdI.below hRb' hb) (by omega)
 show Calls Tryz.prog _ #[.agg #[.int .i64 z, .slice A hs.length c, .slice B s.length b, .slice C t.length d], .agg #[.int .i64 z', .slice A' hs'.length c', .slice B' s'.length b', .slice C' t'.length d']] w fun e w' => e = .returned (.bool (decide (((z, hs.map egOf, s, t) : Gr) = (z', hs'.map egOf, s', t')))) ∧ Below w.heap.size w w'
 obtain ⟨D, hD⟩ : ∃ D, D = decide (((z, hs.map egOf, s, t) : Gr) = (z', hs'.map egOf, s', t')) := ⟨_, rfl⟩
 obtain ⟨D0, hD0⟩ : ∃ D, D = decide (hs.map egOf = hs'.map egOf) := ⟨_, rfl⟩
 obtain ⟨D1, hD1⟩ : ∃ D, D = decide (s = s') := ⟨_, rfl⟩
 obtain ⟨D2, hD2⟩ : ∃ D, D = decide (t = t') := ⟨_, rfl⟩
 rw [← hD]
 simp only [← hD0] at hQ0
 simp only [← hD1] at hQ1
 simp only [← hD2] at hQ2
 have hDD : D = (decide (z = z') && (D0 && (D1 && D2))) := by
  rw [hD, hD0, hD1, hD2, Bool.eq_iff_iff]; simp
 obtain ⟨n, hn⟩ : ∃ n, n = hs.length := ⟨_, rfl⟩
 obtain ⟨n', hn'⟩ : ∃ n, n = hs'.length := ⟨_, rfl⟩
 obtain ⟨p, hp⟩ : ∃ p, p = s.length := ⟨_, rfl⟩
 obtain ⟨q, hq⟩ : ∃ q, q = t.length := ⟨_, rfl⟩
 obtain ⟨p', hp'⟩ : ∃ p, p = s'.length := ⟨_, rfl⟩
 obtain ⟨q', hq'⟩ : ∃ q, q = t'.length := ⟨_, rfl⟩
 simp only [← hn, ← hn'] at hQ0
 simp only [← hp, ← hp'] at hQ1
 simp only [← hq, ← hq'] at hQ2
 rw [← hn, ← hn', ← hp, ← hq, ← hp', ← hq']
 obtain ⟨W, hW, bW, k0, k1⟩ := allocs2 w (.cells #[.int .i64 z, .slice A n c, .slice B p b, .slice C q d] tGr) (.cells #[.int .i64 z', .slice A' n' c', .slice B' p' b', .slice C' q' d'] tGr)
 obtain ⟨⟨c0, c1, c2, c3⟩, f0, f1, f2, f3⟩ := t_box4 k0
 obtain ⟨⟨d0, d1, d2, d3⟩, g0, g1, g2, g3⟩ := t_box4 k1
 clear hE hE' hRa hRa' hRb hRb' hD hD0 hD1 hD2 hn hn' hp hq hp' hq' e1 e2 e3 e1' e2' e3' ok1 ok2 ok3 ok4
 by_cases e0 : z = z'
 · have t0 : (z != z') = false := by simp [e0]
   rw [decide_eq_true e0] at hDD
   cases D0
   · obtain rfl : D = false := by rw [hDD]; rfl
     clear e0 hDD; have hQ0_h := lH hQ0; have hQ1_h := lH hQ1; have hQ2_h := lH hQ2; have k0_h := lH k0; have k1_h := lH k1; have bW_h := lH bW; clear hQ0 hQ1 hQ2 k0 k1 bW
     go_enter Tryz.func11, Tryz.ntmps11
     go_upto_region 1 with (fail)
     rw [← hW]
     clear hW
     go_wp2_with (fail)
     refine (hQ0_h.out W bW_h.out).mono ?_
     rintro e w1 ⟨rfl, hb1⟩
     go_wp2_with (fail)
     go_ret
     exact ⟨rfl, below_trans bW_h.out hb1 bW_h.out.size⟩
   · cases D1
     · obtain rfl : D = false := by rw [hDD]; rfl
       clear e0 hDD; have hQ0_h := lH hQ0; have hQ1_h := lH hQ1; have hQ2_h := lH hQ2; have k0_h := lH k0; have k1_h := lH k1; have bW_h := lH bW; clear hQ0 hQ1 hQ2 k0 k1 bW
       go_enter Tryz.func11, Tryz.ntmps11
       go_upto_region 1 with (fail)
       rw [← hW]
       clear hW
       go_wp2_with (fail)
       refine (hQ0_h.out W bW_h.out).mono ?_
       rintro e w1 ⟨rfl, hb1⟩
       clear c0 c1 c2 c3 f0 f1 f2 f3 d0 d1 d2 d3 g0 g1 g2 g3
       obtain ⟨⟨c0, c1, c2, c3⟩, f0, f1, f2, f3⟩ := t_box4 (t_box_below k0_h.out hb1)
       obtain ⟨⟨d0, d1, d2, d3⟩, g0, g1, g2, g3⟩ := t_box4 (t_box_below k1_h.out hb1)
       have hB1 := below_trans bW_h.out hb1 bW_h.out.size
       clear hb1; have hB1_h := lH hB1; clear hB1
       go_wp2_with (fail)
       refine (hQ1_h.out w1 hB1_h.out).mono ?_
       rintro e w2 ⟨rfl, hq2⟩
       have hB2 := below_trans hB1_h.out hq2.below hB1_h.out.size
       clear hq2; have hB2_h := lH hB2; clear hB2
       go_wp2_with (fail)
       go_ret
       exact ⟨rfl, hB2_h.out⟩
     · obtain rfl : D = D2 := by rw [hDD]; rfl
       clear e0 hDD; have hQ0_h := lH hQ0; have hQ1_h := lH hQ1; have hQ2_h := lH hQ2; have k0_h := lH k0; have k1_h := lH k1; have bW_h := lH bW; clear hQ0 hQ1 hQ2 k0 k1 bW
       go_enter Tryz.func11, Tryz.ntmps11
       go_upto_region 1 with (fail)
       rw [← hW]
       clear hW
       go_wp2_with (fail)
       refine (hQ0_h.out W bW_h.out).mono ?_
       rintro e w1 ⟨rfl, hb1⟩
       clear c0 c1 c2 c3 f0 f1 f2 f3 d0 d1 d2 d3 g0 g1 g2 g3
       have k0a := t_box_below k0_h.out hb1
       have k1a := t_box_below k1_h.out hb1
       obtain ⟨⟨c0, c1, c2, c3⟩, f0, f1, f2, f3⟩ := t_box4 k0a
       obtain ⟨⟨d0, d1, d2, d3⟩, g0, g1, g2, g3⟩ := t_box4 k1a
       have hB1 := below_trans bW_h.out hb1 bW_h.out.size
       clear hb1; have hB1_h := lH hB1; have k0a_h := lH k0a; have k1a_h := lH k1a; clear hB1 k0a k1a
       go_wp2_with (fail)
       refine (hQ1_h.out w1 hB1_h.out).mono ?_
       rintro e w2 ⟨rfl, hq2⟩
       clear c0 c1 c2 c3 f0 f1 f2 f3 d0 d1 d2 d3 g0 g1 g2 g3
       obtain ⟨⟨c0, c1, c2, c3⟩, f0, f1, f2, f3⟩ := t_box4 (box_qt k0a_h.out hq2)
       obtain ⟨⟨d0, d1, d2, d3⟩, g0, g1, g2, g3⟩ := t_box4 (box_qt k1a_h.out hq2)
       have hB2 := below_trans hB1_h.out hq2.below hB1_h.out.size
       clear hq2; have hB2_h := lH hB2; clear hB2
       go_wp2_with (fail)
       refine (hQ2_h.out w2 hB2_h.out).mono ?_
       rintro e w3 ⟨rfl, hq3⟩
       have hB3 := below_trans hB2_h.out hq3.below hB2_h.out.size
       clear hq3; have hB3_h := lH hB3; clear hB3
       cases D
       · go_wp2_with (fail)
         go_ret
         exact ⟨rfl, hB3_h.out⟩
       · go_wp2_with (fail)
         go_ret
         exact ⟨rfl, hB3_h.out⟩
 · have t0 : (z != z') = true := by simp [e0]
   obtain rfl : D = false := by rw [hDD, decide_eq_false e0]; rfl
   clear e0 hDD; have hQ0_h := lH hQ0; have hQ1_h := lH hQ1; have hQ2_h := lH hQ2; have k0_h := lH k0; have k1_h := lH k1; have bW_h := lH bW; clear hQ0 hQ1 hQ2 k0 k1 bW
   go_enter Tryz.func11, Tryz.ntmps11
   go_upto_region 1 with (fail)
   rw [← hW]
   clear hW
   go_wp2_with (fail)
   go_ret
   exact ⟨rfl, bW_h.out⟩
theorem alloc_box1 (w : World) (o : Obj) : ∃ W, W = w.alloc o ∧ Below w.heap.size w W ∧ W.heap[w.heap.size]? = some o := ⟨_, rfl, t_below_alloc _ _, heap_alloc_new _ _⟩
set_option maxRecDepth 100000 in
set_option maxHeartbeats 2000000 in
theorem markGraph_law {v : Value} {g : Gr} {fp : List Nat} {K : Int} {w : World} (k : Nat) (h : OwGr w v g fp) (hK : K = (k : Int)) (_ok : OkG g) (hl : k + cntG g ≤ 17592186044000 ∧ 0 < k) :
  Calls Tryz.prog 12 #[v, .int .i64 K] w fun e w' => e = .returned (.int .i64 (K + (cntG g : Int))) ∧ HeGr w' v g k fp ∧ Keeps (· ∈ fp) w w' := by
 subst hK
 obtain ⟨A, c, hs, ⟨B, b, s⟩, ⟨C, d, t⟩, rfl, e1, e2, e3, hsl, hO, rfl⟩ := h
 obtain ⟨z, es, s0, t0⟩ := g
 have a1 : es = hs.map egOf := e1
 have a2 : s = s0 := e2
 have a3 : t = t0 := e3
 subst a1 a2 a3
 obtain ⟨⟨ok1, -, -⟩, -, -⟩ := _ok
 have ok1' : hs.length ≤ 1048576 := by have : (hs.map egOf).length ≤ 1048576 := ok1; simpa using this
 obtain ⟨E, hE⟩ : ∃ E, E = cntE (hs.map egOf) := ⟨_, rfl⟩
 obtain ⟨n, hn⟩ : ∃ n, n = hs.length := ⟨_, rfl⟩
 obtain ⟨p, hp⟩ : ∃ p, p = s.length := ⟨_, rfl⟩
 obtain ⟨q, hq⟩ : ∃ q, q = t.length := ⟨_, rfl⟩
 have hcg : cntG (z, hs.map egOf, s, t) = E + p + q := by rw [hE, hp, hq]; rfl
 rw [hcg] at hl ⊢
 have hl2 : k + (E + p + q) ≤ 17592186044000 := hl.1
 obtain ⟨W, hW, bW, k0⟩ := alloc_box1 w (.cells #[.int .i64 z, .slice A n c, .slice B p b, .slice C q d] tGr)
 have hC0 := markEdgeS_any A c n hs [(B, b, s), (C, d, t)] k W (by rw [hn]; exact hsl.below bW) (hO.below bW) hn.symm (by omega) (by rw [← hE]; omega)
 rw [← hE] at hC0
 have hC1 := fun (W' : World) (hI : IS W' B b s) => markIntS_any B b s (k + E) W' hI (by omega)
 have hC2 := fun (W' : World) (hI : IS W' C d t) => markIntS_any C d t (k + E + p) W' hI (by omega)
 simp only [← hp] at hC1
 simp only [← hq] at hC2
 show Calls Tryz.prog _ #[.agg #[.int .i64 z, .slice A hs.length c, .slice B s.length b, .slice C t.length d], .int .i64 (k : Int)] w fun e w' => e = .returned (.int .i64 ((k : Int) + ((E + p + q : Nat) : Int))) ∧ HeGr w' (.agg #[.int .i64 z, .slice A hs.length c, .slice B s.length b, .slice C t.length d]) (z, hs.map egOf, s, t) k (fpA A ++ fpR ((B, b, s) :: (C, d, t) :: eh hs)) ∧ Keeps (· ∈ fpA A ++ fpR ((B, b, s) :: (C, d, t) :: eh hs)) w w'
 have hlt : ∀ x, x ∈ fpA A ++ fpR (((B, b, s) : Hd) :: (C, d, t) :: eh hs) → x < w.heap.size := fun x hx => by
  rcases List.mem_append.1 hx with hx | hx
  · exact hsl.lt x hx
  · exact hO.lt x hx
 obtain ⟨fp, hfp⟩ : ∃ fp, fp = fpA A ++ fpR (((B, b, s) : Hd) :: (C, d, t) :: eh hs) := ⟨_, rfl⟩
 have hsub : ∀ x, x ∈ fpA A ++ fpR (eh hs) → x ∈ fp := fun x hx => by
  rw [hfp, fpR_cons, fpR_cons]; simp only [List.mem_append] at hx ⊢; rcases hx with h | h <;> simp [h]
 have hsubB : ∀ x, x ∈ fpA B → x ∈ fp := fun x hx => by rw [hfp, fpR_cons]; simp [hx]
 have hsubC : ∀ x, x ∈ fpA C → x ∈ fp := fun x hx => by rw [hfp, fpR_cons, fpR_cons]; simp [hx]
 rw [← hfp] at hlt ⊢
 obtain ⟨⟨c0, c1, c2, c3⟩, f0, f1, f2, f3⟩ := t_box4 k0
 rw [← hn, ← hp, ← hq]
 obtain ⟨R1, hR1⟩ : ∃ R : Nat, R = k + E + p := ⟨_, rfl⟩
 obtain ⟨R2, hR2⟩ : ∃ R : Nat, R = k + E + p + q := ⟨_, rfl⟩
 simp only [← hR1] at hC1 hC2
 have hRR : R1 + q = R2 := by omega
 rw [hRR] at hC2
 have hfin : (k : Int) + ((E + p + q : Nat) : Int) = (R2 : Int) := by omega
 rw [hfin]
 obtain ⟨R0, hR0⟩ : ∃ R : Nat, R = k + E := ⟨_, rfl⟩
 simp only [← hR0] at hC0 hC1
 clear hsl hO hl hl2 ok1 ok1' e1 e2 e3 hcg hfin; have hC0_h := lH hC0; have hC1_h := lH hC1; have hC2_h := lH hC2; have hE_h := lH hE; have hn_h := lH hn; have hp_h := lH hp; have hq_h := lH hq; have bW_h := lH bW; have k0_h := lH k0; have hlt_h := lH hlt; have hfp_h := lH hfp; have hsub_h := lH hsub; have hsubB_h := lH hsubB; have hsubC_h := lH hsubC; have hR0_h := lH hR0; have hR1_h := lH hR1; have hR2_h := lH hR2; have hRR_h := lH hRR; clear hC0 hC1 hC2 hE hn hp hq bW k0 hlt hfp hsub hsubB hsubC hR0 hR1 hR2 hRR
 go_enter Tryz.func12, Tryz.ntmps12
 go_upto_region 1 with (fail)
 rw [← hW]
 clear hW
 go_wp2_with (fail)
 refine (hC0_h.out).mono ?_
 rintro e w1 ⟨ys, rfl, hyl, hye, hsl1, hO1, hfe, hk1⟩
 clear c0 c1 c2 c3 f0 f1 f2 f3
 have k1 := t_box_keeps k0_h.out hk1 (fun hx => by have := hlt_h.out _ (hsub_h.out _ hx); omega)
 obtain ⟨⟨c0, c1, c2, c3⟩, f0, f1, f2, f3⟩ := t_box4 k1
 have hC1' := hC1_h.out w1 (hO1.rows (B, b, s) (by simp))
 have hyl_h := lH hyl; have hye_h := lH hye; have hsl1_h := lH hsl1; have hO1_h := lH hO1; have hfe_h := lH hfe; have hk1_h := lH hk1; have k1_h := lH k1; have hC1'_h := lH hC1'; clear hyl hye hsl1 hO1 hfe hk1 k1 hC1'
 go_wp2_with (fail)
 refine (hC1'_h.out).mono ?_
 rintro e w2 ⟨rfl, hI2, hk2⟩
 clear c0 c1 c2 c3 f0 f1 f2 f3
 have k2 := t_box_keeps k1_h.out hk2 (fun hx => by have := hlt_h.out _ (hsubB_h.out _ hx); omega)
 obtain ⟨⟨c0, c1, c2, c3⟩, f0, f1, f2, f3⟩ := t_box4 k2
 have hO2 := hO1_h.out.wr (i := 0) (B := B) (c := b) (l := s) rfl hk2 hI2
 have hsl2 := hsl1_h.out.keeps hk2 (fun x hx hx' => hO1_h.out.outer (B, b, s) (by simp) x hx' hx)
 have hC2' := hC2_h.out w2 (hO2.rows (C, d, t) (by simp))
 clear k2 hI2; have hO2_h := lH hO2; have hsl2_h := lH hsl2; have hk2_h := lH hk2; have hC2'_h := lH hC2'; clear hO2 hsl2 hk2 hC2'
 go_wp2_with (fail)
 refine (hC2'_h.out).mono ?_
 rintro e w3 ⟨rfl, hI3, hk3⟩
 have hO3 := hO2_h.out.wr (i := 1) (B := C) (c := d) (l := t) rfl hk3 hI3
 have hsl3 := hsl2_h.out.keeps hk3 (fun x hx hx' => hO2_h.out.outer (C, d, t) (by simp) x hx' hx)
 have hkf : Keeps (· ∈ fp) w w3 := (((Keeps.of_below bW_h.out _).trans (hk1_h.out.mono fun x _ hx => hsub_h.out x hx)).trans (hk2_h.out.mono fun x _ hx => hsubB_h.out x hx)).trans (hk3.mono fun x _ hx => hsubC_h.out x hx)
 have hHe : HeGr w3 (.agg #[.int .i64 z, .slice A n c, .slice B p b, .slice C q d]) (z, hs.map egOf, s, t) k fp := by
  refine ⟨A, c, ys, (B, b, marks R0 p), (C, d, marks R1 q), ?_, hye_h.out.symm, ?_, ?_, ?_, hO3, ?_⟩
  · rw [hyl_h.out]; simp only [marks_length]; rfl
  · show marks R0 p = marks (k + cntE (hs.map egOf)) s.length
    rw [← hE_h.out, ← hp_h.out, hR0_h.out]
  · show marks R1 q = marks (k + cntE (hs.map egOf) + s.length) t.length
    rw [← hE_h.out, ← hp_h.out, ← hq_h.out, hR1_h.out]
  · rw [hyl_h.out]; exact hsl3
  · rw [hfp_h.out]
    congr 1
    exact fpR_map (by simp only [List.map_cons]; rw [hfe_h.out])
 clear c0 c1 c2 c3 f0 f1 f2 f3 hI3 hk3 hO3 hsl3; have hkf_h := lH hkf; have hHe_h := lH hHe; clear hkf hHe
 go_wp2_with (fail)
 go_ret
 exact ⟨rfl, hHe_h.out, hkf_h.out⟩
end Go.Proofs.YtjompikdkhhlgaaGreat
