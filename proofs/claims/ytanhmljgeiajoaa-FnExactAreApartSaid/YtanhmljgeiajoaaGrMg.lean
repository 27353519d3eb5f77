/-
  THE WALK: impl.areMonogamous of two graphs.

  THE WALK: impl.Graph.isMonogamous.
-/
import Derived.Test.YtanhmljgeiajoaaGrMo
import Derived.Test.YtanhmljgeiajoaaGrRn
namespace Go.Proofs.Ytanhmljgeiajoaa
open Go.RowKit

theorem info_ints : (Try.prog.info? 23).map (fun i => (i.zero, i.size, i.bytes)) = some (some (.slice none 0 0), 1, 24) := by kernel_rfl
def rowsO (a : Hd) (hs : List EHd) (k : Nat) : List Hd := a :: (hs.take k).map fun h => h.2.2.2
def rowsI (a : Hd) (hs : List EHd) (k : Nat) : List Hd := a :: (hs.take k).map fun h => h.2.2.1
theorem rowsO_step {a : Hd} {hs : List EHd} {k : Nat} {x : EHd} (h : hs[k]? = some x) : rowsO a hs (k + 1) = rowsO a hs k ++ [x.2.2.2] := by
  unfold rowsO; rw [List.take_add_one, h]; simp
theorem rowsI_step {a : Hd} {hs : List EHd} {k : Nat} {x : EHd} (h : hs[k]? = some x) : rowsI a hs (k + 1) = rowsI a hs k ++ [x.2.2.1] := by
  unfold rowsI; rw [List.take_add_one, h]; simp
theorem outW_flat (hs : List EHd) : outW (hs.map egOf) = ((hs.map fun h => h.2.2.2).map fun h : Hd => h.2.2).flatten := by
  induction hs with
  | nil => rfl
  | cons x r ih => simp only [List.map_cons, outW, List.flatten_cons, ih]; rfl
theorem inpW_flat (hs : List EHd) : inpW (hs.map egOf) = ((hs.map fun h => h.2.2.1).map fun h : Hd => h.2.2).flatten := by
  induction hs with
  | nil => rfl
  | cons x r ih => simp only [List.map_cons, inpW, List.flatten_cons, ih]; rfl
theorem rows_rd {w : World} {A : Option Addr} {n c : Nat} {hs : List Hd} (h : Sl w 23 1 A n c (hs.map Hd.val)) (hr : ∀ x, x ∈ hs → RdI w x.1 x.2.2) : RdR w A hs :=
  ⟨fun i x hx => by
    obtain ⟨ad, hA, _, hc, _⟩ := Sl.cell h (show (hs.map Hd.val)[i]? = some x.val by rw [List.getElem?_map, hx]; rfl)
    exact ⟨ad, hA, hc⟩, hr⟩

set_option maxRecDepth 100000 in
set_option maxHeartbeats 8000000 in
theorem isMonogamous_any {v : Value} {g : Gr} (w : World) (h : RdGr w v g) (ok : OkG g) :
    Calls Try.prog 63 #[v] w fun e w' => e = .returned (.bool (monoB g)) ∧ Below w.heap.size w w' := by
  obtain ⟨D, hD⟩ : ∃ D, D = monoB g := ⟨_, rfl⟩
  have hDD := hD
  unfold monoB at hDD
  rw [← hD]
  have hG0 := h
  obtain ⟨A, c, hs, ⟨B, b, s⟩, ⟨C, d, t⟩, rfl, e1, e2, e3, hE, hRa, hRb⟩ := h
  obtain ⟨z, es, s0, t0⟩ := g
  have a1 : es = hs.map egOf := e1
  have a2 : s = s0 := e2
  have a3 : t = t0 := e3
  subst a2 a3
  obtain ⟨m, hm⟩ : ∃ m, m = hs.length := ⟨_, rfl⟩
  obtain ⟨p, hp⟩ : ∃ p, p = s.length := ⟨_, rfl⟩
  obtain ⟨r, hr⟩ : ∃ r, r = t.length := ⟨_, rfl⟩
  change RdGr w (.agg #[.int .i64 z, .slice A hs.length c, .slice B s.length b, .slice C t.length d]) (z, es, s, t) at hG0
  show Calls Try.prog _ #[.agg #[.int .i64 z, .slice A hs.length c, .slice B s.length b, .slice C t.length d]] w _
  rw [← hm, ← hp, ← hr] at hG0 ⊢
  obtain ⟨W, hW, bW, k0⟩ := (⟨_, rfl, below_alloc _ _, heap_alloc_new _ _⟩ : ∃ W, W = w.alloc (.cells #[.int .i64 z, .slice A m c, .slice B p b, .slice C r d] tGr) ∧ Below w.heap.size w W ∧ W.heap[w.heap.size]? = some (.cells #[.int .i64 z, .slice A m c, .slice B p b, .slice C r d] tGr))
  have hG := isGraph_any W (hG0.below bW) ok
  obtain ⟨T, hT⟩ : ∃ T, T = grB (z, es, s, t) := ⟨_, rfl⟩
  rw [← hT] at hG hDD
  have hol := out_len es
  have hOk := ok.2.2
  have hL1 : (s ++ outW es).length ≤ 16777216 := by
    have : cntE es + s.length + t.length ≤ 8388608 := hOk
    rw [List.length_append]; omega
  have hL2 : (t ++ inpW es).length ≤ 16777216 := by
    have : cntE es + s.length + t.length ≤ 8388608 := hOk
    rw [List.length_append]; omega
  have hEW := hE.below bW
  have hRaW : RdI W B s := RdI.below hRa bW
  have hRbW : RdI W C t := RdI.below hRb bW
  obtain ⟨⟨c0, c1, c2, c3⟩, f0, f1, f2, f3⟩ := box4 k0
  cases T
  case false =>
    obtain rfl : D = false := by rw [hDD]; rfl
    clear hDD hT hol hOk hL1 hL2
    have hG_h := Lib.hid hG
    have bW_h := Lib.hid bW
    have k0_h := Lib.hid k0
    have hD_h := Lib.hid hD
    have hm_h := Lib.hid hm
    have hp_h := Lib.hid hp
    have hr_h := Lib.hid hr
    clear hG bW k0 hD hm hp hr
    go_enter Try.func63, Try.ntmps63
    go_upto_region 1 with (fail)
    rw [← hW]
    clear hW
    go_wp2_with (fail)
    refine (hG_h.out).mono ?_
    rintro e w1 ⟨rfl, hb1⟩
    have hB := below_trans bW_h.out hb1 bW_h.out.size
    clear hb1
    have hB_h := Lib.hid hB
    clear hB
    go_wp2_with (fail)
    go_ret
    exact ⟨rfl, hB_h.out⟩
  case true =>
  obtain ⟨n, e1', hn1, hm60, hs12, ht12, hinW⟩ := grB_parts hT.symm
  have e1'' : z = (n : Int) := e1'
  subst e1''
  have hegB : ∀ e, e ∈ es → egB e = true := by
    have hv := hT.symm
    unfold grB at hv
    simp only [Bool.and_eq_true] at hv
    exact List.all_eq_true.1 hv.2.1
  have hm60' : m ≤ 60 := by have : es.length ≤ 60 := hm60; rw [a1, List.length_map] at this; omega
  have hsp : p ≤ 12 := by rw [hp]; exact hs12
  have htr : r ≤ 12 := by rw [hr]; exact ht12
  rw [Bool.true_and] at hDD
  have hO1 : ((rowsO (B, b, s) hs m).map fun h : Hd => h.2.2).flatten = orgW ((n : Int), es, s, t) := by
    unfold rowsO; rw [List.take_of_length_le (by omega), List.map_cons, List.flatten_cons, ← outW_flat, ← a1]; rfl
  have hI1 : ((rowsI (C, d, t) hs m).map fun h : Hd => h.2.2).flatten = dstW ((n : Int), es, s, t) := by
    unfold rowsI; rw [List.take_of_length_le (by omega), List.map_cons, List.flatten_cons, ← inpW_flat, ← a1]; rfl
  have hl1 : (rowsO (B, b, s) hs m).length = m + 1 := by unfold rowsO; simp; omega
  have hl2 : (rowsI (C, d, t) hs m).length = m + 1 := by unfold rowsI; simp; omega
  have hrd1 : ∀ W', Below W.heap.size W W' → ∀ x, x ∈ rowsO (B, b, s) hs m → RdI W' x.1 x.2.2 := fun W' hb x hx => by
    rcases List.mem_cons.1 hx with rfl | hx
    · exact hRaW.below hb
    · obtain ⟨y, hy, rfl⟩ := List.mem_map.1 hx
      exact ((hEW.below hb).2 y (List.mem_of_mem_take hy)).2
  have hrd2 : ∀ W', Below W.heap.size W W' → ∀ x, x ∈ rowsI (C, d, t) hs m → RdI W' x.1 x.2.2 := fun W' hb x hx => by
    rcases List.mem_cons.1 hx with rfl | hx
    · exact hRbW.below hb
    · obtain ⟨y, hy, rfl⟩ := List.mem_map.1 hx
      exact ((hEW.below hb).2 y (List.mem_of_mem_take hy)).1
  have hLo : (orgW ((n : Int), es, s, t)).length ≤ 1048576 ∧ (dstW ((n : Int), es, s, t)).length ≤ 1048576 := by
    have hb : ∀ l : List Eg, (∀ e, e ∈ l → egB e = true) → (outW l).length ≤ 2 * l.length ∧ (inpW l).length ≤ 2 * l.length := by
      intro l
      induction l with
      | nil => intro _; simp [outW, inpW]
      | cons e r ih =>
        intro h
        have h1 := egB_len (h e (by simp))
        have h2 := ih fun x hx => h x (by simp [hx])
        simp only [outW, inpW, List.length_append, List.length_cons]; omega
    have h2 := hb es hegB
    have h3 : es.length ≤ 60 := hm60
    have h4 : s.length ≤ 12 := hs12
    have h5 : t.length ≤ 12 := ht12
    constructor
    · show (s ++ outW es).length ≤ _
      rw [List.length_append]; omega
    · show (t ++ inpW es).length ≤ _
      rw [List.length_append]; omega
  have hU1 := fun (W' : World) (Q : Option Addr) (q : Nat) (hb : Below W.heap.size W W') (h : Sl W' 23 1 Q (m + 1) q ((rowsO (B, b, s) hs m).map Hd.val)) => occursOnce_any (n : Int) Q q (m + 1) (rowsO (B, b, s) hs m) (orgW ((n : Int), es, s, t)) W' (rows_rd h (hrd1 W' hb)) hl1 (by omega) hO1 hLo.1
  have hU2 := fun (W' : World) (Q : Option Addr) (q : Nat) (hb : Below W.heap.size W W') (h : Sl W' 23 1 Q (m + 1) q ((rowsI (C, d, t) hs m).map Hd.val)) => occursOnce_any (n : Int) Q q (m + 1) (rowsI (C, d, t) hs m) (dstW ((n : Int), es, s, t)) W' (rows_rd h (hrd2 W' hb)) hl2 (by omega) hI1 hLo.2
  obtain ⟨T1, hT1⟩ : ∃ T, T = prmN (n : Int) (orgW ((n : Int), es, s, t)) := ⟨_, rfl⟩
  obtain ⟨T2, hT2⟩ : ∃ T, T = prmN (n : Int) (dstW ((n : Int), es, s, t)) := ⟨_, rfl⟩
  simp only [← hT1] at hU1
  simp only [← hT2] at hU2
  have hDT : D = (T1 && T2) := by rw [hDD, hT1, hT2]
  have hsv : (Hd.val (B, b, s)) = .slice B p b := by unfold Hd.val; rw [hp]
  have htv : (Hd.val (C, d, t)) = .slice C r d := by unfold Hd.val; rw [hr]
  clear hDD hT hol hOk hL1 hL2 hegB hinW e1' hO1 hI1 hl1 hl2 hrd1 hrd2 hLo hT1 hT2 hD hRa hRb hE e1 e2 e3 hG0 ok hm60 hs12 ht12
  have hG_h := Lib.hid hG
  have bW_h := Lib.hid bW
  have k0_h := Lib.hid k0
  have hm_h := Lib.hid hm
  have hp_h := Lib.hid hp
  have hr_h := Lib.hid hr
  have a1_h := Lib.hid a1
  have hEW_h := Lib.hid hEW
  have hRaW_h := Lib.hid hRaW
  have hRbW_h := Lib.hid hRbW
  have hU1_h := Lib.hid hU1
  have hU2_h := Lib.hid hU2
  have hDT_h := Lib.hid hDT
  have hsv_h := Lib.hid hsv
  have htv_h := Lib.hid htv
  clear hG bW k0 hm hp hr a1 hEW hRaW hRbW hU1 hU2 hDT hsv htv
  go_enter Try.func63, Try.ntmps63
  go_upto_region 1 with (fail)
  rw [← hW]
  clear hW
  go_wp2_with (fail)
  refine (hG_h.out).mono ?_
  rintro e w1 ⟨rfl, hb1⟩
  have k1 := box_below k0_h.out hb1
  clear c0 c1 c2 c3 f0 f1 f2 f3
  have hb1_h := Lib.hid hb1
  have k1_h := Lib.hid k1
  clear hb1 k1
  go_wp2_with (fail)
  go_cut [3, 4] (fun x y wx => ∃ Q1 Q2 : Nat, x = .slice (some ⟨Q1, 0, none⟩) 1 1 ∧ y = .slice (some ⟨Q2, 0, none⟩) 1 1 ∧ Sl wx 23 1 (some ⟨Q1, 0, none⟩) 1 1 [.slice B p b] ∧ Sl wx 23 1 (some ⟨Q2, 0, none⟩) 1 1 [.slice C r d] ∧ Q1 ≠ Q2 ∧ W.heap.size ≤ Q1 ∧ W.heap.size ≤ Q2 ∧ Below W.heap.size W wx)
  case first =>
    refine beginH (fun w' => w'.heap[w.heap.size]? = some (.cells #[.int .i64 (n : Int), .slice A m c, .slice B p b, .slice C r d] tGr)) (by kernel_rfl) ?_
    have hbd : Below w1.heap.size w1 w1.drew := below_drew (Below.refl _ _)
    generalize w1.drew = W4 at hbd ⊢
    have k4 := box_below k1_h.out hbd
    have hb4 := below_trans hb1_h.out hbd hb1_h.out.size
    have hz4 := hb4.size
    clear hbd
    have k4_h := Lib.hid k4
    have hb4_h := Lib.hid hb4
    clear k4 hb4
    refine takeH 0 (v := ?_) rfl (by kernel_rfl) (by kernel_rfl) (by kernel_rfl) (fun _ _ _ h => h) k4_h.out (by rfl) (fun W' hW' => ?_) ?_; rotate_left; · (obtain ⟨⟨y0, y1, y2, y3⟩, y4, y5, y6, y7⟩ := box4 hW'; clear hW'; go_simp; first | done | with_reducible rfl)
    simp only [Act.put, List.setIfInBounds_toArray, List.set_cons_zero, List.set_cons_succ]
    refine takeH 1 (v := ?_) rfl (by kernel_rfl) (by kernel_rfl) (by kernel_rfl) (fun _ _ _ h => h) k4_h.out (by rfl) (fun W' hW' => ?_) ?_; rotate_left; · (obtain ⟨⟨y0, y1, y2, y3⟩, y4, y5, y6, y7⟩ := box4 hW'; clear hW'; go_simp; first | done | with_reducible rfl)
    simp only [Act.put, List.setIfInBounds_toArray, List.set_cons_zero, List.set_cons_succ]
    refine takeH 3 (v := ?_) rfl (by kernel_rfl) (by kernel_rfl) (by kernel_rfl) (fun _ _ _ h => h) k4_h.out (by rfl) (fun W' hW' => ?_) ?_; rotate_left; · (obtain ⟨⟨y0, y1, y2, y3⟩, y4, y5, y6, y7⟩ := box4 hW'; clear hW'; go_simp; first | done | with_reducible rfl)
    simp only [Act.put, List.setIfInBounds_toArray, List.set_cons_zero, List.set_cons_succ]
    refine takeH 4 (v := ?_) rfl (by kernel_rfl) (by kernel_rfl) (by kernel_rfl) (fun _ _ _ h => h) k4_h.out (by rfl) (fun W' hW' => ?_) ?_; rotate_left; · (obtain ⟨⟨y0, y1, y2, y3⟩, y4, y5, y6, y7⟩ := box4 hW'; clear hW'; go_simp; first | done | with_reducible rfl)
    simp only [Act.put, List.setIfInBounds_toArray, List.set_cons_zero, List.set_cons_succ]
    refine valOrH 2 5 (vi := .slice (some ⟨W4.heap.size, 0, none⟩) 1 1) (wi := W4.alloc (.cells #[.slice B p b] 23)) (vj := .slice (some ⟨W4.heap.size, 0, none⟩) 1 1) (wj := W4.alloc (.cells #[.slice C r d] 23)) rfl rfl (by kernel_rfl) (by rfl) (by rfl) ?hr1 ?hr2 ?hS1 ?h1 ?hS2 ?h2
    case hr1 => (go_simp; first | done | with_reducible rfl | (constructor <;> with_reducible rfl))
    case hr2 => (go_simp; first | done | with_reducible rfl | (constructor <;> with_reducible rfl))
    case hS1 => exact box_below k4_h.out (below_alloc _ _)
    case hS2 => exact box_below k4_h.out (below_alloc _ _)
    case h1 =>
      have hs1 : Sl (W4.alloc (.cells #[.slice B p b] 23)) 23 1 (some ⟨W4.heap.size, 0, none⟩) 1 1 [.slice B p b] := Sl.laid W4 23 1 1 #[.slice B p b] (by unfold maxLen; omega) rfl
      have bA := below_alloc W4 (.cells #[.slice B p b] 23)
      have hzA : (W4.alloc (.cells #[.slice B p b] 23)).heap.size = W4.heap.size + 1 := World.size_alloc _ _
      have kA := box_below k4_h.out bA
      have hbA := below_trans hb4_h.out bA hb4_h.out.size
      generalize W4.alloc (.cells #[.slice B p b] 23) = W5 at hs1 bA hzA kA hbA ⊢
      have bB := below_alloc W5 (.cells #[.slice C r d] 23)
      have kB := box_below kA bB
      have hs1' := hs1.below bB
      have hs2 : Sl (W5.alloc (.cells #[.slice C r d] 23)) 23 1 (some ⟨W5.heap.size, 0, none⟩) 1 1 [.slice C r d] := Sl.laid W5 23 1 1 #[.slice C r d] (by unfold maxLen; omega) rfl
      have hbB := below_trans hbA bB hbA.size
      clear hs1 bA bB hbA
      have kA_h := Lib.hid kA
      have kB_h := Lib.hid kB
      have hs1'_h := Lib.hid hs1'
      have hs2_h := Lib.hid hs2
      have hbB_h := Lib.hid hbB
      have hzA_h := Lib.hid hzA
      clear kA kB hs1' hs2 hbB hzA
      simp only [Act.put, List.setIfInBounds_toArray, List.set_cons_zero, List.set_cons_succ]
      refine takeH 6 (v := ?_) rfl (by kernel_rfl) (by kernel_rfl) (by kernel_rfl) (fun _ _ _ h => h) kA_h.out (by rfl) (fun W' hW' => ?_) ?_; rotate_left; · (skip; clear hW'; go_simp; first | done | with_reducible rfl)
      simp only [Act.put, List.setIfInBounds_toArray, List.set_cons_zero, List.set_cons_succ]
      refine oneH 5 rfl (by kernel_rfl) (by rfl) (fun K hK => ?_)
      go_simp
      refine hK _ _ kB_h.out ?_
      clear hK K
      refine takeH 7 (v := ?_) rfl (by kernel_rfl) (by kernel_rfl) (by kernel_rfl) (fun _ _ _ h => h) kB_h.out (by rfl) (fun W' hW' => ?_) ?_; rotate_left; · (skip; clear hW'; go_simp; first | done | with_reducible rfl)
      simp only [Act.put, List.setIfInBounds_toArray, List.set_cons_zero, List.set_cons_succ]
      refine doneH (by kernel_rfl) ?_
      go_wp2_with (fail)
      go_meet
      exact ⟨W4.heap.size, W5.heap.size, rfl, rfl, hs1'_h.out, hs2_h.out, by have := hzA_h.out; omega, hz4, by have := hzA_h.out; omega, hbB_h.out⟩
    case h2 =>
      have hs1 : Sl (W4.alloc (.cells #[.slice C r d] 23)) 23 1 (some ⟨W4.heap.size, 0, none⟩) 1 1 [.slice C r d] := Sl.laid W4 23 1 1 #[.slice C r d] (by unfold maxLen; omega) rfl
      have bA := below_alloc W4 (.cells #[.slice C r d] 23)
      have hzA : (W4.alloc (.cells #[.slice C r d] 23)).heap.size = W4.heap.size + 1 := World.size_alloc _ _
      have kA := box_below k4_h.out bA
      have hbA := below_trans hb4_h.out bA hb4_h.out.size
      generalize W4.alloc (.cells #[.slice C r d] 23) = W5 at hs1 bA hzA kA hbA ⊢
      have bB := below_alloc W5 (.cells #[.slice B p b] 23)
      have kB := box_below kA bB
      have hs1' := hs1.below bB
      have hs2 : Sl (W5.alloc (.cells #[.slice B p b] 23)) 23 1 (some ⟨W5.heap.size, 0, none⟩) 1 1 [.slice B p b] := Sl.laid W5 23 1 1 #[.slice B p b] (by unfold maxLen; omega) rfl
      have hbB := below_trans hbA bB hbA.size
      clear hs1 bA bB hbA
      have kA_h := Lib.hid kA
      have kB_h := Lib.hid kB
      have hs1'_h := Lib.hid hs1'
      have hs2_h := Lib.hid hs2
      have hbB_h := Lib.hid hbB
      have hzA_h := Lib.hid hzA
      clear kA kB hs1' hs2 hbB hzA
      simp only [Act.put, List.setIfInBounds_toArray, List.set_cons_zero, List.set_cons_succ]
      refine oneH 2 rfl (by kernel_rfl) (by rfl) (fun K hK => ?_)
      go_simp
      refine hK _ _ kB_h.out ?_
      clear hK K
      refine takeH 6 (v := ?_) rfl (by kernel_rfl) (by kernel_rfl) (by kernel_rfl) (fun _ _ _ h => h) kB_h.out (by rfl) (fun W' hW' => ?_) ?_; rotate_left; · (skip; clear hW'; go_simp; first | done | with_reducible rfl)
      simp only [Act.put, List.setIfInBounds_toArray, List.set_cons_zero, List.set_cons_succ]
      refine takeH 7 (v := ?_) rfl (by kernel_rfl) (by kernel_rfl) (by kernel_rfl) (fun _ _ _ h => h) kB_h.out (by rfl) (fun W' hW' => ?_) ?_; rotate_left; · (skip; clear hW'; go_simp; first | done | with_reducible rfl)
      simp only [Act.put, List.setIfInBounds_toArray, List.set_cons_zero, List.set_cons_succ]
      refine doneH (by kernel_rfl) ?_
      go_wp2_with (fail)
      go_meet
      exact ⟨W5.heap.size, W4.heap.size, rfl, rfl, hs2_h.out, hs1'_h.out, by have := hzA_h.out; omega, by have := hzA_h.out; omega, hz4, hbB_h.out⟩
  case rest =>
  obtain ⟨Q1, Q2, rfl, rfl, hs1, hs2, hne, hq1, hq2, hWc⟩ := hcut
  obtain ⟨w2, rfl⟩ : ∃ x, x = wc := ⟨_, rfl⟩
  have k2 := box_below k0_h.out hWc
  obtain ⟨⟨c0, c1, c2, c3⟩, f0, f1, f2, f3⟩ := box4 k2
  have hs1' : Sl w2 23 1 (some ⟨Q1, 0, none⟩) (0 + 1) 1 ((rowsO (B, b, s) hs 0).map Hd.val) := by unfold rowsO; simp only [List.take_zero, List.map_nil, List.map_cons]; rw [hsv_h.out]; exact hs1
  have hs2' : Sl w2 23 1 (some ⟨Q2, 0, none⟩) (0 + 1) 1 ((rowsI (C, d, t) hs 0).map Hd.val) := by unfold rowsI; simp only [List.take_zero, List.map_nil, List.map_cons]; rw [htv_h.out]; exact hs2
  have hap : ∀ x, x ∈ fpA (some (⟨Q1, 0, none⟩ : Addr)) → ¬ x ∈ fpA (some (⟨Q2, 0, none⟩ : Addr)) := fun x hx hx' => by simp at hx hx'; omega
  have hf1 : Fresh W.heap.size (some (⟨Q1, 0, none⟩ : Addr)) := fun x hx => by simp at hx; omega
  have hf2 : Fresh W.heap.size (some (⟨Q2, 0, none⟩ : Addr)) := fun x hx => by simp at hx; omega
  clear hs1 hs2 k2 hne hq1 hq2
  have hs1'_h := Lib.hid hs1'
  have hs2'_h := Lib.hid hs2'
  have hap_h := Lib.hid hap
  have hf1_h := Lib.hid hf1
  have hf2_h := Lib.hid hf2
  have hWc_h := Lib.hid hWc
  clear hs1' hs2' hap hf1 hf2 hWc
  go_wp2_with (fail)
  clear c0 c1 c2 c3 f0 f1 f2 f3
  go_loopw [19, 3, 4] (fun i x y wr => ∃ (k c1 c2 : Nat) (A1 A2 : Option Addr), k ≤ m ∧ i = .int .i64 k ∧ x = .slice A1 (k + 1) c1 ∧ y = .slice A2 (k + 1) c2 ∧ Sl wr 23 1 A1 (k + 1) c1 ((rowsO (B, b, s) hs k).map Hd.val) ∧ Sl wr 23 1 A2 (k + 1) c2 ((rowsI (C, d, t) hs k).map Hd.val) ∧ (∀ x, x ∈ fpA A1 → ¬ x ∈ fpA A2) ∧ Fresh W.heap.size A1 ∧ Fresh W.heap.size A2 ∧ Below W.heap.size W wr) (fun i _ _ _ => m - (intOf i).toNat)
  case atStart => exact ⟨0, 1, 1, _, _, Nat.zero_le _, rfl, rfl, rfl, hs1'_h.out, hs2'_h.out, hap_h.out, hf1_h.out, hf2_h.out, hWc_h.out⟩
  case round =>
    clear hs1'_h hs2'_h hap_h hf1_h hf2_h hWc_h
    obtain ⟨k, e1, e2, A1, A2, hk, rfl, rfl, rfl, hS1, hS2, hap, hf1, hf2, hB1⟩ := hrel
    obtain ⟨wo, rfl⟩ : ∃ x, x = wr := ⟨_, rfl⟩
    have kr := box_below k0_h.out hB1
    by_cases hlt : k < m
    · obtain ⟨ad, κ, vv, B1, b1, s1, C1, b2, t1, rfl, hn, ⟨d0, d1, d2, d3⟩, -, -⟩ := (hEW_h.out.below hB1).at_ (j := k) (by rw [← hm_h.out]; exact hlt)
      have hst1 := rowsO_step (a := (B, b, s)) hn
      have hst2 := rowsI_step (a := (C, d, t)) hn
      simp only at hst1 hst2
      obtain ⟨p1, hp1⟩ : ∃ p1, p1 = s1.length := ⟨_, rfl⟩
      obtain ⟨r1, hr1'⟩ : ∃ r1, r1 = t1.length := ⟨_, rfl⟩
      rw [← hp1] at d2
      rw [← hr1'] at d3
      obtain ⟨W6, hW6, bW6, k6⟩ := (⟨_, rfl, below_alloc _ _, heap_alloc_new _ _⟩ : ∃ W, W = wo.alloc (.cells #[.int .i64 κ, .int .i64 vv, .slice B1 p1 b1, .slice C1 r1 b2] tEd) ∧ Below wo.heap.size wo W ∧ W.heap[wo.heap.size]? = some (.cells #[.int .i64 κ, .int .i64 vv, .slice B1 p1 b1, .slice C1 r1 b2] tEd))
      obtain ⟨⟨y0, y1, y2, y3⟩, g0, g1, g2, g3⟩ := box4 k6
      have hS1' := (hS1.below bW6).alloc (.cells #[.slice C1 r1 b2] 23)
      have hlt1 := hS1.lt
      have hlt2 := hS2.lt
      have hz6 := bW6.size
      have hz0 := hB1.size
      have hS26 := hS2.below bW6
      have hB6 := below_trans hB1 bW6 hB1.size
      have hr1_h := Lib.hid hr1'
      have hkI : (k : Int) < (m : Int) := by omega
      clear hr1' hn kr hS1 hS2 hB1
      have hp1_h := Lib.hid hp1
      have k6_h := Lib.hid k6
      have hst1_h := Lib.hid hst1
      have hst2_h := Lib.hid hst2
      have hS1'_h := Lib.hid hS1'
      have hS26_h := Lib.hid hS26
      have hap_h := Lib.hid hap
      have hf1_h := Lib.hid hf1
      have hf2_h := Lib.hid hf2
      have hB6_h := Lib.hid hB6
      have hlt1_h := Lib.hid hlt1
      have hlt2_h := Lib.hid hlt2
      have bW6_h := Lib.hid bW6
      clear hp1 k6 hst1 hst2 hS1' hS26 hap hf1 hf2 hB6 hlt1 hlt2 bW6
      go_upto_region 7 with (fail)
      rw [← hW6]
      clear hW6 d0 d1 d2 d3
      go_upto_region 8 with (at_builtin; refine wpList_append_Sl _ rfl _ _ _ rfl 23 Try.underlying117 info_ints rfl (by omega) rfl (hS1'_h.out) rfl (news := [.slice C1 r1 b2]) rfl (Sl.rdc (Sl.laid W6 23 1 1 #[.slice C1 r1 b2] (by unfold maxLen; omega) rfl)) (by intro u hu; simp at hu; subst hu; rfl) (by unfold maxLen; omega) (by omega) ?_; intro A3 c3 w3 hsA3 hA3 hkA3)
      have bal := below_alloc W6 (.cells #[.slice C1 r1 b2] 23)
      have hza : (W6.alloc (.cells #[.slice C1 r1 b2] 23)).heap.size = W6.heap.size + 1 := World.size_alloc _ _
      have hf1' := hf1_h.out
      have hf2' := hf2_h.out
      have hl1' := hlt1_h.out
      have hl2' := hlt2_h.out
      have hap' := hap_h.out
      have hS2a := (hS26_h.out.alloc (.cells #[.slice C1 r1 b2] 23)).keeps hkA3 (fun x hx e => hap' x e hx)
      have k6' := box_keeps (box_below k6_h.out bal) hkA3 (fun e => by have := hl1' _ e; omega)
      have hB7 := below_keeps (below_trans hB6_h.out bal hB6_h.out.size) hkA3 (Nat.le_trans hB6_h.out.size bal.size) hf1'
      have hsz3 := hkA3.size
      have hap3 : ∀ x, x ∈ fpA A3 → ¬ x ∈ fpA A2 := fun x hx hx' => by
        rcases hA3 x hx with h | h
        · exact hap' x h hx'
        · have := hl2' x hx'; omega
      have hf3 : Fresh W.heap.size A3 := fun x hx => by
        rcases hA3 x hx with h | h
        · exact hf1' x h
        · omega
      have hl3 := hsA3.lt
      have hl2b := hS2a.lt
      have hS2b := hS2a.alloc (.cells #[.slice B1 p1 b1] 23)
      clear y0 y1 y2 y3 g0 g1 g2 g3 hA3 hkA3 bal hf1' hl1' hl2' hap'
      obtain ⟨⟨y0, y1, y2, y3⟩, g0, g1, g2, g3⟩ := box4 k6'
      clear k6' hS2a hf2'
      have hsA3_h := Lib.hid hsA3
      have hS2b_h := Lib.hid hS2b
      have hB7_h := Lib.hid hB7
      have hap3_h := Lib.hid hap3
      have hf3_h := Lib.hid hf3
      have hl3_h := Lib.hid hl3
      have hl2b_h := Lib.hid hl2b
      clear hsA3 hS2b hB7 hap3 hf3 hl3 hl2b
      go_wp2_with (at_builtin; refine wpList_append_Sl _ rfl _ _ _ rfl 23 Try.underlying117 info_ints rfl (by omega) rfl (hS2b_h.out) rfl (news := [.slice B1 p1 b1]) rfl (Sl.rdc (Sl.laid w3 23 1 1 #[.slice B1 p1 b1] (by unfold maxLen; omega) rfl)) (by intro u hu; simp at hu; subst hu; rfl) (by unfold maxLen; omega) (by omega) ?_; intro A4 c4 w4 hsA4 hA4 hkA4)
      have bal := below_alloc w3 (.cells #[.slice B1 p1 b1] 23)
      have hzb : (w3.alloc (.cells #[.slice B1 p1 b1] 23)).heap.size = w3.heap.size + 1 := World.size_alloc _ _
      have hap3' := hap3_h.out
      have hl3' := hl3_h.out
      have hf2' := hf2_h.out
      have hS1c := (hsA3_h.out.alloc (.cells #[.slice B1 p1 b1] 23)).keeps hkA4 (fun x hx e => hap3' x hx e)
      have hB8 := below_keeps (below_trans hB7_h.out bal hB7_h.out.size) hkA4 (Nat.le_trans hB7_h.out.size bal.size) hf2'
      have hsz7 := hB7_h.out.size
      have hap4 : ∀ x, x ∈ fpA A3 → ¬ x ∈ fpA A4 := fun x hx hx' => by
        rcases hA4 x hx' with h | h
        · exact hap3' x hx h
        · have := hl3' x hx; omega
      have hf4 : Fresh W.heap.size A4 := fun x hx => by
        rcases hA4 x hx with h | h
        · exact hf2' x h
        · omega
      have hS1d : Sl w4 23 1 A3 (k + 1 + 1) c3 ((rowsO (B, b, s) hs (k + 1)).map Hd.val) := by
        rw [hst1_h.out, List.map_append]
        show Sl w4 _ 1 A3 (k + 1 + 1) c3 (_ ++ [.slice C1 t1.length b2])
        rw [← hr1_h.out]; exact hS1c
      have hS2d : Sl w4 23 1 A4 (k + 1 + 1) c4 ((rowsI (C, d, t) hs (k + 1)).map Hd.val) := by
        rw [hst2_h.out, List.map_append]
        show Sl w4 _ 1 A4 (k + 1 + 1) c4 (_ ++ [.slice B1 s1.length b1])
        rw [← hp1_h.out]; exact hsA4
      clear y0 y1 y2 y3 g0 g1 g2 g3 hA4 hkA4 bal hap3' hl3' hf2' hS1c hsA4
      have hS1d_h := Lib.hid hS1d
      have hS2d_h := Lib.hid hS2d
      have hB8_h := Lib.hid hB8
      have hap4_h := Lib.hid hap4
      have hf4_h := Lib.hid hf4
      clear hS1d hS2d hB8 hap4 hf4
      go_wp2_with (fail)
      go_roundw
      case rel => exact ⟨k + 1, c3, c4, A3, A4, by omega, by go_num, rfl, rfl, hS1d_h.out, hS2d_h.out, hap4_h.out, hf3_h.out, hf4_h.out, hB8_h.out⟩
      case measure => simp [intOf]; omega
    · obtain rfl : m = k := by omega
      have hV1 := hU1_h.out wo A1 e1 hB1 hS1
      obtain ⟨⟨y0, y1, y2, y3⟩, g0, g1, g2, g3⟩ := box4 kr
      clear hap hf1 hf2 kr hS1
      have hV1_h := Lib.hid hV1
      have hB1_h := Lib.hid hB1
      have hS2_h := Lib.hid hS2
      clear hV1 hB1 hS2
      go_wp2_with (fail)
      refine (hV1_h.out).mono ?_
      rintro e w3 ⟨rfl, hb3⟩
      have hB3 := below_trans hB1_h.out hb3 hB1_h.out.size
      have hS23 := hS2_h.out.below hb3
      have kr3 := box_below k0_h.out hB3
      have hBz := below_trans bW_h.out hB3 bW_h.out.size
      clear y0 y1 y2 y3 g0 g1 g2 g3 hb3
      cases T1
      case false =>
        obtain rfl : D = false := hDT_h.out
        clear hS23 kr3 hB3
        have hBz_h := Lib.hid hBz
        clear hBz
        go_wp2_with (fail)
        go_ret
        exact ⟨rfl, hBz_h.out⟩
      case true =>
        obtain rfl : D = T2 := hDT_h.out.trans (Bool.true_and _)
        have hV2 := hU2_h.out w3 A2 e2 hB3 hS23
        obtain ⟨⟨y0, y1, y2, y3⟩, g0, g1, g2, g3⟩ := box4 kr3
        clear hS23 kr3 hB3
        have hBz_h := Lib.hid hBz
        have hV2_h := Lib.hid hV2
        clear hBz hV2
        go_wp2_with (fail)
        refine (hV2_h.out).mono ?_
        rintro e w4 ⟨rfl, hb4⟩
        have hBy := below_trans hBz_h.out hb4 hBz_h.out.size
        clear hb4 y0 y1 y2 y3 g0 g1 g2 g3
        have hBy_h := Lib.hid hBy
        clear hBy
        go_wp2_with (fail)
        go_ret
        exact ⟨rfl, hBy_h.out⟩

end Go.Proofs.Ytanhmljgeiajoaa
namespace Go.Proofs.Ytanhmljgeiajoaa
open Go.RowKit

set_option maxRecDepth 100000 in
set_option maxHeartbeats 4000000 in
theorem areMonogamous_any {g g' : Gr} (w : World) (qb : Nat) (z z' : Int) (A : Option Addr) (n0 c : Nat) (B : Option Addr) (m0 d : Nat) (C : Option Addr) (k0' e0 : Nat) (A' : Option Addr) (n0' c' : Nat) (B' : Option Addr) (m0' d' : Nat) (C' : Option Addr) (k0'' e0' : Nat)
    (h : RdGr w (.agg #[.int .i64 z, .slice A n0 c, .slice B m0 d, .slice C k0' e0]) g) (h' : RdGr w (.agg #[.int .i64 z', .slice A' n0' c', .slice B' m0' d', .slice C' k0'' e0']) g') (ok : OkG g) (ok' : OkG g')
    (hq : w.heap[qb]? = some (.cells #[.int .i64 z, .slice A n0 c, .slice B m0 d, .slice C k0' e0, .int .i64 z', .slice A' n0' c', .slice B' m0' d', .slice C' k0'' e0'] tGr)) :
    Calls Try.prog 59 #[.slice (some ⟨qb, 0, none⟩) 2 2] w fun e w' => e = .returned (.bool (monoB g && monoB g')) ∧ Below w.heap.size w w' := by
  obtain ⟨T1, hT1⟩ : ∃ D, D = monoB g := ⟨_, rfl⟩
  obtain ⟨T2, hT2⟩ : ∃ D, D = monoB g' := ⟨_, rfl⟩
  rw [← hT1, ← hT2]
  have hG := fun (W' : World) (hb : Below w.heap.size w W') => isMonogamous_any W' (h.below hb) ok
  have hG' := fun (W' : World) (hb : Below w.heap.size w W') => isMonogamous_any W' (h'.below hb) ok'
  simp only [← hT1] at hG
  simp only [← hT2] at hG'
  clear h h' hT1 hT2 ok ok'
  have hG_h := Lib.hid hG
  have hG'_h := Lib.hid hG'
  have hq_h := Lib.hid hq
  clear hG hG' hq
  go_enter Try.func59, Try.ntmps59
  go_wp2_with (fail)
  go_loopw [7] (fun i wr => ∃ k : Nat, k ≤ 2 ∧ i = .int .i64 k ∧ (1 ≤ k → T1 = true) ∧ (2 ≤ k → T2 = true) ∧ Below w.heap.size w wr) (fun i _ => 2 - (intOf i).toNat)
  case atStart => exact ⟨0, by omega, rfl, fun h => by omega, fun h => by omega, Below.refl _ _⟩
  case round =>
    obtain ⟨k, hk, rfl, ht1, ht2, hB⟩ := hrel
    obtain ⟨wo, rfl⟩ : ∃ x, x = wr := ⟨_, rfl⟩
    have kr := box_below hq_h.out hB
    have hcl : ∀ (i : Nat) (u : Value), (#[.int .i64 z, .slice A n0 c, .slice B m0 d, .slice C k0' e0, .int .i64 z', .slice A' n0' c', .slice B' m0' d', .slice C' k0'' e0'] : Array Value)[i]? = some u → wo.cell? ⟨qb, i, none⟩ = some u := fun i u hu => by
      simp only [World.cell?, kr]; exact hu
    rcases (by omega : k = 0 ∨ k = 1 ∨ k = 2) with rfl | rfl | rfl
    · have d0 := hcl 0 _ rfl
      have d1 := hcl 1 _ rfl
      have d2 := hcl 2 _ rfl
      have d3 := hcl 3 _ rfl
      obtain ⟨W6, hW6, bW6, k6⟩ := (⟨_, rfl, below_alloc _ _, heap_alloc_new _ _⟩ : ∃ W, W = wo.alloc (.cells #[.int .i64 z, .slice A n0 c, .slice B m0 d, .slice C k0' e0] tGr) ∧ Below wo.heap.size wo W ∧ W.heap[wo.heap.size]? = some (.cells #[.int .i64 z, .slice A n0 c, .slice B m0 d, .slice C k0' e0] tGr))
      have hB6 := below_trans hB bW6 hB.size
      have hGW := hG_h.out W6 hB6
      obtain ⟨⟨y0, y1, y2, y3⟩, g0, g1, g2, g3⟩ := box4 k6
      clear ht1 ht2 hcl kr bW6 k6 hB
      have hB6_h := Lib.hid hB6
      have hGW_h := Lib.hid hGW
      clear hB6 hGW
      go_upto_region 4 with (fail)
      rw [← hW6]
      clear hW6
      go_wp2_with (fail)
      refine (hGW_h.out).mono ?_
      rintro e w7 ⟨rfl, hb7⟩
      have hB7 := below_trans hB6_h.out hb7 hB6_h.out.size
      clear hb7
      cases T1
      case false =>
        have hB7_h := Lib.hid hB7
        clear hB7
        go_wp2_with (fail)
        go_ret
        exact ⟨rfl, hB7_h.out⟩
      case true =>
        have hB7_h := Lib.hid hB7
        clear hB7
        go_wp2_with (fail)
        go_roundw
        case rel => exact ⟨1, by omega, by go_num, fun _ => trivial, fun h => by omega, hB7_h.out⟩
        case measure => simp [intOf]
    · have d0 := hcl 4 _ rfl
      have d1 := hcl 5 _ rfl
      have d2 := hcl 6 _ rfl
      have d3 := hcl 7 _ rfl
      have ht := ht1 (by omega)
      subst ht
      obtain ⟨W6, hW6, bW6, k6⟩ := (⟨_, rfl, below_alloc _ _, heap_alloc_new _ _⟩ : ∃ W, W = wo.alloc (.cells #[.int .i64 z', .slice A' n0' c', .slice B' m0' d', .slice C' k0'' e0'] tGr) ∧ Below wo.heap.size wo W ∧ W.heap[wo.heap.size]? = some (.cells #[.int .i64 z', .slice A' n0' c', .slice B' m0' d', .slice C' k0'' e0'] tGr))
      have hB6 := below_trans hB bW6 hB.size
      have hGW := hG'_h.out W6 hB6
      obtain ⟨⟨y0, y1, y2, y3⟩, g0, g1, g2, g3⟩ := box4 k6
      clear ht1 ht2 hcl kr bW6 k6 hB
      have hB6_h := Lib.hid hB6
      have hGW_h := Lib.hid hGW
      clear hB6 hGW
      go_upto_region 4 with (fail)
      rw [← hW6]
      clear hW6
      go_wp2_with (fail)
      refine (hGW_h.out).mono ?_
      rintro e w7 ⟨rfl, hb7⟩
      have hB7 := below_trans hB6_h.out hb7 hB6_h.out.size
      clear hb7
      cases T2
      case false =>
        have hB7_h := Lib.hid hB7
        clear hB7
        go_wp2_with (fail)
        go_ret
        exact ⟨rfl, hB7_h.out⟩
      case true =>
        have hB7_h := Lib.hid hB7
        clear hB7
        go_wp2_with (fail)
        go_roundw
        case rel => exact ⟨2, by omega, by go_num, fun _ => trivial, fun _ => trivial, hB7_h.out⟩
        case measure => simp [intOf]
    · have e1 := ht1 (by omega)
      have e2 := ht2 (by omega)
      subst e1 e2
      clear ht1 ht2 hcl kr
      have hB_h := Lib.hid hB
      clear hB
      go_wp2_with (fail)
      go_ret
      exact ⟨rfl, hB_h.out⟩
end Go.Proofs.Ytanhmljgeiajoaa
