/-
  THE WALKS: tmTidy of the reference: a sequence.
-/
import Derived.Test.YtlmnmdahphahfaaTmTn
namespace Go.Proofs.Ytlmnmdahphahfaa
open Go.RowKit

set_option maxRecDepth 8000 in
set_option maxHeartbeats 8000000 in
theorem tmTidy_seq {a b : Tr} {v : Value} {fp : List Nat} {w : World} (hw : wt (.node false a b)) (hs : sz (.node false a b) ≤ 400) (h : OwTm w v (flat (.node false a b)) fp)
    (hIa : ∀ (v : Value) (fp : List Nat) (w : World), OwTm w v (flat a) fp → Calls Try.prog 73 #[v] w (RetTm w (flat (tidy a)))) (hIb : ∀ (v : Value) (fp : List Nat) (w : World), OwTm w v (flat b) fp → Calls Try.prog 73 #[v] w (RetTm w (flat (tidy b)))) :
    Calls Try.prog 73 #[v] w (RetTm w (flat (tidy (.node false a b)))) := by
  obtain ⟨A, c, rfl, hN, rfl⟩ := h
  have ⟨hwa, hwb, _⟩ := hw
  have hsn := sz_node false a b
  have e1 : flat (tidy (.node false a b)) = flat (tidyS (tidy a) (tidy b)) := rfl
  rw [e1]
  obtain ⟨n, hn⟩ : ∃ n, n = (flat (.node false a b)).length := ⟨_, rfl⟩
  obtain ⟨W, hW⟩ : ∃ W, W = (w.alloc (.cells #[.slice A n c] tTerm)).alloc (.cells #[.slice none 0 0] tTerm) := ⟨_, rfl⟩
  obtain ⟨b0, k0, k1, hz⟩ := two_boxes w (.cells #[.slice A n c] tTerm) (.cells #[.slice none 0 0] tTerm)
  rw [← hW] at b0 k0 k1 hz
  have hN1 := hN.below b0
  have hT := tmTop_any (v := .agg #[.slice A n c]) (t := .node false a b) (w := W) ⟨A, c, by rw [hn], hN1, rfl⟩
  have e3 : topK (.node false a b) = 15 := rfl
  rw [e3] at hT
  have hP := fun W' (hb : Below W.heap.size W W') => tmParts_any (v := .agg #[.slice A n c]) (p := false) (a := a) (b := b) (w := W') hw hs ⟨A, c, by rw [hn], hN1.below hb, rfl⟩
  obtain ⟨La, hLa⟩ : ∃ La, La = flat a := ⟨_, rfl⟩
  obtain ⟨Lb, hLb⟩ : ∃ Lb, Lb = flat b := ⟨_, rfl⟩
  obtain ⟨Ta, hTa⟩ : ∃ t, t = tidy a := ⟨_, rfl⟩
  obtain ⟨Tb, hTb⟩ : ∃ t, t = tidy b := ⟨_, rfl⟩
  have hwTa : wt Ta := by rw [hTa]; exact (tidy_ok hwa).1
  have hwTb : wt Tb := by rw [hTb]; exact (tidy_ok hwb).1
  have hsTa : sz Ta ≤ 400 := by rw [hTa]; have := (tidy_ok hwa).2.2; omega
  have hsTb : sz Tb ≤ 400 := by rw [hTb]; have := (tidy_ok hwb).2.2; omega
  rw [← hTa, ← hTb]
  rw [← hn]
  rw [← hLa, ← hLb] at hP
  rw [← hLa, ← hTa] at hIa
  rw [← hLb, ← hTb] at hIb
  obtain ⟨X, hX⟩ : ∃ X, X = flat (tidyS Ta Tb) := ⟨_, rfl⟩
  rw [← hX]
  clear hN hN1 hs hw hsn e1 e3 hwa hwb
  have b0_h := Lib.hid b0
  have k0_h := Lib.hid k0
  have k1_h := Lib.hid k1
  have hz_h := Lib.hid hz
  have hT_h := Lib.hid hT
  have hP_h := Lib.hid hP
  have hIa_h := Lib.hid hIa
  have hIb_h := Lib.hid hIb
  have hLa_h := Lib.hid hLa
  have hLb_h := Lib.hid hLb
  have hTa_h := Lib.hid hTa
  have hTb_h := Lib.hid hTb
  have hn_h := Lib.hid hn
  have hX_h := Lib.hid hX
  have hwTa_h := Lib.hid hwTa
  have hwTb_h := Lib.hid hwTb
  clear b0 k0 k1 hz hT hP hIa hIb hLa hLb hTa hTb hn hX hwTa hwTb
  go_enter Try.func73, Try.ntmps73
  go_upto_region 1 with (fail)
  rw [← hW]
  clear hW
  obtain ⟨k0_c, k0_f⟩ := bx1 k0_h.out
  go_wp2_with (fail)
  refine (hT_h.out).mono ?_
  rintro e w1 ⟨rfl, hb1⟩
  clear k0_c k0_f
  replace k0_h := Lib.hid (box_below k0_h.out hb1)
  replace k1_h := Lib.hid (box_below k1_h.out hb1)
  obtain ⟨k0_c, k0_f⟩ := bx1 k0_h.out
  have hB1 := below_trans b0_h.out hb1 b0_h.out.size
  have hzb := hb1.size
  have hP1 := hP_h.out w1 hb1
  have hb1_h := Lib.hid hb1
  have hB1_h := Lib.hid hB1
  have hP1_h := Lib.hid hP1
  clear hb1 hB1 hP1
  go_wp2_with (fail)
  refine (hP1_h.out).mono ?_
  rintro e w2 ⟨v1, v2, fp1, fp2, rfl, ⟨A1, c1, rfl, hN1, rfl⟩, ⟨A2, c2, rfl, hN2, rfl⟩, hF1, hF2, -, hb2⟩
  obtain ⟨n1, hn1⟩ : ∃ n1, n1 = La.length := ⟨_, rfl⟩
  obtain ⟨n2, hn2⟩ : ∃ n2, n2 = Lb.length := ⟨_, rfl⟩
  rw [← hn1, ← hn2]
  clear k0_c k0_f
  replace k1_h := Lib.hid (box_below k1_h.out hb2)
  obtain ⟨W2, hW2⟩ : ∃ W2, W2 = (w2.alloc (.cells #[.slice A1 n1 c1] tTerm)).alloc (.cells #[.slice A2 n2 c2] tTerm) := ⟨_, rfl⟩
  obtain ⟨b2, k3, k4, hz2⟩ := two_boxes w2 (.cells #[.slice A1 n1 c1] tTerm) (.cells #[.slice A2 n2 c2] tTerm)
  rw [← hW2] at b2 k3 k4 hz2
  replace k1_h := Lib.hid (box_below k1_h.out b2)
  have hM1 := hN1.below b2
  have hM2 := hN2.below b2
  have hB2 := below_trans (below_trans hB1_h.out hb2 hB1_h.out.size) b2 (Nat.le_trans hB1_h.out.size hb2.size)
  have hO1 : ∀ W', Below W2.heap.size W2 W' → OwTm W' (.agg #[.slice A1 n1 c1]) La (fpA A1) := fun W' hb => ⟨A1, c1, by rw [hn1], hM1.below hb, rfl⟩
  have hO2 : ∀ W', Below W2.heap.size W2 W' → OwTm W' (.agg #[.slice A2 n2 c2]) Lb (fpA A2) := fun W' hb => ⟨A2, c2, by rw [hn2], hM2.below hb, rfl⟩
  clear hM1 hM2 hN1 hN2 hF1 hF2
  have hzc := hb2.size
  have hb2_h := Lib.hid hb2
  have k3_h := Lib.hid k3
  have k4_h := Lib.hid k4
  have hz2_h := Lib.hid hz2
  have hB2_h := Lib.hid hB2
  have hO1_h := Lib.hid hO1
  have hO2_h := Lib.hid hO2
  have b2_h := Lib.hid b2
  have hn1_h := Lib.hid hn1
  have hn2_h := Lib.hid hn2
  clear hb2 k3 k4 hz2 hB2 hO1 hO2 b2 hn1 hn2
  go_upto_region 5 with (fail)
  rw [← hW2]
  clear hW2
  refine beginZw 4 (fun w' => w'.heap[w2.heap.size]? = some (.cells #[.slice A1 n1 c1] tTerm) ∧ w'.heap[w2.heap.size + 1]? = some (.cells #[.slice A2 n2 c2] tTerm)) (by kernel_rfl) (fun W3 hW3 => ?_)
  have hbd : Below W2.heap.size W2 W3 := by rw [hW3]; exact below_drew (Below.refl _ _)
  clear hW3
  replace k1_h := Lib.hid (box_below k1_h.out hbd)
  replace k3_h := Lib.hid (box_below k3_h.out hbd)
  replace k4_h := Lib.hid (box_below k4_h.out hbd)
  have hB3 := below_trans hB2_h.out hbd hB2_h.out.size
  have hzd := hbd.size
  have hB3_h := Lib.hid hB3
  have hbd_h := Lib.hid hbd
  clear hB3 hbd
  refine takeC 0 (v := ?_) rfl (by kernel_rfl) (by kernel_rfl) (by kernel_rfl) (by kernel_rfl) (fun _ _ _ h => h) ⟨k3_h.out, k4_h.out⟩ (by rfl) (fun W' hW' => ?_) ?_; rotate_left; · (obtain ⟨y0, y1⟩ := bx1 hW'.1; obtain ⟨y2, y3⟩ := bx1 hW'.2; clear hW'; go_simp; first | done | with_reducible rfl)
  simp only [Act.put, List.setIfInBounds_toArray, List.set_cons_zero, List.set_cons_succ]
  refine takeC 2 (v := ?_) rfl (by kernel_rfl) (by kernel_rfl) (by kernel_rfl) (by kernel_rfl) (fun _ _ _ h => h) ⟨k3_h.out, k4_h.out⟩ (by rfl) (fun W' hW' => ?_) ?_; rotate_left; · (obtain ⟨y0, y1⟩ := bx1 hW'.1; obtain ⟨y2, y3⟩ := bx1 hW'.2; clear hW'; go_simp; first | done | with_reducible rfl)
  simp only [Act.put, List.setIfInBounds_toArray, List.set_cons_zero, List.set_cons_succ]
  refine callZ 1 (f := ?f1) (args := ?args1) rfl (by kernel_rfl) (by rfl) ?hrun1 ?hcall1
  case hrun1 => (go_simp; first | done | with_reducible rfl | (constructor <;> with_reducible rfl))
  refine (hIa_h.out _ _ W3 (hO1_h.out W3 hbd_h.out)).mono ?_
  rintro e w4 ⟨v4, fp4, rfl, ⟨A4, c4, rfl, hN4, rfl⟩, hF4, hb4⟩
  replace k1_h := Lib.hid (box_below k1_h.out hb4)
  replace k3_h := Lib.hid (box_below k3_h.out hb4)
  replace k4_h := Lib.hid (box_below k4_h.out hb4)
  have hbe := below_trans hbd_h.out hb4 hbd_h.out.size
  have hB4 := below_trans hB3_h.out hb4 hB3_h.out.size
  obtain ⟨n4, hn4⟩ : ∃ n4, n4 = (flat Ta).length := ⟨_, rfl⟩
  rw [← hn4]
  refine ⟨_, rfl, fun _ => ⟨k3_h.out, k4_h.out⟩, ?_⟩
  have hze := hb4.size
  have hN4_h := Lib.hid hN4
  have hF4_h := Lib.hid hF4
  have hb4_h := Lib.hid hb4
  have hB4_h := Lib.hid hB4
  have hbe_h := Lib.hid hbe
  have hn4_h := Lib.hid hn4
  clear hN4 hF4 hb4 hB4 hbe hn4
  simp only [Act.put, List.setIfInBounds_toArray, List.set_cons_zero, List.set_cons_succ]
  refine callZ 3 (f := ?f2) (args := ?args2) rfl (by kernel_rfl) (by rfl) ?hrun2 ?hcall2
  case hrun2 => (go_simp; first | done | with_reducible rfl | (constructor <;> with_reducible rfl))
  refine (hIb_h.out _ _ w4 (hO2_h.out w4 hbe_h.out)).mono ?_
  rintro e w5 ⟨v5, fp5, rfl, ⟨A5, c5, rfl, hN5, rfl⟩, hF5, hb5⟩
  replace k1_h := Lib.hid (box_below k1_h.out hb5)
  replace k3_h := Lib.hid (box_below k3_h.out hb5)
  replace k4_h := Lib.hid (box_below k4_h.out hb5)
  have hB5 := below_trans hB4_h.out hb5 hB4_h.out.size
  have hM4 := hN4_h.out.below hb5
  obtain ⟨n5, hn5⟩ : ∃ n5, n5 = (flat Tb).length := ⟨_, rfl⟩
  rw [← hn5]
  have hzf := hb5.size
  have hz0 := hz_h.out
  have hz20 := hz2_h.out
  have hF4' := hF4_h.out
  obtain ⟨s1, s2⟩ := set1 k3_h.out (.slice A4 n4 c4)
  have k5 := box_keeps k4_h.out s2 (by omega)
  have kr := box_keeps k1_h.out s2 (by omega)
  obtain ⟨s3, s4⟩ := set1 k5 (.slice A5 n5 c5)
  have kA := box_keeps s1 s4 (by omega)
  have kB := s3
  have kR := box_keeps kr s4 (by omega)
  have hM4' := (hM4.keeps s2 (fun b hb e => by have := hF4' b hb; omega)).keeps s4 (fun b hb e => by have := hF4' b hb; omega)
  have hM5' := (NS.keeps hN5 s2 (fun b hb e => by have := hF5 b hb; omega)).keeps s4 (fun b hb e => by have := hF5 b hb; omega)
  have hB6 := below_keeps (below_keeps hB5 s2 hB5.size (fun k hk => by omega)) s4 (Nat.le_trans hB5.size s2.size) (fun k hk => by omega)
  have gA : ∀ b, b ∈ fpA A4 → W.heap.size ≤ b := fun b hb => by have := hF4' b hb; omega
  have gB : ∀ b, b ∈ fpA A5 → W.heap.size ≤ b := fun b hb => by have := hF5 b hb; omega
  obtain ⟨x0, x1⟩ := bx1 k3_h.out
  obtain ⟨x2, x3⟩ := bx1 k5
  obtain ⟨w6, hw6⟩ : ∃ w6, w6 = (w5.setCell ⟨w2.heap.size, 0, none⟩ (.slice A4 n4 c4)).setCell ⟨w2.heap.size + 1, 0, none⟩ (.slice A5 n5 c5) := ⟨_, rfl⟩
  have hz6 : W.heap.size ≤ w6.heap.size := by have := s2.size; have := s4.size; rw [hw6]; omega
  rw [← hw6] at kA kB kR hM4' hM5' hB6
  clear hF4'
  refine ⟨_, rfl, fun _ => ⟨k3_h.out, k4_h.out⟩, ?_⟩
  have hN5_h := Lib.hid hN5
  have hF5_h := Lib.hid hF5
  have hb5_h := Lib.hid hb5
  have hB5_h := Lib.hid hB5
  have hM4_h := Lib.hid hM4
  have s1_h := Lib.hid s1
  have s2_h := Lib.hid s2
  have s3_h := Lib.hid s3
  have s4_h := Lib.hid s4
  have k5_h := Lib.hid k5
  have kr_h := Lib.hid kr
  have kA_h := Lib.hid kA
  have kB_h := Lib.hid kB
  have kR_h := Lib.hid kR
  have hM4'_h := Lib.hid hM4'
  have hM5'_h := Lib.hid hM5'
  have hB6_h := Lib.hid hB6
  have gA_h := Lib.hid gA
  have gB_h := Lib.hid gB
  have hn5_h := Lib.hid hn5
  clear hN5 hF5 hb5 hB5 hM4 s1 s2 s3 s4 k5 kr kA kB kR hM4' hM5' hB6 gA gB hn5
  clear hz20
  simp only [Act.put, List.setIfInBounds_toArray, List.set_cons_zero, List.set_cons_succ]
  refine oneZ 4 rfl (by kernel_rfl) (by rfl) (fun K hK => ?_)
  go_simp
  refine hK _ _ (fun h => by cases h) ?_
  clear hK K
  refine oneZ 5 rfl (by kernel_rfl) (by rfl) (fun K hK => ?_)
  go_simp
  refine hK _ _ (fun h => by cases h) ?_
  clear hK K
  refine doneZ (by kernel_rfl) ?_
  rw [← hw6]
  clear hw6 x0 x1 x2 x3 k3_h k4_h s1_h s2_h s3_h s4_h k5_h kr_h hB5_h hb5_h hN5_h hM4_h hN4_h hB4_h hbe_h hb4_h hB3_h hbd_h k1_h hO1_h hO2_h hIa_h hIb_h hP_h hP1_h hT_h hze hzf hzd
  have hOA : ∀ W', Below w6.heap.size w6 W' → OwTm W' (.agg #[.slice A4 n4 c4]) (flat Ta) (fpA A4) := fun W' hb => ⟨A4, c4, by rw [hn4_h.out], hM4'_h.out.below hb, rfl⟩
  have hOB : ∀ W', Below w6.heap.size w6 W' → OwTm W' (.agg #[.slice A5 n5 c5]) (flat Tb) (fpA A5) := fun W' hb => ⟨A5, c5, by rw [hn5_h.out], hM5'_h.out.below hb, rfl⟩
  have hOA_h := Lib.hid hOA
  have hOB_h := Lib.hid hOB
  clear hOA hOB
  obtain ⟨ia, hia⟩ : ∃ i, i = isIdT Ta := ⟨_, rfl⟩
  obtain ⟨ib, hib⟩ : ∃ i, i = isIdT Tb := ⟨_, rfl⟩
  have hX2 : X = flat (if ia then Tb else if ib then Ta else chain false (factors false Ta ++ factors false Tb)) := by rw [hX_h.out, hia, hib]; rfl
  have hQa := tmIsId_any (hOA_h.out w6 (Below.refl _ _)).rd
  rw [← hia] at hQa
  have hQb := fun W' (hb : Below w6.heap.size w6 W') => tmIsId_any (hOB_h.out W' hb).rd
  rw [← hib] at hQb
  have hX2_h := Lib.hid hX2
  have hQa_h := Lib.hid hQa
  have hQb_h := Lib.hid hQb
  have hia_h := Lib.hid hia
  have hib_h := Lib.hid hib
  clear hX2 hQa hQb hia hib
  obtain ⟨kA_c, kA_f⟩ := bx1 kA_h.out
  go_wp2_with (fail)
  refine (hQa_h.out).mono ?_
  rintro e w7 ⟨rfl, hb7⟩
  clear kA_c kA_f
  replace kA_h := Lib.hid (box_below kA_h.out hb7)
  replace kB_h := Lib.hid (box_below kB_h.out hb7)
  replace kR_h := Lib.hid (box_below kR_h.out hb7)
  have hB7 := below_trans hB6_h.out hb7 hB6_h.out.size
  have hb7_h := Lib.hid hb7
  have hB7_h := Lib.hid hB7
  clear hb7 hB7
  cases ia
  case true =>
    have hX3 := hX2_h.out
    rw [if_pos rfl] at hX3
    have hNb : NS w7 A5 c5 X := by rw [hX3]; exact hM5'_h.out.below hb7_h.out
    have hXl : n5 = X.length := by rw [hX3, hn5_h.out]
    obtain ⟨kB_c, kB_f⟩ := bx1 kB_h.out
    have hX3_h := Lib.hid hX3
    have hNb_h := Lib.hid hNb
    have hXl_h := Lib.hid hXl
    clear hX3 hNb hXl
    obtain ⟨s1, s2⟩ := set1 kR_h.out (.slice A5 n5 c5)
    have hBn := below_keeps hB7_h.out s2 hB7_h.out.size (fun k hk => by have := hz_h.out; omega)
    have hNn := NS.keeps hNb_h.out s2 (fun b hb e => by have := gB_h.out b hb; have := hz_h.out; omega)
    have hFn : FreshL w.heap.size (fpA A5) := fun b hb => by have := gB_h.out b hb; have := hz_h.out; omega
    have hLn : n5 = X.length := hXl_h.out
    obtain ⟨kR_c, kR_f⟩ := bx1 kR_h.out
    have s1_h := Lib.hid s1
    have s2_h := Lib.hid s2
    have hBn_h := Lib.hid hBn
    have hNn_h := Lib.hid hNn
    have hFn_h := Lib.hid hFn
    have hLn_h := Lib.hid hLn
    clear s1 s2 hBn hNn hFn hLn
    go_wp2_with (fail)
    refine bodyPost_ret (results_cell_row rfl _ _ (w.heap.size + 1) _ _ (0, 0) _ rfl s1_h.out Try.underlying30 rfl (by kernel_rfl)) rfl ?_
    exact ⟨_, fpA A5, rfl, ⟨A5, c5, by rw [hLn_h.out], hNn_h.out, rfl⟩, hFn_h.out, hBn_h.out⟩
  case false =>
  obtain ⟨kB_c, kB_f⟩ := bx1 kB_h.out
  go_wp2_with (fail)
  refine (hQb_h.out w7 hb7_h.out).mono ?_
  rintro e w8 ⟨rfl, hb8⟩
  clear kB_c kB_f
  replace kA_h := Lib.hid (box_below kA_h.out hb8)
  replace kB_h := Lib.hid (box_below kB_h.out hb8)
  replace kR_h := Lib.hid (box_below kR_h.out hb8)
  have hb78 := below_trans hb7_h.out hb8 hb7_h.out.size
  have hB8 := below_trans hB7_h.out hb8 hB7_h.out.size
  have hz8 := hb78.size
  have hb8_h := Lib.hid hb8
  have hB8_h := Lib.hid hB8
  have hb78_h := Lib.hid hb78
  clear hb8 hB8 hb78
  cases ib
  case true =>
    have hX3 := hX2_h.out
    rw [if_neg (by simp), if_pos rfl] at hX3
    have hNb : NS w8 A4 c4 X := by rw [hX3]; exact hM4'_h.out.below hb78_h.out
    have hXl : n4 = X.length := by rw [hX3, hn4_h.out]
    obtain ⟨kA_c, kA_f⟩ := bx1 kA_h.out
    have hX3_h := Lib.hid hX3
    have hNb_h := Lib.hid hNb
    have hXl_h := Lib.hid hXl
    clear hX3 hNb hXl
    obtain ⟨s1, s2⟩ := set1 kR_h.out (.slice A4 n4 c4)
    have hBn := below_keeps hB8_h.out s2 hB8_h.out.size (fun k hk => by have := hz_h.out; omega)
    have hNn := NS.keeps hNb_h.out s2 (fun b hb e => by have := gA_h.out b hb; have := hz_h.out; omega)
    have hFn : FreshL w.heap.size (fpA A4) := fun b hb => by have := gA_h.out b hb; have := hz_h.out; omega
    have hLn : n4 = X.length := hXl_h.out
    obtain ⟨kR_c, kR_f⟩ := bx1 kR_h.out
    have s1_h := Lib.hid s1
    have s2_h := Lib.hid s2
    have hBn_h := Lib.hid hBn
    have hNn_h := Lib.hid hNn
    have hFn_h := Lib.hid hFn
    have hLn_h := Lib.hid hLn
    clear s1 s2 hBn hNn hFn hLn
    go_wp2_with (fail)
    refine bodyPost_ret (results_cell_row rfl _ _ (w.heap.size + 1) _ _ (0, 0) _ rfl s1_h.out Try.underlying30 rfl (by kernel_rfl)) rfl ?_
    exact ⟨_, fpA A4, rfl, ⟨A4, c4, by rw [hLn_h.out], hNn_h.out, rfl⟩, hFn_h.out, hBn_h.out⟩
  case false =>
  have hX3 := hX2_h.out
  rw [if_neg (by simp), if_neg (by simp)] at hX3
  have hla := factors_sz false Ta
  have hlb := factors_sz false Tb
  have hna := factors_ne false Ta
  have hFa := fun W' (hb : Below w6.heap.size w6 W') => tmFactorsS_any Ta hwTa_h.out hsTa _ _ W' (hOA_h.out W' hb)
  have hFb := fun W' (hb : Below w6.heap.size w6 W') => tmFactorsS_any Tb hwTb_h.out hsTb _ _ W' (hOB_h.out W' hb)
  unfold RetFs at hFa hFb
  obtain ⟨Fa, hFae⟩ : ∃ F, F = factors false Ta := ⟨_, rfl⟩
  obtain ⟨Fb, hFbe⟩ : ∃ F, F = factors false Tb := ⟨_, rfl⟩
  rw [← hFae] at hFa hla hna hX3
  rw [← hFbe] at hFb hlb hX3
  have ha1 : 1 ≤ Fa.length := by cases Fa with | nil => exact absurd rfl hna | cons _ _ => simp
  have hla4 : Fa.length ≤ 401 := by omega
  have hlb4 : Fb.length ≤ 401 := by omega
  have hszL : szL (Fa ++ Fb) + (Fa ++ Fb).length ≤ 1000 := by rw [szL_append, List.length_append]; omega
  clear hla hlb hna
  have hX3_h := Lib.hid hX3
  have hFa_h := Lib.hid hFa
  have hFb_h := Lib.hid hFb
  have hFae_h := Lib.hid hFae
  have hFbe_h := Lib.hid hFbe
  have hszL_h := Lib.hid hszL
  clear hX3 hFa hFb hFae hFbe hszL
  go_wp2_with (fail)
  refine beginH (fun w' => w'.heap[w2.heap.size]? = some (.cells #[.slice A4 n4 c4] tTerm) ∧ w'.heap[w2.heap.size + 1]? = some (.cells #[.slice A5 n5 c5] tTerm)) (by kernel_rfl) ?_
  have hbd : Below w8.heap.size w8 w8.drew := below_drew (Below.refl _ _)
  generalize w8.drew = W9 at hbd ⊢
  replace kA_h := Lib.hid (box_below kA_h.out hbd)
  replace kB_h := Lib.hid (box_below kB_h.out hbd)
  replace kR_h := Lib.hid (box_below kR_h.out hbd)
  have hkW := box_lt kB_h.out
  have hkR := box_lt kR_h.out
  have hbd2 := below_trans hb78_h.out hbd hb78_h.out.size
  have hB9 := below_trans hB8_h.out hbd hB8_h.out.size
  have hz9 := hbd.size
  have hbd_h := Lib.hid hbd
  have hbd2_h := Lib.hid hbd2
  have hB9_h := Lib.hid hB9
  clear hbd hbd2 hB9
  refine takeH 0 (v := ?_) rfl (by kernel_rfl) (by kernel_rfl) (by kernel_rfl) (fun _ _ _ h => h) ⟨kA_h.out, kB_h.out⟩ (by rfl) (fun W' hW' => ?_) ?_; rotate_left; · (obtain ⟨y0, y1⟩ := bx1 hW'.1; obtain ⟨y2, y3⟩ := bx1 hW'.2; clear hW'; go_simp; first | done | with_reducible rfl)
  simp only [Act.put, List.setIfInBounds_toArray, List.set_cons_zero, List.set_cons_succ]
  refine takeH 1 (v := ?_) rfl (by kernel_rfl) (by kernel_rfl) (by kernel_rfl) (fun _ _ _ h => h) ⟨kA_h.out, kB_h.out⟩ (by rfl) (fun W' hW' => ?_) ?_; rotate_left; · (obtain ⟨y0, y1⟩ := bx1 hW'.1; obtain ⟨y2, y3⟩ := bx1 hW'.2; clear hW'; go_simp; first | done | with_reducible rfl)
  simp only [Act.put, List.setIfInBounds_toArray, List.set_cons_zero, List.set_cons_succ]
  refine takeH 3 (v := ?_) rfl (by kernel_rfl) (by kernel_rfl) (by kernel_rfl) (fun _ _ _ h => h) ⟨kA_h.out, kB_h.out⟩ (by rfl) (fun W' hW' => ?_) ?_; rotate_left; · (obtain ⟨y0, y1⟩ := bx1 hW'.1; obtain ⟨y2, y3⟩ := bx1 hW'.2; clear hW'; go_simp; first | done | with_reducible rfl)
  simp only [Act.put, List.setIfInBounds_toArray, List.set_cons_zero, List.set_cons_succ]
  refine takeH 4 (v := ?_) rfl (by kernel_rfl) (by kernel_rfl) (by kernel_rfl) (fun _ _ _ h => h) ⟨kA_h.out, kB_h.out⟩ (by rfl) (fun W' hW' => ?_) ?_; rotate_left; · (obtain ⟨y0, y1⟩ := bx1 hW'.1; obtain ⟨y2, y3⟩ := bx1 hW'.2; clear hW'; go_simp; first | done | with_reducible rfl)
  simp only [Act.put, List.setIfInBounds_toArray, List.set_cons_zero, List.set_cons_succ]
  refine takeH 7 (v := ?_) rfl (by kernel_rfl) (by kernel_rfl) (by kernel_rfl) (fun _ _ _ h => h) ⟨kA_h.out, kB_h.out⟩ (by rfl) (fun W' hW' => ?_) ?_; rotate_left; · (obtain ⟨y0, y1⟩ := bx1 hW'.1; obtain ⟨y2, y3⟩ := bx1 hW'.2; clear hW'; go_simp; first | done | with_reducible rfl)
  simp only [Act.put, List.setIfInBounds_toArray, List.set_cons_zero, List.set_cons_succ]
  refine' callH 2 (f := _) (args := _) rfl (by kernel_rfl) (by rfl) ?_ ?_; rotate_left 2; · (go_simp; first | done | with_reducible rfl | (constructor <;> with_reducible rfl))
  refine (hFa_h.out W9 hbd2_h.out).mono ?_
  rintro e w10 ⟨A10, c10, m10, vs10, rfl, hm10, hN10, hT10, hF10, hG10, hb10⟩
  replace kA_h := Lib.hid (box_below kA_h.out hb10)
  replace kB_h := Lib.hid (box_below kB_h.out hb10)
  replace kR_h := Lib.hid (box_below kR_h.out hb10)
  have hbe := below_trans hbd2_h.out hb10 hbd2_h.out.size
  have hB10 := below_trans hB9_h.out hb10 hB9_h.out.size
  have hz10 := hb10.size
  refine ⟨_, rfl, ⟨kA_h.out, kB_h.out⟩, ?_⟩
  have hm10_h := Lib.hid hm10
  have hN10_h := Lib.hid hN10
  have hT10_h := Lib.hid hT10
  have hF10_h := Lib.hid hF10
  have hG10_h := Lib.hid hG10
  have hb10_h := Lib.hid hb10
  have hB10_h := Lib.hid hB10
  have hbe_h := Lib.hid hbe
  clear hm10 hN10 hT10 hF10 hG10 hb10 hB10 hbe
  simp only [Act.put, List.setIfInBounds_toArray, List.set_cons_zero, List.set_cons_succ]
  refine' callH 5 (f := _) (args := _) rfl (by kernel_rfl) (by rfl) ?_ ?_; rotate_left 2; · (go_simp; first | done | with_reducible rfl | (constructor <;> with_reducible rfl))
  refine (hFb_h.out w10 hbe_h.out).mono ?_
  rintro e w11 ⟨A11, c11, m11, vs11, rfl, hm11, hN11, hT11, hF11, hG11, hb11⟩
  replace kA_h := Lib.hid (box_below kA_h.out hb11)
  replace kB_h := Lib.hid (box_below kB_h.out hb11)
  replace kR_h := Lib.hid (box_below kR_h.out hb11)
  have hB11 := below_trans hB10_h.out hb11 hB10_h.out.size
  have hN12 := hN10_h.out.below hb11
  have hT12 := hT10_h.out.below hb11
  have hl1 : m10 ≤ 401 := by rw [hm10_h.out]; exact hla4
  have hl2 : m11 ≤ 401 := by rw [hm11]; exact hlb4
  have hl0 : 1 ≤ m10 := by rw [hm10_h.out]; exact ha1
  have hnl : vs11.length = m11 * 1 := by rw [hT11.len, hm11]; omega
  have hz11 := hb11.size
  refine ⟨_, rfl, ⟨kA_h.out, kB_h.out⟩, ?_⟩
  have hm11_h := Lib.hid hm11
  have hN11_h := Lib.hid hN11
  have hT11_h := Lib.hid hT11
  have hF11_h := Lib.hid hF11
  have hG11_h := Lib.hid hG11
  have hb11_h := Lib.hid hb11
  have hB11_h := Lib.hid hB11
  have hN12_h := Lib.hid hN12
  have hT12_h := Lib.hid hT12
  have hnl_h := Lib.hid hnl
  clear hm11 hN11 hT11 hF11 hG11 hb11 hB11 hN12 hT12 hnl
  simp only [Act.put, List.setIfInBounds_toArray, List.set_cons_zero, List.set_cons_succ]
  refine appH 6 rfl (by kernel_rfl) (by rfl) _ _ _ rfl tTerm Try.underlying120 info_term rfl (by omega) rfl hN12_h.out rfl hnl_h.out (Sl.rdc hN11_h.out) hT11_h.out.one_cell (by unfold maxLen; omega) (by omega) ?_
  intro A13 c13 w13 hs13 hA13 hk13
  have hf10 := hF10_h.out
  have k5 := box_keeps kA_h.out hk13 (fun h => by have := hf10 _ h; omega)
  have k6 := box_keeps kB_h.out hk13 (fun h => by have := hf10 _ h; omega)
  have k7 := box_keeps kR_h.out hk13 (fun h => by have := hf10 _ h; omega)
  have hzw9 := hB9_h.out.size
  have hB13 := below_keeps hB11_h.out hk13 hB11_h.out.size (fun k hk => by have := hf10 k hk; omega)
  have hT13 := (hT12_h.out.keeps hk13 (fun b hb => hT12_h.out.apart hN12_h.out b hb)).append (hT11_h.out.keeps hk13 (fun b hb => hT11_h.out.apart hN12_h.out b hb))
  have hm13 : m10 + m11 = (Fa ++ Fb).length := by rw [List.length_append, hm10_h.out, hm11_h.out]
  have hCh := tmChain_any false A13 (m10 + m11) c13 (vs10 ++ vs11) (Fa ++ Fb) w13 hs13 hm13 hT13 (by omega) hszL_h.out
  have e15 : kd false = 15 := rfl
  rw [e15] at hCh
  unfold ChA at hCh
  rw [← hX3_h.out] at hCh
  have hGv : ∀ u, (vs10 ++ vs11)[0]? = some u → ∀ b, b ∈ fpV u → W.heap.size ≤ b := fun u hu b hb => by
    rcases List.mem_append.1 (List.mem_of_getElem? hu) with h | h
    · rcases hG10_h.out u h b hb with h | h
      · exact gA_h.out b h
      · omega
    · rcases hG11_h.out u h b hb with h | h
      · exact gB_h.out b h
      · omega
  have hz13 := hk13.size
  refine ⟨⟨k5, k6⟩, ?_⟩
  clear hf10 e15
  have hs13_h := Lib.hid hs13
  have hA13_h := Lib.hid hA13
  have hk13_h := Lib.hid hk13
  have k5_h := Lib.hid k5
  have k6_h := Lib.hid k6
  have k7_h := Lib.hid k7
  have hB13_h := Lib.hid hB13
  have hT13_h := Lib.hid hT13
  have hm13_h := Lib.hid hm13
  have hCh_h := Lib.hid hCh
  have hGv_h := Lib.hid hGv
  clear hs13 hA13 hk13 k5 k6 k7 hB13 hT13 hm13 hCh hGv
  simp only [Act.put, List.setIfInBounds_toArray, List.set_cons_zero, List.set_cons_succ]
  refine' callH 8 (f := _) (args := _) rfl (by kernel_rfl) (by rfl) ?_ ?_; rotate_left 2; · (go_simp; first | done | with_reducible rfl | (constructor <;> with_reducible rfl))
  refine (hCh_h.out).mono ?_
  rintro e w14 ⟨A14, n14, c14, rfl, hn14, hN14, hfr14, hb14⟩
  replace k5_h := Lib.hid (box_below k5_h.out hb14)
  replace k6_h := Lib.hid (box_below k6_h.out hb14)
  replace k7_h := Lib.hid (box_below k7_h.out hb14)
  have hB14 := below_trans hB13_h.out hb14 hB13_h.out.size
  have hG14 : ∀ b, b ∈ fpA A14 → W.heap.size ≤ b := fun b hb => by
    rcases hfr14 b hb with h | ⟨u, hu, hbu⟩
    · omega
    · exact hGv_h.out u hu b hbu
  have hz0' := hz_h.out
  obtain ⟨s1, s2⟩ := set1 k7_h.out (.slice A14 n14 c14)
  have k8 := box_keeps k5_h.out s2 (by omega)
  have k9 := box_keeps k6_h.out s2 (by omega)
  have hBn := below_keeps hB14 s2 hB14.size (fun k hk => by omega)
  have hNn := NS.keeps hN14 s2 (fun b hb e => by have := hG14 b hb; omega)
  have hFn : FreshL w.heap.size (fpA A14) := fun b hb => by have := hG14 b hb; omega
  obtain ⟨k7_c, k7_f⟩ := bx1 k7_h.out
  refine ⟨_, rfl, ⟨k5_h.out, k6_h.out⟩, ?_⟩
  have hn14_h := Lib.hid hn14
  have hN14_h := Lib.hid hN14
  have hfr14_h := Lib.hid hfr14
  have hb14_h := Lib.hid hb14
  have hB14_h := Lib.hid hB14
  have hG14_h := Lib.hid hG14
  have s1_h := Lib.hid s1
  have s2_h := Lib.hid s2
  have k8_h := Lib.hid k8
  have k9_h := Lib.hid k9
  have hBn_h := Lib.hid hBn
  have hNn_h := Lib.hid hNn
  have hFn_h := Lib.hid hFn
  clear hn14 hN14 hfr14 hb14 hB14 hG14 s1 s2 k8 k9 hBn hNn hFn
  clear hz0'
  simp only [Act.put, List.setIfInBounds_toArray, List.set_cons_zero, List.set_cons_succ]
  refine oneH 9 rfl (by kernel_rfl) (by rfl) (fun K hK => ?_)
  go_simp
  refine hK _ _ ⟨k8_h.out, k9_h.out⟩ ?_
  clear hK K
  refine doneH (by kernel_rfl) ?_
  go_wp2_with (fail)
  refine bodyPost_ret (results_cell_row rfl _ _ (w.heap.size + 1) _ _ (0, 0) _ rfl s1_h.out Try.underlying30 rfl (by kernel_rfl)) rfl ?_
  exact ⟨_, fpA A14, rfl, ⟨A14, c14, by rw [hn14_h.out], hNn_h.out, rfl⟩, hFn_h.out, hBn_h.out⟩
end Go.Proofs.Ytlmnmdahphahfaa
