/-
  THE WALKS: tmTidy of the reference: a juxtaposition.
-/
import Derived.Test.YtlmnmdahphahfaaTmTn
namespace Go.Proofs.Ytlmnmdahphahfaa
open Go.RowKit

set_option maxRecDepth 8000 in
set_option maxHeartbeats 8000000 in
theorem tmTidy_par {a b : Tr} {v : Value} {fp : List Nat} {w : World} (hw : wt (.node true a b)) (hs : sz (.node true a b) ≤ 400) (h : OwTm w v (flat (.node true a b)) fp)
    (hIa : ∀ (v : Value) (fp : List Nat) (w : World), OwTm w v (flat a) fp → Calls Try.prog 73 #[v] w (RetTm w (flat (tidy a)))) (hIb : ∀ (v : Value) (fp : List Nat) (w : World), OwTm w v (flat b) fp → Calls Try.prog 73 #[v] w (RetTm w (flat (tidy b)))) :
    Calls Try.prog 73 #[v] w (RetTm w (flat (tidy (.node true a b)))) := by
  obtain ⟨A, c, rfl, hN, rfl⟩ := h
  have ⟨hwa, hwb, _⟩ := hw
  have hsn := sz_node true a b
  have e1 : flat (tidy (.node true a b)) = flat (tidyP (tidy a) (tidy b)) := rfl
  rw [e1]
  obtain ⟨n, hn⟩ : ∃ n, n = (flat (.node true a b)).length := ⟨_, rfl⟩
  obtain ⟨W, hW⟩ : ∃ W, W = (w.alloc (.cells #[.slice A n c] tTerm)).alloc (.cells #[.slice none 0 0] tTerm) := ⟨_, rfl⟩
  obtain ⟨b0, k0, k1, hz⟩ := two_boxes w (.cells #[.slice A n c] tTerm) (.cells #[.slice none 0 0] tTerm)
  rw [← hW] at b0 k0 k1 hz
  have hN1 := hN.below b0
  have hT := tmTop_any (v := .agg #[.slice A n c]) (t := .node true a b) (w := W) ⟨A, c, by rw [hn], hN1, rfl⟩
  have e3 : topK (.node true a b) = 16 := rfl
  rw [e3] at hT
  have hP := fun W' (hb : Below W.heap.size W W') => tmParts_any (v := .agg #[.slice A n c]) (p := true) (a := a) (b := b) (w := W') hw hs ⟨A, c, by rw [hn], hN1.below hb, rfl⟩
  obtain ⟨La, hLa⟩ : ∃ La, La = flat a := ⟨_, rfl⟩
  obtain ⟨Lb, hLb⟩ : ∃ Lb, Lb = flat b := ⟨_, rfl⟩
  obtain ⟨Ta, hTa⟩ : ∃ t, t = tidy a := ⟨_, rfl⟩
  obtain ⟨Tb, hTb⟩ : ∃ t, t = tidy b := ⟨_, rfl⟩
  have hwTa : wt Ta := by rw [hTa]; exact (tidy_ok hwa).1
  have hwTb : wt Tb := by rw [hTb]; exact (tidy_ok hwb).1
  have hsTa : sz Ta ≤ 400 := by rw [hTa]; have := (tidy_ok hwa).2.2; omega
  have hsTb : sz Tb ≤ 400 := by rw [hTb]; have := (tidy_ok hwb).2.2; omega
  rw [← hTa, ← hTb]
  rw [← hn]
  rw [← hLa, ← hLb] at hP
  rw [← hLa, ← hTa] at hIa
  rw [← hLb, ← hTb] at hIb
  obtain ⟨X, hX⟩ : ∃ X, X = flat (tidyP Ta Tb) := ⟨_, rfl⟩
  rw [← hX]
  clear hN hN1 hs hw hsn e1 e3 hwa hwb
  have b0_h := Lib.hid b0
  have k0_h := Lib.hid k0
  have k1_h := Lib.hid k1
  have hz_h := Lib.hid hz
  have hT_h := Lib.hid hT
  have hP_h := Lib.hid hP
  have hIa_h := Lib.hid hIa
  have hIb_h := Lib.hid hIb
  have hLa_h := Lib.hid hLa
  have hLb_h := Lib.hid hLb
  have hTa_h := Lib.hid hTa
  have hTb_h := Lib.hid hTb
  have hn_h := Lib.hid hn
  have hX_h := Lib.hid hX
  have hwTa_h := Lib.hid hwTa
  have hwTb_h := Lib.hid hwTb
  clear b0 k0 k1 hz hT hP hIa hIb hLa hLb hTa hTb hn hX hwTa hwTb
  go_enter Try.func73, Try.ntmps73
  go_upto_region 1 with (fail)
  rw [← hW]
  clear hW
  obtain ⟨k0_c, k0_f⟩ := bx1 k0_h.out
  go_wp2_with (fail)
  refine (hT_h.out).mono ?_
  rintro e w1 ⟨rfl, hb1⟩
  clear k0_c k0_f
  replace k0_h := Lib.hid (box_below k0_h.out hb1)
  replace k1_h := Lib.hid (box_below k1_h.out hb1)
  obtain ⟨k0_c, k0_f⟩ := bx1 k0_h.out
  have hB1 := below_trans b0_h.out hb1 b0_h.out.size
  have hzb := hb1.size
  have hP1 := hP_h.out w1 hb1
  have hb1_h := Lib.hid hb1
  have hB1_h := Lib.hid hB1
  have hP1_h := Lib.hid hP1
  clear hb1 hB1 hP1
  go_wp2_with (fail)
  refine (hP1_h.out).mono ?_
  rintro e w2 ⟨v1, v2, fp1, fp2, rfl, ⟨A1, c1, rfl, hN1, rfl⟩, ⟨A2, c2, rfl, hN2, rfl⟩, hF1, hF2, -, hb2⟩
  obtain ⟨n1, hn1⟩ : ∃ n1, n1 = La.length := ⟨_, rfl⟩
  obtain ⟨n2, hn2⟩ : ∃ n2, n2 = Lb.length := ⟨_, rfl⟩
  rw [← hn1, ← hn2]
  clear k0_c k0_f
  replace k1_h := Lib.hid (box_below k1_h.out hb2)
  obtain ⟨W2, hW2⟩ : ∃ W2, W2 = (w2.alloc (.cells #[.slice A1 n1 c1] tTerm)).alloc (.cells #[.slice A2 n2 c2] tTerm) := ⟨_, rfl⟩
  obtain ⟨b2, k3, k4, hz2⟩ := two_boxes w2 (.cells #[.slice A1 n1 c1] tTerm) (.cells #[.slice A2 n2 c2] tTerm)
  rw [← hW2] at b2 k3 k4 hz2
  replace k1_h := Lib.hid (box_below k1_h.out b2)
  have hM1 := hN1.below b2
  have hM2 := hN2.below b2
  have hB2 := below_trans (below_trans hB1_h.out hb2 hB1_h.out.size) b2 (Nat.le_trans hB1_h.out.size hb2.size)
  have hO1 : ∀ W', Below W2.heap.size W2 W' → OwTm W' (.agg #[.slice A1 n1 c1]) La (fpA A1) := fun W' hb => ⟨A1, c1, by rw [hn1], hM1.below hb, rfl⟩
  have hO2 : ∀ W', Below W2.heap.size W2 W' → OwTm W' (.agg #[.slice A2 n2 c2]) Lb (fpA A2) := fun W' hb => ⟨A2, c2, by rw [hn2], hM2.below hb, rfl⟩
  clear hM1 hM2 hN1 hN2 hF1 hF2
  have hzc := hb2.size
  have hb2_h := Lib.hid hb2
  have k3_h := Lib.hid k3
  have k4_h := Lib.hid k4
  have hz2_h := Lib.hid hz2
  have hB2_h := Lib.hid hB2
  have hO1_h := Lib.hid hO1
  have hO2_h := Lib.hid hO2
  have b2_h := Lib.hid b2
  have hn1_h := Lib.hid hn1
  have hn2_h := Lib.hid hn2
  clear hb2 k3 k4 hz2 hB2 hO1 hO2 b2 hn1 hn2
  go_upto_region 5 with (fail)
  rw [← hW2]
  clear hW2
  refine beginZw 4 (fun w' => w'.heap[w2.heap.size]? = some (.cells #[.slice A1 n1 c1] tTerm) ∧ w'.heap[w2.heap.size + 1]? = some (.cells #[.slice A2 n2 c2] tTerm)) (by kernel_rfl) (fun W3 hW3 => ?_)
  have hbd : Below W2.heap.size W2 W3 := by rw [hW3]; exact below_drew (Below.refl _ _)
  clear hW3
  replace k1_h := Lib.hid (box_below k1_h.out hbd)
  replace k3_h := Lib.hid (box_below k3_h.out hbd)
  replace k4_h := Lib.hid (box_below k4_h.out hbd)
  have hB3 := below_trans hB2_h.out hbd hB2_h.out.size
  have hzd := hbd.size
  have hB3_h := Lib.hid hB3
  have hbd_h := Lib.hid hbd
  clear hB3 hbd
  refine takeC 0 (v := ?_) rfl (by kernel_rfl) (by kernel_rfl) (by kernel_rfl) (by kernel_rfl) (fun _ _ _ h => h) ⟨k3_h.out, k4_h.out⟩ (by rfl) (fun W' hW' => ?_) ?_; rotate_left; · (obtain ⟨y0, y1⟩ := bx1 hW'.1; obtain ⟨y2, y3⟩ := bx1 hW'.2; clear hW'; go_simp; first | done | with_reducible rfl)
  simp only [Act.put, List.setIfInBounds_toArray, List.set_cons_zero, List.set_cons_succ]
  refine takeC 2 (v := ?_) rfl (by kernel_rfl) (by kernel_rfl) (by kernel_rfl) (by kernel_rfl) (fun _ _ _ h => h) ⟨k3_h.out, k4_h.out⟩ (by rfl) (fun W' hW' => ?_) ?_; rotate_left; · (obtain ⟨y0, y1⟩ := bx1 hW'.1; obtain ⟨y2, y3⟩ := bx1 hW'.2; clear hW'; go_simp; first | done | with_reducible rfl)
  simp only [Act.put, List.setIfInBounds_toArray, List.set_cons_zero, List.set_cons_succ]
  refine callZ 1 (f := ?f1) (args := ?args1) rfl (by kernel_rfl) (by rfl) ?hrun1 ?hcall1
  case hrun1 => (go_simp; first | done | with_reducible rfl | (constructor <;> with_reducible rfl))
  refine (hIa_h.out _ _ W3 (hO1_h.out W3 hbd_h.out)).mono ?_
  rintro e w4 ⟨v4, fp4, rfl, ⟨A4, c4, rfl, hN4, rfl⟩, hF4, hb4⟩
  replace k1_h := Lib.hid (box_below k1_h.out hb4)
  replace k3_h := Lib.hid (box_below k3_h.out hb4)
  replace k4_h := Lib.hid (box_below k4_h.out hb4)
  have hbe := below_trans hbd_h.out hb4 hbd_h.out.size
  have hB4 := below_trans hB3_h.out hb4 hB3_h.out.size
  obtain ⟨n4, hn4⟩ : ∃ n4, n4 = (flat Ta).length := ⟨_, rfl⟩
  rw [← hn4]
  refine ⟨_, rfl, fun _ => ⟨k3_h.out, k4_h.out⟩, ?_⟩
  have hze := hb4.size
  have hN4_h := Lib.hid hN4
  have hF4_h := Lib.hid hF4
  have hb4_h := Lib.hid hb4
  have hB4_h := Lib.hid hB4
  have hbe_h := Lib.hid hbe
  have hn4_h := Lib.hid hn4
  clear hN4 hF4 hb4 hB4 hbe hn4
  simp only [Act.put, List.setIfInBounds_toArray, List.set_cons_zero, List.set_cons_succ]
  refine callZ 3 (f := ?f2) (args := ?args2) rfl (by kernel_rfl) (by rfl) ?hrun2 ?hcall2
  case hrun2 => (go_simp; first | done | with_reducible rfl | (constructor <;> with_reducible rfl))
  refine (hIb_h.out _ _ w4 (hO2_h.out w4 hbe_h.out)).mono ?_
  rintro e w5 ⟨v5, fp5, rfl, ⟨A5, c5, rfl, hN5, rfl⟩, hF5, hb5⟩
  replace k1_h := Lib.hid (box_below k1_h.out hb5)
  replace k3_h := Lib.hid (box_below k3_h.out hb5)
  replace k4_h := Lib.hid (box_below k4_h.out hb5)
  have hB5 := below_trans hB4_h.out hb5 hB4_h.out.size
  have hM4 := hN4_h.out.below hb5
  obtain ⟨n5, hn5⟩ : ∃ n5, n5 = (flat Tb).length := ⟨_, rfl⟩
  rw [← hn5]
  have hzf := hb5.size
  have hz0 := hz_h.out
  have hz20 := hz2_h.out
  have hF4' := hF4_h.out
  obtain ⟨s1, s2⟩ := set1 k3_h.out (.slice A4 n4 c4)
  have k5 := box_keeps k4_h.out s2 (by omega)
  have kr := box_keeps k1_h.out s2 (by omega)
  obtain ⟨s3, s4⟩ := set1 k5 (.slice A5 n5 c5)
  have kA := box_keeps s1 s4 (by omega)
  have kB := s3
  have kR := box_keeps kr s4 (by omega)
  have hM4' := (hM4.keeps s2 (fun b hb e => by have := hF4' b hb; omega)).keeps s4 (fun b hb e => by have := hF4' b hb; omega)
  have hM5' := (NS.keeps hN5 s2 (fun b hb e => by have := hF5 b hb; omega)).keeps s4 (fun b hb e => by have := hF5 b hb; omega)
  have hB6 := below_keeps (below_keeps hB5 s2 hB5.size (fun k hk => by omega)) s4 (Nat.le_trans hB5.size s2.size) (fun k hk => by omega)
  have gA : ∀ b, b ∈ fpA A4 → W.heap.size ≤ b := fun b hb => by have := hF4' b hb; omega
  have gB : ∀ b, b ∈ fpA A5 → W.heap.size ≤ b := fun b hb => by have := hF5 b hb; omega
  obtain ⟨x0, x1⟩ := bx1 k3_h.out
  obtain ⟨x2, x3⟩ := bx1 k5
  obtain ⟨w6, hw6⟩ : ∃ w6, w6 = (w5.setCell ⟨w2.heap.size, 0, none⟩ (.slice A4 n4 c4)).setCell ⟨w2.heap.size + 1, 0, none⟩ (.slice A5 n5 c5) := ⟨_, rfl⟩
  have hz6 : W.heap.size ≤ w6.heap.size := by have := s2.size; have := s4.size; rw [hw6]; omega
  rw [← hw6] at kA kB kR hM4' hM5' hB6
  clear hF4'
  refine ⟨_, rfl, fun _ => ⟨k3_h.out, k4_h.out⟩, ?_⟩
  have hN5_h := Lib.hid hN5
  have hF5_h := Lib.hid hF5
  have hb5_h := Lib.hid hb5
  have hB5_h := Lib.hid hB5
  have hM4_h := Lib.hid hM4
  have s1_h := Lib.hid s1
  have s2_h := Lib.hid s2
  have s3_h := Lib.hid s3
  have s4_h := Lib.hid s4
  have k5_h := Lib.hid k5
  have kr_h := Lib.hid kr
  have kA_h := Lib.hid kA
  have kB_h := Lib.hid kB
  have kR_h := Lib.hid kR
  have hM4'_h := Lib.hid hM4'
  have hM5'_h := Lib.hid hM5'
  have hB6_h := Lib.hid hB6
  have gA_h := Lib.hid gA
  have gB_h := Lib.hid gB
  have hn5_h := Lib.hid hn5
  clear hN5 hF5 hb5 hB5 hM4 s1 s2 s3 s4 k5 kr kA kB kR hM4' hM5' hB6 gA gB hn5
  clear hz20
  simp only [Act.put, List.setIfInBounds_toArray, List.set_cons_zero, List.set_cons_succ]
  refine oneZ 4 rfl (by kernel_rfl) (by rfl) (fun K hK => ?_)
  go_simp
  refine hK _ _ (fun h => by cases h) ?_
  clear hK K
  refine oneZ 5 rfl (by kernel_rfl) (by rfl) (fun K hK => ?_)
  go_simp
  refine hK _ _ (fun h => by cases h) ?_
  clear hK K
  refine doneZ (by kernel_rfl) ?_
  rw [← hw6]
  clear hw6 x0 x1 x2 x3 k3_h k4_h s1_h s2_h s3_h s4_h k5_h kr_h hB5_h hb5_h hN5_h hM4_h hN4_h hB4_h hbe_h hb4_h hB3_h hbd_h k1_h hO1_h hO2_h hIa_h hIb_h hP_h hP1_h hT_h hze hzf hzd
  have hOA : ∀ W', Below w6.heap.size w6 W' → OwTm W' (.agg #[.slice A4 n4 c4]) (flat Ta) (fpA A4) := fun W' hb => ⟨A4, c4, by rw [hn4_h.out], hM4'_h.out.below hb, rfl⟩
  have hOB : ∀ W', Below w6.heap.size w6 W' → OwTm W' (.agg #[.slice A5 n5 c5]) (flat Tb) (fpA A5) := fun W' hb => ⟨A5, c5, by rw [hn5_h.out], hM5'_h.out.below hb, rfl⟩
  have hOA_h := Lib.hid hOA
  have hOB_h := Lib.hid hOB
  clear hOA hOB
  obtain ⟨ia, hia⟩ : ∃ i, i = isIdT Ta := ⟨_, rfl⟩
  obtain ⟨ib, hib⟩ : ∃ i, i = isIdT Tb := ⟨_, rfl⟩
  obtain ⟨na, hna⟩ : ∃ i, i = valT Ta := ⟨_, rfl⟩
  obtain ⟨nb, hnb⟩ : ∃ i, i = valT Tb := ⟨_, rfl⟩
  obtain ⟨ca, hca⟩ : ∃ i, i = (ia && decide (na = 0)) := ⟨_, rfl⟩
  obtain ⟨cb, hcb⟩ : ∃ i, i = (ib && decide (nb = 0)) := ⟨_, rfl⟩
  have hX2 : X = flat (if ca then Tb else if cb then Ta else chain true (midL (factors true Ta) (factors true Tb))) := by rw [hX_h.out, hca, hcb, hia, hib, hna, hnb]; rfl
  have hQa := tmIsId_any (hOA_h.out w6 (Below.refl _ _)).rd
  rw [← hia] at hQa
  have hQb := fun W' (hb : Below w6.heap.size w6 W') => tmIsId_any (hOB_h.out W' hb).rd
  rw [← hib] at hQb
  have hX2_h := Lib.hid hX2
  have hQa_h := Lib.hid hQa
  have hQb_h := Lib.hid hQb
  have hia_h := Lib.hid hia
  have hib_h := Lib.hid hib
  have hna_h := Lib.hid hna
  have hnb_h := Lib.hid hnb
  have hca_h := Lib.hid hca
  have hcb_h := Lib.hid hcb
  clear hX2 hQa hQb hia hib hna hnb hca hcb
  go_upto_region 12 with (fail)
  go_cut [51] (fun s wx => s = .bool ca ∧ Below w6.heap.size w6 wx)
  case first =>
    obtain ⟨kA_c, kA_f⟩ := bx1 kA_h.out
    go_wp2_with (fail)
    refine (hQa_h.out).mono ?_
    rintro e w7 ⟨rfl, hb7⟩
    clear kA_c kA_f
    replace kA_h := Lib.hid (box_below kA_h.out hb7)
    obtain ⟨kA_c, kA_f⟩ := bx1 kA_h.out
    cases ia
    · obtain rfl : ca = false := by rw [hca_h.out]; rfl
      have hb7_h := Lib.hid hb7
      clear hb7
      go_wp2_with (fail)
      go_meet
      exact ⟨rfl, hb7_h.out⟩
    · obtain ⟨ad4, rfl, h1, x1⟩ := id_cell (hM4'_h.out.below hb7) hia_h.out.symm
      rw [← hn4_h.out] at h1
      subst h1
      rw [← hna_h.out] at x1
      by_cases hz : na = 0
      · have hz2 : (na == 0) = true := by simp [hz]
        obtain rfl : ca = true := by rw [hca_h.out]; simp [hz]
        have hb7_h := Lib.hid hb7
        have hz_h := Lib.hid hz
        clear hb7 hz
        go_wp2_with (fail)
        go_meet
        exact ⟨rfl, hb7_h.out⟩
      · have hz2 : (na == 0) = false := by simp [hz]
        obtain rfl : ca = false := by rw [hca_h.out]; simp [hz]
        have hb7_h := Lib.hid hb7
        have hz_h := Lib.hid hz
        clear hb7 hz
        go_wp2_with (fail)
        go_meet
        exact ⟨rfl, hb7_h.out⟩
  case rest =>
  obtain ⟨rfl, hb7⟩ := hcut
  obtain ⟨w7, rfl⟩ : ∃ x, x = wc := ⟨_, rfl⟩
  replace kA_h := Lib.hid (box_below kA_h.out hb7)
  replace kB_h := Lib.hid (box_below kB_h.out hb7)
  replace kR_h := Lib.hid (box_below kR_h.out hb7)
  have hB7 := below_trans hB6_h.out hb7 hB6_h.out.size
  have hz7 := hb7.size
  have hb7_h := Lib.hid hb7
  have hB7_h := Lib.hid hB7
  clear hb7 hB7
  cases ca
  case true =>
    have hX3 := hX2_h.out
    rw [if_pos rfl] at hX3
    have hNb : NS w7 A5 c5 X := by rw [hX3]; exact hM5'_h.out.below hb7_h.out
    have hXl : n5 = X.length := by rw [hX3, hn5_h.out]
    obtain ⟨kB_c, kB_f⟩ := bx1 kB_h.out
    have hX3_h := Lib.hid hX3
    have hNb_h := Lib.hid hNb
    have hXl_h := Lib.hid hXl
    clear hX3 hNb hXl
    obtain ⟨s1, s2⟩ := set1 kR_h.out (.slice A5 n5 c5)
    have hBn := below_keeps hB7_h.out s2 hB7_h.out.size (fun k hk => by have := hz_h.out; omega)
    have hNn := NS.keeps hNb_h.out s2 (fun b hb e => by have := gB_h.out b hb; have := hz_h.out; omega)
    have hFn : FreshL w.heap.size (fpA A5) := fun b hb => by have := gB_h.out b hb; have := hz_h.out; omega
    have hLn : n5 = X.length := hXl_h.out
    obtain ⟨kR_c, kR_f⟩ := bx1 kR_h.out
    have s1_h := Lib.hid s1
    have s2_h := Lib.hid s2
    have hBn_h := Lib.hid hBn
    have hNn_h := Lib.hid hNn
    have hFn_h := Lib.hid hFn
    have hLn_h := Lib.hid hLn
    clear s1 s2 hBn hNn hFn hLn
    go_wp2_with (fail)
    refine bodyPost_ret (results_cell_row rfl _ _ (w.heap.size + 1) _ _ (0, 0) _ rfl s1_h.out Try.underlying30 rfl (by kernel_rfl)) rfl ?_
    exact ⟨_, fpA A5, rfl, ⟨A5, c5, by rw [hLn_h.out], hNn_h.out, rfl⟩, hFn_h.out, hBn_h.out⟩
  case false =>
  go_upto_region 14 with (fail)
  go_cut [62] (fun s wx => s = .bool cb ∧ Below w7.heap.size w7 wx)
  case first =>
    obtain ⟨kB_c, kB_f⟩ := bx1 kB_h.out
    go_wp2_with (fail)
    refine (hQb_h.out w7 hb7_h.out).mono ?_
    rintro e w8 ⟨rfl, hb8⟩
    clear kB_c kB_f
    replace kB_h := Lib.hid (box_below kB_h.out hb8)
    obtain ⟨kB_c, kB_f⟩ := bx1 kB_h.out
    cases ib
    · obtain rfl : cb = false := by rw [hcb_h.out]; rfl
      have hb8_h := Lib.hid hb8
      clear hb8
      go_wp2_with (fail)
      go_meet
      exact ⟨rfl, hb8_h.out⟩
    · obtain ⟨ad5, rfl, h1, x1⟩ := id_cell ((hM5'_h.out.below hb7_h.out).below hb8) hib_h.out.symm
      rw [← hn5_h.out] at h1
      subst h1
      rw [← hnb_h.out] at x1
      by_cases hz : nb = 0
      · have hz2 : (nb == 0) = true := by simp [hz]
        obtain rfl : cb = true := by rw [hcb_h.out]; simp [hz]
        have hb8_h := Lib.hid hb8
        have hz_h := Lib.hid hz
        clear hb8 hz
        go_wp2_with (fail)
        go_meet
        exact ⟨rfl, hb8_h.out⟩
      · have hz2 : (nb == 0) = false := by simp [hz]
        obtain rfl : cb = false := by rw [hcb_h.out]; simp [hz]
        have hb8_h := Lib.hid hb8
        have hz_h := Lib.hid hz
        clear hb8 hz
        go_wp2_with (fail)
        go_meet
        exact ⟨rfl, hb8_h.out⟩
  case rest =>
  obtain ⟨rfl, hb8⟩ := hcut
  obtain ⟨w8, rfl⟩ : ∃ x, x = wc := ⟨_, rfl⟩
  replace kA_h := Lib.hid (box_below kA_h.out hb8)
  replace kB_h := Lib.hid (box_below kB_h.out hb8)
  replace kR_h := Lib.hid (box_below kR_h.out hb8)
  have hb78 := below_trans hb7_h.out hb8 hb7_h.out.size
  have hB8 := below_trans hB7_h.out hb8 hB7_h.out.size
  have hz8 := hb8.size
  have hb8_h := Lib.hid hb8
  have hB8_h := Lib.hid hB8
  have hb78_h := Lib.hid hb78
  clear hb8 hB8 hb78
  cases cb
  case true =>
    have hX3 := hX2_h.out
    rw [if_neg (by simp), if_pos rfl] at hX3
    have hNb : NS w8 A4 c4 X := by rw [hX3]; exact hM4'_h.out.below hb78_h.out
    have hXl : n4 = X.length := by rw [hX3, hn4_h.out]
    obtain ⟨kA_c, kA_f⟩ := bx1 kA_h.out
    have hX3_h := Lib.hid hX3
    have hNb_h := Lib.hid hNb
    have hXl_h := Lib.hid hXl
    clear hX3 hNb hXl
    obtain ⟨s1, s2⟩ := set1 kR_h.out (.slice A4 n4 c4)
    have hBn := below_keeps hB8_h.out s2 hB8_h.out.size (fun k hk => by have := hz_h.out; omega)
    have hNn := NS.keeps hNb_h.out s2 (fun b hb e => by have := gA_h.out b hb; have := hz_h.out; omega)
    have hFn : FreshL w.heap.size (fpA A4) := fun b hb => by have := gA_h.out b hb; have := hz_h.out; omega
    have hLn : n4 = X.length := hXl_h.out
    obtain ⟨kR_c, kR_f⟩ := bx1 kR_h.out
    have s1_h := Lib.hid s1
    have s2_h := Lib.hid s2
    have hBn_h := Lib.hid hBn
    have hNn_h := Lib.hid hNn
    have hFn_h := Lib.hid hFn
    have hLn_h := Lib.hid hLn
    clear s1 s2 hBn hNn hFn hLn
    go_wp2_with (fail)
    refine bodyPost_ret (results_cell_row rfl _ _ (w.heap.size + 1) _ _ (0, 0) _ rfl s1_h.out Try.underlying30 rfl (by kernel_rfl)) rfl ?_
    exact ⟨_, fpA A4, rfl, ⟨A4, c4, by rw [hLn_h.out], hNn_h.out, rfl⟩, hFn_h.out, hBn_h.out⟩
  case false =>
  have hX3 := hX2_h.out
  rw [if_neg (by simp), if_neg (by simp)] at hX3
  have hla := factors_sz true Ta
  have hlb := factors_sz true Tb
  have hnea := factors_ne true Ta
  have hneb := factors_ne true Tb
  have hwta := (factors_par hwTa_h.out).1
  have hwtb := (factors_par hwTb_h.out).1
  have hFa := fun W' (hb : Below w6.heap.size w6 W') => tmFactorsP_any Ta hwTa_h.out hsTa _ _ W' (hOA_h.out W' hb)
  have hFb := fun W' (hb : Below w6.heap.size w6 W') => tmFactorsP_any Tb hwTb_h.out hsTb _ _ W' (hOB_h.out W' hb)
  unfold RetFs at hFa hFb
  obtain ⟨Fa, hFae⟩ : ∃ F, F = factors true Ta := ⟨_, rfl⟩
  obtain ⟨Fb, hFbe⟩ : ∃ F, F = factors true Tb := ⟨_, rfl⟩
  rw [← hFae] at hFa hla hnea hwta hX3
  rw [← hFbe] at hFb hlb hneb hwtb hX3
  have hmsz := midL_sz hnea hneb
  obtain ⟨qa, hqa⟩ : ∃ q, Fa.length = q + 1 := ⟨Fa.length - 1, by cases Fa with | nil => exact absurd rfl hnea | cons _ _ => simp⟩
  obtain ⟨qb, hqb⟩ : ∃ q, Fb.length = q + 1 := ⟨Fb.length - 1, by cases Fb with | nil => exact absurd rfl hneb | cons _ _ => simp⟩
  have hqa4 : qa ≤ 401 := by omega
  have hqb4 : qb ≤ 401 := by omega
  have hgl := lastL_get hqa
  have hgh := headL_get hqb
  obtain ⟨M, hM⟩ : ∃ M, M = midL Fa Fb := ⟨_, rfl⟩
  rw [← hM] at hX3 hmsz
  have hMsz : szL M + M.length ≤ 1000 := by omega
  unfold midL at hM
  obtain ⟨tl, htl⟩ : ∃ t, t = lastL Fa := ⟨_, rfl⟩
  obtain ⟨th, hth⟩ : ∃ t, t = headL Fb := ⟨_, rfl⟩
  rw [← htl, ← hth] at hM
  rw [← htl] at hgl
  rw [← hth] at hgh
  have bl := wt_val (allW_mem hwta tl (List.mem_of_getElem? hgl))
  have bh := wt_val (allW_mem hwtb th (List.mem_of_getElem? hgh))
  obtain ⟨il, hil⟩ : ∃ i, i = isIdT tl := ⟨_, rfl⟩
  obtain ⟨ih, hih⟩ : ∃ i, i = isIdT th := ⟨_, rfl⟩
  obtain ⟨nl, hnl'⟩ : ∃ i, i = valT tl := ⟨_, rfl⟩
  obtain ⟨nh, hnh'⟩ : ∃ i, i = valT th := ⟨_, rfl⟩
  rw [← hil, ← hih, ← hnl', ← hnh'] at hM
  rw [← hnl'] at bl
  rw [← hnh'] at bh
  obtain ⟨co, hco⟩ : ∃ c, c = (il && ih) := ⟨_, rfl⟩
  rw [← hco] at hM
  clear hla hlb hnea hneb hwta hwtb hmsz
  have hX3_h := Lib.hid hX3
  have hFa_h := Lib.hid hFa
  have hFb_h := Lib.hid hFb
  have hFae_h := Lib.hid hFae
  have hFbe_h := Lib.hid hFbe
  have hqa_h := Lib.hid hqa
  have hqb_h := Lib.hid hqb
  have hgl_h := Lib.hid hgl
  have hgh_h := Lib.hid hgh
  have hM_h := Lib.hid hM
  have hMsz_h := Lib.hid hMsz
  have htl_h := Lib.hid htl
  have hth_h := Lib.hid hth
  have hil_h := Lib.hid hil
  have hih_h := Lib.hid hih
  have hnl'_h := Lib.hid hnl'
  have hnh'_h := Lib.hid hnh'
  have hco_h := Lib.hid hco
  clear hX3 hFa hFb hFae hFbe hqa hqb hgl hgh hM hMsz htl hth hil hih hnl' hnh' hco
  go_upto_region 16 with (fail)
  refine beginH (fun w' => w'.heap[w2.heap.size]? = some (.cells #[.slice A4 n4 c4] tTerm) ∧ w'.heap[w2.heap.size + 1]? = some (.cells #[.slice A5 n5 c5] tTerm)) (by kernel_rfl) ?_
  have hbd : Below w8.heap.size w8 w8.drew := below_drew (Below.refl _ _)
  generalize w8.drew = W9 at hbd ⊢
  replace kA_h := Lib.hid (box_below kA_h.out hbd)
  replace kB_h := Lib.hid (box_below kB_h.out hbd)
  replace kR_h := Lib.hid (box_below kR_h.out hbd)
  have hkW := box_lt kB_h.out
  have hkR := box_lt kR_h.out
  have hbd2 := below_trans hb78_h.out hbd hb78_h.out.size
  have hB9 := below_trans hB8_h.out hbd hB8_h.out.size
  have hz9 := hbd.size
  have hbd_h := Lib.hid hbd
  have hbd2_h := Lib.hid hbd2
  have hB9_h := Lib.hid hB9
  clear hbd hbd2 hB9
  refine takeH 0 (v := ?_) rfl (by kernel_rfl) (by kernel_rfl) (by kernel_rfl) (fun _ _ _ h => h) ⟨kA_h.out, kB_h.out⟩ (by rfl) (fun W' hW' => ?_) ?_; rotate_left; · (obtain ⟨y0, y1⟩ := bx1 hW'.1; obtain ⟨y2, y3⟩ := bx1 hW'.2; clear hW'; go_simp; first | done | with_reducible rfl)
  simp only [Act.put, List.setIfInBounds_toArray, List.set_cons_zero, List.set_cons_succ]
  refine takeH 1 (v := ?_) rfl (by kernel_rfl) (by kernel_rfl) (by kernel_rfl) (fun _ _ _ h => h) ⟨kA_h.out, kB_h.out⟩ (by rfl) (fun W' hW' => ?_) ?_; rotate_left; · (obtain ⟨y0, y1⟩ := bx1 hW'.1; obtain ⟨y2, y3⟩ := bx1 hW'.2; clear hW'; go_simp; first | done | with_reducible rfl)
  simp only [Act.put, List.setIfInBounds_toArray, List.set_cons_zero, List.set_cons_succ]
  refine takeH 3 (v := ?_) rfl (by kernel_rfl) (by kernel_rfl) (by kernel_rfl) (fun _ _ _ h => h) ⟨kA_h.out, kB_h.out⟩ (by rfl) (fun W' hW' => ?_) ?_; rotate_left; · (obtain ⟨y0, y1⟩ := bx1 hW'.1; obtain ⟨y2, y3⟩ := bx1 hW'.2; clear hW'; go_simp; first | done | with_reducible rfl)
  simp only [Act.put, List.setIfInBounds_toArray, List.set_cons_zero, List.set_cons_succ]
  refine takeH 4 (v := ?_) rfl (by kernel_rfl) (by kernel_rfl) (by kernel_rfl) (fun _ _ _ h => h) ⟨kA_h.out, kB_h.out⟩ (by rfl) (fun W' hW' => ?_) ?_; rotate_left; · (obtain ⟨y0, y1⟩ := bx1 hW'.1; obtain ⟨y2, y3⟩ := bx1 hW'.2; clear hW'; go_simp; first | done | with_reducible rfl)
  simp only [Act.put, List.setIfInBounds_toArray, List.set_cons_zero, List.set_cons_succ]
  refine' callH 2 (f := _) (args := _) rfl (by kernel_rfl) (by rfl) ?_ ?_; rotate_left 2; · (go_simp; first | done | with_reducible rfl | (constructor <;> with_reducible rfl))
  refine (hFa_h.out W9 hbd2_h.out).mono ?_
  rintro e w10 ⟨A10, c10, m10, vs10, rfl, hm10, hN10, hT10, hF10, hG10, hb10⟩
  obtain rfl : m10 = qa + 1 := by rw [hm10, hqa_h.out]
  replace kA_h := Lib.hid (box_below kA_h.out hb10)
  replace kB_h := Lib.hid (box_below kB_h.out hb10)
  replace kR_h := Lib.hid (box_below kR_h.out hb10)
  have hbe := below_trans hbd2_h.out hb10 hbd2_h.out.size
  have hB10 := below_trans hB9_h.out hb10 hB9_h.out.size
  have hz10 := hb10.size
  refine ⟨_, rfl, ⟨kA_h.out, kB_h.out⟩, ?_⟩
  have hm10_h := Lib.hid hm10
  have hN10_h := Lib.hid hN10
  have hT10_h := Lib.hid hT10
  have hF10_h := Lib.hid hF10
  have hG10_h := Lib.hid hG10
  have hb10_h := Lib.hid hb10
  have hB10_h := Lib.hid hB10
  have hbe_h := Lib.hid hbe
  clear hm10 hN10 hT10 hF10 hG10 hb10 hB10 hbe
  simp only [Act.put, List.setIfInBounds_toArray, List.set_cons_zero, List.set_cons_succ]
  refine' callH 5 (f := _) (args := _) rfl (by kernel_rfl) (by rfl) ?_ ?_; rotate_left 2; · (go_simp; first | done | with_reducible rfl | (constructor <;> with_reducible rfl))
  refine (hFb_h.out w10 hbe_h.out).mono ?_
  rintro e w11 ⟨A11, c11, m11, vs11, rfl, hm11, hN11, hT11, hF11, hG11, hb11⟩
  obtain rfl : m11 = qb + 1 := by rw [hm11, hqb_h.out]
  replace kA_h := Lib.hid (box_below kA_h.out hb11)
  replace kB_h := Lib.hid (box_below kB_h.out hb11)
  replace kR_h := Lib.hid (box_below kR_h.out hb11)
  have hB11 := below_trans hB10_h.out hb11 hB10_h.out.size
  have hN12 := hN10_h.out.below hb11
  have hT12 := hT10_h.out.below hb11
  have hz11 := hb11.size
  have hA12 : ∀ k, k ∈ fpA A10 → ¬ k ∈ fpA A11 := fun k hk hk' => by have := hN10_h.out.lt k hk; have := hF11 k hk'; omega
  obtain ⟨Al, cl, hvl, hNl⟩ := hT12.at_ _ _ hgl_h.out
  obtain ⟨Ah, ch, hvh, hNh⟩ := hT11.at_ _ _ hgh_h.out
  obtain ⟨nll, hnll⟩ : ∃ n, n = (flat tl).length := ⟨_, rfl⟩
  obtain ⟨nhh, hnhh⟩ : ∃ n, n = (flat th).length := ⟨_, rfl⟩
  rw [← hnll] at hvl
  rw [← hnhh] at hvh
  obtain ⟨ad10, rfl, -, y10, -⟩ := Sl.cell hN12 hvl
  obtain ⟨ad11, rfl, -, y11, -⟩ := Sl.cell hN11 hvh
  rw [add0] at y11
  have hQl := tmIsId_any (v := .agg #[.slice Al nll cl]) (t := tl) (w := w11) ⟨Al, cl, by rw [hnll], hNl.rd⟩
  have hQh := fun W' (hb : Below w11.heap.size w11 W') => tmIsId_any (v := .agg #[.slice Ah nhh ch]) (t := th) (w := W') ⟨Ah, ch, by rw [hnhh], hNh.rd.below hb⟩
  rw [← hil_h.out] at hQl
  rw [← hih_h.out] at hQh
  refine ⟨_, rfl, ⟨kA_h.out, kB_h.out⟩, ?_⟩
  have hm11_h := Lib.hid hm11
  have hN11_h := Lib.hid hN11
  have hT11_h := Lib.hid hT11
  have hF11_h := Lib.hid hF11
  have hG11_h := Lib.hid hG11
  have hb11_h := Lib.hid hb11
  have hB11_h := Lib.hid hB11
  have hN12_h := Lib.hid hN12
  have hT12_h := Lib.hid hT12
  have hA12_h := Lib.hid hA12
  have hvl_h := Lib.hid hvl
  have hvh_h := Lib.hid hvh
  have hNl_h := Lib.hid hNl
  have hNh_h := Lib.hid hNh
  have hnll_h := Lib.hid hnll
  have hnhh_h := Lib.hid hnhh
  have hQl_h := Lib.hid hQl
  have hQh_h := Lib.hid hQh
  have y10_h := Lib.hid y10
  have y11_h := Lib.hid y11
  clear hm11 hN11 hT11 hF11 hG11 hb11 hB11 hN12 hT12 hA12 hvl hvh hNl hNh hnll hnhh hQl hQh y10 y11
  simp only [Act.put, List.setIfInBounds_toArray, List.set_cons_zero, List.set_cons_succ]
  refine takeH 6 (v := ?_) rfl (by kernel_rfl) (by kernel_rfl) (by kernel_rfl) (fun _ _ _ h => h) ⟨kA_h.out, kB_h.out⟩ (by rfl) (fun W' hW' => ?_) ?_; rotate_left; · (skip; clear hW'; go_simp; first | done | with_reducible rfl)
  simp only [Act.put, List.setIfInBounds_toArray, List.set_cons_zero, List.set_cons_succ]
  refine takeH 7 (v := ?_) rfl (by kernel_rfl) (by kernel_rfl) (by kernel_rfl) (fun _ _ _ h => h) ⟨kA_h.out, kB_h.out⟩ (by rfl) (fun W' hW' => ?_) ?_; rotate_left; · (skip; clear hW'; go_simp; first | done | with_reducible rfl)
  simp only [Act.put, List.setIfInBounds_toArray, List.set_cons_zero, List.set_cons_succ]
  refine doneH (by kernel_rfl) ?_
  have hqaI : ((qa + 1 : Nat) : Int) - 1 = (qa : Int) := by omega
  go_upto_region 18 with (fail)
  go_cut [83] (fun s wx => s = .bool co ∧ Below w11.heap.size w11 wx)
  case first =>
    have y10 := y10_h.out
    go_wp2_with (fail)
    refine (hQl_h.out).mono ?_
    rintro e w12 ⟨rfl, hb12⟩
    clear y10
    have y11 := (hb12.cell (World.block_lt_of_cell? w11 _ y11_h.out)).trans y11_h.out
    cases il
    · obtain rfl : co = false := by rw [hco_h.out]; rfl
      have hb12_h := Lib.hid hb12
      clear hb12
      go_wp2_with (fail)
      go_meet
      exact ⟨rfl, hb12_h.out⟩
    · obtain rfl : co = ih := by rw [hco_h.out]; rfl
      have hQ2 := hQh_h.out w12 hb12
      have hb12_h := Lib.hid hb12
      have hQ2_h := Lib.hid hQ2
      clear hb12 hQ2
      go_wp2_with (fail)
      refine (hQ2_h.out).mono ?_
      rintro e w13 ⟨rfl, hb13⟩
      have hb := below_trans hb12_h.out hb13 hb12_h.out.size
      have hb13_h := Lib.hid hb13
      have hb_h := Lib.hid hb
      clear hb13 hb
      clear y11
      go_wp2_with (fail)
      go_meet
      exact ⟨rfl, hb_h.out⟩
  case rest =>
  obtain ⟨rfl, hb12⟩ := hcut
  obtain ⟨w12, rfl⟩ : ∃ x, x = wc := ⟨_, rfl⟩
  replace kA_h := Lib.hid (box_below kA_h.out hb12)
  replace kB_h := Lib.hid (box_below kB_h.out hb12)
  replace kR_h := Lib.hid (box_below kR_h.out hb12)
  have hB12 := below_trans hB11_h.out hb12 hB11_h.out.size
  have hz12 := hb12.size
  have hN13 := hN12_h.out.below hb12
  have hN14 := hN11_h.out.below hb12
  have hT13 := hT12_h.out.below hb12
  have hT14 := hT11_h.out.below hb12
  have hzw9 := hB9_h.out.size
  have hGa : ∀ u ∈ vs10, ∀ b ∈ fpV u, W.heap.size ≤ b := fun u hu b hb => by
    rcases hG10_h.out u hu b hb with h | h
    · exact gA_h.out b h
    · omega
  have hGb : ∀ u ∈ vs11, ∀ b ∈ fpV u, W.heap.size ≤ b := fun u hu b hb => by
    rcases hG11_h.out u hu b hb with h | h
    · exact gB_h.out b h
    · omega
  have hb12_h := Lib.hid hb12
  have hB12_h := Lib.hid hB12
  have hN13_h := Lib.hid hN13
  have hN14_h := Lib.hid hN14
  have hT13_h := Lib.hid hT13
  have hT14_h := Lib.hid hT14
  have hGa_h := Lib.hid hGa
  have hGb_h := Lib.hid hGb
  clear hb12 hB12 hN13 hN14 hT13 hT14 hGa hGb
  go_upto_if 83 with (fail)
  go_cut [7] (fun s wx => ∃ (F S : List Tr) (vF vS : List Value) (B2 : Option Addr) (k2 d2 : Nat), s = .slice B2 k2 d2 ∧ k2 = S.length ∧ k2 ≤ qb + 1 ∧ F.length = qa + 1 ∧ Sl wx tTerm 1 (some ad10) (qa + 1) c10 vF ∧ OwTs wx vF F ∧ RdC wx B2 vS ∧ OwTs wx vS S ∧ F ++ S = M ∧ (∀ u ∈ vF, ∀ b ∈ fpV u, W.heap.size ≤ b) ∧ (∀ u ∈ vS, ∀ b ∈ fpV u, W.heap.size ≤ b) ∧ Below w.heap.size w wx ∧ wx.heap[w.heap.size + 1]? = some (.cells #[.slice none 0 0] tTerm))
  case first =>
    cases co
    · have hMe := hM_h.out
      rw [if_neg (by simp)] at hMe
      have hMe_h := Lib.hid hMe
      clear hMe
      go_wp2_with (fail)
      go_meet
      exact ⟨Fa, Fb, vs10, vs11, _, _, _, rfl, hqb_h.out.symm, Nat.le_refl _, hqa_h.out, hN13_h.out, hT13_h.out, Sl.rdc hN14_h.out, hT14_h.out, hMe_h.out.symm, hGa_h.out, hGb_h.out, hB12_h.out, kR_h.out⟩
    · have hMe := hM_h.out
      rw [if_pos rfl] at hMe
      have hand : il = true ∧ ih = true := by have := hco_h.out; simp at this; exact ⟨this.1.symm ▸ rfl, this.2.symm ▸ rfl⟩
      obtain ⟨adl, rfl, e1, x1⟩ := id_cell (hNl_h.out.below hb12_h.out) (by rw [← hil_h.out]; exact hand.1)
      obtain ⟨adh, rfl, e2, x2⟩ := id_cell (hNh_h.out.below hb12_h.out) (by rw [← hih_h.out]; exact hand.2)
      rw [← hnll_h.out] at e1
      rw [← hnhh_h.out] at e2
      subst e1
      subst e2
      rw [← hnl'_h.out] at x1
      rw [← hnh'_h.out] at x2
      have x3 := (hb12_h.out.cell (World.block_lt_of_cell? w11 _ y10_h.out)).trans y10_h.out
      have x4 := (hb12_h.out.cell (World.block_lt_of_cell? w11 _ y11_h.out)).trans y11_h.out
      have hC := tmId_any (nl + nh)
      have e3 : (flat (idT (nl + nh))).length = 1 := rfl
      obtain ⟨Li, hLi⟩ : ∃ L, L = flat (idT (nl + nh)) := ⟨_, rfl⟩
      rw [← hLi] at hC e3
      have hcc := hN14_h.out.2.1
      clear hand
      have hMe_h := Lib.hid hMe
      have x1_h := Lib.hid x1
      have x2_h := Lib.hid x2
      have x3_h := Lib.hid x3
      have x4_h := Lib.hid x4
      have hC_h := Lib.hid hC
      have e3_h := Lib.hid e3
      have hLi_h := Lib.hid hLi
      clear hMe x1 x2 x3 x4 hC e3 hLi
      go_wp2_with (fail)
      refine beginZw 20 (fun w' => w'.cell? (ad10.add qa) = some (.slice (some adl) 1 cl) ∧ w'.cell? ⟨adl.block, adl.off + 1, none⟩ = some (.int .i64 nl) ∧ w'.cell? ad11 = some (.slice (some adh) 1 ch) ∧ w'.cell? ⟨adh.block, adh.off + 1, none⟩ = some (.int .i64 nh)) (by kernel_rfl) (fun W13 hW13 => ?_)
      have hbw : Below w12.heap.size w12 W13 := by rw [hW13]; exact below_drew (Below.refl _ _)
      clear hW13
      have hF := And.intro ((hbw.cell (World.block_lt_of_cell? w12 _ x3_h.out)).trans x3_h.out) (And.intro ((hbw.cell (World.block_lt_of_cell? w12 _ x1_h.out)).trans x1_h.out) (And.intro ((hbw.cell (World.block_lt_of_cell? w12 _ x4_h.out)).trans x4_h.out) ((hbw.cell (World.block_lt_of_cell? w12 _ x2_h.out)).trans x2_h.out)))
      have hbw_h := Lib.hid hbw
      have hF_h := Lib.hid hF
      clear hbw hF
      clear hqaI
      refine takeC 0 (v := ?_) rfl (by kernel_rfl) (by kernel_rfl) (by kernel_rfl) (by kernel_rfl) (fun _ _ _ h => h) hF_h.out (by rfl) (fun W' hW' => ?_) ?_; rotate_left; · (have z1 := hW'.1; have z2 := hW'.2.1; have z3 := hW'.2.2.1; have z4 := hW'.2.2.2; have ws : IntKind.i64.wrap (nl + nh) = nl + nh := IntWalk.i64_in _ (by omega); have hqI : (qa : Int) < (qa : Int) + 1 := (by omega); have wq : IntKind.i64.wrap (qa : Int) = (qa : Int) := IntWalk.i64_in _ (by omega); clear hW'; go_simp; first | done | with_reducible rfl)
      simp only [Act.put, List.setIfInBounds_toArray, List.set_cons_zero, List.set_cons_succ]
      refine takeC 1 (v := ?_) rfl (by kernel_rfl) (by kernel_rfl) (by kernel_rfl) (by kernel_rfl) (fun _ _ _ h => h) hF_h.out (by rfl) (fun W' hW' => ?_) ?_; rotate_left; · (have z1 := hW'.1; have z2 := hW'.2.1; have z3 := hW'.2.2.1; have z4 := hW'.2.2.2; have ws : IntKind.i64.wrap (nl + nh) = nl + nh := IntWalk.i64_in _ (by omega); have hqI : (qa : Int) < (qa : Int) + 1 := (by omega); have wq : IntKind.i64.wrap (qa : Int) = (qa : Int) := IntWalk.i64_in _ (by omega); clear hW'; go_simp; first | done | with_reducible rfl)
      simp only [Act.put, List.setIfInBounds_toArray, List.set_cons_zero, List.set_cons_succ]
      refine takeC 2 (v := ?_) rfl (by kernel_rfl) (by kernel_rfl) (by kernel_rfl) (by kernel_rfl) (fun _ _ _ h => h) hF_h.out (by rfl) (fun W' hW' => ?_) ?_; rotate_left; · (have z1 := hW'.1; have z2 := hW'.2.1; have z3 := hW'.2.2.1; have z4 := hW'.2.2.2; have ws : IntKind.i64.wrap (nl + nh) = nl + nh := IntWalk.i64_in _ (by omega); have hqI : (qa : Int) < (qa : Int) + 1 := (by omega); have wq : IntKind.i64.wrap (qa : Int) = (qa : Int) := IntWalk.i64_in _ (by omega); clear hW'; go_simp; first | done | with_reducible rfl)
      simp only [Act.put, List.setIfInBounds_toArray, List.set_cons_zero, List.set_cons_succ]
      refine takeC 3 (v := ?_) rfl (by kernel_rfl) (by kernel_rfl) (by kernel_rfl) (by kernel_rfl) (fun _ _ _ h => h) hF_h.out (by rfl) (fun W' hW' => ?_) ?_; rotate_left; · (have z1 := hW'.1; have z2 := hW'.2.1; have z3 := hW'.2.2.1; have z4 := hW'.2.2.2; have ws : IntKind.i64.wrap (nl + nh) = nl + nh := IntWalk.i64_in _ (by omega); have hqI : (qa : Int) < (qa : Int) + 1 := (by omega); have wq : IntKind.i64.wrap (qa : Int) = (qa : Int) := IntWalk.i64_in _ (by omega); clear hW'; go_simp; first | done | with_reducible rfl)
      simp only [Act.put, List.setIfInBounds_toArray, List.set_cons_zero, List.set_cons_succ]
      refine takeC 4 (v := ?_) rfl (by kernel_rfl) (by kernel_rfl) (by kernel_rfl) (by kernel_rfl) (fun _ _ _ h => h) hF_h.out (by rfl) (fun W' hW' => ?_) ?_; rotate_left; · (have z1 := hW'.1; have z2 := hW'.2.1; have z3 := hW'.2.2.1; have z4 := hW'.2.2.2; have ws : IntKind.i64.wrap (nl + nh) = nl + nh := IntWalk.i64_in _ (by omega); have hqI : (qa : Int) < (qa : Int) + 1 := (by omega); have wq : IntKind.i64.wrap (qa : Int) = (qa : Int) := IntWalk.i64_in _ (by omega); clear hW'; go_simp; first | done | with_reducible rfl)
      simp only [Act.put, List.setIfInBounds_toArray, List.set_cons_zero, List.set_cons_succ]
      refine takeC 5 (v := ?_) rfl (by kernel_rfl) (by kernel_rfl) (by kernel_rfl) (by kernel_rfl) (fun _ _ _ h => h) hF_h.out (by rfl) (fun W' hW' => ?_) ?_; rotate_left; · (have z1 := hW'.1; have z2 := hW'.2.1; have z3 := hW'.2.2.1; have z4 := hW'.2.2.2; have ws : IntKind.i64.wrap (nl + nh) = nl + nh := IntWalk.i64_in _ (by omega); have hqI : (qa : Int) < (qa : Int) + 1 := (by omega); have wq : IntKind.i64.wrap (qa : Int) = (qa : Int) := IntWalk.i64_in _ (by omega); clear hW'; go_simp; first | done | with_reducible rfl)
      simp only [Act.put, List.setIfInBounds_toArray, List.set_cons_zero, List.set_cons_succ]
      refine takeC 6 (v := ?_) rfl (by kernel_rfl) (by kernel_rfl) (by kernel_rfl) (by kernel_rfl) (fun _ _ _ h => h) hF_h.out (by rfl) (fun W' hW' => ?_) ?_; rotate_left; · (have z1 := hW'.1; have z2 := hW'.2.1; have z3 := hW'.2.2.1; have z4 := hW'.2.2.2; have ws : IntKind.i64.wrap (nl + nh) = nl + nh := IntWalk.i64_in _ (by omega); have hqI : (qa : Int) < (qa : Int) + 1 := (by omega); have wq : IntKind.i64.wrap (qa : Int) = (qa : Int) := IntWalk.i64_in _ (by omega); clear hW'; go_simp; first | done | with_reducible rfl)
      simp only [Act.put, List.setIfInBounds_toArray, List.set_cons_zero, List.set_cons_succ]
      refine takeC 7 (v := ?_) rfl (by kernel_rfl) (by kernel_rfl) (by kernel_rfl) (by kernel_rfl) (fun _ _ _ h => h) hF_h.out (by rfl) (fun W' hW' => ?_) ?_; rotate_left; · (have z1 := hW'.1; have z2 := hW'.2.1; have z3 := hW'.2.2.1; have z4 := hW'.2.2.2; have ws : IntKind.i64.wrap (nl + nh) = nl + nh := IntWalk.i64_in _ (by omega); have hqI : (qa : Int) < (qa : Int) + 1 := (by omega); have wq : IntKind.i64.wrap (qa : Int) = (qa : Int) := IntWalk.i64_in _ (by omega); clear hW'; go_simp; first | done | with_reducible rfl)
      simp only [Act.put, List.setIfInBounds_toArray, List.set_cons_zero, List.set_cons_succ]
      refine takeC 8 (v := ?_) rfl (by kernel_rfl) (by kernel_rfl) (by kernel_rfl) (by kernel_rfl) (fun _ _ _ h => h) hF_h.out (by rfl) (fun W' hW' => ?_) ?_; rotate_left; · (have z1 := hW'.1; have z2 := hW'.2.1; have z3 := hW'.2.2.1; have z4 := hW'.2.2.2; have ws : IntKind.i64.wrap (nl + nh) = nl + nh := IntWalk.i64_in _ (by omega); have hqI : (qa : Int) < (qa : Int) + 1 := (by omega); have wq : IntKind.i64.wrap (qa : Int) = (qa : Int) := IntWalk.i64_in _ (by omega); clear hW'; go_simp; first | done | with_reducible rfl)
      simp only [Act.put, List.setIfInBounds_toArray, List.set_cons_zero, List.set_cons_succ]
      refine takeC 9 (v := ?_) rfl (by kernel_rfl) (by kernel_rfl) (by kernel_rfl) (by kernel_rfl) (fun _ _ _ h => h) hF_h.out (by rfl) (fun W' hW' => ?_) ?_; rotate_left; · (have z1 := hW'.1; have z2 := hW'.2.1; have z3 := hW'.2.2.1; have z4 := hW'.2.2.2; have ws : IntKind.i64.wrap (nl + nh) = nl + nh := IntWalk.i64_in _ (by omega); have hqI : (qa : Int) < (qa : Int) + 1 := (by omega); have wq : IntKind.i64.wrap (qa : Int) = (qa : Int) := IntWalk.i64_in _ (by omega); clear hW'; go_simp; first | done | with_reducible rfl)
      simp only [Act.put, List.setIfInBounds_toArray, List.set_cons_zero, List.set_cons_succ]
      refine takeC 10 (v := ?_) rfl (by kernel_rfl) (by kernel_rfl) (by kernel_rfl) (by kernel_rfl) (fun _ _ _ h => h) hF_h.out (by rfl) (fun W' hW' => ?_) ?_; rotate_left; · (have z1 := hW'.1; have z2 := hW'.2.1; have z3 := hW'.2.2.1; have z4 := hW'.2.2.2; have ws : IntKind.i64.wrap (nl + nh) = nl + nh := IntWalk.i64_in _ (by omega); have hqI : (qa : Int) < (qa : Int) + 1 := (by omega); have wq : IntKind.i64.wrap (qa : Int) = (qa : Int) := IntWalk.i64_in _ (by omega); clear hW'; go_simp; first | done | with_reducible rfl)
      simp only [Act.put, List.setIfInBounds_toArray, List.set_cons_zero, List.set_cons_succ]
      refine takeC 11 (v := ?_) rfl (by kernel_rfl) (by kernel_rfl) (by kernel_rfl) (by kernel_rfl) (fun _ _ _ h => h) hF_h.out (by rfl) (fun W' hW' => ?_) ?_; rotate_left; · (have z1 := hW'.1; have z2 := hW'.2.1; have z3 := hW'.2.2.1; have z4 := hW'.2.2.2; have ws : IntKind.i64.wrap (nl + nh) = nl + nh := IntWalk.i64_in _ (by omega); have hqI : (qa : Int) < (qa : Int) + 1 := (by omega); have wq : IntKind.i64.wrap (qa : Int) = (qa : Int) := IntWalk.i64_in _ (by omega); clear hW'; go_simp; first | done | with_reducible rfl)
      simp only [Act.put, List.setIfInBounds_toArray, List.set_cons_zero, List.set_cons_succ]
      refine takeC 12 (v := ?_) rfl (by kernel_rfl) (by kernel_rfl) (by kernel_rfl) (by kernel_rfl) (fun _ _ _ h => h) hF_h.out (by rfl) (fun W' hW' => ?_) ?_; rotate_left; · (have z1 := hW'.1; have z2 := hW'.2.1; have z3 := hW'.2.2.1; have z4 := hW'.2.2.2; have ws : IntKind.i64.wrap (nl + nh) = nl + nh := IntWalk.i64_in _ (by omega); have hqI : (qa : Int) < (qa : Int) + 1 := (by omega); have wq : IntKind.i64.wrap (qa : Int) = (qa : Int) := IntWalk.i64_in _ (by omega); clear hW'; go_simp; first | done | with_reducible rfl)
      simp only [Act.put, List.setIfInBounds_toArray, List.set_cons_zero, List.set_cons_succ]
      refine takeC 13 (v := ?_) rfl (by kernel_rfl) (by kernel_rfl) (by kernel_rfl) (by kernel_rfl) (fun _ _ _ h => h) hF_h.out (by rfl) (fun W' hW' => ?_) ?_; rotate_left; · (have z1 := hW'.1; have z2 := hW'.2.1; have z3 := hW'.2.2.1; have z4 := hW'.2.2.2; have ws : IntKind.i64.wrap (nl + nh) = nl + nh := IntWalk.i64_in _ (by omega); have hqI : (qa : Int) < (qa : Int) + 1 := (by omega); have wq : IntKind.i64.wrap (qa : Int) = (qa : Int) := IntWalk.i64_in _ (by omega); clear hW'; go_simp; first | done | with_reducible rfl)
      simp only [Act.put, List.setIfInBounds_toArray, List.set_cons_zero, List.set_cons_succ]
      refine takeC 14 (v := ?_) rfl (by kernel_rfl) (by kernel_rfl) (by kernel_rfl) (by kernel_rfl) (fun _ _ _ h => h) hF_h.out (by rfl) (fun W' hW' => ?_) ?_; rotate_left; · (have z1 := hW'.1; have z2 := hW'.2.1; have z3 := hW'.2.2.1; have z4 := hW'.2.2.2; have ws : IntKind.i64.wrap (nl + nh) = nl + nh := IntWalk.i64_in _ (by omega); have hqI : (qa : Int) < (qa : Int) + 1 := (by omega); have wq : IntKind.i64.wrap (qa : Int) = (qa : Int) := IntWalk.i64_in _ (by omega); clear hW'; go_simp; first | done | with_reducible rfl)
      simp only [Act.put, List.setIfInBounds_toArray, List.set_cons_zero, List.set_cons_succ]
      refine takeC 15 (v := ?_) rfl (by kernel_rfl) (by kernel_rfl) (by kernel_rfl) (by kernel_rfl) (fun _ _ _ h => h) hF_h.out (by rfl) (fun W' hW' => ?_) ?_; rotate_left; · (have z1 := hW'.1; have z2 := hW'.2.1; have z3 := hW'.2.2.1; have z4 := hW'.2.2.2; have ws : IntKind.i64.wrap (nl + nh) = nl + nh := IntWalk.i64_in _ (by omega); have hqI : (qa : Int) < (qa : Int) + 1 := (by omega); have wq : IntKind.i64.wrap (qa : Int) = (qa : Int) := IntWalk.i64_in _ (by omega); clear hW'; go_simp; first | done | with_reducible rfl)
      simp only [Act.put, List.setIfInBounds_toArray, List.set_cons_zero, List.set_cons_succ]
      refine takeC 16 (v := ?_) rfl (by kernel_rfl) (by kernel_rfl) (by kernel_rfl) (by kernel_rfl) (fun _ _ _ h => h) hF_h.out (by rfl) (fun W' hW' => ?_) ?_; rotate_left; · (have z1 := hW'.1; have z2 := hW'.2.1; have z3 := hW'.2.2.1; have z4 := hW'.2.2.2; have ws : IntKind.i64.wrap (nl + nh) = nl + nh := IntWalk.i64_in _ (by omega); have hqI : (qa : Int) < (qa : Int) + 1 := (by omega); have wq : IntKind.i64.wrap (qa : Int) = (qa : Int) := IntWalk.i64_in _ (by omega); clear hW'; go_simp; first | done | with_reducible rfl)
      simp only [Act.put, List.setIfInBounds_toArray, List.set_cons_zero, List.set_cons_succ]
      refine takeC 17 (v := ?_) rfl (by kernel_rfl) (by kernel_rfl) (by kernel_rfl) (by kernel_rfl) (fun _ _ _ h => h) hF_h.out (by rfl) (fun W' hW' => ?_) ?_; rotate_left; · (have z1 := hW'.1; have z2 := hW'.2.1; have z3 := hW'.2.2.1; have z4 := hW'.2.2.2; have ws : IntKind.i64.wrap (nl + nh) = nl + nh := IntWalk.i64_in _ (by omega); have hqI : (qa : Int) < (qa : Int) + 1 := (by omega); have wq : IntKind.i64.wrap (qa : Int) = (qa : Int) := IntWalk.i64_in _ (by omega); clear hW'; go_simp; first | done | with_reducible rfl)
      simp only [Act.put, List.setIfInBounds_toArray, List.set_cons_zero, List.set_cons_succ]
      refine callZ 18 (f := ?f3) (args := ?args3) rfl (by kernel_rfl) (by rfl) ?hrun3 ?hcall3
      case hrun3 => (go_simp; first | done | with_reducible rfl | (constructor <;> with_reducible rfl))
      refine (hC_h.out _).mono ?_
      rintro e w14 ⟨v14, fp14, rfl, ⟨A14, c14, rfl, hN15, rfl⟩, hF15, hb14⟩
      rw [e3_h.out]
      have hF14 := And.intro ((hb14.cell (World.block_lt_of_cell? W13 _ hF_h.out.1)).trans hF_h.out.1) (And.intro ((hb14.cell (World.block_lt_of_cell? W13 _ hF_h.out.2.1)).trans hF_h.out.2.1) (And.intro ((hb14.cell (World.block_lt_of_cell? W13 _ hF_h.out.2.2.1)).trans hF_h.out.2.2.1) ((hb14.cell (World.block_lt_of_cell? W13 _ hF_h.out.2.2.2)).trans hF_h.out.2.2.2)))
      have hbx := below_trans hbw_h.out hb14 hbw_h.out.size
      have hB14 := below_trans hB12_h.out hbx hB12_h.out.size
      replace kR_h := Lib.hid (box_below kR_h.out hbw_h.out)
      replace kR_h := Lib.hid (box_below kR_h.out hb14)
      have hzx := hbx.size
      have hzy := hbw_h.out.size
      have hS1 := hN13_h.out.below hbx
      have hS2 := hN14_h.out.below hbx
      have hO1 := hT13_h.out.below hbx
      have hO2 := hT14_h.out.below hbx
      obtain ⟨adx, ex, -, -, ff⟩ := Sl.cell hS1 hvl_h.out
      obtain rfl := Option.some.inj ex
      clear ex
      have hset := Sl.set hS1 rfl qa (.slice A14 1 c14) (by rw [hO1.len, hqa_h.out]; exact Nat.lt_succ_self _)
      have hks : Keeps (fun x => x = ad10.block) w14 (w14.setCell (ad10.add qa) (.slice A14 1 c14)) := Keeps.setCell (S := fun x => x = ad10.block) (Keeps.refl _ w14) (p := ad10.add qa) (by rw [block_of_add]) _
      have hap1 : ∀ b, (∃ u ∈ vs10, b ∈ fpV u) → ¬ b = ad10.block := fun b hb e => hO1.apart hS1 b hb (by simp [e])
      have hap2 : ∀ b, (∃ u ∈ vs11, b ∈ fpV u) → ¬ b = ad10.block := fun b hb e => hO2.apart hS1 b hb (by simp [e])
      have hN16 : NS (w14.setCell (ad10.add qa) (.slice A14 1 c14)) A14 c14 (flat (idT (nl + nh))) := by rw [← hLi_h.out]; exact hN15.keeps hks (fun b hb e => by have := hF15 b hb; have := hS1.lt ad10.block (by simp); have h9 := hN13_h.out.lt ad10.block (by simp); omega)
      have hO3 := (hO1.keeps hks hap1).set_last (q := qa) hqa_h.out (by rw [← hLi_h.out, e3_h.out]) hN16
      have hO4 := hO2.keeps hks hap2
      have hrd := (Sl.rdc hS2).keeps hks (fun x hx e => hA12_h.out ad10.block (by simp) (by rw [← e]; exact hx))
      have hB15 := below_keeps hB14 hks hB14.size (fun x hx => by have := hF10_h.out ad10.block (by simp); omega)
      have hkR2 := box_keeps kR_h.out hks (fun e => by have := hF10_h.out ad10.block (by simp); omega)
      have hlen : (Fa.dropLast ++ [idT (nl + nh)]).length = qa + 1 := by rw [List.length_append, List.length_dropLast, hqa_h.out]; rfl
      have hle2 : Fb.tail.length = qb := by rw [List.length_tail, hqb_h.out]; rfl
      have hap : (Fa.dropLast ++ [idT (nl + nh)]) ++ Fb.tail = M := by rw [hMe_h.out]; simp
      have hG3 : ∀ u ∈ vs10.set qa (.slice A14 1 c14), ∀ b ∈ fpV u, W.heap.size ≤ b := fun u hu b hb => by
        rcases List.mem_or_eq_of_mem_set hu with h | h
        · exact hGa_h.out u h b hb
        · rw [h] at hb
          have := hF15 b hb
          omega
      have hFbe2 : Fb = headL Fb :: Fb.tail := head_split (fun e => by have := hqb_h.out; rw [e] at this; cases this)
      have htlr := RdC.tailV hrd (OwTs.cons_of hO4 hFbe2)
      have hO5 := OwTs.tail_ (by rw [hFbe2] at hO4; exact hO4)
      have hG4 : ∀ u ∈ vs11.tail, ∀ b ∈ fpV u, W.heap.size ≤ b := fun u hu b hb => hGb_h.out u (List.mem_of_mem_tail hu) b hb
      refine ⟨_, rfl, fun _ => hF14, ?_⟩
      clear hFbe2
      have hN15_h := Lib.hid hN15
      have hF15_h := Lib.hid hF15
      have hb14_h := Lib.hid hb14
      have hF14_h := Lib.hid hF14
      have hbx_h := Lib.hid hbx
      have hB14_h := Lib.hid hB14
      have hS1_h := Lib.hid hS1
      have hS2_h := Lib.hid hS2
      have hO1_h := Lib.hid hO1
      have hO2_h := Lib.hid hO2
      have hset_h := Lib.hid hset
      have hks_h := Lib.hid hks
      have hap1_h := Lib.hid hap1
      have hap2_h := Lib.hid hap2
      have hN16_h := Lib.hid hN16
      have hO3_h := Lib.hid hO3
      have hO4_h := Lib.hid hO4
      have hrd_h := Lib.hid hrd
      have hB15_h := Lib.hid hB15
      have hkR2_h := Lib.hid hkR2
      have hlen_h := Lib.hid hlen
      have hle2_h := Lib.hid hle2
      have hap_h := Lib.hid hap
      have hG3_h := Lib.hid hG3
      have htlr_h := Lib.hid htlr
      have hO5_h := Lib.hid hO5
      have hG4_h := Lib.hid hG4
      clear hN15 hF15 hb14 hF14 hbx hB14 hS1 hS2 hO1 hO2 hset hks hap1 hap2 hN16 hO3 hO4 hrd hB15 hkR2 hlen hle2 hap hG3 htlr hO5 hG4
      simp only [Act.put, List.setIfInBounds_toArray, List.set_cons_zero, List.set_cons_succ]
      refine takeC 19 (v := ?_) rfl (by kernel_rfl) (by kernel_rfl) (by kernel_rfl) (by kernel_rfl) (fun _ _ _ h => h) hF14_h.out (by rfl) (fun W' hW' => ?_) ?_; rotate_left; · (have hqI : (qa : Int) < (qa : Int) + 1 := (by omega); have wq : IntKind.i64.wrap (qa : Int) = (qa : Int) := IntWalk.i64_in _ (by omega); clear hW'; go_simp; first | done | with_reducible rfl)
      simp only [Act.put, List.setIfInBounds_toArray, List.set_cons_zero, List.set_cons_succ]
      have z1 := hF14_h.out.1
      refine oneZ 20 rfl (by kernel_rfl) (by rfl) (fun K hK => ?_)
      go_simp
      refine hK _ _ (fun h => by cases h) ?_
      clear hK K
      refine doneZ (by kernel_rfl) ?_
      clear ff z1
      by_cases hc2 : c11 = 1
      · obtain rfl : qb = 0 := by omega
        subst hc2
        go_wp2_with (fail)
        go_meet
        refine ⟨_, Fb.tail, _, vs11.tail, _, _, _, rfl, hle2_h.out.symm, by omega, hlen_h.out, hset_h.out, hO3_h.out, ?_, hO5_h.out, hap_h.out, hG3_h.out, hG4_h.out, hB15_h.out, hkR2_h.out⟩
        have e0 : vs11.tail = [] := by
          have h1 := hO5_h.out.len
          rw [hle2_h.out] at h1
          exact List.eq_nil_of_length_eq_zero h1
        rw [e0]; exact RdC.nil _ _
      · go_wp2_with (fail)
        go_meet
        exact ⟨_, Fb.tail, _, vs11.tail, _, _, _, rfl, hle2_h.out.symm, by omega, hlen_h.out, hset_h.out, hO3_h.out, htlr_h.out, hO5_h.out, hap_h.out, hG3_h.out, hG4_h.out, hB15_h.out, hkR2_h.out⟩
  case rest =>
  obtain ⟨F, S, vF, vS, B2, k2, d2, rfl, hk2, hk2b, hFl, hN17, hO6, hr9, hO7, hap, hG5, hG6, hB17, hkR3⟩ := hcut
  obtain ⟨w17, rfl⟩ : ∃ x, x = wc := ⟨_, rfl⟩
  have hnl : vS.length = k2 * 1 := by rw [hO7.len, hk2]; omega
  have hFb2 : ∀ k, k ∈ fpA (some ad10) → W9.heap.size ≤ k := hF10_h.out
  clear hqaI
  have hk2_h := Lib.hid hk2
  have hFl_h := Lib.hid hFl
  have hN17_h := Lib.hid hN17
  have hO6_h := Lib.hid hO6
  have hr9_h := Lib.hid hr9
  have hO7_h := Lib.hid hO7
  have hap_h := Lib.hid hap
  have hG5_h := Lib.hid hG5
  have hG6_h := Lib.hid hG6
  have hB17_h := Lib.hid hB17
  have hkR3_h := Lib.hid hkR3
  have hnl_h := Lib.hid hnl
  have hFb2_h := Lib.hid hFb2
  clear hk2 hFl hN17 hO6 hr9 hO7 hap hG5 hG6 hB17 hkR3 hnl hFb2
  go_wp2_with (at_builtin; refine wpList_append_Sl _ rfl _ _ _ rfl tTerm Try.underlying120 info_term rfl (by omega) rfl hN17_h.out rfl hnl_h.out hr9_h.out hO7_h.out.one_cell (by unfold maxLen; omega) (by omega) ?_; intro A18 c18 w18 hs18 hA18 hk18)
  have hT18 := (hO6_h.out.keeps hk18 (fun b hb => hO6_h.out.apart hN17_h.out b hb)).append (hO7_h.out.keeps hk18 (fun b hb => hO7_h.out.apart hN17_h.out b hb))
  rw [hap_h.out] at hT18
  have hm18 : qa + 1 + k2 = M.length := by rw [← hap_h.out, List.length_append, hFl_h.out, hk2_h.out]
  have hB18 := below_keeps hB17_h.out hk18 hB17_h.out.size (fun k hk => by have := hFb2_h.out k hk; omega)
  have kR18 := box_keeps hkR3_h.out hk18 (fun h => by have := hFb2_h.out _ h; omega)
  have hCh := tmChain_any true A18 (qa + 1 + k2) c18 (vF ++ vS) M w18 hs18 hm18 hT18 (by omega) hMsz_h.out
  have e16 : kd true = 16 := rfl
  rw [e16] at hCh
  unfold ChA at hCh
  rw [← hX3_h.out] at hCh
  have hGv : ∀ u, (vF ++ vS)[0]? = some u → ∀ b, b ∈ fpV u → W.heap.size ≤ b := fun u hu b hb => by
    rcases List.mem_append.1 (List.mem_of_getElem? hu) with h | h
    · exact hG5_h.out u h b hb
    · exact hG6_h.out u h b hb
  have hz18 := hB18.size
  have hz19 : W.heap.size ≤ w18.heap.size := by have := box_lt kR18; have := hk18.size; have := (box_lt hkR3_h.out); have := hz_h.out; omega
  clear e16
  have hs18_h := Lib.hid hs18
  have hA18_h := Lib.hid hA18
  have hk18_h := Lib.hid hk18
  have hT18_h := Lib.hid hT18
  have hm18_h := Lib.hid hm18
  have hB18_h := Lib.hid hB18
  have kR18_h := Lib.hid kR18
  have hCh_h := Lib.hid hCh
  have hGv_h := Lib.hid hGv
  clear hs18 hA18 hk18 hT18 hm18 hB18 kR18 hCh hGv
  go_wp2_with (fail)
  refine (hCh_h.out).mono ?_
  rintro e w19 ⟨A19, n19, c19, rfl, hn19, hN19, hfr19, hb19⟩
  have kR19 := box_below kR18_h.out hb19
  have hB19 := below_trans hB18_h.out hb19 hB18_h.out.size
  have hG19 : ∀ b, b ∈ fpA A19 → W.heap.size ≤ b := fun b hb => by
    rcases hfr19 b hb with h | ⟨u, hu, hbu⟩
    · omega
    · exact hGv_h.out u hu b hbu
  have hz0' := hz_h.out
  obtain ⟨s1, s2⟩ := set1 kR19 (.slice A19 n19 c19)
  have hBn := below_keeps hB19 s2 hB19.size (fun k hk => by omega)
  have hNn := NS.keeps hN19 s2 (fun b hb e => by have := hG19 b hb; omega)
  have hFn : FreshL w.heap.size (fpA A19) := fun b hb => by have := hG19 b hb; omega
  have kR19_h := Lib.hid kR19
  clear kR19
  obtain ⟨kR19_c, kR19_f⟩ := bx1 kR19_h.out
  have hn19_h := Lib.hid hn19
  have hN19_h := Lib.hid hN19
  have hfr19_h := Lib.hid hfr19
  have hb19_h := Lib.hid hb19
  have hB19_h := Lib.hid hB19
  have hG19_h := Lib.hid hG19
  have s1_h := Lib.hid s1
  have s2_h := Lib.hid s2
  have hBn_h := Lib.hid hBn
  have hNn_h := Lib.hid hNn
  have hFn_h := Lib.hid hFn
  clear hn19 hN19 hfr19 hb19 hB19 hG19 s1 s2 hBn hNn hFn
  clear hz0'
  go_wp2_with (fail)
  refine bodyPost_ret (results_cell_row rfl _ _ (w.heap.size + 1) _ _ (0, 0) _ rfl s1_h.out Try.underlying30 rfl (by kernel_rfl)) rfl ?_
  exact ⟨_, fpA A19, rfl, ⟨A19, c19, by rw [hn19_h.out], hNn_h.out, rfl⟩, hFn_h.out, hBn_h.out⟩
end Go.Proofs.Ytlmnmdahphahfaa
