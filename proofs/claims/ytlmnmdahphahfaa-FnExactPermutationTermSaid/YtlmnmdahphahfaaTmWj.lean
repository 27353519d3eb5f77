/-
  THE WALKS: WidthOf, the reference's side.
-/
import Derived.Test.YtlmnmdahphahfaaTmWi
namespace Go.Proofs.Ytlmnmdahphahfaa
open Go.RowKit

theorem add0 (a : Addr) : a.add 0 = a := by unfold Addr.add; simp
/-- Width and depth. -/
def WdA (t : Tr) (w : World) (e : Ending) (w' : World) : Prop := e = .returned (.tuple #[.int .i64 (wid t).1, .int .i64 (wid t).2]) ∧ Below w.heap.size w w'
def wdM (l : List Nd) : Int × Int × Bool := match treeM l with | some t => ((wid t).1, (wid t).2, true) | none => (0, 0, false)
theorem wdM_some {l : List Nd} {t : Tr} (h : treeM l = some t) : wdM l = ((wid t).1, (wid t).2, true) := by simp [wdM, h]
theorem wdM_none {l : List Nd} (h : treeM l = none) : wdM l = (0, 0, false) := by simp [wdM, h]
theorem leaf_top {n : Nd} (h : wt (.leaf n)) : 1 ≤ n.1 ∧ n.1 ≤ 14 := by
  have : leafB n = true := h
  simp only [leafB, decide_eq_true_eq] at this
  omega
set_option maxRecDepth 8000 in
set_option maxHeartbeats 2000000 in
theorem tmWidth_any : ∀ (t : Tr) {v : Value} {fp : List Nat} {w : World}, wt t → sz t ≤ 400 → OwTm w v (flat t) fp →
    Calls Try.prog 48 #[v] w (WdA t w)
  | .leaf (k, x, s), v, fp, w, hw, hs, h => by
    obtain ⟨A, c, rfl, hN, rfl⟩ := h
    obtain ⟨W, hW⟩ : ∃ W, W = w.alloc (.cells #[.slice A 1 c] tTerm) := ⟨_, rfl⟩
    have b0 := below_alloc w (.cells #[.slice A 1 c] tTerm)
    have k0 := heap_alloc_new w (.cells #[.slice A 1 c] tTerm)
    rw [← hW] at b0 k0
    have hN1 := hN.below b0
    have hT := tmTop_any (v := .agg #[.slice A 1 c]) (t := .leaf (k, x, s)) (w := W) ⟨A, c, rfl, hN1, rfl⟩
    have hk := leaf_top hw
    obtain ⟨ad, k', x', s', rfl, hl, c0, c1, c2⟩ := hN1.rd.at_ (j := 0) (by simp [flat])
    obtain ⟨rfl, rfl, rfl⟩ : k' = k ∧ x' = x ∧ s' = s := by simpa [flat, eq_comm] using hl
    have hk2 : topK (.leaf (k', x', s')) = k' := rfl
    rw [hk2] at hT
    have hlen : (flat (.leaf (k', x', s'))).length = 1 := rfl
    rw [hlen]
    obtain ⟨Z, hZ⟩ : ∃ Z, Z = wid (.leaf (k', x', s')) := ⟨_, rfl⟩
    obtain ⟨L, hL⟩ : ∃ L, L = leafTy (k', x', s') := ⟨_, rfl⟩
    have hZ1 : Z.1 = mx L.1 L.2 := by rw [hZ, hL]; rfl
    have hZ2 : Z.2 = 1 := by rw [hZ]; rfl
    have hA := fun W => tmArity_any k' x' s' W
    rw [← hL] at hA
    unfold WdA
    rw [← hZ]
    rw [Nat.zero_mul] at c0 c1 c2
    rw [add0] at c0 c1 c2
    have hlt : k' < 15 := by omega
    clear hN hN1 hl hk2 hlen hs hw
    have b0_h := Lib.hid b0
    have k0_h := Lib.hid k0
    have hT_h := Lib.hid hT
    have hZ_h := Lib.hid hZ
    have hL_h := Lib.hid hL
    have hZ1_h := Lib.hid hZ1
    have hZ2_h := Lib.hid hZ2
    have hA_h := Lib.hid hA
    have c0_h := Lib.hid c0
    have c1_h := Lib.hid c1
    have c2_h := Lib.hid c2
    clear b0 k0 hT hZ hL hZ1 hZ2 hA c0 c1 c2
    go_enter Try.func48, Try.ntmps48
    go_wp2_with (fail)
    rw [← hW]
    clear hW
    refine (hT_h.out).mono ?_
    rintro e w1 ⟨rfl, hb1⟩
    have c3 := (hb1.cell (World.block_lt_of_cell? W _ c0_h.out)).trans c0_h.out
    have c4 := (hb1.cell (World.block_lt_of_cell? W _ c1_h.out)).trans c1_h.out
    have c5 := (hb1.cell (World.block_lt_of_cell? W _ c2_h.out)).trans c2_h.out
    replace k0_h := Lib.hid (box_below k0_h.out hb1)
    obtain ⟨k0_c, k0_f⟩ := bx1 k0_h.out
    have hB1 := below_trans b0_h.out hb1 b0_h.out.size
    have hb1_h := Lib.hid hb1
    have hB1_h := Lib.hid hB1
    clear hb1 hB1
    go_wp2_with (fail)
    refine (hA_h.out _).mono ?_
    rintro e w2 ⟨rfl, hb2⟩
    have hB2 := below_trans hB1_h.out hb2 hB1_h.out.size
    have hb2_h := Lib.hid hb2
    have hB2_h := Lib.hid hB2
    clear hb2 hB2
    clear k0_c k0_f c3 c4 c5
    go_wp2_with (fail)
    refine (l1Most_any _ _ _).mono ?_
    rintro e w' ⟨rfl, rfl⟩
    go_wp2_with (fail)
    go_ret2
    exact ⟨by rw [hZ1_h.out, hZ2_h.out]; rfl, hB2_h.out⟩
  | .node p a b, v, fp, w, hw, hs, h => by
    have ⟨hwa, hwb, hj⟩ := hw
    have hsn := sz_node p a b
    have ha := wid_fit a hwa
    have hb := wid_fit b hwb
    obtain ⟨A, c, rfl, hN, rfl⟩ := h
    obtain ⟨n, hn⟩ : ∃ n, n = (flat (.node p a b)).length := ⟨_, rfl⟩
    obtain ⟨W, hW⟩ : ∃ W, W = w.alloc (.cells #[.slice A n c] tTerm) := ⟨_, rfl⟩
    have b0 := below_alloc w (.cells #[.slice A n c] tTerm)
    have k0 := heap_alloc_new w (.cells #[.slice A n c] tTerm)
    rw [← hW] at b0 k0
    have hN1 := hN.below b0
    have hT := tmTop_any (v := .agg #[.slice A n c]) (t := .node p a b) (w := W) ⟨A, c, by rw [hn], hN1, rfl⟩
    have hP := fun W' (hb : Below W.heap.size W W') => tmParts_any (v := .agg #[.slice A n c]) (p := p) (a := a) (b := b) (w := W') hw hs ⟨A, c, by rw [hn], hN1.below hb, rfl⟩
    have hIa := fun (v : Value) (fp : List Nat) (w : World) => tmWidth_any a (v := v) (fp := fp) (w := w) hwa (by omega)
    have hIb := fun (v : Value) (fp : List Nat) (w : World) => tmWidth_any b (v := v) (fp := fp) (w := w) hwb (by omega)
    obtain ⟨Z, hZ⟩ : ∃ Z, Z = wid (.node p a b) := ⟨_, rfl⟩
    unfold WdA at hIa hIb ⊢
    obtain ⟨X, hX⟩ : ∃ X, X = wid a := ⟨_, rfl⟩
    obtain ⟨Y, hY⟩ : ∃ Y, Y = wid b := ⟨_, rfl⟩
    obtain ⟨La, hLa⟩ : ∃ La, La = flat a := ⟨_, rfl⟩
    obtain ⟨Lb, hLb⟩ : ∃ Lb, Lb = flat b := ⟨_, rfl⟩
    obtain ⟨K, hK⟩ : ∃ K, K = topK (.node p a b) := ⟨_, rfl⟩
    rw [← hK] at hT
    rw [← hn, ← hZ]
    have hZe : Z = if p then (X.1 + Y.1, mx X.2 Y.2) else (mx X.1 Y.1, X.2 + Y.2) := by rw [hZ, hX, hY]; rfl
    rw [← hX, ← hLa] at hIa
    rw [← hX] at ha
    rw [← hY, ← hLb] at hIb
    rw [← hY] at hb
    rw [← hLa, ← hLb] at hP
    have hpp : K = if p then 16 else 15 := by rw [hK]; rfl
    have hKt : ¬ K < 15 := by rw [hpp]; split <;> omega
    have q1 : X.1 + Y.1 ≤ 10000 := by omega
    have q2 : X.2 + Y.2 ≤ 10000 := by omega
    have q3 : 0 ≤ X.1 + Y.1 := by omega
    have q4 : 0 ≤ X.2 + Y.2 := by omega
    clear hN hN1 hs hw hj hsn ha hb hwa hwb
    have b0_h := Lib.hid b0
    have k0_h := Lib.hid k0
    have hT_h := Lib.hid hT
    have hZ_h := Lib.hid hZ
    have hP_h := Lib.hid hP
    have hIa_h := Lib.hid hIa
    have hIb_h := Lib.hid hIb
    have hX_h := Lib.hid hX
    have hY_h := Lib.hid hY
    have hLa_h := Lib.hid hLa
    have hLb_h := Lib.hid hLb
    have hn_h := Lib.hid hn
    have hZe_h := Lib.hid hZe
    have hpp_h := Lib.hid hpp
    have hK_h := Lib.hid hK
    clear b0 k0 hT hZ hP hIa hIb hX hY hLa hLb hn hZe hpp hK
    go_enter Try.func48, Try.ntmps48
    go_wp2_with (fail)
    rw [← hW]
    clear hW
    refine (hT_h.out).mono ?_
    rintro e w1 ⟨rfl, hb1⟩
    replace k0_h := Lib.hid (box_below k0_h.out hb1)
    obtain ⟨k0_c, k0_f⟩ := bx1 k0_h.out
    have hB1 := below_trans b0_h.out hb1 b0_h.out.size
    have hB1_h := Lib.hid hB1
    clear hB1
    go_wp2_with (fail)
    refine (hP_h.out w1 hb1).mono ?_
    rintro e w2 ⟨v1, v2, fp1, fp2, rfl, ⟨A1, c1, rfl, hN1, rfl⟩, ⟨A2, c2, rfl, hN2, rfl⟩, hF1, hF2, -, hb2⟩
    obtain ⟨n1, hn1⟩ : ∃ n1, n1 = La.length := ⟨_, rfl⟩
    obtain ⟨n2, hn2⟩ : ∃ n2, n2 = Lb.length := ⟨_, rfl⟩
    rw [← hn1, ← hn2]
    clear k0_c k0_f
    obtain ⟨W2, hW2⟩ : ∃ W2, W2 = (w2.alloc (.cells #[.slice A1 n1 c1] tTerm)).alloc (.cells #[.slice A2 n2 c2] tTerm) := ⟨_, rfl⟩
    obtain ⟨b2, k1, k2, hz2⟩ := two_boxes w2 (.cells #[.slice A1 n1 c1] tTerm) (.cells #[.slice A2 n2 c2] tTerm)
    rw [← hW2] at b2 k1 k2 hz2
    have hM1 := hN1.below b2
    have hM2 := hN2.below b2
    have hB2 := below_trans (below_trans hB1_h.out hb2 hB1_h.out.size) b2 (Nat.le_trans hB1_h.out.size hb2.size)
    have hC1 := hIa_h.out (.agg #[.slice A1 n1 c1]) _ W2 ⟨A1, c1, by rw [hn1], hM1, rfl⟩
    have hC2 := fun W' (hb : Below W2.heap.size W2 W') => hIb_h.out (.agg #[.slice A2 n2 c2]) _ W' ⟨A2, c2, by rw [hn2], hM2.below hb, rfl⟩
    clear hM1 hM2 hN1 hN2 hF1 hF2
    have hb1_h := Lib.hid hb1
    have hb2_h := Lib.hid hb2
    have k1_h := Lib.hid k1
    have k2_h := Lib.hid k2
    have hz2_h := Lib.hid hz2
    have hB2_h := Lib.hid hB2
    have hC1_h := Lib.hid hC1
    have hC2_h := Lib.hid hC2
    have b2_h := Lib.hid b2
    have hn1_h := Lib.hid hn1
    have hn2_h := Lib.hid hn2
    clear hb1 hb2 k1 k2 hz2 hB2 hC1 hC2 b2 hn1 hn2
    obtain ⟨k1_c, k1_f⟩ := bx1 k1_h.out
    go_upto_region 6 with (fail)
    rw [← hW2]
    clear hW2
    go_wp2_with (fail)
    refine (hC1_h.out).mono ?_
    rintro e w3 ⟨rfl, hb3⟩
    clear k1_c k1_f
    replace k1_h := Lib.hid (box_below k1_h.out hb3)
    replace k2_h := Lib.hid (box_below k2_h.out hb3)
    obtain ⟨k2_c, k2_f⟩ := bx1 k2_h.out
    have hB3 := below_trans hB2_h.out hb3 hB2_h.out.size
    have hB3_h := Lib.hid hB3
    clear hB3
    go_wp2_with (fail)
    refine (hC2_h.out w3 hb3).mono ?_
    rintro e w4 ⟨rfl, hb4⟩
    clear k2_c k2_f
    have hB4 := below_trans hB3_h.out hb4 hB3_h.out.size
    have hB4_h := Lib.hid hB4
    have hb4_h := Lib.hid hb4
    have hb3_h := Lib.hid hb3
    clear hB4 hb4 hb3
    cases p
    · obtain rfl : K = 15 := hpp_h.out
      go_wp2_with (fail)
      refine (l1Most_any _ _ _).mono ?_
      rintro e w' ⟨rfl, rfl⟩
      go_wp2_with (fail)
      go_ret2
      exact ⟨by rw [hZe_h.out]; rfl, hB4_h.out⟩
    · obtain rfl : K = 16 := hpp_h.out
      go_wp2_with (fail)
      refine (l1Most_any _ _ _).mono ?_
      rintro e w' ⟨rfl, rfl⟩
      go_wp2_with (fail)
      go_ret2
      exact ⟨by rw [hZe_h.out]; rfl, hB4_h.out⟩

set_option maxRecDepth 8000 in
set_option maxHeartbeats 1000000 in
theorem sWidthOf_any {v : Value} {l : List Nd} {fp : List Nat} {w : World} (h : OwTm w v l fp) :
    Calls Try.prog 18 #[v] w fun e w' => e = .returned (.tuple #[.int .i64 (wdM l).1, .int .i64 (wdM l).2.1, .bool (wdM l).2.2]) ∧ Below w.heap.size w w' := by
  obtain ⟨A, c, rfl, hN, rfl⟩ := h
  obtain ⟨n, hn⟩ : ∃ n, n = l.length := ⟨_, rfl⟩
  obtain ⟨W, hW⟩ : ∃ W, W = w.alloc (.cells #[.slice A n c] tTerm) := ⟨_, rfl⟩
  have b0 := below_alloc w (.cells #[.slice A n c] tTerm)
  have k0 := heap_alloc_new w (.cells #[.slice A n c] tTerm)
  rw [← hW] at b0 k0
  have hN1 := hN.below b0
  have hC := tmValid_any (v := .agg #[.slice A n c]) (l := l) (w := W) ⟨A, c, by rw [hn], hN1.rd⟩
  have hD := fun W' (hb : Below W.heap.size W W') (t : Tr) (hT : treeM l = some t) => tmWidth_any t (v := .agg #[.slice A n c]) (fp := fpA A) (w := W') (treeM_some hT).2.1 (treeM_some hT).2.2 ⟨A, c, by rw [hn, (treeM_some hT).1], by have := hN1.below hb; rw [(treeM_some hT).1] at this; exact this, rfl⟩
  unfold WdA at hD
  rw [← hn]
  obtain ⟨T, hT⟩ : ∃ T, T = wdM l := ⟨_, rfl⟩
  rw [← hT]
  clear hN hN1
  have hC_h := Lib.hid hC
  have hn_h := Lib.hid hn
  have b0_h := Lib.hid b0
  have k0_h := Lib.hid k0
  have hT_h := Lib.hid hT
  have hD_h := Lib.hid hD
  clear hC hn b0 k0 hT hD
  obtain ⟨k0_c, k0_f⟩ := bx1 k0_h.out
  go_enter Try.func18, Try.ntmps18
  go_wp2_with (fail)
  rw [← hW]
  clear hW
  refine (hC_h.out).mono ?_
  rintro e w1 ⟨b, rfl, hb, hb1⟩
  clear k0_c k0_f
  replace k0_h := Lib.hid (box_below k0_h.out hb1)
  have hB1 := below_trans b0_h.out hb1 b0_h.out.size
  cases b
  · have hN : treeM l = none := by cases h : treeM l with | none => rfl | some t => rw [h] at hb; cases hb
    obtain rfl : T = (0, 0, false) := by rw [hT_h.out]; simp [wdM, hN]
    have hb_h := Lib.hid hb
    have hN_h := Lib.hid hN
    have hB1_h := Lib.hid hB1
    have hb1_h := Lib.hid hb1
    clear hb hN hB1 hb1
    go_wp2_with (fail)
    go_ret3
    exact ⟨rfl, hB1_h.out⟩
  · obtain ⟨t, hN⟩ : ∃ t, treeM l = some t := by cases h : treeM l with | none => rw [h] at hb; cases hb | some t => exact ⟨t, rfl⟩
    have hD2 := hD_h.out w1 hb1 t hN
    obtain ⟨Z, hZ⟩ : ∃ Z, Z = wid t := ⟨_, rfl⟩
    rw [← hZ] at hD2
    obtain rfl : T = (Z.1, Z.2, true) := by rw [hT_h.out, wdM_some hN, hZ]
    obtain ⟨k0_c, k0_f⟩ := bx1 k0_h.out
    have hb_h := Lib.hid hb
    have hN_h := Lib.hid hN
    have hB1_h := Lib.hid hB1
    have hb1_h := Lib.hid hb1
    have hD2_h := Lib.hid hD2
    have hZ_h := Lib.hid hZ
    clear hb hN hB1 hb1 hD2 hZ
    go_wp2_with (fail)
    refine (hD2_h.out).mono ?_
    rintro e w2 ⟨rfl, hb2⟩
    have hB2 := below_trans hB1_h.out hb2 hB1_h.out.size
    have hb2_h := Lib.hid hb2
    have hB2_h := Lib.hid hB2
    clear hb2 hB2
    clear k0_c k0_f
    go_wp2_with (fail)
    go_ret3
    exact ⟨rfl, hB2_h.out⟩
end Go.Proofs.Ytlmnmdahphahfaa
