/-
  THE WALKS: MirrorTerm, the reference's side: tmOne, tmMirror.
-/
import Derived.Test.YtlmnmdahphahfaaTmWj
namespace Go.Proofs.Ytlmnmdahphahfaa
open Go.RowKit

set_option maxRecDepth 8000 in
set_option maxHeartbeats 2000000 in
theorem tmOne_any (k x : Int) (w : World) : Calls Try.prog 89 #[.int .i64 k, .int .i64 x] w (RetTm w [(k, x, noName)]) := by
  obtain ⟨W, hW⟩ : ∃ W, W = (w.alloc (.cells #[.slice (some ⟨w.heap.size + 1, 0, none⟩) 1 1] tTerm)).alloc (.cells #[.int .i64 k, .int .i64 x, .string noName] tNd) := ⟨_, rfl⟩
  obtain ⟨b0, k0, -, -⟩ := two_boxes w (.cells #[.slice (some ⟨w.heap.size + 1, 0, none⟩) 1 1] tTerm) (.cells #[.int .i64 k, .int .i64 x, .string noName] tNd)
  have hsl := Sl.laid (w.alloc (.cells #[.slice (some ⟨w.heap.size + 1, 0, none⟩) 1 1] tTerm)) tNd 3 1 #[.int .i64 k, .int .i64 x, .string noName] (by unfold maxLen; omega) rfl
  simp only [World.size_alloc] at hsl
  rw [← hW] at b0 k0 hsl
  have b0_h := Lib.hid b0
  have k0_h := Lib.hid k0
  have hsl_h := Lib.hid hsl
  clear b0 k0 hsl
  go_enter Try.func89, Try.ntmps89
  go_wp2_with (fail)
  refine bodyPost_ret (results_cell_row rfl _ _ w.heap.size _ _ (0, 0) _ rfl (by subst hW; exact k0_h.out) Try.underlying30 rfl (by kernel_rfl)) rfl ?_
  refine ⟨_, _, rfl, ⟨_, 1, rfl, ?_, rfl⟩, fun b hb => (by simp at hb; omega), ?_⟩
  · subst hW; exact hsl_h.out
  · subst hW; exact b0_h.out

theorem leaf_name {n : Nd} (h : wt (.leaf n)) : n.2.2 = noName := by
  have : leafB n = true := h
  simp only [leafB, decide_eq_true_eq] at this
  exact this.1
theorem flat_join (p : Bool) (a b : Tr) : flat (.node p a b) = joinOf (kd p) (flat a) (flat b) := by
  unfold joinOf; simp only [flat, List.append_assoc]; rfl
set_option maxRecDepth 8000 in
set_option maxHeartbeats 4000000 in
theorem tmMirror_leaf {k x : Int} {s : ByteArray} {v : Value} {fp : List Nat} {w : World} (hw : wt (.leaf (k, x, s))) (h : OwTm w v (flat (.leaf (k, x, s))) fp) :
    Calls Try.prog 67 #[v] w (RetTm w (flat (mir (.leaf (k, x, s))))) := by
  obtain ⟨A, c, rfl, hN, rfl⟩ := h
  have hk := leaf_top hw
  have hn := leaf_name hw
  simp only at hk hn
  subst hn
  have e1 : flat (mir (.leaf (k, x, noName))) = [(mirK k, x, noName)] := rfl
  have e2 : (flat (.leaf (k, x, noName))).length = 1 := rfl
  rw [e1, e2]
  obtain ⟨W, hW⟩ : ∃ W, W = (w.alloc (.cells #[.slice A 1 c] tTerm)).alloc (.cells #[.slice none 0 0] tTerm) := ⟨_, rfl⟩
  obtain ⟨b0, k0, k1, hz⟩ := two_boxes w (.cells #[.slice A 1 c] tTerm) (.cells #[.slice none 0 0] tTerm)
  rw [← hW] at b0 k0 k1 hz
  have hN1 := hN.below b0
  have hT := tmTop_any (v := .agg #[.slice A 1 c]) (t := .leaf (k, x, noName)) (w := W) ⟨A, c, rfl, hN1, rfl⟩
  have e3 : topK (.leaf (k, x, noName)) = k := rfl
  rw [e3] at hT
  obtain ⟨ad, k', x', s', rfl, hl, -, c1, -⟩ := hN1.rd.at_ (j := 0) (by simp [flat])
  obtain ⟨rfl, rfl, rfl⟩ : k' = k ∧ x' = x ∧ s' = noName := by simpa [flat, eq_comm] using hl
  rw [Nat.zero_mul, add0] at c1
  have hlt : k' < 15 := by omega
  have hone := tmOne_any (mirK k') x'
  have hadl : ad.block < w.heap.size := hN.lt _ (by simp)
  clear hN hN1 hl e1 e2 e3 hw
  have b0_h := Lib.hid b0
  have k0_h := Lib.hid k0
  have k1_h := Lib.hid k1
  have hz_h := Lib.hid hz
  have hT_h := Lib.hid hT
  have c1_h := Lib.hid c1
  have hone_h := Lib.hid hone
  clear b0 k0 k1 hz hT c1 hone
  go_enter Try.func67, Try.ntmps67
  go_upto_region 1 with (fail)
  rw [← hW]
  clear hW
  obtain ⟨k0_c, k0_f⟩ := bx1 k0_h.out
  go_wp2_with (fail)
  refine (hT_h.out).mono ?_
  rintro e w1 ⟨rfl, hb1⟩
  clear k0_c k0_f
  replace k0_h := Lib.hid (box_below k0_h.out hb1)
  replace k1_h := Lib.hid (box_below k1_h.out hb1)
  have hB1 := below_trans b0_h.out hb1 b0_h.out.size
  have c2 := (hb1.cell (World.block_lt_of_cell? W _ c1_h.out)).trans c1_h.out
  have hzb := hb1.size
  have hb1_h := Lib.hid hb1
  have hB1_h := Lib.hid hB1
  have c2_h := Lib.hid c2
  clear hb1 hB1 c2
  go_wp2_with (fail)
  refine beginH (fun w' => w'.heap[w.heap.size]? = some (.cells #[.slice (some ad) 1 c] tTerm) ∧ w'.cell? ⟨ad.block, ad.off + 1, none⟩ = some (.int .i64 x')) (by kernel_rfl) ?_
  have hbd : Below w1.heap.size w1 w1.drew := below_drew (Below.refl _ _)
  generalize w1.drew = W1 at hbd ⊢
  replace k0_h := Lib.hid (box_below k0_h.out hbd)
  replace k1_h := Lib.hid (box_below k1_h.out hbd)
  have hB2 := below_trans hB1_h.out hbd hB1_h.out.size
  have c3 := (hbd.cell (World.block_lt_of_cell? w1 _ c2_h.out)).trans c2_h.out
  have hzd := hbd.size
  have hbd_h := Lib.hid hbd
  have hB2_h := Lib.hid hB2
  have c3_h := Lib.hid c3
  clear hbd hB2 c3
  clear c2_h
  refine takeH 0 (v := ?_) rfl (by kernel_rfl) (by kernel_rfl) (by kernel_rfl) (fun _ _ _ h => h) ⟨k0_h.out, c3_h.out⟩ (by rfl) (fun W' hW' => ?_) ?_; rotate_left; · (skip; clear hW'; go_simp; first | done | with_reducible rfl)
  simp only [Act.put, List.setIfInBounds_toArray, List.set_cons_zero, List.set_cons_succ]
  refine takeH 2 (v := ?_) rfl (by kernel_rfl) (by kernel_rfl) (by kernel_rfl) (fun _ _ _ h => h) ⟨k0_h.out, c3_h.out⟩ (by rfl) (fun W' hW' => ?_) ?_; rotate_left; · (obtain ⟨y0, y1⟩ := bx1 hW'.1; have y2 := hW'.2; clear hW'; go_simp; first | done | with_reducible rfl)
  simp only [Act.put, List.setIfInBounds_toArray, List.set_cons_zero, List.set_cons_succ]
  refine takeH 3 (v := ?_) rfl (by kernel_rfl) (by kernel_rfl) (by kernel_rfl) (fun _ _ _ h => h) ⟨k0_h.out, c3_h.out⟩ (by rfl) (fun W' hW' => ?_) ?_; rotate_left; · (obtain ⟨y0, y1⟩ := bx1 hW'.1; have y2 := hW'.2; clear hW'; go_simp; first | done | with_reducible rfl)
  simp only [Act.put, List.setIfInBounds_toArray, List.set_cons_zero, List.set_cons_succ]
  refine takeH 4 (v := ?_) rfl (by kernel_rfl) (by kernel_rfl) (by kernel_rfl) (fun _ _ _ h => h) ⟨k0_h.out, c3_h.out⟩ (by rfl) (fun W' hW' => ?_) ?_; rotate_left; · (obtain ⟨y0, y1⟩ := bx1 hW'.1; have y2 := hW'.2; clear hW'; go_simp; first | done | with_reducible rfl)
  simp only [Act.put, List.setIfInBounds_toArray, List.set_cons_zero, List.set_cons_succ]
  refine takeH 5 (v := ?_) rfl (by kernel_rfl) (by kernel_rfl) (by kernel_rfl) (fun _ _ _ h => h) ⟨k0_h.out, c3_h.out⟩ (by rfl) (fun W' hW' => ?_) ?_; rotate_left; · (obtain ⟨y0, y1⟩ := bx1 hW'.1; have y2 := hW'.2; clear hW'; go_simp; first | done | with_reducible rfl)
  simp only [Act.put, List.setIfInBounds_toArray, List.set_cons_zero, List.set_cons_succ]
  refine takeH 6 (v := ?_) rfl (by kernel_rfl) (by kernel_rfl) (by kernel_rfl) (fun _ _ _ h => h) ⟨k0_h.out, c3_h.out⟩ (by rfl) (fun W' hW' => ?_) ?_; rotate_left; · (obtain ⟨y0, y1⟩ := bx1 hW'.1; have y2 := hW'.2; clear hW'; go_simp; first | done | with_reducible rfl)
  simp only [Act.put, List.setIfInBounds_toArray, List.set_cons_zero, List.set_cons_succ]
  refine' callH 1 (f := _) (args := _) rfl (by kernel_rfl) (by rfl) ?_ ?_; rotate_left 2; · (go_simp; first | done | with_reducible rfl | (constructor <;> with_reducible rfl))
  refine (tmMirrorKind_any k' _ hk.1 hk.2).mono ?_
  rintro e w2 ⟨rfl, rfl⟩
  refine ⟨_, rfl, ⟨k0_h.out, c3_h.out⟩, ?_⟩
  simp only [Act.put, List.setIfInBounds_toArray, List.set_cons_zero, List.set_cons_succ]
  refine' callH 7 (f := _) (args := _) rfl (by kernel_rfl) (by rfl) ?_ ?_; rotate_left 2; · (go_simp; first | done | with_reducible rfl | (constructor <;> with_reducible rfl))
  refine (hone_h.out _).mono ?_
  rintro e w3 ⟨v3, fp3, rfl, ⟨A3, c3', rfl, hN3, rfl⟩, hF3, hb3⟩
  replace k0_h := Lib.hid (box_below k0_h.out hb3)
  replace k1_h := Lib.hid (box_below k1_h.out hb3)
  have hB3 := below_trans hB2_h.out hb3 hB2_h.out.size
  have c4 := (hb3.cell (World.block_lt_of_cell? w2 _ c3_h.out)).trans c3_h.out
  have hz0 := hz_h.out
  obtain ⟨s1, s2⟩ := set1 k1_h.out (.slice A3 1 c3')
  have hk2 := box_keeps k0_h.out s2 (by omega)
  have hB4 := below_keeps hB3 s2 hB3.size (fun k hk => by omega)
  have hN4 := NS.keeps hN3 s2 (fun b hb e => by have := hF3 b hb; omega)
  have hF4 : FreshL w.heap.size (fpA A3) := fun b hb => by have := hF3 b hb; omega
  have hneb : ¬ ad.block = w.heap.size + 1 := fun e => by omega
  have c5 := keeps_at s2 c4 (by simpa using hneb)
  obtain ⟨k1_c, k1_f⟩ := bx1 k1_h.out
  refine ⟨_, rfl, ⟨k0_h.out, c4⟩, ?_⟩
  have s1_h := Lib.hid s1
  have s2_h := Lib.hid s2
  have hk2_h := Lib.hid hk2
  have hB3_h := Lib.hid hB3
  have hB4_h := Lib.hid hB4
  have hN3_h := Lib.hid hN3
  have hN4_h := Lib.hid hN4
  have hF3_h := Lib.hid hF3
  have hF4_h := Lib.hid hF4
  have hb3_h := Lib.hid hb3
  have c4_h := Lib.hid c4
  have c5_h := Lib.hid c5
  clear s1 s2 hk2 hB3 hB4 hN3 hN4 hF3 hF4 hb3 c4 c5
  clear hz0 hneb
  simp only [Act.put, List.setIfInBounds_toArray, List.set_cons_zero, List.set_cons_succ]
  refine oneH 8 rfl (by kernel_rfl) (by rfl) (fun K hK => ?_)
  go_simp
  refine hK _ _ ⟨hk2_h.out, c5_h.out⟩ ?_
  clear hK K
  refine doneH (by kernel_rfl) ?_
  go_wp2_with (fail)
  refine bodyPost_ret (results_cell_row rfl _ _ (w.heap.size + 1) _ _ (0, 0) _ rfl s1_h.out Try.underlying30 rfl (by kernel_rfl)) rfl ?_
  exact ⟨_, fpA A3, rfl, ⟨A3, c3', rfl, hN4_h.out, rfl⟩, hF4_h.out, hB4_h.out⟩

set_option maxRecDepth 8000 in
set_option maxHeartbeats 4000000 in
theorem tmMirror_seq {a b : Tr} {v : Value} {fp : List Nat} {w : World} (hw : wt (.node false a b)) (hs : sz (.node false a b) ≤ 400) (h : OwTm w v (flat (.node false a b)) fp)
    (hIa : ∀ (v : Value) (fp : List Nat) (w : World), OwTm w v (flat a) fp → Calls Try.prog 67 #[v] w (RetTm w (flat (mir a)))) (hIb : ∀ (v : Value) (fp : List Nat) (w : World), OwTm w v (flat b) fp → Calls Try.prog 67 #[v] w (RetTm w (flat (mir b)))) :
    Calls Try.prog 67 #[v] w (RetTm w (flat (mir (.node false a b)))) := by
  obtain ⟨A, c, rfl, hN, rfl⟩ := h
  have hsn := sz_node false a b
  have e1 : flat (mir (.node false a b)) = joinOf 15 (flat (mir b)) (flat (mir a)) := flat_join false _ _
  rw [e1]
  obtain ⟨n, hn⟩ : ∃ n, n = (flat (.node false a b)).length := ⟨_, rfl⟩
  obtain ⟨W, hW⟩ : ∃ W, W = (w.alloc (.cells #[.slice A n c] tTerm)).alloc (.cells #[.slice none 0 0] tTerm) := ⟨_, rfl⟩
  obtain ⟨b0, k0, k1, hz⟩ := two_boxes w (.cells #[.slice A n c] tTerm) (.cells #[.slice none 0 0] tTerm)
  rw [← hW] at b0 k0 k1 hz
  have hN1 := hN.below b0
  have hT := tmTop_any (v := .agg #[.slice A n c]) (t := .node false a b) (w := W) ⟨A, c, by rw [hn], hN1, rfl⟩
  have e3 : topK (.node false a b) = 15 := rfl
  rw [e3] at hT
  have hP := fun W' (hb : Below W.heap.size W W') => tmParts_any (v := .agg #[.slice A n c]) (p := false) (a := a) (b := b) (w := W') hw hs ⟨A, c, by rw [hn], hN1.below hb, rfl⟩
  obtain ⟨La, hLa⟩ : ∃ La, La = flat a := ⟨_, rfl⟩
  obtain ⟨Lb, hLb⟩ : ∃ Lb, Lb = flat b := ⟨_, rfl⟩
  obtain ⟨Ma, hMa⟩ : ∃ La, La = flat (mir a) := ⟨_, rfl⟩
  obtain ⟨Mb, hMb⟩ : ∃ Lb, Lb = flat (mir b) := ⟨_, rfl⟩
  have hMal : Ma.length ≤ 400 := by rw [hMa]; show sz (mir a) ≤ 400; rw [mir_sz]; omega
  have hMbl : Mb.length ≤ 400 := by rw [hMb]; show sz (mir b) ≤ 400; rw [mir_sz]; omega
  rw [← hn, ← hMa, ← hMb]
  rw [← hLa, ← hLb] at hP
  rw [← hLa, ← hMa] at hIa
  rw [← hLb, ← hMb] at hIb
  clear hN hN1 hs hw hsn e1 e3
  have b0_h := Lib.hid b0
  have k0_h := Lib.hid k0
  have k1_h := Lib.hid k1
  have hz_h := Lib.hid hz
  have hT_h := Lib.hid hT
  have hP_h := Lib.hid hP
  have hIa_h := Lib.hid hIa
  have hIb_h := Lib.hid hIb
  have hLa_h := Lib.hid hLa
  have hLb_h := Lib.hid hLb
  have hMa_h := Lib.hid hMa
  have hMb_h := Lib.hid hMb
  have hn_h := Lib.hid hn
  clear b0 k0 k1 hz hT hP hIa hIb hLa hLb hMa hMb hn
  go_enter Try.func67, Try.ntmps67
  go_upto_region 1 with (fail)
  rw [← hW]
  clear hW
  obtain ⟨k0_c, k0_f⟩ := bx1 k0_h.out
  go_wp2_with (fail)
  refine (hT_h.out).mono ?_
  rintro e w1 ⟨rfl, hb1⟩
  clear k0_c k0_f
  replace k0_h := Lib.hid (box_below k0_h.out hb1)
  replace k1_h := Lib.hid (box_below k1_h.out hb1)
  obtain ⟨k0_c, k0_f⟩ := bx1 k0_h.out
  have hB1 := below_trans b0_h.out hb1 b0_h.out.size
  have hzb := hb1.size
  have hP1 := hP_h.out w1 hb1
  have hb1_h := Lib.hid hb1
  have hB1_h := Lib.hid hB1
  have hP1_h := Lib.hid hP1
  clear hb1 hB1 hP1
  go_wp2_with (fail)
  refine (hP1_h.out).mono ?_
  rintro e w2 ⟨v1, v2, fp1, fp2, rfl, ⟨A1, c1, rfl, hN1, rfl⟩, ⟨A2, c2, rfl, hN2, rfl⟩, hF1, hF2, -, hb2⟩
  obtain ⟨n1, hn1⟩ : ∃ n1, n1 = La.length := ⟨_, rfl⟩
  obtain ⟨n2, hn2⟩ : ∃ n2, n2 = Lb.length := ⟨_, rfl⟩
  rw [← hn1, ← hn2]
  clear k0_c k0_f
  replace k1_h := Lib.hid (box_below k1_h.out hb2)
  obtain ⟨W2, hW2⟩ : ∃ W2, W2 = (w2.alloc (.cells #[.slice A1 n1 c1] tTerm)).alloc (.cells #[.slice A2 n2 c2] tTerm) := ⟨_, rfl⟩
  obtain ⟨b2, k3, k4, hz2⟩ := two_boxes w2 (.cells #[.slice A1 n1 c1] tTerm) (.cells #[.slice A2 n2 c2] tTerm)
  rw [← hW2] at b2 k3 k4 hz2
  replace k1_h := Lib.hid (box_below k1_h.out b2)
  have hM1 := hN1.below b2
  have hM2 := hN2.below b2
  have hB2 := below_trans (below_trans hB1_h.out hb2 hB1_h.out.size) b2 (Nat.le_trans hB1_h.out.size hb2.size)
  have hO1 : ∀ W', Below W2.heap.size W2 W' → OwTm W' (.agg #[.slice A1 n1 c1]) La (fpA A1) := fun W' hb => ⟨A1, c1, by rw [hn1], hM1.below hb, rfl⟩
  have hO2 : ∀ W', Below W2.heap.size W2 W' → OwTm W' (.agg #[.slice A2 n2 c2]) Lb (fpA A2) := fun W' hb => ⟨A2, c2, by rw [hn2], hM2.below hb, rfl⟩
  clear hM1 hM2 hN1 hN2 hF1 hF2
  have hzc := hb2.size
  have hb2_h := Lib.hid hb2
  have k3_h := Lib.hid k3
  have k4_h := Lib.hid k4
  have hz2_h := Lib.hid hz2
  have hB2_h := Lib.hid hB2
  have hO1_h := Lib.hid hO1
  have hO2_h := Lib.hid hO2
  have b2_h := Lib.hid b2
  have hn1_h := Lib.hid hn1
  have hn2_h := Lib.hid hn2
  clear hb2 k3 k4 hz2 hB2 hO1 hO2 b2 hn1 hn2
  go_upto_region 5 with (fail)
  rw [← hW2]
  clear hW2
  go_wp2_with (fail)
  refine beginH (fun w' => w'.heap[w2.heap.size]? = some (.cells #[.slice A1 n1 c1] tTerm) ∧ w'.heap[w2.heap.size + 1]? = some (.cells #[.slice A2 n2 c2] tTerm)) (by kernel_rfl) ?_
  have hbd : Below W2.heap.size W2 W2.drew := below_drew (Below.refl _ _)
  generalize W2.drew = W3 at hbd ⊢
  replace k1_h := Lib.hid (box_below k1_h.out hbd)
  replace k3_h := Lib.hid (box_below k3_h.out hbd)
  replace k4_h := Lib.hid (box_below k4_h.out hbd)
  have hB3 := below_trans hB2_h.out hbd hB2_h.out.size
  have hzd := hbd.size
  have hB3_h := Lib.hid hB3
  have hbd_h := Lib.hid hbd
  clear hB3 hbd
  refine takeH 0 (v := ?_) rfl (by kernel_rfl) (by kernel_rfl) (by kernel_rfl) (fun _ _ _ h => h) ⟨k3_h.out, k4_h.out⟩ (by rfl) (fun W' hW' => ?_) ?_; rotate_left; · (obtain ⟨y0, y1⟩ := bx1 hW'.1; obtain ⟨y2, y3⟩ := bx1 hW'.2; clear hW'; go_simp; first | done | with_reducible rfl)
  simp only [Act.put, List.setIfInBounds_toArray, List.set_cons_zero, List.set_cons_succ]
  refine takeH 2 (v := ?_) rfl (by kernel_rfl) (by kernel_rfl) (by kernel_rfl) (fun _ _ _ h => h) ⟨k3_h.out, k4_h.out⟩ (by rfl) (fun W' hW' => ?_) ?_; rotate_left; · (obtain ⟨y0, y1⟩ := bx1 hW'.1; obtain ⟨y2, y3⟩ := bx1 hW'.2; clear hW'; go_simp; first | done | with_reducible rfl)
  simp only [Act.put, List.setIfInBounds_toArray, List.set_cons_zero, List.set_cons_succ]
  refine' callH 1 (f := _) (args := _) rfl (by kernel_rfl) (by rfl) ?_ ?_; rotate_left 2; · (go_simp; first | done | with_reducible rfl | (constructor <;> with_reducible rfl))
  refine (hIb_h.out _ _ W3 (hO2_h.out W3 hbd_h.out)).mono ?_
  rintro e w4 ⟨v4, fp4, rfl, o4, hF4, hb4⟩
  replace k1_h := Lib.hid (box_below k1_h.out hb4)
  replace k3_h := Lib.hid (box_below k3_h.out hb4)
  replace k4_h := Lib.hid (box_below k4_h.out hb4)
  have hbe := below_trans hbd_h.out hb4 hbd_h.out.size
  have hB4 := below_trans hB3_h.out hb4 hB3_h.out.size
  refine ⟨_, rfl, ⟨k3_h.out, k4_h.out⟩, ?_⟩
  have hze := hb4.size
  have o4_h := Lib.hid o4
  have hF4_h := Lib.hid hF4
  have hb4_h := Lib.hid hb4
  have hB4_h := Lib.hid hB4
  have hbe_h := Lib.hid hbe
  clear o4 hF4 hb4 hB4 hbe
  simp only [Act.put, List.setIfInBounds_toArray, List.set_cons_zero, List.set_cons_succ]
  refine' callH 3 (f := _) (args := _) rfl (by kernel_rfl) (by rfl) ?_ ?_; rotate_left 2; · (go_simp; first | done | with_reducible rfl | (constructor <;> with_reducible rfl))
  refine (hIa_h.out _ _ w4 (hO1_h.out w4 hbe_h.out)).mono ?_
  rintro e w5 ⟨v5, fp5, rfl, o5, hF5, hb5⟩
  replace k1_h := Lib.hid (box_below k1_h.out hb5)
  replace k3_h := Lib.hid (box_below k3_h.out hb5)
  replace k4_h := Lib.hid (box_below k4_h.out hb5)
  have hB5 := below_trans hB4_h.out hb5 hB4_h.out.size
  have o6 := o4_h.out.below hb5
  refine ⟨_, rfl, ⟨k3_h.out, k4_h.out⟩, ?_⟩
  have hzf := hb5.size
  have o5_h := Lib.hid o5
  have hF5_h := Lib.hid hF5
  have hb5_h := Lib.hid hb5
  have hB5_h := Lib.hid hB5
  have o6_h := Lib.hid o6
  clear o5 hF5 hb5 hB5 o6
  simp only [Act.put, List.setIfInBounds_toArray, List.set_cons_zero, List.set_cons_succ]
  refine' callH 4 (f := _) (args := _) rfl (by kernel_rfl) (by rfl) ?_ ?_; rotate_left 2; · (go_simp; first | done | with_reducible rfl | (constructor <;> with_reducible rfl))
  refine (tmSeq_any o6_h.out.rd o5_h.out.rd (by omega) (by omega)).mono ?_
  rintro e w6 ⟨v6, fp6, rfl, ⟨A6, c6, rfl, hN6, rfl⟩, hF6, hb6⟩
  replace k1_h := Lib.hid (box_below k1_h.out hb6)
  replace k3_h := Lib.hid (box_below k3_h.out hb6)
  replace k4_h := Lib.hid (box_below k4_h.out hb6)
  have hB6 := below_trans hB5_h.out hb6 hB5_h.out.size
  have hz0 := hz_h.out
  have hz20 := hz2_h.out
  obtain ⟨s1, s2⟩ := set1 k1_h.out (.slice A6 (joinOf 15 Mb Ma).length c6)
  have k5 := box_keeps k3_h.out s2 (by omega)
  have k6 := box_keeps k4_h.out s2 (by omega)
  have hB7 := below_keeps hB6 s2 hB6.size (fun k hk => by omega)
  have hN7 := NS.keeps hN6 s2 (fun b hb e => by have := hF6 b hb; omega)
  have hF7 : FreshL w.heap.size (fpA A6) := fun b hb => by have := hF6 b hb; omega
  obtain ⟨k1_c, k1_f⟩ := bx1 k1_h.out
  refine ⟨_, rfl, ⟨k3_h.out, k4_h.out⟩, ?_⟩
  have s1_h := Lib.hid s1
  have s2_h := Lib.hid s2
  have k5_h := Lib.hid k5
  have k6_h := Lib.hid k6
  have hB6_h := Lib.hid hB6
  have hB7_h := Lib.hid hB7
  have hN6_h := Lib.hid hN6
  have hN7_h := Lib.hid hN7
  have hF6_h := Lib.hid hF6
  have hF7_h := Lib.hid hF7
  have hb6_h := Lib.hid hb6
  clear s1 s2 k5 k6 hB6 hB7 hN6 hN7 hF6 hF7 hb6
  clear hz0 hz20
  simp only [Act.put, List.setIfInBounds_toArray, List.set_cons_zero, List.set_cons_succ]
  refine oneH 5 rfl (by kernel_rfl) (by rfl) (fun K hK => ?_)
  go_simp
  refine hK _ _ ⟨k5_h.out, k6_h.out⟩ ?_
  clear hK K
  refine doneH (by kernel_rfl) ?_
  go_wp2_with (fail)
  refine bodyPost_ret (results_cell_row rfl _ _ (w.heap.size + 1) _ _ (0, 0) _ rfl s1_h.out Try.underlying30 rfl (by kernel_rfl)) rfl ?_
  exact ⟨_, fpA A6, rfl, ⟨A6, c6, rfl, hN7_h.out, rfl⟩, hF7_h.out, hB7_h.out⟩

set_option maxRecDepth 8000 in
set_option maxHeartbeats 4000000 in
theorem tmMirror_par {a b : Tr} {v : Value} {fp : List Nat} {w : World} (hw : wt (.node true a b)) (hs : sz (.node true a b) ≤ 400) (h : OwTm w v (flat (.node true a b)) fp)
    (hIa : ∀ (v : Value) (fp : List Nat) (w : World), OwTm w v (flat a) fp → Calls Try.prog 67 #[v] w (RetTm w (flat (mir a)))) (hIb : ∀ (v : Value) (fp : List Nat) (w : World), OwTm w v (flat b) fp → Calls Try.prog 67 #[v] w (RetTm w (flat (mir b)))) :
    Calls Try.prog 67 #[v] w (RetTm w (flat (mir (.node true a b)))) := by
  obtain ⟨A, c, rfl, hN, rfl⟩ := h
  have hsn := sz_node true a b
  have e1 : flat (mir (.node true a b)) = joinOf 16 (flat (mir a)) (flat (mir b)) := flat_join true _ _
  rw [e1]
  obtain ⟨n, hn⟩ : ∃ n, n = (flat (.node true a b)).length := ⟨_, rfl⟩
  obtain ⟨W, hW⟩ : ∃ W, W = (w.alloc (.cells #[.slice A n c] tTerm)).alloc (.cells #[.slice none 0 0] tTerm) := ⟨_, rfl⟩
  obtain ⟨b0, k0, k1, hz⟩ := two_boxes w (.cells #[.slice A n c] tTerm) (.cells #[.slice none 0 0] tTerm)
  rw [← hW] at b0 k0 k1 hz
  have hN1 := hN.below b0
  have hT := tmTop_any (v := .agg #[.slice A n c]) (t := .node true a b) (w := W) ⟨A, c, by rw [hn], hN1, rfl⟩
  have e3 : topK (.node true a b) = 16 := rfl
  rw [e3] at hT
  have hP := fun W' (hb : Below W.heap.size W W') => tmParts_any (v := .agg #[.slice A n c]) (p := true) (a := a) (b := b) (w := W') hw hs ⟨A, c, by rw [hn], hN1.below hb, rfl⟩
  obtain ⟨La, hLa⟩ : ∃ La, La = flat a := ⟨_, rfl⟩
  obtain ⟨Lb, hLb⟩ : ∃ Lb, Lb = flat b := ⟨_, rfl⟩
  obtain ⟨Ma, hMa⟩ : ∃ La, La = flat (mir a) := ⟨_, rfl⟩
  obtain ⟨Mb, hMb⟩ : ∃ Lb, Lb = flat (mir b) := ⟨_, rfl⟩
  have hMal : Ma.length ≤ 400 := by rw [hMa]; show sz (mir a) ≤ 400; rw [mir_sz]; omega
  have hMbl : Mb.length ≤ 400 := by rw [hMb]; show sz (mir b) ≤ 400; rw [mir_sz]; omega
  rw [← hn, ← hMa, ← hMb]
  rw [← hLa, ← hLb] at hP
  rw [← hLa, ← hMa] at hIa
  rw [← hLb, ← hMb] at hIb
  clear hN hN1 hs hw hsn e1 e3
  have b0_h := Lib.hid b0
  have k0_h := Lib.hid k0
  have k1_h := Lib.hid k1
  have hz_h := Lib.hid hz
  have hT_h := Lib.hid hT
  have hP_h := Lib.hid hP
  have hIa_h := Lib.hid hIa
  have hIb_h := Lib.hid hIb
  have hLa_h := Lib.hid hLa
  have hLb_h := Lib.hid hLb
  have hMa_h := Lib.hid hMa
  have hMb_h := Lib.hid hMb
  have hn_h := Lib.hid hn
  clear b0 k0 k1 hz hT hP hIa hIb hLa hLb hMa hMb hn
  go_enter Try.func67, Try.ntmps67
  go_upto_region 1 with (fail)
  rw [← hW]
  clear hW
  obtain ⟨k0_c, k0_f⟩ := bx1 k0_h.out
  go_wp2_with (fail)
  refine (hT_h.out).mono ?_
  rintro e w1 ⟨rfl, hb1⟩
  clear k0_c k0_f
  replace k0_h := Lib.hid (box_below k0_h.out hb1)
  replace k1_h := Lib.hid (box_below k1_h.out hb1)
  obtain ⟨k0_c, k0_f⟩ := bx1 k0_h.out
  have hB1 := below_trans b0_h.out hb1 b0_h.out.size
  have hzb := hb1.size
  have hP1 := hP_h.out w1 hb1
  have hb1_h := Lib.hid hb1
  have hB1_h := Lib.hid hB1
  have hP1_h := Lib.hid hP1
  clear hb1 hB1 hP1
  go_wp2_with (fail)
  refine (hP1_h.out).mono ?_
  rintro e w2 ⟨v1, v2, fp1, fp2, rfl, ⟨A1, c1, rfl, hN1, rfl⟩, ⟨A2, c2, rfl, hN2, rfl⟩, hF1, hF2, -, hb2⟩
  obtain ⟨n1, hn1⟩ : ∃ n1, n1 = La.length := ⟨_, rfl⟩
  obtain ⟨n2, hn2⟩ : ∃ n2, n2 = Lb.length := ⟨_, rfl⟩
  rw [← hn1, ← hn2]
  clear k0_c k0_f
  replace k1_h := Lib.hid (box_below k1_h.out hb2)
  obtain ⟨W2, hW2⟩ : ∃ W2, W2 = (w2.alloc (.cells #[.slice A1 n1 c1] tTerm)).alloc (.cells #[.slice A2 n2 c2] tTerm) := ⟨_, rfl⟩
  obtain ⟨b2, k3, k4, hz2⟩ := two_boxes w2 (.cells #[.slice A1 n1 c1] tTerm) (.cells #[.slice A2 n2 c2] tTerm)
  rw [← hW2] at b2 k3 k4 hz2
  replace k1_h := Lib.hid (box_below k1_h.out b2)
  have hM1 := hN1.below b2
  have hM2 := hN2.below b2
  have hB2 := below_trans (below_trans hB1_h.out hb2 hB1_h.out.size) b2 (Nat.le_trans hB1_h.out.size hb2.size)
  have hO1 : ∀ W', Below W2.heap.size W2 W' → OwTm W' (.agg #[.slice A1 n1 c1]) La (fpA A1) := fun W' hb => ⟨A1, c1, by rw [hn1], hM1.below hb, rfl⟩
  have hO2 : ∀ W', Below W2.heap.size W2 W' → OwTm W' (.agg #[.slice A2 n2 c2]) Lb (fpA A2) := fun W' hb => ⟨A2, c2, by rw [hn2], hM2.below hb, rfl⟩
  clear hM1 hM2 hN1 hN2 hF1 hF2
  have hzc := hb2.size
  have hb2_h := Lib.hid hb2
  have k3_h := Lib.hid k3
  have k4_h := Lib.hid k4
  have hz2_h := Lib.hid hz2
  have hB2_h := Lib.hid hB2
  have hO1_h := Lib.hid hO1
  have hO2_h := Lib.hid hO2
  have b2_h := Lib.hid b2
  have hn1_h := Lib.hid hn1
  have hn2_h := Lib.hid hn2
  clear hb2 k3 k4 hz2 hB2 hO1 hO2 b2 hn1 hn2
  go_upto_region 5 with (fail)
  rw [← hW2]
  clear hW2
  go_wp2_with (fail)
  refine beginH (fun w' => w'.heap[w2.heap.size]? = some (.cells #[.slice A1 n1 c1] tTerm) ∧ w'.heap[w2.heap.size + 1]? = some (.cells #[.slice A2 n2 c2] tTerm)) (by kernel_rfl) ?_
  have hbd : Below W2.heap.size W2 W2.drew := below_drew (Below.refl _ _)
  generalize W2.drew = W3 at hbd ⊢
  replace k1_h := Lib.hid (box_below k1_h.out hbd)
  replace k3_h := Lib.hid (box_below k3_h.out hbd)
  replace k4_h := Lib.hid (box_below k4_h.out hbd)
  have hB3 := below_trans hB2_h.out hbd hB2_h.out.size
  have hzd := hbd.size
  have hB3_h := Lib.hid hB3
  have hbd_h := Lib.hid hbd
  clear hB3 hbd
  refine takeH 0 (v := ?_) rfl (by kernel_rfl) (by kernel_rfl) (by kernel_rfl) (fun _ _ _ h => h) ⟨k3_h.out, k4_h.out⟩ (by rfl) (fun W' hW' => ?_) ?_; rotate_left; · (obtain ⟨y0, y1⟩ := bx1 hW'.1; obtain ⟨y2, y3⟩ := bx1 hW'.2; clear hW'; go_simp; first | done | with_reducible rfl)
  simp only [Act.put, List.setIfInBounds_toArray, List.set_cons_zero, List.set_cons_succ]
  refine takeH 2 (v := ?_) rfl (by kernel_rfl) (by kernel_rfl) (by kernel_rfl) (fun _ _ _ h => h) ⟨k3_h.out, k4_h.out⟩ (by rfl) (fun W' hW' => ?_) ?_; rotate_left; · (obtain ⟨y0, y1⟩ := bx1 hW'.1; obtain ⟨y2, y3⟩ := bx1 hW'.2; clear hW'; go_simp; first | done | with_reducible rfl)
  simp only [Act.put, List.setIfInBounds_toArray, List.set_cons_zero, List.set_cons_succ]
  refine' callH 1 (f := _) (args := _) rfl (by kernel_rfl) (by rfl) ?_ ?_; rotate_left 2; · (go_simp; first | done | with_reducible rfl | (constructor <;> with_reducible rfl))
  refine (hIa_h.out _ _ W3 (hO1_h.out W3 hbd_h.out)).mono ?_
  rintro e w4 ⟨v4, fp4, rfl, o4, hF4, hb4⟩
  replace k1_h := Lib.hid (box_below k1_h.out hb4)
  replace k3_h := Lib.hid (box_below k3_h.out hb4)
  replace k4_h := Lib.hid (box_below k4_h.out hb4)
  have hbe := below_trans hbd_h.out hb4 hbd_h.out.size
  have hB4 := below_trans hB3_h.out hb4 hB3_h.out.size
  refine ⟨_, rfl, ⟨k3_h.out, k4_h.out⟩, ?_⟩
  have hze := hb4.size
  have o4_h := Lib.hid o4
  have hF4_h := Lib.hid hF4
  have hb4_h := Lib.hid hb4
  have hB4_h := Lib.hid hB4
  have hbe_h := Lib.hid hbe
  clear o4 hF4 hb4 hB4 hbe
  simp only [Act.put, List.setIfInBounds_toArray, List.set_cons_zero, List.set_cons_succ]
  refine' callH 3 (f := _) (args := _) rfl (by kernel_rfl) (by rfl) ?_ ?_; rotate_left 2; · (go_simp; first | done | with_reducible rfl | (constructor <;> with_reducible rfl))
  refine (hIb_h.out _ _ w4 (hO2_h.out w4 hbe_h.out)).mono ?_
  rintro e w5 ⟨v5, fp5, rfl, o5, hF5, hb5⟩
  replace k1_h := Lib.hid (box_below k1_h.out hb5)
  replace k3_h := Lib.hid (box_below k3_h.out hb5)
  replace k4_h := Lib.hid (box_below k4_h.out hb5)
  have hB5 := below_trans hB4_h.out hb5 hB4_h.out.size
  have o6 := o4_h.out.below hb5
  refine ⟨_, rfl, ⟨k3_h.out, k4_h.out⟩, ?_⟩
  have hzf := hb5.size
  have o5_h := Lib.hid o5
  have hF5_h := Lib.hid hF5
  have hb5_h := Lib.hid hb5
  have hB5_h := Lib.hid hB5
  have o6_h := Lib.hid o6
  clear o5 hF5 hb5 hB5 o6
  simp only [Act.put, List.setIfInBounds_toArray, List.set_cons_zero, List.set_cons_succ]
  refine' callH 4 (f := _) (args := _) rfl (by kernel_rfl) (by rfl) ?_ ?_; rotate_left 2; · (go_simp; first | done | with_reducible rfl | (constructor <;> with_reducible rfl))
  refine (tmPar_any o6_h.out.rd o5_h.out.rd (by omega) (by omega)).mono ?_
  rintro e w6 ⟨v6, fp6, rfl, ⟨A6, c6, rfl, hN6, rfl⟩, hF6, hb6⟩
  replace k1_h := Lib.hid (box_below k1_h.out hb6)
  replace k3_h := Lib.hid (box_below k3_h.out hb6)
  replace k4_h := Lib.hid (box_below k4_h.out hb6)
  have hB6 := below_trans hB5_h.out hb6 hB5_h.out.size
  have hz0 := hz_h.out
  have hz20 := hz2_h.out
  obtain ⟨s1, s2⟩ := set1 k1_h.out (.slice A6 (joinOf 16 Ma Mb).length c6)
  have k5 := box_keeps k3_h.out s2 (by omega)
  have k6 := box_keeps k4_h.out s2 (by omega)
  have hB7 := below_keeps hB6 s2 hB6.size (fun k hk => by omega)
  have hN7 := NS.keeps hN6 s2 (fun b hb e => by have := hF6 b hb; omega)
  have hF7 : FreshL w.heap.size (fpA A6) := fun b hb => by have := hF6 b hb; omega
  obtain ⟨k1_c, k1_f⟩ := bx1 k1_h.out
  refine ⟨_, rfl, ⟨k3_h.out, k4_h.out⟩, ?_⟩
  have s1_h := Lib.hid s1
  have s2_h := Lib.hid s2
  have k5_h := Lib.hid k5
  have k6_h := Lib.hid k6
  have hB6_h := Lib.hid hB6
  have hB7_h := Lib.hid hB7
  have hN6_h := Lib.hid hN6
  have hN7_h := Lib.hid hN7
  have hF6_h := Lib.hid hF6
  have hF7_h := Lib.hid hF7
  have hb6_h := Lib.hid hb6
  clear s1 s2 k5 k6 hB6 hB7 hN6 hN7 hF6 hF7 hb6
  clear hz0 hz20
  simp only [Act.put, List.setIfInBounds_toArray, List.set_cons_zero, List.set_cons_succ]
  refine oneH 5 rfl (by kernel_rfl) (by rfl) (fun K hK => ?_)
  go_simp
  refine hK _ _ ⟨k5_h.out, k6_h.out⟩ ?_
  clear hK K
  refine doneH (by kernel_rfl) ?_
  go_wp2_with (fail)
  refine bodyPost_ret (results_cell_row rfl _ _ (w.heap.size + 1) _ _ (0, 0) _ rfl s1_h.out Try.underlying30 rfl (by kernel_rfl)) rfl ?_
  exact ⟨_, fpA A6, rfl, ⟨A6, c6, rfl, hN7_h.out, rfl⟩, hF7_h.out, hB7_h.out⟩

theorem tmMirror_any : ∀ (t : Tr), wt t → sz t ≤ 400 → ∀ (v : Value) (fp : List Nat) (w : World), OwTm w v (flat t) fp → Calls Try.prog 67 #[v] w (RetTm w (flat (mir t)))
  | .leaf (_, _, _), hw, _, _, _, _, h => tmMirror_leaf hw h
  | .node p a b, hw, hs, v, fp, w, h => by
    have ⟨hwa, hwb, _⟩ := hw
    have hsn := sz_node p a b
    have hIa := tmMirror_any a hwa (by omega)
    have hIb := tmMirror_any b hwb (by omega)
    cases p
    · exact tmMirror_seq hw hs h hIa hIb
    · exact tmMirror_par hw hs h hIa hIb
end Go.Proofs.Ytlmnmdahphahfaa
