/-
  THE WALKS: tidy and TidyTerm of the program.
-/
import Derived.Test.YtlmnmdahphahfaaTmTj
import Derived.Test.YtlmnmdahphahfaaTmF
namespace Go.Proofs.Ytlmnmdahphahfaa
open Go.RowKit

set_option maxRecDepth 8000 in
set_option maxHeartbeats 4000000 in
theorem tidy_seq (a b : Tr) (w : World) (hIa : ∀ w, Calls Try.prog 74 #[trV a] w (TrA (tidy a) w)) (hIb : ∀ w, Calls Try.prog 74 #[trV b] w (TrA (tidy b) w))
    (hsa : sz (tidy a) ≤ 400) (hsb : sz (tidy b) ≤ 400) (_hwa : wt (tidy a)) (_hwb : wt (tidy b)) :
    Calls Try.prog 74 #[trV (.node false a b)] w (TrA (tidy (.node false a b)) w) := by
  have e1 : trV (.node false a b) = .iface tSeqT (.agg #[trV a, trV b]) := rfl
  have e2 : tidy (.node false a b) = tidyS (tidy a) (tidy b) := rfl
  have hJ := fun W => tidySeq_any (tidy a) (tidy b) W hsa hsb
  unfold TrA at hIa hIb hJ ⊢
  rw [e1, e2]
  obtain ⟨ta, pa, hva⟩ := trV_iface a
  obtain ⟨tb, pb, hvb⟩ := trV_iface b
  obtain ⟨ua, qa, hua⟩ := trV_iface (tidy a)
  obtain ⟨ub, qb, hub⟩ := trV_iface (tidy b)
  obtain ⟨V, hV⟩ : ∃ V, V = trV (tidyS (tidy a) (tidy b)) := ⟨_, rfl⟩
  rw [hva, hua] at hIa
  rw [hvb, hub] at hIb
  rw [hua, hub, ← hV] at hJ
  rw [hva, hvb, ← hV]
  obtain ⟨W, hW⟩ : ∃ W, W = w.alloc (.cells #[.iface ta pa, .iface tb pb] tSeqT) := ⟨_, rfl⟩
  have b0 := below_alloc w (.cells #[.iface ta pa, .iface tb pb] tSeqT)
  have k0 := heap_alloc_new w (.cells #[.iface ta pa, .iface tb pb] tSeqT)
  rw [← hW] at b0 k0
  clear e1 e2
  have b0_h := Lib.hid b0
  have k0_h := Lib.hid k0
  have hIa_h := Lib.hid hIa
  have hIb_h := Lib.hid hIb
  have hva_h := Lib.hid hva
  have hvb_h := Lib.hid hvb
  have hua_h := Lib.hid hua
  have hub_h := Lib.hid hub
  have hJ_h := Lib.hid hJ
  have hV_h := Lib.hid hV
  clear b0 k0 hIa hIb hva hvb hua hub hJ hV
  have as1 := as_seq_seq
  go_enter Try.func74, Try.ntmps74
  go_upto_region 4 with (fail)
  rw [← hW]
  clear hW
  refine beginH (fun w' => w'.heap[w.heap.size]? = some (.cells #[.iface ta pa, .iface tb pb] tSeqT)) (by kernel_rfl) ?_
  have hbd : Below W.heap.size W W.drew := below_drew (Below.refl _ _)
  generalize W.drew = W1 at hbd ⊢
  replace k0_h := Lib.hid (box_below k0_h.out hbd)
  have hB1 := below_trans b0_h.out hbd b0_h.out.size
  have hbd_h := Lib.hid hbd
  have hB1_h := Lib.hid hB1
  clear hbd hB1
  refine takeH 0 (v := ?_) rfl (by kernel_rfl) (by kernel_rfl) (by kernel_rfl) (fun _ _ _ h => h) k0_h.out (by rfl) (fun W' hW' => ?_) ?_; rotate_left; · (obtain ⟨⟨y0, y1⟩, y2, y3⟩ := box2 hW'; clear hW'; go_simp; first | done | with_reducible rfl)
  simp only [Act.put, List.setIfInBounds_toArray, List.set_cons_zero, List.set_cons_succ]
  refine takeH 1 (v := ?_) rfl (by kernel_rfl) (by kernel_rfl) (by kernel_rfl) (fun _ _ _ h => h) k0_h.out (by rfl) (fun W' hW' => ?_) ?_; rotate_left; · (obtain ⟨⟨y0, y1⟩, y2, y3⟩ := box2 hW'; clear hW'; go_simp; first | done | with_reducible rfl)
  simp only [Act.put, List.setIfInBounds_toArray, List.set_cons_zero, List.set_cons_succ]
  refine takeH 3 (v := ?_) rfl (by kernel_rfl) (by kernel_rfl) (by kernel_rfl) (fun _ _ _ h => h) k0_h.out (by rfl) (fun W' hW' => ?_) ?_; rotate_left; · (obtain ⟨⟨y0, y1⟩, y2, y3⟩ := box2 hW'; clear hW'; go_simp; first | done | with_reducible rfl)
  simp only [Act.put, List.setIfInBounds_toArray, List.set_cons_zero, List.set_cons_succ]
  refine takeH 4 (v := ?_) rfl (by kernel_rfl) (by kernel_rfl) (by kernel_rfl) (fun _ _ _ h => h) k0_h.out (by rfl) (fun W' hW' => ?_) ?_; rotate_left; · (obtain ⟨⟨y0, y1⟩, y2, y3⟩ := box2 hW'; clear hW'; go_simp; first | done | with_reducible rfl)
  simp only [Act.put, List.setIfInBounds_toArray, List.set_cons_zero, List.set_cons_succ]
  refine' callH 2 (f := _) (args := _) rfl (by kernel_rfl) (by rfl) ?_ ?_; rotate_left 2; · (go_simp; first | done | with_reducible rfl | (constructor <;> with_reducible rfl))
  refine (hIa_h.out _).mono ?_
  rintro e w2 ⟨rfl, hb2⟩
  replace k0_h := Lib.hid (box_below k0_h.out hb2)
  have hB2 := below_trans hB1_h.out hb2 hB1_h.out.size
  refine ⟨_, rfl, k0_h.out, ?_⟩
  have hb2_h := Lib.hid hb2
  have hB2_h := Lib.hid hB2
  clear hb2 hB2
  simp only [Act.put, List.setIfInBounds_toArray, List.set_cons_zero, List.set_cons_succ]
  refine' callH 5 (f := _) (args := _) rfl (by kernel_rfl) (by rfl) ?_ ?_; rotate_left 2; · (go_simp; first | done | with_reducible rfl | (constructor <;> with_reducible rfl))
  refine (hIb_h.out _).mono ?_
  rintro e w3 ⟨rfl, hb3⟩
  replace k0_h := Lib.hid (box_below k0_h.out hb3)
  have hB3 := below_trans hB2_h.out hb3 hB2_h.out.size
  refine ⟨_, rfl, k0_h.out, ?_⟩
  have hb3_h := Lib.hid hb3
  have hB3_h := Lib.hid hB3
  clear hb3 hB3
  simp only [Act.put, List.setIfInBounds_toArray, List.set_cons_zero, List.set_cons_succ]
  refine' callH 6 (f := _) (args := _) rfl (by kernel_rfl) (by rfl) ?_ ?_; rotate_left 2; · (go_simp; first | done | with_reducible rfl | (constructor <;> with_reducible rfl))
  refine (hJ_h.out _).mono ?_
  rintro e w4 ⟨rfl, hb4⟩
  replace k0_h := Lib.hid (box_below k0_h.out hb4)
  have hB4 := below_trans hB3_h.out hb4 hB3_h.out.size
  refine ⟨_, rfl, k0_h.out, ?_⟩
  have hb4_h := Lib.hid hb4
  have hB4_h := Lib.hid hB4
  clear hb4 hB4
  simp only [Act.put, List.setIfInBounds_toArray, List.set_cons_zero, List.set_cons_succ]
  refine takeH 7 (v := ?_) rfl (by kernel_rfl) (by kernel_rfl) (by kernel_rfl) (fun _ _ _ h => h) k0_h.out (by rfl) (fun W' hW' => ?_) ?_; rotate_left; · (skip; clear hW'; go_simp; first | done | with_reducible rfl)
  simp only [Act.put, List.setIfInBounds_toArray, List.set_cons_zero, List.set_cons_succ]
  refine doneH (by kernel_rfl) ?_
  go_wp2_with (fail)
  go_ret
  exact ⟨rfl, hB4_h.out⟩

set_option maxRecDepth 8000 in
set_option maxHeartbeats 4000000 in
theorem tidy_par (a b : Tr) (w : World) (hIa : ∀ w, Calls Try.prog 74 #[trV a] w (TrA (tidy a) w)) (hIb : ∀ w, Calls Try.prog 74 #[trV b] w (TrA (tidy b) w))
    (hsa : sz (tidy a) ≤ 400) (hsb : sz (tidy b) ≤ 400) (hwa : wt (tidy a)) (hwb : wt (tidy b)) :
    Calls Try.prog 74 #[trV (.node true a b)] w (TrA (tidy (.node true a b)) w) := by
  have e1 : trV (.node true a b) = .iface tParT (.agg #[trV a, trV b]) := rfl
  have e2 : tidy (.node true a b) = tidyP (tidy a) (tidy b) := rfl
  have hJ := fun W => tidyPar_any (tidy a) (tidy b) W hsa hsb hwa hwb
  unfold TrA at hIa hIb hJ ⊢
  rw [e1, e2]
  obtain ⟨ta, pa, hva⟩ := trV_iface a
  obtain ⟨tb, pb, hvb⟩ := trV_iface b
  obtain ⟨ua, qa, hua⟩ := trV_iface (tidy a)
  obtain ⟨ub, qb, hub⟩ := trV_iface (tidy b)
  obtain ⟨V, hV⟩ : ∃ V, V = trV (tidyP (tidy a) (tidy b)) := ⟨_, rfl⟩
  rw [hva, hua] at hIa
  rw [hvb, hub] at hIb
  rw [hua, hub, ← hV] at hJ
  rw [hva, hvb, ← hV]
  obtain ⟨W, hW⟩ : ∃ W, W = w.alloc (.cells #[.iface ta pa, .iface tb pb] tParT) := ⟨_, rfl⟩
  have b0 := below_alloc w (.cells #[.iface ta pa, .iface tb pb] tParT)
  have k0 := heap_alloc_new w (.cells #[.iface ta pa, .iface tb pb] tParT)
  rw [← hW] at b0 k0
  clear e1 e2
  have b0_h := Lib.hid b0
  have k0_h := Lib.hid k0
  have hIa_h := Lib.hid hIa
  have hIb_h := Lib.hid hIb
  have hva_h := Lib.hid hva
  have hvb_h := Lib.hid hvb
  have hua_h := Lib.hid hua
  have hub_h := Lib.hid hub
  have hJ_h := Lib.hid hJ
  have hV_h := Lib.hid hV
  clear b0 k0 hIa hIb hva hvb hua hub hJ hV
  have as1 := as_par_seq
  have as2 := as_par_par
  go_enter Try.func74, Try.ntmps74
  go_upto_region 7 with (fail)
  rw [← hW]
  clear hW
  refine beginH (fun w' => w'.heap[w.heap.size]? = some (.cells #[.iface ta pa, .iface tb pb] tParT)) (by kernel_rfl) ?_
  have hbd : Below W.heap.size W W.drew := below_drew (Below.refl _ _)
  generalize W.drew = W1 at hbd ⊢
  replace k0_h := Lib.hid (box_below k0_h.out hbd)
  have hB1 := below_trans b0_h.out hbd b0_h.out.size
  have hbd_h := Lib.hid hbd
  have hB1_h := Lib.hid hB1
  clear hbd hB1
  refine takeH 0 (v := ?_) rfl (by kernel_rfl) (by kernel_rfl) (by kernel_rfl) (fun _ _ _ h => h) k0_h.out (by rfl) (fun W' hW' => ?_) ?_; rotate_left; · (obtain ⟨⟨y0, y1⟩, y2, y3⟩ := box2 hW'; clear hW'; go_simp; first | done | with_reducible rfl)
  simp only [Act.put, List.setIfInBounds_toArray, List.set_cons_zero, List.set_cons_succ]
  refine takeH 1 (v := ?_) rfl (by kernel_rfl) (by kernel_rfl) (by kernel_rfl) (fun _ _ _ h => h) k0_h.out (by rfl) (fun W' hW' => ?_) ?_; rotate_left; · (obtain ⟨⟨y0, y1⟩, y2, y3⟩ := box2 hW'; clear hW'; go_simp; first | done | with_reducible rfl)
  simp only [Act.put, List.setIfInBounds_toArray, List.set_cons_zero, List.set_cons_succ]
  refine takeH 3 (v := ?_) rfl (by kernel_rfl) (by kernel_rfl) (by kernel_rfl) (fun _ _ _ h => h) k0_h.out (by rfl) (fun W' hW' => ?_) ?_; rotate_left; · (obtain ⟨⟨y0, y1⟩, y2, y3⟩ := box2 hW'; clear hW'; go_simp; first | done | with_reducible rfl)
  simp only [Act.put, List.setIfInBounds_toArray, List.set_cons_zero, List.set_cons_succ]
  refine takeH 4 (v := ?_) rfl (by kernel_rfl) (by kernel_rfl) (by kernel_rfl) (fun _ _ _ h => h) k0_h.out (by rfl) (fun W' hW' => ?_) ?_; rotate_left; · (obtain ⟨⟨y0, y1⟩, y2, y3⟩ := box2 hW'; clear hW'; go_simp; first | done | with_reducible rfl)
  simp only [Act.put, List.setIfInBounds_toArray, List.set_cons_zero, List.set_cons_succ]
  refine' callH 2 (f := _) (args := _) rfl (by kernel_rfl) (by rfl) ?_ ?_; rotate_left 2; · (go_simp; first | done | with_reducible rfl | (constructor <;> with_reducible rfl))
  refine (hIa_h.out _).mono ?_
  rintro e w2 ⟨rfl, hb2⟩
  replace k0_h := Lib.hid (box_below k0_h.out hb2)
  have hB2 := below_trans hB1_h.out hb2 hB1_h.out.size
  refine ⟨_, rfl, k0_h.out, ?_⟩
  have hb2_h := Lib.hid hb2
  have hB2_h := Lib.hid hB2
  clear hb2 hB2
  simp only [Act.put, List.setIfInBounds_toArray, List.set_cons_zero, List.set_cons_succ]
  refine' callH 5 (f := _) (args := _) rfl (by kernel_rfl) (by rfl) ?_ ?_; rotate_left 2; · (go_simp; first | done | with_reducible rfl | (constructor <;> with_reducible rfl))
  refine (hIb_h.out _).mono ?_
  rintro e w3 ⟨rfl, hb3⟩
  replace k0_h := Lib.hid (box_below k0_h.out hb3)
  have hB3 := below_trans hB2_h.out hb3 hB2_h.out.size
  refine ⟨_, rfl, k0_h.out, ?_⟩
  have hb3_h := Lib.hid hb3
  have hB3_h := Lib.hid hB3
  clear hb3 hB3
  simp only [Act.put, List.setIfInBounds_toArray, List.set_cons_zero, List.set_cons_succ]
  refine' callH 6 (f := _) (args := _) rfl (by kernel_rfl) (by rfl) ?_ ?_; rotate_left 2; · (go_simp; first | done | with_reducible rfl | (constructor <;> with_reducible rfl))
  refine (hJ_h.out _).mono ?_
  rintro e w4 ⟨rfl, hb4⟩
  replace k0_h := Lib.hid (box_below k0_h.out hb4)
  have hB4 := below_trans hB3_h.out hb4 hB3_h.out.size
  refine ⟨_, rfl, k0_h.out, ?_⟩
  have hb4_h := Lib.hid hb4
  have hB4_h := Lib.hid hB4
  clear hb4 hB4
  simp only [Act.put, List.setIfInBounds_toArray, List.set_cons_zero, List.set_cons_succ]
  refine takeH 7 (v := ?_) rfl (by kernel_rfl) (by kernel_rfl) (by kernel_rfl) (fun _ _ _ h => h) k0_h.out (by rfl) (fun W' hW' => ?_) ?_; rotate_left; · (skip; clear hW'; go_simp; first | done | with_reducible rfl)
  simp only [Act.put, List.setIfInBounds_toArray, List.set_cons_zero, List.set_cons_succ]
  refine doneH (by kernel_rfl) ?_
  go_wp2_with (fail)
  go_ret
  exact ⟨rfl, hB4_h.out⟩

set_option maxRecDepth 8000 in
set_option maxHeartbeats 2000000 in
theorem tidy_leaf (k x : Int) (s : ByteArray) (w : World) : Calls Try.prog 74 #[trV (.leaf (k, x, s))] w (TrA (tidy (.leaf (k, x, s))) w) := by
  have e1 : trV (.leaf (k, x, s)) = .iface tLeafT (.agg #[.int .i64 k, .int .i64 x, .string s]) := rfl
  have e2 : tidy (.leaf (k, x, s)) = .leaf (k, x, s) := rfl
  unfold TrA
  rw [e2, e1]
  have as1 := as_leaf_seq
  have as2 := as_leaf_par
  clear e1 e2
  go_enter Try.func74, Try.ntmps74
  go_wp2_with (fail)
  go_ret
  exact ⟨rfl, Below.refl _ _⟩
theorem tidy_any : ∀ (t : Tr), wt t → sz t ≤ 400 → ∀ (w : World), Calls Try.prog 74 #[trV t] w (TrA (tidy t) w)
  | .leaf (k, x, s), _, _, w => tidy_leaf k x s w
  | .node p a b, hw, hs, w => by
    have ⟨hwa, hwb, hj⟩ := hw
    have hsn := sz_node p a b
    have hIa := tidy_any a hwa (by omega)
    have hIb := tidy_any b hwb (by omega)
    obtain ⟨a1, -, a3⟩ := tidy_ok hwa
    obtain ⟨b1, -, b3⟩ := tidy_ok hwb
    cases p
    · exact tidy_seq a b w hIa hIb (by omega) (by omega) a1 b1
    · exact tidy_par a b w hIa hIb (by omega) (by omega) a1 b1

/-- The tidy form of a term. -/
def tdM (l : List Nd) : List Nd × Bool := match treeM l with | some t => (flat (tidy t), true) | none => ([], false)
theorem tdM_some {l : List Nd} {t : Tr} (h : treeM l = some t) : tdM l = (flat (tidy t), true) := by simp [tdM, h]
theorem tdM_none {l : List Nd} (h : treeM l = none) : tdM l = ([], false) := by simp [tdM, h]
theorem tdM_ok (l : List Nd) : OkN (tdM l).1 := by
  unfold tdM
  split
  · rename_i t h
    have := (tidy_ok (treeM_some h).2.1).2.2
    exact .of (by show sz (tidy t) ≤ _; have := (treeM_some h).2.2; omega)
  · exact .of (by simp)
theorem okM_flat {t : Tr} (h : wt t) (hs : sz t ≤ 400) : okM (flat t) = (flat t, true) := by
  unfold okM; rw [treeM_flat h hs]; rfl
set_option maxRecDepth 8000 in
set_option maxHeartbeats 2000000 in
theorem iTidyTerm_any {v : Value} {l : List Nd} {fp : List Nat} {w : World} (h : OwTm w v l fp) :
    Calls Try.prog 41 #[v] w (Ret2Tm (tdM l) w) := by
  obtain ⟨A, c, rfl, hN, rfl⟩ := h
  obtain ⟨n, hn⟩ : ∃ n, n = l.length := ⟨_, rfl⟩
  obtain ⟨W, hW⟩ : ∃ W, W = (w.alloc (.cells #[.slice A n c] tTerm)).alloc (.cells #[.slice none 0 0] tTerm) := ⟨_, rfl⟩
  obtain ⟨b0, k0, k1, hz⟩ := two_boxes w (.cells #[.slice A n c] tTerm) (.cells #[.slice none 0 0] tTerm)
  rw [← hW] at b0 k0 k1 hz
  have hN1 := hN.below b0
  have hC := isValid_any (v := .agg #[.slice A n c]) (l := l) (w := W) ⟨A, c, by rw [hn], hN1.rd⟩
  have hD := fun W' (hb : Below W.heap.size W W') (t : Tr) (hT : treeM l = some t) => treeOf_any A n c l t W' hn hT (hN1.rd.below hb)
  have hE := fun W' (t : Tr) (hT : treeM l = some t) => tidy_any t (treeM_some hT).2.1 (treeM_some hT).2.2 W'
  have hF := fun W' (t : Tr) (hT : treeM l = some t) => nodes_any (tidy t) (Nat.le_trans (tidy_ok (treeM_some hT).2.1).2.2 (treeM_some hT).2.2) W'
  have hO := fun (t : Tr) (hT : treeM l = some t) => okM_flat (tidy_ok (treeM_some hT).2.1).1 (Nat.le_trans (tidy_ok (treeM_some hT).2.1).2.2 (treeM_some hT).2.2)
  unfold TrA at hE
  rw [← hn]
  obtain ⟨T, hT⟩ : ∃ T, T = tdM l := ⟨_, rfl⟩
  rw [← hT]
  clear hN hN1
  have hC_h := Lib.hid hC
  have hn_h := Lib.hid hn
  have b0_h := Lib.hid b0
  have k0_h := Lib.hid k0
  have k1_h := Lib.hid k1
  have hz_h := Lib.hid hz
  have hT_h := Lib.hid hT
  have hD_h := Lib.hid hD
  have hE_h := Lib.hid hE
  have hF_h := Lib.hid hF
  have hO_h := Lib.hid hO
  clear hC hn b0 k0 k1 hz hT hD hE hF hO
  obtain ⟨k0_c, k0_f⟩ := bx1 k0_h.out
  go_enter Try.func41, Try.ntmps41
  go_upto_region 1 with (fail)
  rw [← hW]
  clear hW
  go_wp2_with (fail)
  refine (hC_h.out).mono ?_
  rintro e w1 ⟨b, rfl, hb, hb1⟩
  clear k0_c k0_f
  replace k0_h := Lib.hid (box_below k0_h.out hb1)
  replace k1_h := Lib.hid (box_below k1_h.out hb1)
  have hB1 := below_trans b0_h.out hb1 b0_h.out.size
  obtain ⟨k0_c, k0_f⟩ := bx1 k0_h.out
  obtain ⟨k1_c, k1_f⟩ := bx1 k1_h.out
  cases b
  · have hN : treeM l = none := by cases h : treeM l with | none => rfl | some t => rw [h] at hb; cases hb
    have hM0 : T = ([], false) := by rw [hT_h.out]; exact tdM_none hN
    obtain ⟨s1, s2⟩ := set1 k1_h.out (.slice none 0 0)
    have hBs := below_keeps hB1 s2 hB1.size (fun k hk => by omega)
    have hb_h := Lib.hid hb
    have hN_h := Lib.hid hN
    have hB1_h := Lib.hid hB1
    have hb1_h := Lib.hid hb1
    have hM0_h := Lib.hid hM0
    have s1_h := Lib.hid s1
    have s2_h := Lib.hid s2
    have hBs_h := Lib.hid hBs
    clear hb hN hB1 hb1 hM0 s1 s2 hBs
    go_wp2_with (fail)
    refine bodyPost_ret (results_cell_tmp rfl _ _ (w.heap.size + 1) _ _ (0, 0) _ rfl s1_h.out Try.underlying30 rfl (by kernel_rfl)) rfl ?_
    exact Ret2Tm.no hM0_h.out hBs_h.out
  · obtain ⟨t, hN⟩ : ∃ t, treeM l = some t := by cases h : treeM l with | none => rw [h] at hb; cases hb | some t => exact ⟨t, rfl⟩
    have hD2 := hD_h.out w1 hb1 t hN
    have hE2 := fun W' => hE_h.out W' t hN
    have hF2 := fun W' => hF_h.out W' t hN
    have hO2 := hO_h.out t hN
    obtain ⟨X, hX⟩ : ∃ X, X = flat (tidy t) := ⟨_, rfl⟩
    have hM1 : T = (X, true) := by rw [hT_h.out, tdM_some hN, hX]
    rw [← hX] at hF2 hO2
    have hme := fun W => nod_method (tidy t) W
    obtain ⟨F, hF⟩ : ∃ F, F = nodF (tidy t) := ⟨_, rfl⟩
    obtain ⟨Y, hY⟩ : ∃ F, F = nodX (tidy t) := ⟨_, rfl⟩
    rw [← hF, ← hY] at hme hF2
    obtain ⟨ta, pa, hva⟩ := trV_iface t
    obtain ⟨tb, pb, hvb⟩ := trV_iface (tidy t)
    rw [hva] at hD2 hE2
    rw [hvb] at hE2 hme
    unfold RetNs at hF2
    simp [callMethod, go_sem] at hme
    have hb_h := Lib.hid hb
    have hN_h := Lib.hid hN
    have hB1_h := Lib.hid hB1
    have hb1_h := Lib.hid hb1
    have hM1_h := Lib.hid hM1
    have hD2_h := Lib.hid hD2
    have hE2_h := Lib.hid hE2
    have hF2_h := Lib.hid hF2
    have hX_h := Lib.hid hX
    have hF_h := Lib.hid hF
    have hY_h := Lib.hid hY
    have hva_h := Lib.hid hva
    have hvb_h := Lib.hid hvb
    have hO2_h := Lib.hid hO2
    clear hb hN hB1 hb1 hM1 hD2 hE2 hF2 hX hF hY hva hvb hO2
    go_wp2_with (fail)
    refine (hD2_h.out).mono ?_
    rintro e w2 ⟨rfl, hb2⟩
    clear k0_c k0_f k1_c k1_f
    replace k1_h := Lib.hid (box_below k1_h.out hb2)
    have hB2 := below_trans hB1_h.out hb2 hB1_h.out.size
    have hb2_h := Lib.hid hb2
    have hB2_h := Lib.hid hB2
    clear hb2 hB2
    go_wp2_with (fail)
    refine (hE2_h.out _).mono ?_
    rintro e w3 ⟨rfl, hb3⟩
    replace k1_h := Lib.hid (box_below k1_h.out hb3)
    have hB3 := below_trans hB2_h.out hb3 hB2_h.out.size
    have hb3_h := Lib.hid hb3
    have hB3_h := Lib.hid hB3
    clear hb3 hB3
    go_wp2_with (fail)
    refine (hF2_h.out _).mono ?_
    rintro e w4 ⟨A1, c1, m1, rfl, hm1, hN4, hF4, hb4⟩
    clear hme
    replace k1_h := Lib.hid (box_below k1_h.out hb4)
    have hB4 := below_trans hB3_h.out hb4 hB3_h.out.size
    have hG := validTerm_any hN4 hm1
    rw [hO2_h.out] at hG
    have hb4_h := Lib.hid hb4
    have hB4_h := Lib.hid hB4
    have hm1_h := Lib.hid hm1
    have hN4_h := Lib.hid hN4
    have hF4_h := Lib.hid hF4
    have hG_h := Lib.hid hG
    clear hb4 hB4 hm1 hN4 hF4 hG
    go_wp2_with (fail)
    refine (hG_h.out).mono ?_
    rintro e w5 ⟨v5, fp5, rfl, ⟨A5, c5, rfl, hN5, rfl⟩, hF5, hb5⟩
    replace k1_h := Lib.hid (box_below k1_h.out hb5)
    have hB5 := below_trans hB4_h.out hb5 hB4_h.out.size
    have hF6 : ∀ b, b ∈ fpA A5 → w3.heap.size ≤ b := fun b hb => hF4_h.out b (hF5 b hb)
    obtain ⟨s1, s2⟩ := set1 k1_h.out (.slice A5 X.length c5)
    have hz1 := hz_h.out
    have hzb := hb1_h.out.size
    have hz2 := hb2_h.out.size
    have hz3 := hb3_h.out.size
    have hB6 := below_keeps hB5 s2 hB5.size (fun k hk => by omega)
    have hN6 := NS.keeps hN5 s2 (fun b hb e => by have := hF6 b hb; omega)
    have hF7 : FreshL w.heap.size (fpA A5) := fun b hb => by have := hF6 b hb; omega
    obtain ⟨k1_c, k1_f⟩ := bx1 k1_h.out
    have hb5_h := Lib.hid hb5
    have hB5_h := Lib.hid hB5
    have s1_h := Lib.hid s1
    have s2_h := Lib.hid s2
    have hB6_h := Lib.hid hB6
    have hN6_h := Lib.hid hN6
    have hF7_h := Lib.hid hF7
    have hN5_h := Lib.hid hN5
    have hF5_h := Lib.hid hF5
    have hF6_h := Lib.hid hF6
    have hz1_h := Lib.hid hz1
    have hzb_h := Lib.hid hzb
    have hz2_h := Lib.hid hz2
    have hz3_h := Lib.hid hz3
    clear hb5 hB5 s1 s2 hB6 hN6 hF7 hN5 hF5 hF6 hz1 hzb hz2 hz3
    go_wp2_with (fail)
    refine bodyPost_ret (results_cell_tmp rfl _ _ (w.heap.size + 1) _ _ (0, 0) _ rfl s1_h.out Try.underlying30 rfl (by kernel_rfl)) rfl ?_
    rw [hM1_h.out]
    exact ⟨_, fpA A5, rfl, ⟨A5, c5, rfl, hN6_h.out, rfl⟩, hF7_h.out, hB6_h.out⟩
end Go.Proofs.Ytlmnmdahphahfaa
