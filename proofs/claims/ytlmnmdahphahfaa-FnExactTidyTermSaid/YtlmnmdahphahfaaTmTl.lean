/-
  THE WALKS: slices of terms; tmIsId, tmId, tmFactors of the reference.
-/
import Derived.Test.YtlmnmdahphahfaaTmMj
namespace Go.Proofs.Ytlmnmdahphahfaa
open Go.RowKit

theorem info_term : (Try.prog.info? tTerm).map (fun i => (i.zero, i.size, i.bytes)) = some (some (.agg #[.slice none 0 0]), 1, 24) := by kernel_rfl
theorem nd_ne_term : ¬ tNd = tTerm := by decide
def fpV : Value → List Nat
  | .slice A _ _ => fpA A
  | _ => []
theorem Sl.apart_ty {w : World} {e e' : TypeId} {sz sz' n n' c c' : Nat} {A A' : Option Addr} {xs xs' : List Value} (h : Sl w e sz A n c xs) (h' : Sl w e' sz' A' n' c' xs') (hne : ¬ e = e') : ∀ b, b ∈ fpA A → ¬ b ∈ fpA A' := by
  intro b hb hb'
  rcases h.2.2.2 with ⟨rfl, _⟩ | ⟨g, off, cur, rfl, hg, _⟩
  · cases hb
  · rcases h'.2.2.2 with ⟨rfl, _⟩ | ⟨g', off', cur', rfl, hg', _⟩
    · cases hb'
    · have e1 : b = g := by simpa using hb
      have e2 : b = g' := by simpa using hb'
      subst e1; subst e2
      rw [hg] at hg'
      have := Option.some.inj hg'
      injection this with _ h2 _
      exact hne h2
/-- Terms, each of the program's own. -/
structure OwTs (w : World) (vs : List Value) (ts : List Tr) : Prop where
  len : vs.length = ts.length
  at_ : ∀ (j : Nat) (t : Tr), ts[j]? = some t → ∃ A c, vs[j]? = some (Value.slice A (flat t).length c) ∧ NS w A c (flat t)
section
variable {w w' : World} {vs vs' : List Value} {ts ts' : List Tr}
theorem OwTs.below (h : OwTs w vs ts) (hb : Below w.heap.size w w') : OwTs w' vs ts := ⟨h.len, fun j t hj => by
  obtain ⟨A, c, h1, h2⟩ := h.at_ j t hj; exact ⟨A, c, h1, h2.below hb⟩⟩
theorem OwTs.mem (h : OwTs w vs ts) {u : Value} (hu : u ∈ vs) : ∃ t A c, t ∈ ts ∧ u = .slice A (flat t).length c ∧ NS w A c (flat t) := by
  obtain ⟨j, hj⟩ := List.mem_iff_getElem?.1 hu
  have hjl := (List.getElem?_eq_some_iff.1 hj).1
  obtain ⟨t, ht⟩ : ∃ t, ts[j]? = some t := ⟨_, List.getElem?_eq_getElem (by rw [← h.len]; exact hjl)⟩
  obtain ⟨A, c, h1, h2⟩ := h.at_ j t ht
  rw [hj] at h1
  exact ⟨t, A, c, List.mem_of_getElem? ht, Option.some.inj h1, h2⟩
theorem OwTs.one_cell (h : OwTs w vs ts) : ∀ u ∈ vs, u.oneCell' = true := fun u hu => by
  obtain ⟨t, A, c, -, rfl, -⟩ := h.mem hu; rfl
/-- The blocks of the terms are none of a slice of terms. -/
theorem OwTs.apart (h : OwTs w vs ts) {A : Option Addr} {n c : Nat} {xs : List Value} (hs : Sl w tTerm 1 A n c xs) : ∀ b, (∃ u ∈ vs, b ∈ fpV u) → ¬ b ∈ fpA A := by
  rintro b ⟨u, hu, hb⟩
  obtain ⟨t, A', c', -, rfl, h2⟩ := h.mem hu
  exact Sl.apart_ty h2 hs nd_ne_term b hb
theorem OwTs.keeps (h : OwTs w vs ts) {S : Nat → Prop} (hk : Keeps S w w') (hS : ∀ b, (∃ u ∈ vs, b ∈ fpV u) → ¬ S b) : OwTs w' vs ts := ⟨h.len, fun j t hj => by
  obtain ⟨A, c, h1, h2⟩ := h.at_ j t hj
  exact ⟨A, c, h1, h2.keeps hk fun b hb => hS b ⟨_, List.mem_of_getElem? h1, hb⟩⟩⟩
theorem OwTs.append (h : OwTs w vs ts) (h' : OwTs w vs' ts') : OwTs w (vs ++ vs') (ts ++ ts') := ⟨by simp [h.len, h'.len], fun j t hj => by
  by_cases hl : j < ts.length
  · rw [List.getElem?_append_left hl] at hj
    obtain ⟨A, c, h1, h2⟩ := h.at_ j t hj
    exact ⟨A, c, by rw [List.getElem?_append_left (by rw [h.len]; exact hl)]; exact h1, h2⟩
  · rw [List.getElem?_append_right (by omega)] at hj
    obtain ⟨A, c, h1, h2⟩ := h'.at_ _ t hj
    exact ⟨A, c, by rw [List.getElem?_append_right (by rw [h.len]; omega), h.len]; exact h1, h2⟩⟩
theorem OwTs.one {t : Tr} {A : Option Addr} {n c : Nat} (hn : n = (flat t).length) (h : NS w A c (flat t)) : OwTs w [.slice A n c] [t] := ⟨rfl, fun j u hj => by
  cases j with
  | zero => obtain rfl : t = u := by simpa using hj
            exact ⟨A, c, by rw [hn]; rfl, h⟩
  | succ j => simp at hj⟩
end
/-- A new slice of terms: each lies in the blocks fp or is new. -/
def RetFs (ts : List Tr) (fp : List Nat) (w : World) (e : Ending) (w' : World) : Prop :=
  ∃ A1 c1 m vs, e = .returned (.slice A1 m c1) ∧ m = ts.length ∧ Sl w' tTerm 1 A1 m c1 vs ∧ OwTs w' vs ts ∧ FreshL w.heap.size (fpA A1) ∧ (∀ u ∈ vs, ∀ b ∈ fpV u, b ∈ fp ∨ w.heap.size ≤ b) ∧ Below w.heap.size w w'
theorem leaf_kd {n : Nd} (h : wt (.leaf n)) (p : Bool) : topK (.leaf n) ≠ kd p := by
  have := leaf_top h
  show n.1 ≠ kd p
  cases p <;> simp only [kd, Bool.false_eq_true, if_false, if_true] <;> omega

set_option maxRecDepth 8000 in
set_option maxHeartbeats 2000000 in
theorem tmFactors_leafS {nd : Nd} {v : Value} {fp : List Nat} {w : World} (hw : wt (.leaf nd)) (h : OwTm w v (flat (.leaf nd)) fp) :
    Calls Try.prog 100 #[v, .int .i64 15] w (RetFs [(.leaf nd)] fp w) := by
  obtain ⟨A, c, rfl, hN, rfl⟩ := h
  obtain ⟨n, hn⟩ : ∃ n, n = (flat (.leaf nd)).length := ⟨_, rfl⟩
  rw [← hn]
  obtain ⟨W, hW⟩ : ∃ W, W = w.alloc (.cells #[.slice A n c] tTerm) := ⟨_, rfl⟩
  have b0 := below_alloc w (.cells #[.slice A n c] tTerm)
  have k0 := heap_alloc_new w (.cells #[.slice A n c] tTerm)
  rw [← hW] at b0 k0
  have hN1 := hN.below b0
  have hT := tmTop_any (v := .agg #[.slice A n c]) (t := (.leaf nd)) (w := W) ⟨A, c, by rw [hn], hN1, rfl⟩
  have hne : topK (.leaf nd) ≠ 15 := leaf_kd hw false
  obtain ⟨K, hK⟩ : ∃ K, K = topK (.leaf nd) := ⟨_, rfl⟩
  rw [← hK] at hT hne
  have hne2 : (K != 15) = true := by simpa using hne
  clear hN
  have b0_h := Lib.hid b0
  have k0_h := Lib.hid k0
  have hT_h := Lib.hid hT
  have hn_h := Lib.hid hn
  have hK_h := Lib.hid hK
  have hN1_h := Lib.hid hN1
  have hne_h := Lib.hid hne
  clear b0 k0 hT hn hK hN1 hne
  go_enter Try.func100, Try.ntmps100
  go_wp2_with (fail)
  rw [← hW]
  clear hW
  obtain ⟨k0_c, k0_f⟩ := bx1 k0_h.out
  refine (hT_h.out).mono ?_
  rintro e w1 ⟨rfl, hb1⟩
  clear k0_c k0_f
  replace k0_h := Lib.hid (box_below k0_h.out hb1)
  obtain ⟨k0_c, k0_f⟩ := bx1 k0_h.out
  have hB1 := below_trans b0_h.out hb1 b0_h.out.size
  have hN2 := hN1_h.out.below hb1
  have hal := below_alloc w1 (.cells #[.slice A n c] tTerm)
  have hB2 := below_trans hB1 hal hB1.size
  have hsl := Sl.laid w1 tTerm 1 1 #[.slice A n c] (by unfold maxLen; omega) rfl
  have hN3 := hN2.below hal
  have hz := hB1.size
  have hb1_h := Lib.hid hb1
  have hB1_h := Lib.hid hB1
  have hN2_h := Lib.hid hN2
  have hal_h := Lib.hid hal
  have hB2_h := Lib.hid hB2
  have hsl_h := Lib.hid hsl
  have hN3_h := Lib.hid hN3
  clear hb1 hB1 hN2 hal hB2 hsl hN3
  go_wp2_with (fail)
  go_ret
  refine ⟨_, _, 1, [.slice A n c], rfl, rfl, hsl_h.out, OwTs.one (by rw [hn_h.out]) hN3_h.out, fun b hb => (by simp at hb; omega), fun u hu b hb => ?_, hB2_h.out⟩
  rw [List.mem_singleton.1 hu] at hb
  exact .inl hb

set_option maxRecDepth 8000 in
set_option maxHeartbeats 2000000 in
theorem tmFactors_otherS {a b : Tr} {v : Value} {fp : List Nat} {w : World}  (h : OwTm w v (flat (.node true a b)) fp) :
    Calls Try.prog 100 #[v, .int .i64 15] w (RetFs [(.node true a b)] fp w) := by
  obtain ⟨A, c, rfl, hN, rfl⟩ := h
  obtain ⟨n, hn⟩ : ∃ n, n = (flat (.node true a b)).length := ⟨_, rfl⟩
  rw [← hn]
  obtain ⟨W, hW⟩ : ∃ W, W = w.alloc (.cells #[.slice A n c] tTerm) := ⟨_, rfl⟩
  have b0 := below_alloc w (.cells #[.slice A n c] tTerm)
  have k0 := heap_alloc_new w (.cells #[.slice A n c] tTerm)
  rw [← hW] at b0 k0
  have hN1 := hN.below b0
  have hT := tmTop_any (v := .agg #[.slice A n c]) (t := (.node true a b)) (w := W) ⟨A, c, by rw [hn], hN1, rfl⟩
  have hne : topK (.node true a b) ≠ 15 := by show (16 : Int) ≠ 15; decide
  obtain ⟨K, hK⟩ : ∃ K, K = topK (.node true a b) := ⟨_, rfl⟩
  rw [← hK] at hT hne
  have hne2 : (K != 15) = true := by simpa using hne
  clear hN
  have b0_h := Lib.hid b0
  have k0_h := Lib.hid k0
  have hT_h := Lib.hid hT
  have hn_h := Lib.hid hn
  have hK_h := Lib.hid hK
  have hN1_h := Lib.hid hN1
  have hne_h := Lib.hid hne
  clear b0 k0 hT hn hK hN1 hne
  go_enter Try.func100, Try.ntmps100
  go_wp2_with (fail)
  rw [← hW]
  clear hW
  obtain ⟨k0_c, k0_f⟩ := bx1 k0_h.out
  refine (hT_h.out).mono ?_
  rintro e w1 ⟨rfl, hb1⟩
  clear k0_c k0_f
  replace k0_h := Lib.hid (box_below k0_h.out hb1)
  obtain ⟨k0_c, k0_f⟩ := bx1 k0_h.out
  have hB1 := below_trans b0_h.out hb1 b0_h.out.size
  have hN2 := hN1_h.out.below hb1
  have hal := below_alloc w1 (.cells #[.slice A n c] tTerm)
  have hB2 := below_trans hB1 hal hB1.size
  have hsl := Sl.laid w1 tTerm 1 1 #[.slice A n c] (by unfold maxLen; omega) rfl
  have hN3 := hN2.below hal
  have hz := hB1.size
  have hb1_h := Lib.hid hb1
  have hB1_h := Lib.hid hB1
  have hN2_h := Lib.hid hN2
  have hal_h := Lib.hid hal
  have hB2_h := Lib.hid hB2
  have hsl_h := Lib.hid hsl
  have hN3_h := Lib.hid hN3
  clear hb1 hB1 hN2 hal hB2 hsl hN3
  go_wp2_with (fail)
  go_ret
  refine ⟨_, _, 1, [.slice A n c], rfl, rfl, hsl_h.out, OwTs.one (by rw [hn_h.out]) hN3_h.out, fun b hb => (by simp at hb; omega), fun u hu b hb => ?_, hB2_h.out⟩
  rw [List.mem_singleton.1 hu] at hb
  exact .inl hb

set_option maxRecDepth 8000 in
set_option maxHeartbeats 4000000 in
theorem tmFactors_nodeS {a b : Tr} {v : Value} {fp : List Nat} {w : World} (hw : wt (.node false a b)) (hs : sz (.node false a b) ≤ 400) (h : OwTm w v (flat (.node false a b)) fp)
    (hIa : ∀ (v : Value) (fp : List Nat) (w : World), OwTm w v (flat a) fp → Calls Try.prog 100 #[v, .int .i64 15] w (RetFs (factors false a) fp w))
    (hIb : ∀ (v : Value) (fp : List Nat) (w : World), OwTm w v (flat b) fp → Calls Try.prog 100 #[v, .int .i64 15] w (RetFs (factors false b) fp w)) :
    Calls Try.prog 100 #[v, .int .i64 15] w (RetFs (factors false (.node false a b)) fp w) := by
  obtain ⟨A, c, rfl, hN, rfl⟩ := h
  have hsn := sz_node false a b
  have e2 : factors false (.node false a b) = factors false a ++ factors false b := rfl
  have hla := factors_sz false a
  have hlb := factors_sz false b
  rw [e2]
  obtain ⟨n, hn⟩ : ∃ n, n = (flat (.node false a b)).length := ⟨_, rfl⟩
  obtain ⟨W, hW⟩ : ∃ W, W = w.alloc (.cells #[.slice A n c] tTerm) := ⟨_, rfl⟩
  have b0 := below_alloc w (.cells #[.slice A n c] tTerm)
  have k0 := heap_alloc_new w (.cells #[.slice A n c] tTerm)
  rw [← hW] at b0 k0
  have hN1 := hN.below b0
  have hT := tmTop_any (v := .agg #[.slice A n c]) (t := .node false a b) (w := W) ⟨A, c, by rw [hn], hN1, rfl⟩
  have e3 : topK (.node false a b) = 15 := rfl
  rw [e3] at hT
  have hP := fun W' (hb : Below W.heap.size W W') => tmParts_any (v := .agg #[.slice A n c]) (p := false) (a := a) (b := b) (w := W') hw hs ⟨A, c, by rw [hn], hN1.below hb, rfl⟩
  obtain ⟨La, hLa⟩ : ∃ La, La = flat a := ⟨_, rfl⟩
  obtain ⟨Lb, hLb⟩ : ∃ Lb, Lb = flat b := ⟨_, rfl⟩
  obtain ⟨Fa, hFa⟩ : ∃ La, La = factors false a := ⟨_, rfl⟩
  obtain ⟨Fb, hFb⟩ : ∃ Lb, Lb = factors false b := ⟨_, rfl⟩
  rw [← hn, ← hFa, ← hFb]
  rw [← hLa, ← hLb] at hP
  rw [← hLa, ← hFa] at hIa
  rw [← hLb, ← hFb] at hIb
  rw [← hFa] at hla
  rw [← hFb] at hlb
  unfold RetFs at hIa hIb
  have hla4 : Fa.length ≤ 401 := by omega
  have hlb4 : Fb.length ≤ 401 := by omega
  clear hN hN1 hs hw hsn e3 e2 hla hlb
  have b0_h := Lib.hid b0
  have k0_h := Lib.hid k0
  have hT_h := Lib.hid hT
  have hP_h := Lib.hid hP
  have hIa_h := Lib.hid hIa
  have hIb_h := Lib.hid hIb
  have hLa_h := Lib.hid hLa
  have hLb_h := Lib.hid hLb
  have hFa_h := Lib.hid hFa
  have hFb_h := Lib.hid hFb
  have hn_h := Lib.hid hn
  clear b0 k0 hT hP hIa hIb hLa hLb hFa hFb hn
  go_enter Try.func100, Try.ntmps100
  go_wp2_with (fail)
  rw [← hW]
  clear hW
  obtain ⟨k0_c, k0_f⟩ := bx1 k0_h.out
  refine (hT_h.out).mono ?_
  rintro e w1 ⟨rfl, hb1⟩
  clear k0_c k0_f
  replace k0_h := Lib.hid (box_below k0_h.out hb1)
  obtain ⟨k0_c, k0_f⟩ := bx1 k0_h.out
  have hB1 := below_trans b0_h.out hb1 b0_h.out.size
  have hP1 := hP_h.out w1 hb1
  have hb1_h := Lib.hid hb1
  have hB1_h := Lib.hid hB1
  have hP1_h := Lib.hid hP1
  clear hb1 hB1 hP1
  go_wp2_with (fail)
  refine (hP1_h.out).mono ?_
  rintro e w2 ⟨v1, v2, fp1, fp2, rfl, ⟨A1, c1, rfl, hN1, rfl⟩, ⟨A2, c2, rfl, hN2, rfl⟩, hF1, hF2, -, hb2⟩
  obtain ⟨n1, hn1⟩ : ∃ n1, n1 = La.length := ⟨_, rfl⟩
  obtain ⟨n2, hn2⟩ : ∃ n2, n2 = Lb.length := ⟨_, rfl⟩
  rw [← hn1, ← hn2]
  clear k0_c k0_f
  obtain ⟨W2, hW2⟩ : ∃ W2, W2 = (w2.alloc (.cells #[.slice A1 n1 c1] tTerm)).alloc (.cells #[.slice A2 n2 c2] tTerm) := ⟨_, rfl⟩
  obtain ⟨b2, k3, k4, hz2⟩ := two_boxes w2 (.cells #[.slice A1 n1 c1] tTerm) (.cells #[.slice A2 n2 c2] tTerm)
  rw [← hW2] at b2 k3 k4 hz2
  have hM1 := hN1.below b2
  have hM2 := hN2.below b2
  have hB2 := below_trans (below_trans hB1_h.out hb2 hB1_h.out.size) b2 (Nat.le_trans hB1_h.out.size hb2.size)
  have hO1 : ∀ W', Below W2.heap.size W2 W' → OwTm W' (.agg #[.slice A1 n1 c1]) La (fpA A1) := fun W' hb => ⟨A1, c1, by rw [hn1], hM1.below hb, rfl⟩
  have hO2 : ∀ W', Below W2.heap.size W2 W' → OwTm W' (.agg #[.slice A2 n2 c2]) Lb (fpA A2) := fun W' hb => ⟨A2, c2, by rw [hn2], hM2.below hb, rfl⟩
  have hG1 : ∀ b, b ∈ fpA A1 → w.heap.size ≤ b := fun b hb => Nat.le_trans hB1_h.out.size (hF1 b hb)
  have hG2 : ∀ b, b ∈ fpA A2 → w.heap.size ≤ b := fun b hb => Nat.le_trans hB1_h.out.size (hF2 b hb)
  clear hM1 hM2 hN1 hN2 hF1 hF2
  have hb2_h := Lib.hid hb2
  have k3_h := Lib.hid k3
  have k4_h := Lib.hid k4
  have hz2_h := Lib.hid hz2
  have hB2_h := Lib.hid hB2
  have hO1_h := Lib.hid hO1
  have hO2_h := Lib.hid hO2
  have b2_h := Lib.hid b2
  have hn1_h := Lib.hid hn1
  have hn2_h := Lib.hid hn2
  have hG1_h := Lib.hid hG1
  have hG2_h := Lib.hid hG2
  clear hb2 k3 k4 hz2 hB2 hO1 hO2 b2 hn1 hn2 hG1 hG2
  go_upto_region 4 with (fail)
  rw [← hW2]
  clear hW2
  refine beginH (fun w' => w'.heap[w2.heap.size]? = some (.cells #[.slice A1 n1 c1] tTerm) ∧ w'.heap[w2.heap.size + 1]? = some (.cells #[.slice A2 n2 c2] tTerm)) (by kernel_rfl) ?_
  have hbd : Below W2.heap.size W2 W2.drew := below_drew (Below.refl _ _)
  generalize W2.drew = W3 at hbd ⊢
  replace k3_h := Lib.hid (box_below k3_h.out hbd)
  replace k4_h := Lib.hid (box_below k4_h.out hbd)
  have hkW := box_lt k4_h.out
  have hB3 := below_trans hB2_h.out hbd hB2_h.out.size
  have hB3_h := Lib.hid hB3
  have hbd_h := Lib.hid hbd
  clear hB3 hbd
  refine takeH 0 (v := ?_) rfl (by kernel_rfl) (by kernel_rfl) (by kernel_rfl) (fun _ _ _ h => h) ⟨k3_h.out, k4_h.out⟩ (by rfl) (fun W' hW' => ?_) ?_; rotate_left; · (obtain ⟨y0, y1⟩ := bx1 hW'.1; obtain ⟨y2, y3⟩ := bx1 hW'.2; clear hW'; go_simp; first | done | with_reducible rfl)
  simp only [Act.put, List.setIfInBounds_toArray, List.set_cons_zero, List.set_cons_succ]
  refine takeH 1 (v := ?_) rfl (by kernel_rfl) (by kernel_rfl) (by kernel_rfl) (fun _ _ _ h => h) ⟨k3_h.out, k4_h.out⟩ (by rfl) (fun W' hW' => ?_) ?_; rotate_left; · (obtain ⟨y0, y1⟩ := bx1 hW'.1; obtain ⟨y2, y3⟩ := bx1 hW'.2; clear hW'; go_simp; first | done | with_reducible rfl)
  simp only [Act.put, List.setIfInBounds_toArray, List.set_cons_zero, List.set_cons_succ]
  refine takeH 3 (v := ?_) rfl (by kernel_rfl) (by kernel_rfl) (by kernel_rfl) (fun _ _ _ h => h) ⟨k3_h.out, k4_h.out⟩ (by rfl) (fun W' hW' => ?_) ?_; rotate_left; · (obtain ⟨y0, y1⟩ := bx1 hW'.1; obtain ⟨y2, y3⟩ := bx1 hW'.2; clear hW'; go_simp; first | done | with_reducible rfl)
  simp only [Act.put, List.setIfInBounds_toArray, List.set_cons_zero, List.set_cons_succ]
  refine takeH 4 (v := ?_) rfl (by kernel_rfl) (by kernel_rfl) (by kernel_rfl) (fun _ _ _ h => h) ⟨k3_h.out, k4_h.out⟩ (by rfl) (fun W' hW' => ?_) ?_; rotate_left; · (obtain ⟨y0, y1⟩ := bx1 hW'.1; obtain ⟨y2, y3⟩ := bx1 hW'.2; clear hW'; go_simp; first | done | with_reducible rfl)
  simp only [Act.put, List.setIfInBounds_toArray, List.set_cons_zero, List.set_cons_succ]
  refine' callH 2 (f := _) (args := _) rfl (by kernel_rfl) (by rfl) ?_ ?_; rotate_left 2; · (go_simp; first | done | with_reducible rfl | (constructor <;> with_reducible rfl))
  refine (hIa_h.out _ _ W3 (hO1_h.out W3 hbd_h.out)).mono ?_
  rintro e w4 ⟨A4, c4, m4, vs4, rfl, hm4, hN4, hT4, hF4, hG4, hb4⟩
  replace k3_h := Lib.hid (box_below k3_h.out hb4)
  replace k4_h := Lib.hid (box_below k4_h.out hb4)
  have hbe := below_trans hbd_h.out hb4 hbd_h.out.size
  have hB4 := below_trans hB3_h.out hb4 hB3_h.out.size
  refine ⟨_, rfl, ⟨k3_h.out, k4_h.out⟩, ?_⟩
  have hm4_h := Lib.hid hm4
  have hN4_h := Lib.hid hN4
  have hT4_h := Lib.hid hT4
  have hF4_h := Lib.hid hF4
  have hG4_h := Lib.hid hG4
  have hb4_h := Lib.hid hb4
  have hB4_h := Lib.hid hB4
  have hbe_h := Lib.hid hbe
  clear hm4 hN4 hT4 hF4 hG4 hb4 hB4 hbe
  simp only [Act.put, List.setIfInBounds_toArray, List.set_cons_zero, List.set_cons_succ]
  refine' callH 5 (f := _) (args := _) rfl (by kernel_rfl) (by rfl) ?_ ?_; rotate_left 2; · (go_simp; first | done | with_reducible rfl | (constructor <;> with_reducible rfl))
  refine (hIb_h.out _ _ w4 (hO2_h.out w4 hbe_h.out)).mono ?_
  rintro e w5 ⟨A5, c5, m5, vs5, rfl, hm5, hN5, hT5, hF5, hG5, hb5⟩
  replace k3_h := Lib.hid (box_below k3_h.out hb5)
  replace k4_h := Lib.hid (box_below k4_h.out hb5)
  have hB5 := below_trans hB4_h.out hb5 hB4_h.out.size
  have hN6 := hN4_h.out.below hb5
  have hT6 := hT4_h.out.below hb5
  have hl1 : m4 ≤ 401 := by rw [hm4_h.out]; exact hla4
  have hl2 : m5 ≤ 401 := by rw [hm5]; exact hlb4
  have hnl : vs5.length = m5 * 1 := by rw [hT5.len, hm5]; omega
  refine ⟨_, rfl, ⟨k3_h.out, k4_h.out⟩, ?_⟩
  have hm5_h := Lib.hid hm5
  have hN5_h := Lib.hid hN5
  have hT5_h := Lib.hid hT5
  have hF5_h := Lib.hid hF5
  have hG5_h := Lib.hid hG5
  have hb5_h := Lib.hid hb5
  have hB5_h := Lib.hid hB5
  have hN6_h := Lib.hid hN6
  have hT6_h := Lib.hid hT6
  have hnl_h := Lib.hid hnl
  clear hm5 hN5 hT5 hF5 hG5 hb5 hB5 hN6 hT6 hnl
  simp only [Act.put, List.setIfInBounds_toArray, List.set_cons_zero, List.set_cons_succ]
  refine appH 6 rfl (by kernel_rfl) (by rfl) _ _ _ rfl tTerm Try.underlying120 info_term rfl (by omega) rfl hN6_h.out rfl hnl_h.out (Sl.rdc hN5_h.out) hT5_h.out.one_cell (by unfold maxLen; omega) (by omega) ?_
  intro A6 c6 w6 hs6 hA6 hk6
  have hf4 := hF4_h.out
  have k5 := box_keeps k3_h.out hk6 (fun h => by have := hf4 _ h; omega)
  have k6 := box_keeps k4_h.out hk6 (fun h => by have := hf4 _ h; omega)
  have hB6 := below_keeps hB5_h.out hk6 hB5_h.out.size (fun k hk => by have := hf4 k hk; have := hB3_h.out.size; omega)
  have hT7 := hT6_h.out.keeps hk6 (fun b hb => hT6_h.out.apart hN6_h.out b hb)
  have hT8 := hT5_h.out.keeps hk6 (fun b hb => hT5_h.out.apart hN6_h.out b hb)
  have hT9 := hT7.append hT8
  refine ⟨⟨k5, k6⟩, ?_⟩
  have hs6_h := Lib.hid hs6
  have hA6_h := Lib.hid hA6
  have hk6_h := Lib.hid hk6
  have k5_h := Lib.hid k5
  have k6_h := Lib.hid k6
  have hB6_h := Lib.hid hB6
  have hT7_h := Lib.hid hT7
  have hT8_h := Lib.hid hT8
  have hT9_h := Lib.hid hT9
  clear hs6 hA6 hk6 k5 k6 hB6 hT7 hT8 hT9
  clear hf4
  simp only [Act.put, List.setIfInBounds_toArray, List.set_cons_zero, List.set_cons_succ]
  refine takeH 7 (v := ?_) rfl (by kernel_rfl) (by kernel_rfl) (by kernel_rfl) (fun _ _ _ h => h) ⟨k5_h.out, k6_h.out⟩ (by rfl) (fun W' hW' => ?_) ?_; rotate_left; · (skip; clear hW'; go_simp; first | done | with_reducible rfl)
  simp only [Act.put, List.setIfInBounds_toArray, List.set_cons_zero, List.set_cons_succ]
  refine doneH (by kernel_rfl) ?_
  go_wp2_with (fail)
  go_ret
  refine ⟨A6, c6, m4 + m5, vs4 ++ vs5, rfl, by rw [List.length_append, hm4_h.out, hm5_h.out], hs6_h.out, hT9_h.out, fun b hb => ?_, fun u hu b hb => ?_, hB6_h.out⟩
  · rcases hA6_h.out b hb with h | h
    · have := hF4_h.out b h; have := hB3_h.out.size; omega
    · have := hB5_h.out.size; omega
  · right
    rcases List.mem_append.1 hu with h | h
    · rcases hG4_h.out u h b hb with h | h
      · exact hG1_h.out b h
      · have := hB3_h.out.size; omega
    · rcases hG5_h.out u h b hb with h | h
      · exact hG2_h.out b h
      · have := hB4_h.out.size; omega

set_option maxRecDepth 8000 in
set_option maxHeartbeats 2000000 in
theorem tmFactors_leafP {nd : Nd} {v : Value} {fp : List Nat} {w : World} (hw : wt (.leaf nd)) (h : OwTm w v (flat (.leaf nd)) fp) :
    Calls Try.prog 100 #[v, .int .i64 16] w (RetFs [(.leaf nd)] fp w) := by
  obtain ⟨A, c, rfl, hN, rfl⟩ := h
  obtain ⟨n, hn⟩ : ∃ n, n = (flat (.leaf nd)).length := ⟨_, rfl⟩
  rw [← hn]
  obtain ⟨W, hW⟩ : ∃ W, W = w.alloc (.cells #[.slice A n c] tTerm) := ⟨_, rfl⟩
  have b0 := below_alloc w (.cells #[.slice A n c] tTerm)
  have k0 := heap_alloc_new w (.cells #[.slice A n c] tTerm)
  rw [← hW] at b0 k0
  have hN1 := hN.below b0
  have hT := tmTop_any (v := .agg #[.slice A n c]) (t := (.leaf nd)) (w := W) ⟨A, c, by rw [hn], hN1, rfl⟩
  have hne : topK (.leaf nd) ≠ 16 := leaf_kd hw true
  obtain ⟨K, hK⟩ : ∃ K, K = topK (.leaf nd) := ⟨_, rfl⟩
  rw [← hK] at hT hne
  have hne2 : (K != 16) = true := by simpa using hne
  clear hN
  have b0_h := Lib.hid b0
  have k0_h := Lib.hid k0
  have hT_h := Lib.hid hT
  have hn_h := Lib.hid hn
  have hK_h := Lib.hid hK
  have hN1_h := Lib.hid hN1
  have hne_h := Lib.hid hne
  clear b0 k0 hT hn hK hN1 hne
  go_enter Try.func100, Try.ntmps100
  go_wp2_with (fail)
  rw [← hW]
  clear hW
  obtain ⟨k0_c, k0_f⟩ := bx1 k0_h.out
  refine (hT_h.out).mono ?_
  rintro e w1 ⟨rfl, hb1⟩
  clear k0_c k0_f
  replace k0_h := Lib.hid (box_below k0_h.out hb1)
  obtain ⟨k0_c, k0_f⟩ := bx1 k0_h.out
  have hB1 := below_trans b0_h.out hb1 b0_h.out.size
  have hN2 := hN1_h.out.below hb1
  have hal := below_alloc w1 (.cells #[.slice A n c] tTerm)
  have hB2 := below_trans hB1 hal hB1.size
  have hsl := Sl.laid w1 tTerm 1 1 #[.slice A n c] (by unfold maxLen; omega) rfl
  have hN3 := hN2.below hal
  have hz := hB1.size
  have hb1_h := Lib.hid hb1
  have hB1_h := Lib.hid hB1
  have hN2_h := Lib.hid hN2
  have hal_h := Lib.hid hal
  have hB2_h := Lib.hid hB2
  have hsl_h := Lib.hid hsl
  have hN3_h := Lib.hid hN3
  clear hb1 hB1 hN2 hal hB2 hsl hN3
  go_wp2_with (fail)
  go_ret
  refine ⟨_, _, 1, [.slice A n c], rfl, rfl, hsl_h.out, OwTs.one (by rw [hn_h.out]) hN3_h.out, fun b hb => (by simp at hb; omega), fun u hu b hb => ?_, hB2_h.out⟩
  rw [List.mem_singleton.1 hu] at hb
  exact .inl hb

set_option maxRecDepth 8000 in
set_option maxHeartbeats 2000000 in
theorem tmFactors_otherP {a b : Tr} {v : Value} {fp : List Nat} {w : World}  (h : OwTm w v (flat (.node false a b)) fp) :
    Calls Try.prog 100 #[v, .int .i64 16] w (RetFs [(.node false a b)] fp w) := by
  obtain ⟨A, c, rfl, hN, rfl⟩ := h
  obtain ⟨n, hn⟩ : ∃ n, n = (flat (.node false a b)).length := ⟨_, rfl⟩
  rw [← hn]
  obtain ⟨W, hW⟩ : ∃ W, W = w.alloc (.cells #[.slice A n c] tTerm) := ⟨_, rfl⟩
  have b0 := below_alloc w (.cells #[.slice A n c] tTerm)
  have k0 := heap_alloc_new w (.cells #[.slice A n c] tTerm)
  rw [← hW] at b0 k0
  have hN1 := hN.below b0
  have hT := tmTop_any (v := .agg #[.slice A n c]) (t := (.node false a b)) (w := W) ⟨A, c, by rw [hn], hN1, rfl⟩
  have hne : topK (.node false a b) ≠ 16 := by show (15 : Int) ≠ 16; decide
  obtain ⟨K, hK⟩ : ∃ K, K = topK (.node false a b) := ⟨_, rfl⟩
  rw [← hK] at hT hne
  have hne2 : (K != 16) = true := by simpa using hne
  clear hN
  have b0_h := Lib.hid b0
  have k0_h := Lib.hid k0
  have hT_h := Lib.hid hT
  have hn_h := Lib.hid hn
  have hK_h := Lib.hid hK
  have hN1_h := Lib.hid hN1
  have hne_h := Lib.hid hne
  clear b0 k0 hT hn hK hN1 hne
  go_enter Try.func100, Try.ntmps100
  go_wp2_with (fail)
  rw [← hW]
  clear hW
  obtain ⟨k0_c, k0_f⟩ := bx1 k0_h.out
  refine (hT_h.out).mono ?_
  rintro e w1 ⟨rfl, hb1⟩
  clear k0_c k0_f
  replace k0_h := Lib.hid (box_below k0_h.out hb1)
  obtain ⟨k0_c, k0_f⟩ := bx1 k0_h.out
  have hB1 := below_trans b0_h.out hb1 b0_h.out.size
  have hN2 := hN1_h.out.below hb1
  have hal := below_alloc w1 (.cells #[.slice A n c] tTerm)
  have hB2 := below_trans hB1 hal hB1.size
  have hsl := Sl.laid w1 tTerm 1 1 #[.slice A n c] (by unfold maxLen; omega) rfl
  have hN3 := hN2.below hal
  have hz := hB1.size
  have hb1_h := Lib.hid hb1
  have hB1_h := Lib.hid hB1
  have hN2_h := Lib.hid hN2
  have hal_h := Lib.hid hal
  have hB2_h := Lib.hid hB2
  have hsl_h := Lib.hid hsl
  have hN3_h := Lib.hid hN3
  clear hb1 hB1 hN2 hal hB2 hsl hN3
  go_wp2_with (fail)
  go_ret
  refine ⟨_, _, 1, [.slice A n c], rfl, rfl, hsl_h.out, OwTs.one (by rw [hn_h.out]) hN3_h.out, fun b hb => (by simp at hb; omega), fun u hu b hb => ?_, hB2_h.out⟩
  rw [List.mem_singleton.1 hu] at hb
  exact .inl hb

set_option maxRecDepth 8000 in
set_option maxHeartbeats 4000000 in
theorem tmFactors_nodeP {a b : Tr} {v : Value} {fp : List Nat} {w : World} (hw : wt (.node true a b)) (hs : sz (.node true a b) ≤ 400) (h : OwTm w v (flat (.node true a b)) fp)
    (hIa : ∀ (v : Value) (fp : List Nat) (w : World), OwTm w v (flat a) fp → Calls Try.prog 100 #[v, .int .i64 16] w (RetFs (factors true a) fp w))
    (hIb : ∀ (v : Value) (fp : List Nat) (w : World), OwTm w v (flat b) fp → Calls Try.prog 100 #[v, .int .i64 16] w (RetFs (factors true b) fp w)) :
    Calls Try.prog 100 #[v, .int .i64 16] w (RetFs (factors true (.node true a b)) fp w) := by
  obtain ⟨A, c, rfl, hN, rfl⟩ := h
  have hsn := sz_node true a b
  have e2 : factors true (.node true a b) = factors true a ++ factors true b := rfl
  have hla := factors_sz true a
  have hlb := factors_sz true b
  rw [e2]
  obtain ⟨n, hn⟩ : ∃ n, n = (flat (.node true a b)).length := ⟨_, rfl⟩
  obtain ⟨W, hW⟩ : ∃ W, W = w.alloc (.cells #[.slice A n c] tTerm) := ⟨_, rfl⟩
  have b0 := below_alloc w (.cells #[.slice A n c] tTerm)
  have k0 := heap_alloc_new w (.cells #[.slice A n c] tTerm)
  rw [← hW] at b0 k0
  have hN1 := hN.below b0
  have hT := tmTop_any (v := .agg #[.slice A n c]) (t := .node true a b) (w := W) ⟨A, c, by rw [hn], hN1, rfl⟩
  have e3 : topK (.node true a b) = 16 := rfl
  rw [e3] at hT
  have hP := fun W' (hb : Below W.heap.size W W') => tmParts_any (v := .agg #[.slice A n c]) (p := true) (a := a) (b := b) (w := W') hw hs ⟨A, c, by rw [hn], hN1.below hb, rfl⟩
  obtain ⟨La, hLa⟩ : ∃ La, La = flat a := ⟨_, rfl⟩
  obtain ⟨Lb, hLb⟩ : ∃ Lb, Lb = flat b := ⟨_, rfl⟩
  obtain ⟨Fa, hFa⟩ : ∃ La, La = factors true a := ⟨_, rfl⟩
  obtain ⟨Fb, hFb⟩ : ∃ Lb, Lb = factors true b := ⟨_, rfl⟩
  rw [← hn, ← hFa, ← hFb]
  rw [← hLa, ← hLb] at hP
  rw [← hLa, ← hFa] at hIa
  rw [← hLb, ← hFb] at hIb
  rw [← hFa] at hla
  rw [← hFb] at hlb
  unfold RetFs at hIa hIb
  have hla4 : Fa.length ≤ 401 := by omega
  have hlb4 : Fb.length ≤ 401 := by omega
  clear hN hN1 hs hw hsn e3 e2 hla hlb
  have b0_h := Lib.hid b0
  have k0_h := Lib.hid k0
  have hT_h := Lib.hid hT
  have hP_h := Lib.hid hP
  have hIa_h := Lib.hid hIa
  have hIb_h := Lib.hid hIb
  have hLa_h := Lib.hid hLa
  have hLb_h := Lib.hid hLb
  have hFa_h := Lib.hid hFa
  have hFb_h := Lib.hid hFb
  have hn_h := Lib.hid hn
  clear b0 k0 hT hP hIa hIb hLa hLb hFa hFb hn
  go_enter Try.func100, Try.ntmps100
  go_wp2_with (fail)
  rw [← hW]
  clear hW
  obtain ⟨k0_c, k0_f⟩ := bx1 k0_h.out
  refine (hT_h.out).mono ?_
  rintro e w1 ⟨rfl, hb1⟩
  clear k0_c k0_f
  replace k0_h := Lib.hid (box_below k0_h.out hb1)
  obtain ⟨k0_c, k0_f⟩ := bx1 k0_h.out
  have hB1 := below_trans b0_h.out hb1 b0_h.out.size
  have hP1 := hP_h.out w1 hb1
  have hb1_h := Lib.hid hb1
  have hB1_h := Lib.hid hB1
  have hP1_h := Lib.hid hP1
  clear hb1 hB1 hP1
  go_wp2_with (fail)
  refine (hP1_h.out).mono ?_
  rintro e w2 ⟨v1, v2, fp1, fp2, rfl, ⟨A1, c1, rfl, hN1, rfl⟩, ⟨A2, c2, rfl, hN2, rfl⟩, hF1, hF2, -, hb2⟩
  obtain ⟨n1, hn1⟩ : ∃ n1, n1 = La.length := ⟨_, rfl⟩
  obtain ⟨n2, hn2⟩ : ∃ n2, n2 = Lb.length := ⟨_, rfl⟩
  rw [← hn1, ← hn2]
  clear k0_c k0_f
  obtain ⟨W2, hW2⟩ : ∃ W2, W2 = (w2.alloc (.cells #[.slice A1 n1 c1] tTerm)).alloc (.cells #[.slice A2 n2 c2] tTerm) := ⟨_, rfl⟩
  obtain ⟨b2, k3, k4, hz2⟩ := two_boxes w2 (.cells #[.slice A1 n1 c1] tTerm) (.cells #[.slice A2 n2 c2] tTerm)
  rw [← hW2] at b2 k3 k4 hz2
  have hM1 := hN1.below b2
  have hM2 := hN2.below b2
  have hB2 := below_trans (below_trans hB1_h.out hb2 hB1_h.out.size) b2 (Nat.le_trans hB1_h.out.size hb2.size)
  have hO1 : ∀ W', Below W2.heap.size W2 W' → OwTm W' (.agg #[.slice A1 n1 c1]) La (fpA A1) := fun W' hb => ⟨A1, c1, by rw [hn1], hM1.below hb, rfl⟩
  have hO2 : ∀ W', Below W2.heap.size W2 W' → OwTm W' (.agg #[.slice A2 n2 c2]) Lb (fpA A2) := fun W' hb => ⟨A2, c2, by rw [hn2], hM2.below hb, rfl⟩
  have hG1 : ∀ b, b ∈ fpA A1 → w.heap.size ≤ b := fun b hb => Nat.le_trans hB1_h.out.size (hF1 b hb)
  have hG2 : ∀ b, b ∈ fpA A2 → w.heap.size ≤ b := fun b hb => Nat.le_trans hB1_h.out.size (hF2 b hb)
  clear hM1 hM2 hN1 hN2 hF1 hF2
  have hb2_h := Lib.hid hb2
  have k3_h := Lib.hid k3
  have k4_h := Lib.hid k4
  have hz2_h := Lib.hid hz2
  have hB2_h := Lib.hid hB2
  have hO1_h := Lib.hid hO1
  have hO2_h := Lib.hid hO2
  have b2_h := Lib.hid b2
  have hn1_h := Lib.hid hn1
  have hn2_h := Lib.hid hn2
  have hG1_h := Lib.hid hG1
  have hG2_h := Lib.hid hG2
  clear hb2 k3 k4 hz2 hB2 hO1 hO2 b2 hn1 hn2 hG1 hG2
  go_upto_region 4 with (fail)
  rw [← hW2]
  clear hW2
  refine beginH (fun w' => w'.heap[w2.heap.size]? = some (.cells #[.slice A1 n1 c1] tTerm) ∧ w'.heap[w2.heap.size + 1]? = some (.cells #[.slice A2 n2 c2] tTerm)) (by kernel_rfl) ?_
  have hbd : Below W2.heap.size W2 W2.drew := below_drew (Below.refl _ _)
  generalize W2.drew = W3 at hbd ⊢
  replace k3_h := Lib.hid (box_below k3_h.out hbd)
  replace k4_h := Lib.hid (box_below k4_h.out hbd)
  have hkW := box_lt k4_h.out
  have hB3 := below_trans hB2_h.out hbd hB2_h.out.size
  have hB3_h := Lib.hid hB3
  have hbd_h := Lib.hid hbd
  clear hB3 hbd
  refine takeH 0 (v := ?_) rfl (by kernel_rfl) (by kernel_rfl) (by kernel_rfl) (fun _ _ _ h => h) ⟨k3_h.out, k4_h.out⟩ (by rfl) (fun W' hW' => ?_) ?_; rotate_left; · (obtain ⟨y0, y1⟩ := bx1 hW'.1; obtain ⟨y2, y3⟩ := bx1 hW'.2; clear hW'; go_simp; first | done | with_reducible rfl)
  simp only [Act.put, List.setIfInBounds_toArray, List.set_cons_zero, List.set_cons_succ]
  refine takeH 1 (v := ?_) rfl (by kernel_rfl) (by kernel_rfl) (by kernel_rfl) (fun _ _ _ h => h) ⟨k3_h.out, k4_h.out⟩ (by rfl) (fun W' hW' => ?_) ?_; rotate_left; · (obtain ⟨y0, y1⟩ := bx1 hW'.1; obtain ⟨y2, y3⟩ := bx1 hW'.2; clear hW'; go_simp; first | done | with_reducible rfl)
  simp only [Act.put, List.setIfInBounds_toArray, List.set_cons_zero, List.set_cons_succ]
  refine takeH 3 (v := ?_) rfl (by kernel_rfl) (by kernel_rfl) (by kernel_rfl) (fun _ _ _ h => h) ⟨k3_h.out, k4_h.out⟩ (by rfl) (fun W' hW' => ?_) ?_; rotate_left; · (obtain ⟨y0, y1⟩ := bx1 hW'.1; obtain ⟨y2, y3⟩ := bx1 hW'.2; clear hW'; go_simp; first | done | with_reducible rfl)
  simp only [Act.put, List.setIfInBounds_toArray, List.set_cons_zero, List.set_cons_succ]
  refine takeH 4 (v := ?_) rfl (by kernel_rfl) (by kernel_rfl) (by kernel_rfl) (fun _ _ _ h => h) ⟨k3_h.out, k4_h.out⟩ (by rfl) (fun W' hW' => ?_) ?_; rotate_left; · (obtain ⟨y0, y1⟩ := bx1 hW'.1; obtain ⟨y2, y3⟩ := bx1 hW'.2; clear hW'; go_simp; first | done | with_reducible rfl)
  simp only [Act.put, List.setIfInBounds_toArray, List.set_cons_zero, List.set_cons_succ]
  refine' callH 2 (f := _) (args := _) rfl (by kernel_rfl) (by rfl) ?_ ?_; rotate_left 2; · (go_simp; first | done | with_reducible rfl | (constructor <;> with_reducible rfl))
  refine (hIa_h.out _ _ W3 (hO1_h.out W3 hbd_h.out)).mono ?_
  rintro e w4 ⟨A4, c4, m4, vs4, rfl, hm4, hN4, hT4, hF4, hG4, hb4⟩
  replace k3_h := Lib.hid (box_below k3_h.out hb4)
  replace k4_h := Lib.hid (box_below k4_h.out hb4)
  have hbe := below_trans hbd_h.out hb4 hbd_h.out.size
  have hB4 := below_trans hB3_h.out hb4 hB3_h.out.size
  refine ⟨_, rfl, ⟨k3_h.out, k4_h.out⟩, ?_⟩
  have hm4_h := Lib.hid hm4
  have hN4_h := Lib.hid hN4
  have hT4_h := Lib.hid hT4
  have hF4_h := Lib.hid hF4
  have hG4_h := Lib.hid hG4
  have hb4_h := Lib.hid hb4
  have hB4_h := Lib.hid hB4
  have hbe_h := Lib.hid hbe
  clear hm4 hN4 hT4 hF4 hG4 hb4 hB4 hbe
  simp only [Act.put, List.setIfInBounds_toArray, List.set_cons_zero, List.set_cons_succ]
  refine' callH 5 (f := _) (args := _) rfl (by kernel_rfl) (by rfl) ?_ ?_; rotate_left 2; · (go_simp; first | done | with_reducible rfl | (constructor <;> with_reducible rfl))
  refine (hIb_h.out _ _ w4 (hO2_h.out w4 hbe_h.out)).mono ?_
  rintro e w5 ⟨A5, c5, m5, vs5, rfl, hm5, hN5, hT5, hF5, hG5, hb5⟩
  replace k3_h := Lib.hid (box_below k3_h.out hb5)
  replace k4_h := Lib.hid (box_below k4_h.out hb5)
  have hB5 := below_trans hB4_h.out hb5 hB4_h.out.size
  have hN6 := hN4_h.out.below hb5
  have hT6 := hT4_h.out.below hb5
  have hl1 : m4 ≤ 401 := by rw [hm4_h.out]; exact hla4
  have hl2 : m5 ≤ 401 := by rw [hm5]; exact hlb4
  have hnl : vs5.length = m5 * 1 := by rw [hT5.len, hm5]; omega
  refine ⟨_, rfl, ⟨k3_h.out, k4_h.out⟩, ?_⟩
  have hm5_h := Lib.hid hm5
  have hN5_h := Lib.hid hN5
  have hT5_h := Lib.hid hT5
  have hF5_h := Lib.hid hF5
  have hG5_h := Lib.hid hG5
  have hb5_h := Lib.hid hb5
  have hB5_h := Lib.hid hB5
  have hN6_h := Lib.hid hN6
  have hT6_h := Lib.hid hT6
  have hnl_h := Lib.hid hnl
  clear hm5 hN5 hT5 hF5 hG5 hb5 hB5 hN6 hT6 hnl
  simp only [Act.put, List.setIfInBounds_toArray, List.set_cons_zero, List.set_cons_succ]
  refine appH 6 rfl (by kernel_rfl) (by rfl) _ _ _ rfl tTerm Try.underlying120 info_term rfl (by omega) rfl hN6_h.out rfl hnl_h.out (Sl.rdc hN5_h.out) hT5_h.out.one_cell (by unfold maxLen; omega) (by omega) ?_
  intro A6 c6 w6 hs6 hA6 hk6
  have hf4 := hF4_h.out
  have k5 := box_keeps k3_h.out hk6 (fun h => by have := hf4 _ h; omega)
  have k6 := box_keeps k4_h.out hk6 (fun h => by have := hf4 _ h; omega)
  have hB6 := below_keeps hB5_h.out hk6 hB5_h.out.size (fun k hk => by have := hf4 k hk; have := hB3_h.out.size; omega)
  have hT7 := hT6_h.out.keeps hk6 (fun b hb => hT6_h.out.apart hN6_h.out b hb)
  have hT8 := hT5_h.out.keeps hk6 (fun b hb => hT5_h.out.apart hN6_h.out b hb)
  have hT9 := hT7.append hT8
  refine ⟨⟨k5, k6⟩, ?_⟩
  have hs6_h := Lib.hid hs6
  have hA6_h := Lib.hid hA6
  have hk6_h := Lib.hid hk6
  have k5_h := Lib.hid k5
  have k6_h := Lib.hid k6
  have hB6_h := Lib.hid hB6
  have hT7_h := Lib.hid hT7
  have hT8_h := Lib.hid hT8
  have hT9_h := Lib.hid hT9
  clear hs6 hA6 hk6 k5 k6 hB6 hT7 hT8 hT9
  clear hf4
  simp only [Act.put, List.setIfInBounds_toArray, List.set_cons_zero, List.set_cons_succ]
  refine takeH 7 (v := ?_) rfl (by kernel_rfl) (by kernel_rfl) (by kernel_rfl) (fun _ _ _ h => h) ⟨k5_h.out, k6_h.out⟩ (by rfl) (fun W' hW' => ?_) ?_; rotate_left; · (skip; clear hW'; go_simp; first | done | with_reducible rfl)
  simp only [Act.put, List.setIfInBounds_toArray, List.set_cons_zero, List.set_cons_succ]
  refine doneH (by kernel_rfl) ?_
  go_wp2_with (fail)
  go_ret
  refine ⟨A6, c6, m4 + m5, vs4 ++ vs5, rfl, by rw [List.length_append, hm4_h.out, hm5_h.out], hs6_h.out, hT9_h.out, fun b hb => ?_, fun u hu b hb => ?_, hB6_h.out⟩
  · rcases hA6_h.out b hb with h | h
    · have := hF4_h.out b h; have := hB3_h.out.size; omega
    · have := hB5_h.out.size; omega
  · right
    rcases List.mem_append.1 hu with h | h
    · rcases hG4_h.out u h b hb with h | h
      · exact hG1_h.out b h
      · have := hB3_h.out.size; omega
    · rcases hG5_h.out u h b hb with h | h
      · exact hG2_h.out b h
      · have := hB4_h.out.size; omega

theorem tmFactorsS_any : ∀ (t : Tr), wt t → sz t ≤ 400 → ∀ (v : Value) (fp : List Nat) (w : World), OwTm w v (flat t) fp → Calls Try.prog 100 #[v, .int .i64 15] w (RetFs (factors false t) fp w)
  | .leaf _, hw, _, _, _, _, h => tmFactors_leafS hw h
  | .node true _ _, _, _, _, _, _, h => tmFactors_otherS h
  | .node false a b, hw, hs, _, _, _, h => by
    have ⟨hwa, hwb, _⟩ := hw
    have hsn := sz_node false a b
    exact tmFactors_nodeS hw hs h (tmFactorsS_any a hwa (by omega)) (tmFactorsS_any b hwb (by omega))
theorem tmFactorsP_any : ∀ (t : Tr), wt t → sz t ≤ 400 → ∀ (v : Value) (fp : List Nat) (w : World), OwTm w v (flat t) fp → Calls Try.prog 100 #[v, .int .i64 16] w (RetFs (factors true t) fp w)
  | .leaf _, hw, _, _, _, _, h => tmFactors_leafP hw h
  | .node false _ _, _, _, _, _, _, h => tmFactors_otherP h
  | .node true a b, hw, hs, _, _, _, h => by
    have ⟨hwa, hwb, _⟩ := hw
    have hsn := sz_node true a b
    exact tmFactors_nodeP hw hs h (tmFactorsP_any a hwa (by omega)) (tmFactorsP_any b hwb (by omega))
end Go.Proofs.Ytlmnmdahphahfaa
