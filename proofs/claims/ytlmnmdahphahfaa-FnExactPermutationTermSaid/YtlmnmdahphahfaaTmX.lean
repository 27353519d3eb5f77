/-
  THE WALKS: joining of terms: the reference's tmJoin, tmSeq, tmPar, tmIf.
-/
import Derived.Test.YtlmnmdahphahfaaTmF
namespace Go.Proofs.Ytlmnmdahphahfaa
open Go.RowKit

theorem three_boxes (w : World) (o o' o'' : Obj) : Below w.heap.size w (((w.alloc o).alloc o').alloc o'') ∧ (((w.alloc o).alloc o').alloc o'').heap[w.heap.size]? = some o ∧ (((w.alloc o).alloc o').alloc o'').heap[w.heap.size + 1]? = some o' ∧ (((w.alloc o).alloc o').alloc o'').heap[w.heap.size + 2]? = some o'' ∧ (((w.alloc o).alloc o').alloc o'').heap.size = w.heap.size + 3 := by
  obtain ⟨b0, k0, k1, hz⟩ := two_boxes w o o'
  refine ⟨b0.alloc (by omega) _, box_below k0 (below_alloc _ _), box_below k1 (below_alloc _ _), ?_, by rw [World.size_alloc, hz]⟩
  have := heap_alloc_new ((w.alloc o).alloc o') o''
  rwa [hz] at this
/-- The node of a join. -/
def joinOf (k : Int) (a b : List Nd) : List Nd := a ++ b ++ [(k, 0, noName)]
set_option maxRecDepth 8000 in
set_option maxHeartbeats 2000000 in
theorem tmJoin_any {v v' : Value} {a b : List Nd} {w : World} (kind : Int) (h : RdTm w v a) (h' : RdTm w v' b) (ha : a.length ≤ 1048576) (hb : b.length ≤ 1048576) :
    Calls Try.prog 86 #[v, v', .int .i64 kind] w (RetTm w (joinOf kind a b)) := by
  obtain ⟨A, c, rfl, h⟩ := h
  obtain ⟨B, d, rfl, h'⟩ := h'
  obtain ⟨W, hW⟩ : ∃ W, W = ((w.alloc (.cells #[.slice A a.length c] tTerm)).alloc (.cells #[.slice B b.length d] tTerm)).alloc (.cells #[.slice none 0 0] tTerm) := ⟨_, rfl⟩
  obtain ⟨b0, k0, k1, k2, hz⟩ := three_boxes w (.cells #[.slice A a.length c] tTerm) (.cells #[.slice B b.length d] tTerm) (.cells #[.slice none 0 0] tTerm)
  rw [← hW] at b0 k0 k1 k2 hz
  have hs0 := Sl.laid W tNd 3 0 #[] (by unfold maxLen; omega) rfl
  have hal := below_alloc W (.cells #[] tNd)
  have hr := (h.below b0).below hal
  have hr0 := h'.below b0
  obtain ⟨m, hm⟩ : ∃ m, m = a.length := ⟨_, rfl⟩
  obtain ⟨n, hn⟩ : ∃ n, n = b.length := ⟨_, rfl⟩
  rw [← hm] at ha hW k0 ⊢
  rw [← hn] at hb hW k1 ⊢
  have hnl : (ncs a).length = m * 3 := by rw [ncs_length, hm]
  have hnl' : (ncs b).length = n * 3 := by rw [ncs_length, hn]
  have q0 := box_below k0 hal
  have q1 := box_below k1 hal
  have q2 := box_below k2 hal
  have hzW : (W.alloc (.cells #[] tNd)).heap.size = W.heap.size + 1 := by simp
  have b0_h := Lib.hid b0
  have hz_h := Lib.hid hz
  have hm_h := Lib.hid hm
  have hn_h := Lib.hid hn
  have hnl_h := Lib.hid hnl
  have hnl'_h := Lib.hid hnl'
  have hr_h := Lib.hid hr
  have hr0_h := Lib.hid hr0
  have q1_h := Lib.hid q1
  have q2_h := Lib.hid q2
  have k1_h := Lib.hid k1
  have k2_h := Lib.hid k2
  have hal_h := Lib.hid hal
  have hs0_h := Lib.hid hs0
  have hzW_h := Lib.hid hzW
  clear b0 hz hm hn hnl hnl' hr hr0 q1 q2 k1 k2 hal hs0 hzW
  clear h h'
  go_enter Try.func86, Try.ntmps86
  go_upto_region 1 with (fail)
  rw [← hW]
  clear hW
  obtain ⟨x0, x1⟩ := box1 q0
  have k0_h := Lib.hid k0
  have q0_h := Lib.hid q0
  clear k0 q0
  go_upto_region 2 with (at_builtin; refine wpList_append_Sl _ rfl _ _ _ rfl tNd Try.underlying28 info_nd rfl (by omega) rfl hs0_h.out rfl hnl_h.out hr_h.out (ncs_one a) (by unfold maxLen; omega) (by omega) ?_; intro A1 c1 w1 hs1 hA1 hk1)
  have hzz := hz_h.out
  have hz1 := hk1.size
  rw [World.size_alloc] at hz1 hA1
  have hsm : Sl w1 tNd 3 A1 m c1 (ncs a) := by
    have e0 : 0 + m = m := Nat.zero_add m
    rw [e0] at hs1
    exact hs1
  have hbk : Below W.heap.size W w1 := below_keeps hal_h.out hk1 (by rw [World.size_alloc]; omega) (fun k hk => by rcases (by simpa [fpA] using hk : k = W.heap.size) with rfl; omega)
  have p1 := box_below k1_h.out hbk
  have p2 := box_below k2_h.out hbk
  have hr3 : RdN w1 B b := hr0_h.out.below hbk
  have hA1' : ∀ x, x ∈ fpA A1 → W.heap.size ≤ x := fun x hx => by
    rcases hA1 x hx with h | h
    · have : x = W.heap.size := by simpa [fpA] using h
      omega
    · omega
  clear hA1 hk1 hs1 x0 x1 q0_h q1_h q2_h hr_h hs0_h hzW_h hal_h
  obtain ⟨y0, y1⟩ := box1 p1
  have hbk_h := Lib.hid hbk
  have hz1_h := Lib.hid hz1
  have p1_h := Lib.hid p1
  have p2_h := Lib.hid p2
  have hA1'_h := Lib.hid hA1'
  have hr3_h := Lib.hid hr3
  have hzz_h := Lib.hid hzz
  clear hbk hz1 p1 p2 hA1' hr3 hzz
  go_upto_region 3 with (at_builtin; refine wpList_append_Sl _ rfl _ _ _ rfl tNd Try.underlying28 info_nd rfl (by omega) rfl hsm rfl hnl'_h.out hr3_h.out (ncs_one b) (by unfold maxLen; omega) (by omega) ?_; intro A2 c2 w2 hs2 hA2 hk2)
  clear y0 y1
  have hz2 := hk2.size
  have hbk2 : Below W.heap.size W w2 := below_keeps hbk_h.out hk2 (by have := hz1_h.out; omega) (fun k hk => hA1'_h.out k hk)
  have p3 := box_below k2_h.out hbk2
  have hA2' : ∀ x, x ∈ fpA A2 → W.heap.size ≤ x := fun x hx => by
    rcases hA2 x hx with h | h
    · exact hA1'_h.out x h
    · have := hz1_h.out; omega
  have hal2 := below_alloc w2 (.cells #[.int .i64 kind, .int .i64 0, .string noName] tNd)
  have hsl := Sl.laid w2 tNd 3 1 #[.int .i64 kind, .int .i64 0, .string noName] (by unfold maxLen; omega) rfl
  have hrl : RdC (w2.alloc (.cells #[.int .i64 kind, .int .i64 0, .string noName] tNd)) (some ⟨w2.heap.size, 0, none⟩) (ncs [(kind, 0, noName)]) := hsl.rdc
  have hs2a := hs2.below hal2
  have p4 := box_below p3 hal2
  have hbk3 : Below W.heap.size W (w2.alloc (.cells #[.int .i64 kind, .int .i64 0, .string noName] tNd)) := below_trans hbk2 hal2 (by have := hz1_h.out; omega)
  have hz3 := hal2.size
  have p3_h := Lib.hid p3
  have p4_h := Lib.hid p4
  have hbk2_h := Lib.hid hbk2
  have hal2_h := Lib.hid hal2
  have hsl_h := Lib.hid hsl
  have hz2_h := Lib.hid hz2
  have hz3_h := Lib.hid hz3
  have hbk3_h := Lib.hid hbk3
  have hA2'_h := Lib.hid hA2'
  clear p3 p4 hbk2 hal2 hsl hz2 hz3 hbk3 hA2'
  clear hk2 hA2 hs2 hsm hr3_h hr0_h
  go_wp2_with (at_builtin; refine wpList_append_Sl _ rfl _ _ _ rfl tNd Try.underlying28 info_nd rfl (by omega) rfl hs2a rfl (m := 1) rfl hrl (ncs_one _) (by unfold maxLen; omega) (by omega) ?_; intro A3 c3 w3 hs3 hA3 hk3; have p5 := box_keeps p4_h.out hk3 (fun hx => by have := hA2'_h.out _ hx; have := hzz_h.out; omega); obtain ⟨y0, y1⟩ := bx1 p5)
  have hzz := hzz_h.out
  have hwz := b0_h.out.size
  have hl3 : m + n + 1 = (joinOf kind a b).length := by unfold joinOf; rw [List.length_append, List.length_append, ← hm_h.out, ← hn_h.out]; rfl
  have hs4 : NS w3 A3 c3 (joinOf kind a b) := by
    unfold NS joinOf
    rw [hl3] at hs3
    rw [ncs_append, ncs_append]
    exact hs3
  have hA3' : ∀ x, x ∈ fpA A3 → W.heap.size ≤ x := fun x hx => by
    rcases hA3 x hx with h | h
    · exact hA2'_h.out x h
    · exact Nat.le_trans hbk3_h.out.size h
  have hbk4 : Below W.heap.size W w3 := below_keeps hbk3_h.out hk3 hbk3_h.out.size (fun k hk => hA2'_h.out k hk)
  obtain ⟨r1, r2⟩ := set1 p5 (.slice A3 (m + n + 1) c3)
  have hB4 : Below w.heap.size w w3 := below_trans b0_h.out hbk4 hwz
  have hB5 := below_keeps hB4 r2 hB4.size (fun k hk => by omega)
  have hN5 := Sl.keeps hs4 r2 (fun x hx e => by have := hA3' x hx; omega)
  refine bodyPost_ret (results_cell_row rfl _ _ (w.heap.size + 2) _ _ (0, 0) _ rfl r1 Try.underlying30 rfl (by kernel_rfl)) rfl ?_
  exact ⟨_, fpA A3, rfl, ⟨A3, c3, by rw [hl3], hN5, rfl⟩, fun x hx => by have := hA3' x hx; omega, hB5⟩

set_option maxRecDepth 8000 in
theorem tmSeq_any {v v' : Value} {a b : List Nd} {w : World} (h : RdTm w v a) (h' : RdTm w v' b) (ha : a.length ≤ 1048576) (hb : b.length ≤ 1048576) :
    Calls Try.prog 64 #[v, v'] w (RetTm w (joinOf 15 a b)) := by
  obtain ⟨A, c, rfl, h⟩ := h
  obtain ⟨B, d, rfl, h'⟩ := h'
  obtain ⟨W, hW⟩ : ∃ W, W = ((w.alloc (.cells #[.slice A a.length c] tTerm)).alloc (.cells #[.slice B b.length d] tTerm)).alloc (.cells #[.slice none 0 0] tTerm) := ⟨_, rfl⟩
  obtain ⟨b0, k0, k1, k2, hz⟩ := three_boxes w (.cells #[.slice A a.length c] tTerm) (.cells #[.slice B b.length d] tTerm) (.cells #[.slice none 0 0] tTerm)
  rw [← hW] at b0 k0 k1 k2 hz
  have hC := tmJoin_any (v := .agg #[.slice A a.length c]) (v' := .agg #[.slice B b.length d]) (w := W) 15 ⟨A, c, rfl, h.below b0⟩ ⟨B, d, rfl, h'.below b0⟩ ha hb
  obtain ⟨m, hm⟩ : ∃ m, m = a.length := ⟨_, rfl⟩
  obtain ⟨n, hn⟩ : ∃ n, n = b.length := ⟨_, rfl⟩
  obtain ⟨l, hl⟩ : ∃ l, l = joinOf 15 a b := ⟨_, rfl⟩
  rw [← hm, ← hn, ← hl] at hC
  rw [← hm] at hW k0 ⊢
  rw [← hn] at hW k1 ⊢
  rw [← hl]
  clear h h' hm hn hl
  have b0_h := Lib.hid b0
  have hz_h := Lib.hid hz
  have k2_h := Lib.hid k2
  have hC_h := Lib.hid hC
  clear b0 hz k2 hC
  go_enter Try.func64, Try.ntmps64
  go_upto_region 1 with (fail)
  rw [← hW]
  clear hW
  obtain ⟨x0, x1⟩ := box1 k0
  obtain ⟨x2, x3⟩ := box1 k1
  have k0_h := Lib.hid k0
  have k1_h := Lib.hid k1
  clear k0 k1
  go_wp2_with (fail)
  refine (hC_h.out).mono ?_
  rintro e w1 ⟨v1, fp, rfl, ⟨A1, c1, rfl, hN, rfl⟩, hF, hb1⟩
  have q2 := box_below k2_h.out hb1
  obtain ⟨r1, r2⟩ := set1 q2 (.slice A1 l.length c1)
  have hz2 := hz_h.out
  have hzb := b0_h.out.size
  have hB4 : Below w.heap.size w w1 := below_trans b0_h.out hb1 hzb
  have hB5 := below_keeps hB4 r2 hB4.size (fun k hk => by omega)
  have hN5 := Sl.keeps hN r2 (fun x hx e => by have := hF x hx; omega)
  have hF5 : FreshL w.heap.size (fpA A1) := fun x hx => by have := hF x hx; omega
  obtain ⟨y0, y1⟩ := box1 q2
  have hN_h := Lib.hid hN
  have hF_h := Lib.hid hF
  have hb1_h := Lib.hid hb1
  have q2_h := Lib.hid q2
  have r1_h := Lib.hid r1
  have r2_h := Lib.hid r2
  have hB4_h := Lib.hid hB4
  have hB5_h := Lib.hid hB5
  have hN5_h := Lib.hid hN5
  have hF5_h := Lib.hid hF5
  clear hN hF hb1 q2 r1 r2 hB4 hB5 hN5 hF5
  obtain ⟨m', hm'⟩ : ∃ m', m' = l.length := ⟨_, rfl⟩
  rw [← hm'] at r1_h hB5_h hN5_h ⊢
  have hx := Lib.hid hm'
  clear hm'
  go_wp2_with (fail)
  refine bodyPost_ret (results_cell_row rfl _ _ (w.heap.size + 2) _ _ (0, 0) _ rfl r1_h.out Try.underlying30 rfl (by kernel_rfl)) rfl ?_
  have e := hx.out
  subst e
  exact ⟨_, fpA A1, rfl, ⟨A1, c1, rfl, hN5_h.out, rfl⟩, hF5_h.out, hB5_h.out⟩

set_option maxRecDepth 8000 in
theorem tmPar_any {v v' : Value} {a b : List Nd} {w : World} (h : RdTm w v a) (h' : RdTm w v' b) (ha : a.length ≤ 1048576) (hb : b.length ≤ 1048576) :
    Calls Try.prog 62 #[v, v'] w (RetTm w (joinOf 16 a b)) := by
  obtain ⟨A, c, rfl, h⟩ := h
  obtain ⟨B, d, rfl, h'⟩ := h'
  obtain ⟨W, hW⟩ : ∃ W, W = ((w.alloc (.cells #[.slice A a.length c] tTerm)).alloc (.cells #[.slice B b.length d] tTerm)).alloc (.cells #[.slice none 0 0] tTerm) := ⟨_, rfl⟩
  obtain ⟨b0, k0, k1, k2, hz⟩ := three_boxes w (.cells #[.slice A a.length c] tTerm) (.cells #[.slice B b.length d] tTerm) (.cells #[.slice none 0 0] tTerm)
  rw [← hW] at b0 k0 k1 k2 hz
  have hC := tmJoin_any (v := .agg #[.slice A a.length c]) (v' := .agg #[.slice B b.length d]) (w := W) 16 ⟨A, c, rfl, h.below b0⟩ ⟨B, d, rfl, h'.below b0⟩ ha hb
  obtain ⟨m, hm⟩ : ∃ m, m = a.length := ⟨_, rfl⟩
  obtain ⟨n, hn⟩ : ∃ n, n = b.length := ⟨_, rfl⟩
  obtain ⟨l, hl⟩ : ∃ l, l = joinOf 16 a b := ⟨_, rfl⟩
  rw [← hm, ← hn, ← hl] at hC
  rw [← hm] at hW k0 ⊢
  rw [← hn] at hW k1 ⊢
  rw [← hl]
  clear h h' hm hn hl
  have b0_h := Lib.hid b0
  have hz_h := Lib.hid hz
  have k2_h := Lib.hid k2
  have hC_h := Lib.hid hC
  clear b0 hz k2 hC
  go_enter Try.func62, Try.ntmps62
  go_upto_region 1 with (fail)
  rw [← hW]
  clear hW
  obtain ⟨x0, x1⟩ := box1 k0
  obtain ⟨x2, x3⟩ := box1 k1
  have k0_h := Lib.hid k0
  have k1_h := Lib.hid k1
  clear k0 k1
  go_wp2_with (fail)
  refine (hC_h.out).mono ?_
  rintro e w1 ⟨v1, fp, rfl, ⟨A1, c1, rfl, hN, rfl⟩, hF, hb1⟩
  have q2 := box_below k2_h.out hb1
  obtain ⟨r1, r2⟩ := set1 q2 (.slice A1 l.length c1)
  have hz2 := hz_h.out
  have hzb := b0_h.out.size
  have hB4 : Below w.heap.size w w1 := below_trans b0_h.out hb1 hzb
  have hB5 := below_keeps hB4 r2 hB4.size (fun k hk => by omega)
  have hN5 := Sl.keeps hN r2 (fun x hx e => by have := hF x hx; omega)
  have hF5 : FreshL w.heap.size (fpA A1) := fun x hx => by have := hF x hx; omega
  obtain ⟨y0, y1⟩ := box1 q2
  have hN_h := Lib.hid hN
  have hF_h := Lib.hid hF
  have hb1_h := Lib.hid hb1
  have q2_h := Lib.hid q2
  have r1_h := Lib.hid r1
  have r2_h := Lib.hid r2
  have hB4_h := Lib.hid hB4
  have hB5_h := Lib.hid hB5
  have hN5_h := Lib.hid hN5
  have hF5_h := Lib.hid hF5
  clear hN hF hb1 q2 r1 r2 hB4 hB5 hN5 hF5
  obtain ⟨m', hm'⟩ : ∃ m', m' = l.length := ⟨_, rfl⟩
  rw [← hm'] at r1_h hB5_h hN5_h ⊢
  have hx := Lib.hid hm'
  clear hm'
  go_wp2_with (fail)
  refine bodyPost_ret (results_cell_row rfl _ _ (w.heap.size + 2) _ _ (0, 0) _ rfl r1_h.out Try.underlying30 rfl (by kernel_rfl)) rfl ?_
  have e := hx.out
  subst e
  exact ⟨_, fpA A1, rfl, ⟨A1, c1, rfl, hN5_h.out, rfl⟩, hF5_h.out, hB5_h.out⟩

/-- The term itself if it is valid. -/
def okM (l : List Nd) : List Nd × Bool := if (treeM l).isSome = true then (l, true) else ([], false)
set_option maxRecDepth 8000 in
set_option maxHeartbeats 1000000 in
/-- tmIf hands back its argument's memory. -/
theorem tmIf_any {v : Value} {l : List Nd} {fp : List Nat} {w : World} (h : OwTm w v l fp) :
    Calls Try.prog 61 #[v] w fun e w' => ∃ v' fp', e = .returned (.tuple #[v', .bool (okM l).2]) ∧ OwTm w' v' (okM l).1 fp' ∧ (∀ b, b ∈ fp' → b ∈ fp) ∧ Below w.heap.size w w' := by
  obtain ⟨A, c, rfl, hN, rfl⟩ := h
  obtain ⟨W, hW⟩ : ∃ W, W = (w.alloc (.cells #[.slice A l.length c] tTerm)).alloc (.cells #[.slice none 0 0] tTerm) := ⟨_, rfl⟩
  obtain ⟨b0, k0, k1, hz⟩ := two_boxes w (.cells #[.slice A l.length c] tTerm) (.cells #[.slice none 0 0] tTerm)
  rw [← hW] at b0 k0 k1 hz
  have hr : RdN W A l := hN.rd.below b0
  have hC := tmScan_any (v := .agg #[.slice A l.length c]) (l := l) (w := W) ⟨A, c, rfl, hr⟩
  obtain ⟨m, hm⟩ : ∃ m, m = l.length := ⟨_, rfl⟩
  rw [← hm] at hC hW k0 ⊢
  have hNm : Sl w tNd 3 A m c (ncs l) := by rw [hm]; exact hN
  obtain ⟨M, hM⟩ : ∃ M, M = okM l := ⟨_, rfl⟩
  rw [← hM]
  clear hN
  have b0_h := Lib.hid b0
  have k0_h := Lib.hid k0
  have k1_h := Lib.hid k1
  have hz_h := Lib.hid hz
  have hr_h := Lib.hid hr
  have hC_h := Lib.hid hC
  have hm_h := Lib.hid hm
  have hM_h := Lib.hid hM
  have hNm_h := Lib.hid hNm
  clear b0 k0 k1 hz hr hC hm hM hNm
  go_enter Try.func61, Try.ntmps61
  go_wp2_with (fail)
  rw [← hW]
  clear hW
  refine (hC_h.out).mono ?_
  rintro e w1 ⟨A0, A1, A2, d0, d1, d2, n0, n1, n2, b, rfl, hb, ht, hb1⟩
  obtain ⟨W2, hW2⟩ : ∃ W2, W2 = w1.alloc (.cells #[.slice A0 n0 d0, .slice A1 n1 d1, .slice A2 n2 d2] tInfo) := ⟨_, rfl⟩
  have hb2 : Below w1.heap.size w1 W2 := by rw [hW2]; exact below_alloc _ _
  have hB := below_trans (below_trans b0_h.out hb1 b0_h.out.size) hb2 (Nat.le_trans b0_h.out.size hb1.size)
  have q0 := box_below (box_below k0_h.out hb1) hb2
  have q1 := box_below (box_below k1_h.out hb1) hb2
  have hz1 := box_lt q1
  have hlt := hNm_h.out.lt
  obtain ⟨c0, f0⟩ := box1 q0
  obtain ⟨c1, f1⟩ := box1 q1
  clear ht
  cases b
  · have hN : treeM l = none := by cases h : treeM l with | none => rfl | some t => rw [h] at hb; cases hb
    have hM0 : M = ([], false) := by rw [hM_h.out, okM, hN]; rfl
    obtain ⟨s1, s2⟩ := set1 q1 (.slice none 0 0)
    have hBs := below_keeps hB s2 hB.size (fun k hk => by omega)
    have hb_h := Lib.hid hb
    have hb1_h := Lib.hid hb1
    have hN_h := Lib.hid hN
    have hM0_h := Lib.hid hM0
    have hB_h := Lib.hid hB
    have q0_h := Lib.hid q0
    have q1_h := Lib.hid q1
    have s1_h := Lib.hid s1
    have s2_h := Lib.hid s2
    have hBs_h := Lib.hid hBs
    have hb2_h := Lib.hid hb2
    have hlt_h := Lib.hid hlt
    clear hb hb1 hN hM0 hB q0 q1 s1 s2 hBs hb2 hlt
    go_upto_region 2 with (fail)
    rw [← hW2]
    clear hW2
    go_wp2_with (fail)
    refine bodyPost_ret (results_cell_tmp rfl _ _ (w.heap.size + 1) _ _ (0, 0) _ rfl s1_h.out Try.underlying30 rfl (by kernel_rfl)) rfl ?_
    rw [hM0_h.out]
    exact ⟨_, [], rfl, ⟨none, 0, rfl, Sl.nil _ _ _, rfl⟩, (fun b h => by cases h), hBs_h.out⟩
  · obtain ⟨t, hN⟩ : ∃ t, treeM l = some t := by cases h : treeM l with | none => rw [h] at hb; cases hb | some t => exact ⟨t, rfl⟩
    have hM0 : M = (l, true) := by rw [hM_h.out, okM, hN]; rfl
    obtain ⟨s1, s2⟩ := set1 q1 (.slice A m c)
    have hBs := below_keeps hB s2 hB.size (fun k hk => by omega)
    have hN3 : Sl (W2.setCell ⟨w.heap.size + 1, 0, none⟩ (.slice A m c)) tNd 3 A m c (ncs l) := hNm_h.out.below hBs
    have hb_h := Lib.hid hb
    have hb1_h := Lib.hid hb1
    have hN_h := Lib.hid hN
    have hM0_h := Lib.hid hM0
    have hB_h := Lib.hid hB
    have q0_h := Lib.hid q0
    have q1_h := Lib.hid q1
    have s1_h := Lib.hid s1
    have s2_h := Lib.hid s2
    have hBs_h := Lib.hid hBs
    have hb2_h := Lib.hid hb2
    have hlt_h := Lib.hid hlt
    have hN3_h := Lib.hid hN3
    clear hb hb1 hN hM0 hB q0 q1 s1 s2 hBs hb2 hlt hN3
    go_upto_region 2 with (fail)
    rw [← hW2]
    clear hW2
    go_wp2_with (fail)
    refine bodyPost_ret (results_cell_tmp rfl _ _ (w.heap.size + 1) _ _ (0, 0) _ rfl s1_h.out Try.underlying30 rfl (by kernel_rfl)) rfl ?_
    rw [hM0_h.out]
    have e := hm_h.out
    subst e
    exact ⟨_, fpA A, rfl, ⟨A, c, rfl, hN3_h.out, rfl⟩, (fun b h => h), hBs_h.out⟩
end Go.Proofs.Ytlmnmdahphahfaa
