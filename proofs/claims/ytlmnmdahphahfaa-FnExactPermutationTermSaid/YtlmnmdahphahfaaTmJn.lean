/-
  THE WALKS: the program's joinNodes, validTerm, joinTerms, SeqTerm, ParTerm.
-/
import Derived.Test.YtlmnmdahphahfaaTmGr
import Derived.Test.YtlmnmdahphahfaaTmU
namespace Go.Proofs.Ytlmnmdahphahfaa
open Go.RowKit

/-- New nodes. -/
def RetNs (l : List Nd) (w : World) (e : Ending) (w' : World) : Prop := ∃ A1 c1 m, e = .returned (.slice A1 m c1) ∧ m = l.length ∧ Sl w' tNd 3 A1 m c1 (ncs l) ∧ FreshL w.heap.size (fpA A1) ∧ Below w.heap.size w w'
set_option maxRecDepth 8000 in
set_option maxHeartbeats 1000000 in
theorem joinNodes_any (kind : Int) (A B : Option Addr) (m c n d : Nat) (a b : List Nd) (w : World) (h : RdN w A a) (h' : RdN w B b) (hm : m = a.length) (hn : n = b.length) (hl : a.length + b.length ≤ 1048575) :
    Calls Try.prog 87 #[.int .i64 kind, .slice A m c, .slice B n d] w (RetNs (joinOf kind a b) w) := by
  obtain ⟨W, hW⟩ : ∃ W, W = w.alloc (.cells #[.slice A m c, .slice B n d] 28) := ⟨_, rfl⟩
  have b0 : Below w.heap.size w W := by rw [hW]; exact below_alloc _ _
  have hz : W.heap.size = w.heap.size + 1 := by rw [hW]; simp
  have hsl := Sl.laid w 28 1 2 #[.slice A m c, .slice B n d] (by unfold maxLen; omega) rfl
  rw [← hW] at hsl
  have hrd : RdC W (some ⟨w.heap.size, 0, none⟩) ([(A, c, a), (B, d, b)].map pv) := by
    have := hsl.rdc
    rw [hm, hn] at this
    exact this
  have hfl : pfl [(A, c, a), (B, d, b)] = a ++ b := by simp [pfl]
  have hC := concat_any ⟨w.heap.size, 0, none⟩ 2 2 [(A, c, a), (B, d, b)] W rfl hrd (fun r hr => by
    rcases List.mem_cons.1 hr with rfl | hr
    · exact h.below b0
    · rcases List.mem_cons.1 hr with rfl | hr
      · exact h'.below b0
      · cases hr) (by rw [hfl, List.length_append]; omega) (by omega)
  rw [hfl] at hC
  have hlab : (a ++ b).length ≤ 1048575 := by rw [List.length_append]; exact hl
  clear h h' hrd hsl hfl
  have hC_h := Lib.hid hC
  have b0_h := Lib.hid b0
  have hz_h := Lib.hid hz
  have hm_h := Lib.hid hm
  have hn_h := Lib.hid hn
  have hlab_h := Lib.hid hlab
  clear hC b0 hz hm hn hlab
  go_enter Try.func87, Try.ntmps87
  go_wp2_with (fail)
  rw [← hW]
  clear hW
  refine (hC_h.out).mono ?_
  rintro e w1 ⟨A1, c1, q, rfl, hq, hS1, hF1, hb1⟩
  have hal := below_alloc w1 (.cells #[.int .i64 kind, .int .i64 0, .string noName] tNd)
  have hs2 := Sl.laid w1 tNd 3 1 #[.int .i64 kind, .int .i64 0, .string noName] (by unfold maxLen; omega) rfl
  have hrl : RdC (w1.alloc (.cells #[.int .i64 kind, .int .i64 0, .string noName] tNd)) (some ⟨w1.heap.size, 0, none⟩) (ncs [(kind, 0, noName)]) := hs2.rdc
  have hS3 := hS1.below hal
  have hqq : q + 1 ≤ 1048576 := by have := hlab_h.out; omega
  have hzz := hz_h.out
  have hb1z := hb1.size
  have hb3 := below_trans hb1 hal hb1z
  have hq_h := Lib.hid hq
  have hF1_h := Lib.hid hF1
  have hb1_h := Lib.hid hb1
  have hal_h := Lib.hid hal
  have hs2_h := Lib.hid hs2
  have hS1_h := Lib.hid hS1
  have hzz_h := Lib.hid hzz
  have hb1z_h := Lib.hid hb1z
  have hb3_h := Lib.hid hb3
  clear hq hF1 hb1 hal hs2 hS1 hzz hb1z hb3
  go_wp2_with (at_builtin; refine wpList_append_Sl _ rfl _ _ _ rfl tNd Try.underlying28 info_nd rfl (by omega) rfl hS3 rfl (m := 1) rfl hrl (ncs_one _) (by unfold maxLen; omega) (by omega) ?_; intro A3 c3 w3 hs4 hA3 hk3)
  go_ret
  have hz1 := hzz_h.out
  have hF3 : FreshL W.heap.size (fpA A3) := fun x hx => by
    rcases hA3 x hx with h | h
    · exact hF1_h.out x h
    · exact Nat.le_trans hb3_h.out.size h
  have hb4 : Below W.heap.size W w3 := below_keeps hb3_h.out hk3 hb3_h.out.size (fun x hx => hF1_h.out x hx)
  refine ⟨A3, c3, q + 1, rfl, by rw [hq_h.out]; simp [joinOf]; omega, ?_, fun x hx => by have := hF3 x hx; omega, below_trans b0_h.out hb4 b0_h.out.size⟩
  unfold joinOf
  rw [ncs_append]
  exact hs4
set_option maxRecDepth 8000 in
set_option maxHeartbeats 1000000 in
theorem validTerm_any {A : Option Addr} {m c : Nat} {l : List Nd} {w : World} (hN : Sl w tNd 3 A m c (ncs l)) (hm : m = l.length) :
    Calls Try.prog 65 #[.slice A m c] w fun e w' => ∃ v' fp', e = .returned (.tuple #[v', .bool (okM l).2]) ∧ OwTm w' v' (okM l).1 fp' ∧ (∀ b, b ∈ fp' → b ∈ fpA A) ∧ Below w.heap.size w w' := by
  obtain ⟨W, hW⟩ : ∃ W, W = (w.alloc (.cells #[.slice none 0 0] tTerm)).alloc (.cells #[.slice A m c] tTerm) := ⟨_, rfl⟩
  obtain ⟨b0, k0, k1, hz⟩ := two_boxes w (.cells #[.slice none 0 0] tTerm) (.cells #[.slice A m c] tTerm)
  rw [← hW] at b0 k0 k1 hz
  have hr : RdN W A l := RdN.below (hN.rdc) b0
  have hC := isValid_any (v := .agg #[.slice A m c]) (l := l) (w := W) ⟨A, c, by rw [hm], hr⟩
  obtain ⟨M, hM⟩ : ∃ M, M = okM l := ⟨_, rfl⟩
  rw [← hM]
  have b0_h := Lib.hid b0
  have k0_h := Lib.hid k0
  have k1_h := Lib.hid k1
  have hz_h := Lib.hid hz
  have hr_h := Lib.hid hr
  have hC_h := Lib.hid hC
  have hm_h := Lib.hid hm
  have hM_h := Lib.hid hM
  have hN_h := Lib.hid hN
  clear b0 k0 k1 hz hr hC hm hM hN
  go_enter Try.func65, Try.ntmps65
  go_upto_region 2 with (fail)
  rw [← hW]
  clear hW
  obtain ⟨y0, y1⟩ := box1 k1_h.out
  go_wp2_with (fail)
  refine (hC_h.out).mono ?_
  rintro e W2 ⟨b, rfl, hb, hb1⟩
  clear y0 y1
  have hB := below_trans b0_h.out hb1 b0_h.out.size
  have q0 := box_below k0_h.out hb1
  have q1 := box_below k1_h.out hb1
  have hz1 := box_lt q1
  obtain ⟨c0, f0⟩ := box1 q0
  obtain ⟨c1, f1⟩ := box1 q1
  cases b
  · have hT : treeM l = none := by cases h : treeM l with | none => rfl | some t => rw [h] at hb; cases hb
    have hM0 : M = ([], false) := by rw [hM_h.out, okM, hT]; rfl
    obtain ⟨s1, s2⟩ := set1 q0 (.slice none 0 0)
    have hBs := below_keeps hB s2 hB.size (fun k hk => by omega)
    have hb_h := Lib.hid hb
    have hb1_h := Lib.hid hb1
    have hT_h := Lib.hid hT
    have hM0_h := Lib.hid hM0
    have hB_h := Lib.hid hB
    have q0_h := Lib.hid q0
    have q1_h := Lib.hid q1
    have s1_h := Lib.hid s1
    have s2_h := Lib.hid s2
    have hBs_h := Lib.hid hBs
    clear hb hb1 hT hM0 hB q0 q1 s1 s2 hBs
    go_wp2_with (fail)
    refine bodyPost_ret (results_cell_tmp rfl _ _ w.heap.size _ _ (0, 0) _ rfl s1_h.out Try.underlying30 rfl (by kernel_rfl)) rfl ?_
    rw [hM0_h.out]
    exact ⟨_, [], rfl, ⟨none, 0, rfl, Sl.nil _ _ _, rfl⟩, (fun b h => by cases h), hBs_h.out⟩
  · obtain ⟨t, hT⟩ : ∃ t, treeM l = some t := by cases h : treeM l with | none => rw [h] at hb; cases hb | some t => exact ⟨t, rfl⟩
    have hM0 : M = (l, true) := by rw [hM_h.out, okM, hT]; rfl
    obtain ⟨s1, s2⟩ := set1 q0 (.slice A m c)
    have hBs := below_keeps hB s2 hB.size (fun k hk => by omega)
    have hN3 : Sl (W2.setCell ⟨w.heap.size, 0, none⟩ (.slice A m c)) tNd 3 A m c (ncs l) := hN_h.out.below hBs
    have hb_h := Lib.hid hb
    have hb1_h := Lib.hid hb1
    have hT_h := Lib.hid hT
    have hM0_h := Lib.hid hM0
    have hB_h := Lib.hid hB
    have q0_h := Lib.hid q0
    have q1_h := Lib.hid q1
    have s1_h := Lib.hid s1
    have s2_h := Lib.hid s2
    have hBs_h := Lib.hid hBs
    have hN3_h := Lib.hid hN3
    clear hb hb1 hT hM0 hB q0 q1 s1 s2 hBs hN3
    go_wp2_with (fail)
    refine bodyPost_ret (results_cell_tmp rfl _ _ w.heap.size _ _ (0, 0) _ rfl s1_h.out Try.underlying30 rfl (by kernel_rfl)) rfl ?_
    rw [hM0_h.out]
    have e := hm_h.out
    subst e
    exact ⟨_, fpA A, rfl, ⟨A, c, rfl, hN3_h.out, rfl⟩, (fun b h => h), hBs_h.out⟩

set_option maxRecDepth 8000 in
set_option maxHeartbeats 1000000 in
theorem joinTerms_any (kind : Int) {v v' : Value} {a b : List Nd} {w : World} (h : RdTm w v a) (h' : RdTm w v' b) :
    Calls Try.prog 63 #[.int .i64 kind, v, v'] w (Ret2Tm (joinM kind a b) w) := by
  obtain ⟨A, c, rfl, h⟩ := h
  obtain ⟨B, d, rfl, h'⟩ := h'
  obtain ⟨W, hW⟩ : ∃ W, W = ((w.alloc (.cells #[.slice A a.length c] tTerm)).alloc (.cells #[.slice B b.length d] tTerm)).alloc (.cells #[.slice none 0 0] tTerm) := ⟨_, rfl⟩
  obtain ⟨b0, k0, k1, k2, hz⟩ := three_boxes w (.cells #[.slice A a.length c] tTerm) (.cells #[.slice B b.length d] tTerm) (.cells #[.slice none 0 0] tTerm)
  rw [← hW] at b0 k0 k1 k2 hz
  have hra := h.below b0
  have hrb := h'.below b0
  have hC := isValid_any (v := .agg #[.slice A a.length c]) (w := W) ⟨A, c, rfl, hra⟩
  have hD := fun W1 (hW1 : Below W.heap.size W W1) => isValid_any (v := .agg #[.slice B b.length d]) (w := W1) ⟨B, d, rfl, hrb.below hW1⟩
  have hJ := fun W1 (hW1 : Below W.heap.size W W1) => joinNodes_any kind A B a.length c b.length d a b W1 (hra.below hW1) (hrb.below hW1) rfl rfl
  obtain ⟨m, hm⟩ : ∃ m, m = a.length := ⟨_, rfl⟩
  obtain ⟨n, hn⟩ : ∃ n, n = b.length := ⟨_, rfl⟩
  obtain ⟨M, hM⟩ : ∃ M, M = joinM kind a b := ⟨_, rfl⟩
  rw [← hm, ← hn] at hJ
  rw [← hm] at hC hW k0 ⊢
  rw [← hn] at hD hW k1 ⊢
  rw [← hM]
  clear h h' hra hrb
  have b0_h := Lib.hid b0
  have hz_h := Lib.hid hz
  have hC_h := Lib.hid hC
  have hD_h := Lib.hid hD
  have hJ_h := Lib.hid hJ
  have hm_h := Lib.hid hm
  have hn_h := Lib.hid hn
  have hM_h := Lib.hid hM
  clear b0 hz hC hD hJ hm hn hM
  go_enter Try.func63, Try.ntmps63
  go_upto_region 1 with (fail)
  rw [← hW]
  clear hW
  obtain ⟨x0, x1⟩ := box1 k0
  have k0_h := Lib.hid k0
  have k1_h := Lib.hid k1
  have k2_h := Lib.hid k2
  clear k0 k1 k2
  go_wp2_with (fail)
  refine (hC_h.out).mono ?_
  rintro e w1 ⟨f, rfl, hf, hb1⟩
  clear x0 x1
  have q0 := box_below k0_h.out hb1
  have q1 := box_below k1_h.out hb1
  have q2 := box_below k2_h.out hb1
  have hz1 := hb1.size
  have hB := below_trans b0_h.out hb1 b0_h.out.size
  obtain ⟨x0, x1⟩ := box1 q0
  obtain ⟨y0, y1⟩ := box1 q1
  obtain ⟨z0, z1⟩ := box1 q2
  obtain ⟨r1, r2⟩ := set1 q2 (.slice none 0 0)
  have hBr := below_keeps hB r2 hB.size (fun k hk => by omega)
  cases f
  · have hM0 : M = ([], false) := by rw [hM_h.out]; exact joinM_no1 hf
    have hf_h := Lib.hid hf
    have hb1_h := Lib.hid hb1
    have q0_h := Lib.hid q0
    have q1_h := Lib.hid q1
    have q2_h := Lib.hid q2
    have hz1_h := Lib.hid hz1
    have hB_h := Lib.hid hB
    have r1_h := Lib.hid r1
    have r2_h := Lib.hid r2
    have hBr_h := Lib.hid hBr
    have hM0_h := Lib.hid hM0
    clear hf hb1 q0 q1 q2 hz1 hB r1 r2 hBr hM0
    go_wp2_with (fail)
    refine bodyPost_ret (results_cell_tmp rfl _ _ (w.heap.size + 2) _ _ (0, 0) _ rfl r1_h.out Try.underlying30 rfl (by kernel_rfl)) rfl ?_
    exact Ret2Tm.no hM0_h.out hBr_h.out
  · have hf_h := Lib.hid hf
    have hb1_h := Lib.hid hb1
    have q0_h := Lib.hid q0
    have q1_h := Lib.hid q1
    have q2_h := Lib.hid q2
    have hz1_h := Lib.hid hz1
    have hB_h := Lib.hid hB
    have r1_h := Lib.hid r1
    have r2_h := Lib.hid r2
    have hBr_h := Lib.hid hBr
    clear hf hb1 q0 q1 q2 hz1 hB r1 r2 hBr
    go_wp2_with (fail)
    refine (hD_h.out w1 hb1_h.out).mono ?_
    rintro e w2 ⟨g, rfl, hg, hb2⟩
    clear x0 x1 y0 y1 z0 z1
    have p0 := box_below q0_h.out hb2
    have p1 := box_below q1_h.out hb2
    have p2 := box_below q2_h.out hb2
    have hz2 := hb2.size
    have hB2 := below_trans hB_h.out hb2 hB_h.out.size
    obtain ⟨x0, x1⟩ := box1 p0
    obtain ⟨y0, y1⟩ := box1 p1
    obtain ⟨z0, z1⟩ := box1 p2
    obtain ⟨s1, s2⟩ := set1 p2 (.slice none 0 0)
    have hBs := below_keeps hB2 s2 hB2.size (fun k hk => by omega)
    have hb12 := below_trans hb1_h.out hb2 hz1_h.out
    cases g
    · have hM0 : M = ([], false) := by rw [hM_h.out]; exact joinM_no2 hg
      have hg_h := Lib.hid hg
      have hb2_h := Lib.hid hb2
      have p0_h := Lib.hid p0
      have p1_h := Lib.hid p1
      have p2_h := Lib.hid p2
      have hz2_h := Lib.hid hz2
      have hB2_h := Lib.hid hB2
      have s1_h := Lib.hid s1
      have s2_h := Lib.hid s2
      have hBs_h := Lib.hid hBs
      have hM0_h := Lib.hid hM0
      have hb12_h := Lib.hid hb12
      clear hg hb2 p0 p1 p2 hz2 hB2 s1 s2 hBs hM0 hb12
      go_wp2_with (fail)
      refine bodyPost_ret (results_cell_tmp rfl _ _ (w.heap.size + 2) _ _ (0, 0) _ rfl s1_h.out Try.underlying30 rfl (by kernel_rfl)) rfl ?_
      exact Ret2Tm.no hM0_h.out hBs_h.out
    · have hM0 : M = okM (joinOf kind a b) := by rw [hM_h.out]; exact joinM_yes hf_h.out hg
      have hla := len_some hf_h.out
      have hlb := len_some hg
      have hwz := hz_h.out
      have hg_h := Lib.hid hg
      have hb2_h := Lib.hid hb2
      have p0_h := Lib.hid p0
      have p1_h := Lib.hid p1
      have p2_h := Lib.hid p2
      have hz2_h := Lib.hid hz2
      have hB2_h := Lib.hid hB2
      have s1_h := Lib.hid s1
      have s2_h := Lib.hid s2
      have hBs_h := Lib.hid hBs
      have hM0_h := Lib.hid hM0
      have hb12_h := Lib.hid hb12
      have hwz_h := Lib.hid hwz
      clear hg hb2 p0 p1 p2 hz2 hB2 s1 s2 hBs hM0 hb12 hwz
      go_wp2_with (fail)
      refine (hJ_h.out w2 hb12_h.out (by have := hm_h.out; have := hn_h.out; omega)).mono ?_
      rintro e w3 ⟨A3, c3, q3, rfl, hq3, hO3, hF3, hb3⟩
      clear x0 x1 y0 y1 z0 z1 hla hlb
      have t2 := box_below p2_h.out hb3
      have hB3 := below_trans hB2_h.out hb3 hB2_h.out.size
      obtain ⟨z0, z1⟩ := box1 t2
      have t2_h := Lib.hid t2
      have hB3_h := Lib.hid hB3
      have hq3_h := Lib.hid hq3
      have hO3_h := Lib.hid hO3
      clear t2 hB3 hq3 hO3
      go_wp2_with (fail)
      refine (validTerm_any (A := A3) (m := q3) (c := c3) (l := joinOf kind a b) (w := w3) hO3_h.out hq3_h.out).mono ?_
      rintro e w4 ⟨v4, fp4, rfl, ⟨A4, c4, rfl, hN4, rfl⟩, hF4, hb4⟩
      clear z0 z1
      have u2 := box_below t2_h.out hb4
      have hB4 := below_trans hB3_h.out hb4 hB3_h.out.size
      obtain ⟨L, hL⟩ : ∃ L, L = okM (joinOf kind a b) := ⟨_, rfl⟩
      rw [← hL] at hN4 ⊢
      obtain ⟨l, hl⟩ : ∃ l, l = L.1.length := ⟨_, rfl⟩
      have hN5 : Sl w4 tNd 3 A4 l c4 (ncs L.1) := by rw [hl]; exact hN4
      rw [← hl]
      obtain ⟨r1, r2⟩ := set1 u2 (.slice A4 l c4)
      have hF5 : FreshL w2.heap.size (fpA A4) := fun x hx => hF3 x (hF4 x hx)
      have hzz := hwz_h.out
      have hz2' := hz2_h.out
      have hz1' := hz1_h.out
      have hN6 := Sl.keeps hN5 r2 (fun x hx e => by have := hF5 x hx; omega)
      have hB5 := below_keeps hB4 r2 hB4.size (fun k hk => by omega)
      have hF6 : FreshL w.heap.size (fpA A4) := fun x hx => by have := hF5 x hx; omega
      obtain ⟨z0, z1⟩ := box1 u2
      have hF3_h := Lib.hid hF3
      have hb3_h := Lib.hid hb3
      have hN4_h := Lib.hid hN4
      have hF4_h := Lib.hid hF4
      have hb4_h := Lib.hid hb4
      have u2_h := Lib.hid u2
      have hB4_h := Lib.hid hB4
      have hL_h := Lib.hid hL
      have hl_h := Lib.hid hl
      have hN5_h := Lib.hid hN5
      have r1_h := Lib.hid r1
      have r2_h := Lib.hid r2
      have hF5_h := Lib.hid hF5
      have hN6_h := Lib.hid hN6
      have hB5_h := Lib.hid hB5
      have hF6_h := Lib.hid hF6
      clear hF3 hb3 hN4 hF4 hb4 u2 hB4 hL hl hN5 r1 r2 hF5 hN6 hB5 hF6
      clear hM_h
      go_wp2_with (fail)
      refine bodyPost_ret (results_cell_tmp rfl _ _ (w.heap.size + 2) _ _ (0, 0) _ rfl r1_h.out Try.underlying30 rfl (by kernel_rfl)) rfl ?_
      rw [hM0_h.out, ← hL_h.out]
      have e := hl_h.out
      subst e
      exact ⟨_, fpA A4, rfl, ⟨A4, c4, rfl, hN6_h.out, rfl⟩, hF6_h.out, hB5_h.out⟩

set_option maxRecDepth 8000 in
set_option maxHeartbeats 1000000 in
theorem iSeqTerm_any {v v' : Value} {a b : List Nd} {w : World} (h : RdTm w v a) (h' : RdTm w v' b) :
    Calls Try.prog 32 #[v, v'] w (Ret2Tm (joinM 15 a b) w) := by
  obtain ⟨A, c, rfl, h⟩ := h
  obtain ⟨B, d, rfl, h'⟩ := h'
  obtain ⟨W, hW⟩ : ∃ W, W = ((w.alloc (.cells #[.slice A a.length c] tTerm)).alloc (.cells #[.slice B b.length d] tTerm)).alloc (.cells #[.slice none 0 0] tTerm) := ⟨_, rfl⟩
  obtain ⟨b0, k0, k1, k2, hz⟩ := three_boxes w (.cells #[.slice A a.length c] tTerm) (.cells #[.slice B b.length d] tTerm) (.cells #[.slice none 0 0] tTerm)
  rw [← hW] at b0 k0 k1 k2 hz
  have hC := joinTerms_any 15 (v := .agg #[.slice A a.length c]) (v' := .agg #[.slice B b.length d]) (w := W) ⟨A, c, rfl, h.below b0⟩ ⟨B, d, rfl, h'.below b0⟩
  obtain ⟨m, hm⟩ : ∃ m, m = a.length := ⟨_, rfl⟩
  obtain ⟨n, hn⟩ : ∃ n, n = b.length := ⟨_, rfl⟩
  obtain ⟨M, hM⟩ : ∃ M, M = joinM 15 a b := ⟨_, rfl⟩
  rw [← hm, ← hn, ← hM] at hC
  rw [← hm] at hW k0 ⊢
  rw [← hn] at hW k1 ⊢
  rw [← hM]
  clear h h' hm hn hM
  have b0_h := Lib.hid b0
  have hz_h := Lib.hid hz
  have k2_h := Lib.hid k2
  have hC_h := Lib.hid hC
  clear b0 hz k2 hC
  go_enter Try.func32, Try.ntmps32
  go_upto_region 1 with (fail)
  rw [← hW]
  clear hW
  obtain ⟨x0, x1⟩ := box1 k0
  obtain ⟨x2, x3⟩ := box1 k1
  have k0_h := Lib.hid k0
  have k1_h := Lib.hid k1
  clear k0 k1
  go_wp2_with (fail)
  refine (hC_h.out).mono ?_
  rintro e w1 ⟨v1, fp, rfl, ⟨A1, c1, rfl, hN, rfl⟩, hF, hb1⟩
  have q2 := box_below k2_h.out hb1
  have hzb := b0_h.out.size
  have hB4 : Below w.heap.size w w1 := below_trans b0_h.out hb1 hzb
  obtain ⟨l, hl⟩ : ∃ l, l = M.1.length := ⟨_, rfl⟩
  have hN1 : Sl w1 tNd 3 A1 l c1 (ncs M.1) := by rw [hl]; exact hN
  rw [← hl]
  obtain ⟨r1, r2⟩ := set1 q2 (.slice A1 l c1)
  have hz2 := hz_h.out
  have hB5 := below_keeps hB4 r2 hB4.size (fun k hk => by omega)
  have hN5 := Sl.keeps hN1 r2 (fun x hx e => by have := hF x hx; omega)
  have hF5 : FreshL w.heap.size (fpA A1) := fun x hx => by have := hF x hx; omega
  obtain ⟨y0, y1⟩ := box1 q2
  have hN_h := Lib.hid hN
  have hN1_h := Lib.hid hN1
  have hF_h := Lib.hid hF
  have hb1_h := Lib.hid hb1
  have q2_h := Lib.hid q2
  have r1_h := Lib.hid r1
  have r2_h := Lib.hid r2
  have hB4_h := Lib.hid hB4
  have hB5_h := Lib.hid hB5
  have hN5_h := Lib.hid hN5
  have hF5_h := Lib.hid hF5
  have hl_h := Lib.hid hl
  clear hN hN1 hF hb1 q2 r1 r2 hB4 hB5 hN5 hF5 hl
  go_wp2_with (fail)
  refine bodyPost_ret (results_cell_tmp rfl _ _ (w.heap.size + 2) _ _ (0, 0) _ rfl r1_h.out Try.underlying30 rfl (by kernel_rfl)) rfl ?_
  have e := hl_h.out
  subst e
  exact ⟨_, fpA A1, rfl, ⟨A1, c1, rfl, hN5_h.out, rfl⟩, hF5_h.out, hB5_h.out⟩

set_option maxRecDepth 8000 in
set_option maxHeartbeats 1000000 in
theorem iParTerm_any {v v' : Value} {a b : List Nd} {w : World} (h : RdTm w v a) (h' : RdTm w v' b) :
    Calls Try.prog 30 #[v, v'] w (Ret2Tm (joinM 16 a b) w) := by
  obtain ⟨A, c, rfl, h⟩ := h
  obtain ⟨B, d, rfl, h'⟩ := h'
  obtain ⟨W, hW⟩ : ∃ W, W = ((w.alloc (.cells #[.slice A a.length c] tTerm)).alloc (.cells #[.slice B b.length d] tTerm)).alloc (.cells #[.slice none 0 0] tTerm) := ⟨_, rfl⟩
  obtain ⟨b0, k0, k1, k2, hz⟩ := three_boxes w (.cells #[.slice A a.length c] tTerm) (.cells #[.slice B b.length d] tTerm) (.cells #[.slice none 0 0] tTerm)
  rw [← hW] at b0 k0 k1 k2 hz
  have hC := joinTerms_any 16 (v := .agg #[.slice A a.length c]) (v' := .agg #[.slice B b.length d]) (w := W) ⟨A, c, rfl, h.below b0⟩ ⟨B, d, rfl, h'.below b0⟩
  obtain ⟨m, hm⟩ : ∃ m, m = a.length := ⟨_, rfl⟩
  obtain ⟨n, hn⟩ : ∃ n, n = b.length := ⟨_, rfl⟩
  obtain ⟨M, hM⟩ : ∃ M, M = joinM 16 a b := ⟨_, rfl⟩
  rw [← hm, ← hn, ← hM] at hC
  rw [← hm] at hW k0 ⊢
  rw [← hn] at hW k1 ⊢
  rw [← hM]
  clear h h' hm hn hM
  have b0_h := Lib.hid b0
  have hz_h := Lib.hid hz
  have k2_h := Lib.hid k2
  have hC_h := Lib.hid hC
  clear b0 hz k2 hC
  go_enter Try.func30, Try.ntmps30
  go_upto_region 1 with (fail)
  rw [← hW]
  clear hW
  obtain ⟨x0, x1⟩ := box1 k0
  obtain ⟨x2, x3⟩ := box1 k1
  have k0_h := Lib.hid k0
  have k1_h := Lib.hid k1
  clear k0 k1
  go_wp2_with (fail)
  refine (hC_h.out).mono ?_
  rintro e w1 ⟨v1, fp, rfl, ⟨A1, c1, rfl, hN, rfl⟩, hF, hb1⟩
  have q2 := box_below k2_h.out hb1
  have hzb := b0_h.out.size
  have hB4 : Below w.heap.size w w1 := below_trans b0_h.out hb1 hzb
  obtain ⟨l, hl⟩ : ∃ l, l = M.1.length := ⟨_, rfl⟩
  have hN1 : Sl w1 tNd 3 A1 l c1 (ncs M.1) := by rw [hl]; exact hN
  rw [← hl]
  obtain ⟨r1, r2⟩ := set1 q2 (.slice A1 l c1)
  have hz2 := hz_h.out
  have hB5 := below_keeps hB4 r2 hB4.size (fun k hk => by omega)
  have hN5 := Sl.keeps hN1 r2 (fun x hx e => by have := hF x hx; omega)
  have hF5 : FreshL w.heap.size (fpA A1) := fun x hx => by have := hF x hx; omega
  obtain ⟨y0, y1⟩ := box1 q2
  have hN_h := Lib.hid hN
  have hN1_h := Lib.hid hN1
  have hF_h := Lib.hid hF
  have hb1_h := Lib.hid hb1
  have q2_h := Lib.hid q2
  have r1_h := Lib.hid r1
  have r2_h := Lib.hid r2
  have hB4_h := Lib.hid hB4
  have hB5_h := Lib.hid hB5
  have hN5_h := Lib.hid hN5
  have hF5_h := Lib.hid hF5
  have hl_h := Lib.hid hl
  clear hN hN1 hF hb1 q2 r1 r2 hB4 hB5 hN5 hF5 hl
  go_wp2_with (fail)
  refine bodyPost_ret (results_cell_tmp rfl _ _ (w.heap.size + 2) _ _ (0, 0) _ rfl r1_h.out Try.underlying30 rfl (by kernel_rfl)) rfl ?_
  have e := hl_h.out
  subst e
  exact ⟨_, fpA A1, rfl, ⟨A1, c1, rfl, hN5_h.out, rfl⟩, hF5_h.out, hB5_h.out⟩
end Go.Proofs.Ytlmnmdahphahfaa
