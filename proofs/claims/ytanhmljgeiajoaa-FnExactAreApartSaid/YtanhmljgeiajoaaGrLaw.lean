/-
  THE LAW's HELPERS OVER GRAPHS: mark, held of a graph.
-/
import Derived.Test.YtanhmljgeiajoaaGrHe
namespace Go.Proofs.Ytanhmljgeiajoaa
open Go.RowKit

theorem alloc_box1 (w : World) (o : Obj) : ∃ W, W = w.alloc o ∧ Below w.heap.size w W ∧ W.heap[w.heap.size]? = some o := ⟨_, rfl, below_alloc _ _, heap_alloc_new _ _⟩
set_option maxRecDepth 100000 in
set_option maxHeartbeats 2000000 in
theorem markGraph_law {v : Value} {g : Gr} {fp : List Nat} {K : Int} {w : World} (k : Nat) (h : OwGr w v g fp) (hK : K = (k : Int)) (_ok : OkG g) (hl : k + cntG g ≤ 17592186044000 ∧ 0 < k) :
    Calls Try.prog 18 #[v, .int .i64 K] w fun e w' => e = .returned (.int .i64 (K + (cntG g : Int))) ∧ HeGr w' v g k fp ∧ Keeps (· ∈ fp) w w' := by
  subst hK
  obtain ⟨A, c, hs, ⟨B, b, s⟩, ⟨C, d, t⟩, rfl, e1, e2, e3, hsl, hO, rfl⟩ := h
  obtain ⟨z, es, s0, t0⟩ := g
  have a1 : es = hs.map egOf := e1
  have a2 : s = s0 := e2
  have a3 : t = t0 := e3
  subst a1 a2 a3
  obtain ⟨⟨ok1, -, -⟩, -, -⟩ := _ok
  have ok1' : hs.length ≤ 1048576 := by have : (hs.map egOf).length ≤ 1048576 := ok1; simpa using this
  obtain ⟨E, hE⟩ : ∃ E, E = cntE (hs.map egOf) := ⟨_, rfl⟩
  obtain ⟨n, hn⟩ : ∃ n, n = hs.length := ⟨_, rfl⟩
  obtain ⟨p, hp⟩ : ∃ p, p = s.length := ⟨_, rfl⟩
  obtain ⟨q, hq⟩ : ∃ q, q = t.length := ⟨_, rfl⟩
  have hcg : cntG (z, hs.map egOf, s, t) = E + p + q := by rw [hE, hp, hq]; rfl
  rw [hcg] at hl ⊢
  have hl2 : k + (E + p + q) ≤ 17592186044000 := hl.1
  obtain ⟨W, hW, bW, k0⟩ := alloc_box1 w (.cells #[.int .i64 z, .slice A n c, .slice B p b, .slice C q d] tGr)
  have hC0 := markEdgeS_any A c n hs [(B, b, s), (C, d, t)] k W (by rw [hn]; exact hsl.below bW) (hO.below bW) hn.symm (by omega) (by rw [← hE]; omega)
  rw [← hE] at hC0
  have hC1 := fun (W' : World) (hI : IS W' B b s) => markIntS_any B b s (k + E) W' hI (by omega)
  have hC2 := fun (W' : World) (hI : IS W' C d t) => markIntS_any C d t (k + E + p) W' hI (by omega)
  simp only [← hp] at hC1
  simp only [← hq] at hC2
  show Calls Try.prog _ #[.agg #[.int .i64 z, .slice A hs.length c, .slice B s.length b, .slice C t.length d], .int .i64 (k : Int)] w fun e w' => e = .returned (.int .i64 ((k : Int) + ((E + p + q : Nat) : Int))) ∧ HeGr w' (.agg #[.int .i64 z, .slice A hs.length c, .slice B s.length b, .slice C t.length d]) (z, hs.map egOf, s, t) k (fpA A ++ fpR ((B, b, s) :: (C, d, t) :: eh hs)) ∧ Keeps (· ∈ fpA A ++ fpR ((B, b, s) :: (C, d, t) :: eh hs)) w w'
  have hlt : ∀ x, x ∈ fpA A ++ fpR (((B, b, s) : Hd) :: (C, d, t) :: eh hs) → x < w.heap.size := fun x hx => by
    rcases List.mem_append.1 hx with hx | hx
    · exact hsl.lt x hx
    · exact hO.lt x hx
  obtain ⟨fp, hfp⟩ : ∃ fp, fp = fpA A ++ fpR (((B, b, s) : Hd) :: (C, d, t) :: eh hs) := ⟨_, rfl⟩
  have hsub : ∀ x, x ∈ fpA A ++ fpR (eh hs) → x ∈ fp := fun x hx => by
    rw [hfp, fpR_cons, fpR_cons]; simp only [List.mem_append] at hx ⊢; rcases hx with h | h <;> simp [h]
  have hsubB : ∀ x, x ∈ fpA B → x ∈ fp := fun x hx => by rw [hfp, fpR_cons]; simp [hx]
  have hsubC : ∀ x, x ∈ fpA C → x ∈ fp := fun x hx => by rw [hfp, fpR_cons, fpR_cons]; simp [hx]
  rw [← hfp] at hlt ⊢
  obtain ⟨⟨c0, c1, c2, c3⟩, f0, f1, f2, f3⟩ := box4 k0
  rw [← hn, ← hp, ← hq]
  obtain ⟨R1, hR1⟩ : ∃ R : Nat, R = k + E + p := ⟨_, rfl⟩
  obtain ⟨R2, hR2⟩ : ∃ R : Nat, R = k + E + p + q := ⟨_, rfl⟩
  simp only [← hR1] at hC1 hC2
  have hRR : R1 + q = R2 := by omega
  rw [hRR] at hC2
  have hfin : (k : Int) + ((E + p + q : Nat) : Int) = (R2 : Int) := by omega
  rw [hfin]
  obtain ⟨R0, hR0⟩ : ∃ R : Nat, R = k + E := ⟨_, rfl⟩
  simp only [← hR0] at hC0 hC1
  clear hsl hO hl hl2 ok1 ok1' e1 e2 e3 hcg hfin
  have hC0_h := Lib.hid hC0
  have hC1_h := Lib.hid hC1
  have hC2_h := Lib.hid hC2
  have hE_h := Lib.hid hE
  have hn_h := Lib.hid hn
  have hp_h := Lib.hid hp
  have hq_h := Lib.hid hq
  have bW_h := Lib.hid bW
  have k0_h := Lib.hid k0
  have hlt_h := Lib.hid hlt
  have hfp_h := Lib.hid hfp
  have hsub_h := Lib.hid hsub
  have hsubB_h := Lib.hid hsubB
  have hsubC_h := Lib.hid hsubC
  have hR0_h := Lib.hid hR0
  have hR1_h := Lib.hid hR1
  have hR2_h := Lib.hid hR2
  have hRR_h := Lib.hid hRR
  clear hC0 hC1 hC2 hE hn hp hq bW k0 hlt hfp hsub hsubB hsubC hR0 hR1 hR2 hRR
  go_enter Try.func18, Try.ntmps18
  go_upto_region 1 with (fail)
  rw [← hW]
  clear hW
  go_wp2_with (fail)
  refine (hC0_h.out).mono ?_
  rintro e w1 ⟨ys, rfl, hyl, hye, hsl1, hO1, hfe, hk1⟩
  clear c0 c1 c2 c3 f0 f1 f2 f3
  have k1 := box_keeps k0_h.out hk1 (fun hx => by have := hlt_h.out _ (hsub_h.out _ hx); omega)
  obtain ⟨⟨c0, c1, c2, c3⟩, f0, f1, f2, f3⟩ := box4 k1
  have hC1' := hC1_h.out w1 (hO1.rows (B, b, s) (by simp))
  have hyl_h := Lib.hid hyl
  have hye_h := Lib.hid hye
  have hsl1_h := Lib.hid hsl1
  have hO1_h := Lib.hid hO1
  have hfe_h := Lib.hid hfe
  have hk1_h := Lib.hid hk1
  have k1_h := Lib.hid k1
  have hC1'_h := Lib.hid hC1'
  clear hyl hye hsl1 hO1 hfe hk1 k1 hC1'
  go_wp2_with (fail)
  refine (hC1'_h.out).mono ?_
  rintro e w2 ⟨rfl, hI2, hk2⟩
  clear c0 c1 c2 c3 f0 f1 f2 f3
  have k2 := box_keeps k1_h.out hk2 (fun hx => by have := hlt_h.out _ (hsubB_h.out _ hx); omega)
  obtain ⟨⟨c0, c1, c2, c3⟩, f0, f1, f2, f3⟩ := box4 k2
  have hO2 := hO1_h.out.wr (i := 0) (B := B) (c := b) (l := s) rfl hk2 hI2
  have hsl2 := hsl1_h.out.keeps hk2 (fun x hx hx' => hO1_h.out.outer (B, b, s) (by simp) x hx' hx)
  have hC2' := hC2_h.out w2 (hO2.rows (C, d, t) (by simp))
  clear k2 hI2
  have hO2_h := Lib.hid hO2
  have hsl2_h := Lib.hid hsl2
  have hk2_h := Lib.hid hk2
  have hC2'_h := Lib.hid hC2'
  clear hO2 hsl2 hk2 hC2'
  go_wp2_with (fail)
  refine (hC2'_h.out).mono ?_
  rintro e w3 ⟨rfl, hI3, hk3⟩
  have hO3 := hO2_h.out.wr (i := 1) (B := C) (c := d) (l := t) rfl hk3 hI3
  have hsl3 := hsl2_h.out.keeps hk3 (fun x hx hx' => hO2_h.out.outer (C, d, t) (by simp) x hx' hx)
  have hkf : Keeps (· ∈ fp) w w3 := (((Keeps.of_below bW_h.out _).trans (hk1_h.out.mono fun x _ hx => hsub_h.out x hx)).trans (hk2_h.out.mono fun x _ hx => hsubB_h.out x hx)).trans (hk3.mono fun x _ hx => hsubC_h.out x hx)
  have hHe : HeGr w3 (.agg #[.int .i64 z, .slice A n c, .slice B p b, .slice C q d]) (z, hs.map egOf, s, t) k fp := by
    refine ⟨A, c, ys, (B, b, marks R0 p), (C, d, marks R1 q), ?_, hye_h.out.symm, ?_, ?_, ?_, hO3, ?_⟩
    · rw [hyl_h.out]; simp only [marks_length]; rfl
    · show marks R0 p = marks (k + cntE (hs.map egOf)) s.length
      rw [← hE_h.out, ← hp_h.out, hR0_h.out]
    · show marks R1 q = marks (k + cntE (hs.map egOf) + s.length) t.length
      rw [← hE_h.out, ← hp_h.out, ← hq_h.out, hR1_h.out]
    · rw [hyl_h.out]; exact hsl3
    · rw [hfp_h.out]
      congr 1
      exact fpR_map (by simp only [List.map_cons]; rw [hfe_h.out])
  clear c0 c1 c2 c3 f0 f1 f2 f3 hI3 hk3 hO3 hsl3
  have hkf_h := Lib.hid hkf
  have hHe_h := Lib.hid hHe
  clear hkf hHe
  go_wp2_with (fail)
  go_ret
  exact ⟨rfl, hHe_h.out, hkf_h.out⟩
set_option maxRecDepth 100000 in
set_option maxHeartbeats 2000000 in
theorem heldGraph_law {v : Value} {g : Gr} {k : Nat} {fp : List Nat} {K : Int} {w : World} (h : HeGr w v g k fp) (hK : K = (k : Int)) (_ok : OkG g) (hl : k + cntG g ≤ 17592186044000 ∧ 0 < k) :
    Calls Try.prog 24 #[v, .int .i64 K] w fun e w' => e = .returned (.int .i64 (K + (cntG g : Int))) ∧ Below w.heap.size w w' := by
  subst hK
  obtain ⟨A, c, hs, ⟨B, b, s⟩, ⟨C, d, t⟩, rfl, e1, e2, e3, hE, hRa, hRb⟩ := OwGr.rd h
  obtain ⟨z, es, s0, t0⟩ := g
  have a1 : hs.map egOf = marksE k es := e1.symm
  have a2 : s = marks (k + cntE es) s0.length := e2
  have a3 : t = marks (k + cntE es + s0.length) t0.length := e3
  subst a2 a3
  obtain ⟨⟨ok1, -, -⟩, -, -⟩ := _ok
  have ok1' : es.length ≤ 1048576 := ok1
  have hnl : es.length = hs.length := by have := congrArg List.length a1; rw [List.length_map, marksE_length] at this; exact this.symm
  obtain ⟨E, hEE⟩ : ∃ E, E = cntE es := ⟨_, rfl⟩
  obtain ⟨n, hn⟩ : ∃ n, n = hs.length := ⟨_, rfl⟩
  obtain ⟨p, hp⟩ : ∃ p, p = s0.length := ⟨_, rfl⟩
  obtain ⟨q, hq⟩ : ∃ q, q = t0.length := ⟨_, rfl⟩
  have hcg : cntG (z, es, s0, t0) = E + p + q := by rw [hEE, hp, hq]; rfl
  rw [hcg] at hl ⊢
  have hl2 : k + (E + p + q) ≤ 17592186044000 := hl.1
  show Calls Try.prog _ #[.agg #[.int .i64 z, .slice A hs.length c, .slice B (marks (k + cntE es) s0.length).length b, .slice C (marks (k + cntE es + s0.length) t0.length).length d], .int .i64 (k : Int)] w _
  have hRa' : RdI w B (marks (k + cntE es) s0.length) := hRa
  have hRb' : RdI w C (marks (k + cntE es + s0.length) t0.length) := hRb
  rw [marks_length, marks_length, ← hn, ← hp, ← hq]
  rw [← hEE, ← hp] at hRa' hRb'
  rw [← hq] at hRb'
  obtain ⟨W, hW, bW, k0⟩ := alloc_box1 w (.cells #[.int .i64 z, .slice A n c, .slice B p b, .slice C q d] tGr)
  have hC0 := heldEdgeS_any A c n hs es k W (hE.below bW) a1 hn.symm (by omega) (by rw [← hEE]; omega)
  rw [← hEE] at hC0
  have hC1 := heldIntS_any B b p (k + E) W (hRa'.below bW) (by omega)
  have hC2 := heldIntS_any C d q (k + E + p) W (hRb'.below bW) (by omega)
  obtain ⟨⟨c0, c1, c2, c3⟩, f0, f1, f2, f3⟩ := box4 k0
  obtain ⟨R0, hR0⟩ : ∃ R : Nat, R = k + E := ⟨_, rfl⟩
  obtain ⟨R1, hR1⟩ : ∃ R : Nat, R = k + E + p := ⟨_, rfl⟩
  obtain ⟨R2, hR2⟩ : ∃ R : Nat, R = k + E + p + q := ⟨_, rfl⟩
  rw [← hR0] at hC0 hC1
  rw [← hR1] at hC2
  rw [show R0 + p = R1 by omega] at hC1
  rw [show R1 + q = R2 by omega] at hC2
  have hfin : (k : Int) + ((E + p + q : Nat) : Int) = (R2 : Int) := by omega
  rw [hfin]
  have n0 : ¬ ((R0 : Int) < 0) := by omega
  have n1 : ¬ ((R1 : Int) < 0) := by omega
  have n2 : ¬ ((R2 : Int) < 0) := by omega
  clear hE hRa hRb hRa' hRb' h e1 e2 e3 a1 ok1 ok1' hnl hl hl2 hcg hfin hEE hn hp hq hR0 hR1 hR2
  have hC0_h := Lib.hid hC0
  have hC1_h := Lib.hid hC1
  have hC2_h := Lib.hid hC2
  have k0_h := Lib.hid k0
  have bW_h := Lib.hid bW
  clear hC0 hC1 hC2 k0 bW
  go_enter Try.func24, Try.ntmps24
  go_upto_region 1 with (fail)
  rw [← hW]
  clear hW
  go_wp2_with (fail)
  refine (hC0_h.out).mono ?_
  rintro e w1 ⟨rfl, rfl⟩
  go_wp2_with (fail)
  refine (hC1_h.out).mono ?_
  rintro e w1 ⟨rfl, rfl⟩
  go_wp2_with (fail)
  refine (hC2_h.out).mono ?_
  rintro e w1 ⟨rfl, rfl⟩
  go_wp2_with (fail)
  go_ret
  exact ⟨rfl, bW_h.out⟩
end Go.Proofs.Ytanhmljgeiajoaa
