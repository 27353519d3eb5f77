/-
  THE CONTRACTS of EliminateLast.
-/
import Derived.Test.YtahnhblodfdfhaaDoorElimB
namespace Go.Proofs.YtahnhblodfdfhaaDoor
open Go.RowKit

/-- Without the last hidden variable. -/
def elV (p : Int) (s : Sys) : Sys := (s.1, s.2.1 - 1, elimM p (s.1 + s.2.1 - 1).toNat s.2.2)
def elM (p : Int) (s : Sys) : Sys × Bool := if sysB p s && !(s.2.1 == 0) then (elV p s, true) else ((0, 0, []), false)
theorem take_len {c : Nat} {v : List Int} (h : c + 1 ≤ v.length) : (v.take c).length = c := by rw [List.length_take]; omega
theorem elimM_ok {p : Int} {c : Nat} {L : List (List Int)} (h : OkR L) : OkR (elimM p c L) := by
  have h1 := h.1
  have h2 := h.2.1
  have h3 := h.2.2
  have hc : ∀ (f : List Int → List Int) (X : List (List Int)), (∀ v, (f v).length ≤ v.length) → cntR (X.map f) ≤ cntR X := by
    intro f X hf
    induction X with
    | nil => simp [cntR]
    | cons a X ih => rw [List.map_cons, cntR, cntR]; have := hf a; omega
  have he : ∀ (X : List (List Int)) (i : Nat), cntR (X.eraseIdx i) ≤ cntR X := by
    intro X
    induction X with
    | nil => intro i; simp [cntR]
    | cons a X ih => intro i; cases i with
      | zero => rw [List.eraseIdx_cons_zero, cntR]; omega
      | succ i => rw [List.eraseIdx_cons_succ, cntR, cntR]; have := ih i; omega
  unfold elimM
  split
  · refine ⟨?_, fun x hx => ?_, ?_⟩
    · rw [List.length_map]; have := List.length_eraseIdx_le L (pvI L c); omega
    · obtain ⟨u, hu, rfl⟩ := List.mem_map.1 hx
      have := h2 u (List.mem_of_mem_eraseIdx hu)
      rw [List.length_take, eV_length]; omega
    · refine Nat.le_trans (hc _ _ fun v => ?_) (Nat.le_trans (he _ _) h3)
      rw [List.length_take, eV_length]; omega
  · refine ⟨by rw [List.length_map]; exact h1, fun x hx => ?_, Nat.le_trans (hc _ _ fun v => ?_) h3⟩
    · obtain ⟨u, hu, rfl⟩ := List.mem_map.1 hx
      have := h2 u hu
      rw [List.length_take]; omega
    · rw [List.length_take]; omega
theorem elM_ok {p : Int} {s : Sys} (h : OkR s.2.2) : OkR (elM p s).1.2.2 := by
  unfold elM
  split
  · exact elimM_ok h
  · exact okR_nil


set_option maxRecDepth 100000 in
set_option maxHeartbeats 2000000 in
theorem sEliminateLast_law (p : Int) {v : Value} {s : Sys} {fp : List Nat} {w : World} (h : OwSys w v s fp) (ok : OkR s.2.2) :
    Calls Tryd.prog 11 #[.int .i64 p, v] w fun e w' => ∃ v' fp', e = .returned (.tuple #[v', .bool (elM p s).2]) ∧ OwSys w' v' (elM p s).1 fp' ∧ FreshL w.heap.size fp' ∧ Below w.heap.size w w' := by
  obtain ⟨C, hC0⟩ : ∃ C, C = elM p s := ⟨_, rfl⟩
  rw [← hC0]
  have hcan : ∀ b, (sysB p s && !(s.2.1 == 0)) = b → elM p s = if b then (elV p s, true) else ((0, 0, []), false) := fun b hb => by unfold elM; rw [hb]
  obtain ⟨A, n, c, rfl⟩ := h.shape
  obtain ⟨W, hW, b0, k0, k1⟩ := alloc2 w (.cells #[.int .i64 s.1, .int .i64 s.2.1, .slice A n c] 26) (.cells #[.int .i64 0, .int .i64 0, .slice none 0 0] 26)
  have hG := syGood_any p W (h.rd.below b0) ok.1 ok.2.1
  obtain ⟨⟨c0, c1, c2⟩, f0, f1, f2⟩ := box3 k0
  by_cases hb : sysB p s = true
  · rw [hb] at hG
    by_cases hz : s.2.1 = 0
    · have hzb : (s.2.1 == 0) = true := by rw [hz]; rfl
      have hb2 := hcan false (by rw [hzb, hb]; rfl)
      rw [if_neg (by simp)] at hb2
      rw [hb2] at hC0
      subst hC0
      clear h ok hb hb2 hcan hz
      have hG_h := Lib.hid hG
      have k0_h := Lib.hid k0
      have k1_h := Lib.hid k1
      have b0_h := Lib.hid b0
      clear hG k0 k1 b0
      go_enter Tryd.func11, Tryd.ntmps11
      go_upto_region 1 with (fail)
      rw [← hW]
      clear hW
      go_wp2_with (fail)
      refine (hG_h.out).mono ?_
      rintro e w1 ⟨rfl, hb1⟩
      clear c0 c1 c2 f0 f1 f2
      replace k0_h := Lib.hid (box_below k0_h.out hb1)
      replace k1_h := Lib.hid (box_below k1_h.out hb1)
      obtain ⟨⟨c0, c1, c2⟩, f0, f1, f2⟩ := box3 k0_h.out
      obtain ⟨⟨d0, d1, d2⟩, g0, g1, g2⟩ := box3 k1_h.out
      have hB1 := below_trans b0_h.out hb1 b0_h.out.size
      have hw1 := box_lt k1_h.out
      obtain ⟨s1, s2⟩ := set3 (a := .int .i64 0) (b := .int .i64 0) (c := .slice none 0 0) k1_h.out
      have hB3 := below_keeps hB1 s2 hB1.size (fun k hk => by omega)
      clear hB1 hb1
      have s1_h := Lib.hid s1
      have s2_h := Lib.hid s2
      have hB3_h := Lib.hid hB3
      clear s1 s2 hB3
      go_wp2_with (fail)
      refine bodyPost_ret (results_cell_tmp rfl _ _ (w.heap.size + 1) _ _ (0, 0) _ rfl s1_h.out Tryd.underlying26 rfl (by kernel_rfl)) rfl ?_
      exact ⟨_, [], rfl, OwSys.zero _ 0 0, FreshL.nil _, hB3_h.out⟩
    · have hzb : (s.2.1 == 0) = false := by rw [beq_eq_false_iff_ne]; exact hz
      have hb2 := hcan true (by rw [hzb, hb]; rfl)
      rw [if_pos rfl] at hb2
      rw [hb2] at hC0
      subst hC0
      have hof := SysOk.of hb
      have hvi := hof.vis
      have hhi := hof.hid
      have hF := fun W' (hbb : Below W.heap.size W W') => syLess_any p (s.1 + s.2.1 - 1).toNat W' ((h.rd.below b0).below hbb) hof (by omega) (by omega)
      obtain ⟨V, hV⟩ : ∃ V, V = elV p s := ⟨_, rfl⟩
      have hF' : ∀ W' (_ : Below W.heap.size W W'), Calls Tryd.prog 49 #[.int .i64 p, .agg #[.int .i64 s.1, .int .i64 s.2.1, .slice A n c]] W' fun e w' => ∃ v' fp, e = .returned v' ∧ OwSys w' v' V fp ∧ FreshL W'.heap.size fp ∧ Below W'.heap.size W' w' := by rw [hV]; exact hF
      rw [← hV]
      clear h ok hb hb2 hcan hz hof hvi hhi hF hV
      have hF := hF'
      clear hF'
      have hG_h := Lib.hid hG
      have hF_h := Lib.hid hF
      have k0_h := Lib.hid k0
      have k1_h := Lib.hid k1
      have b0_h := Lib.hid b0
      clear hG hF k0 k1 b0
      go_enter Tryd.func11, Tryd.ntmps11
      go_upto_region 1 with (fail)
      rw [← hW]
      clear hW
      go_wp2_with (fail)
      refine (hG_h.out).mono ?_
      rintro e w1 ⟨rfl, hb1⟩
      clear c0 c1 c2 f0 f1 f2
      replace k0_h := Lib.hid (box_below k0_h.out hb1)
      replace k1_h := Lib.hid (box_below k1_h.out hb1)
      obtain ⟨⟨c0, c1, c2⟩, f0, f1, f2⟩ := box3 k0_h.out
      obtain ⟨⟨d0, d1, d2⟩, g0, g1, g2⟩ := box3 k1_h.out
      have hB1 := below_trans b0_h.out hb1 b0_h.out.size
      have hw1 := box_lt k1_h.out
      have hF1 := hF_h.out w1 hb1
      have hF1_h := Lib.hid hF1
      have hB1_h := Lib.hid hB1
      have hb1_h := Lib.hid hb1
      clear hF1 hB1 hb1
      go_wp2_with (fail)
      refine (hF1_h.out).mono ?_
      rintro e w2 ⟨v2, fp2, rfl, hO2, hf2, hb2⟩
      obtain ⟨A2, n2, c2', rfl⟩ := hO2.shape
      have k1' := box_below k1_h.out hb2
      clear d0 d1 d2 g0 g1 g2
      obtain ⟨⟨d0, d1, d2⟩, g0, g1, g2⟩ := box3 k1'
      obtain ⟨s1, s2⟩ := set3 (a := .int .i64 V.1) (b := .int .i64 V.2.1) (c := .slice A2 n2 c2') k1'
      have hB2 := below_trans hB1_h.out hb2 hB1_h.out.size
      have hB3 := below_keeps hB2 s2 hB2.size (fun k hk => by omega)
      have hO3 := hO2.keeps s2 (fun k hk e => by have := hf2 k hk; omega)
      have hf3 := hf2.mono hB1_h.out.size
      clear hB2 hO2 hf2 hb2 k1'
      have s1_h := Lib.hid s1
      have s2_h := Lib.hid s2
      have hB3_h := Lib.hid hB3
      have hO3_h := Lib.hid hO3
      have hf3_h := Lib.hid hf3
      clear s1 s2 hB3 hO3 hf3
      go_wp2_with (fail)
      refine bodyPost_ret (results_cell_tmp rfl _ _ (w.heap.size + 1) _ _ (0, 0) _ rfl s1_h.out Tryd.underlying26 rfl (by kernel_rfl)) rfl ?_
      exact ⟨_, fp2, rfl, hO3_h.out, hf3_h.out, hB3_h.out⟩
  · have hb' : sysB p s = false := by simpa using hb
    rw [hb'] at hG
    have hb2 := hcan false (by rw [hb']; rfl)
    rw [if_neg (by simp)] at hb2
    rw [hb2] at hC0
    subst hC0
    clear h ok hb hb' hb2 hcan
    have hG_h := Lib.hid hG
    have k0_h := Lib.hid k0
    have k1_h := Lib.hid k1
    have b0_h := Lib.hid b0
    clear hG k0 k1 b0
    go_enter Tryd.func11, Tryd.ntmps11
    go_upto_region 1 with (fail)
    rw [← hW]
    clear hW
    go_wp2_with (fail)
    refine (hG_h.out).mono ?_
    rintro e w1 ⟨rfl, hb1⟩
    clear c0 c1 c2 f0 f1 f2
    replace k0_h := Lib.hid (box_below k0_h.out hb1)
    replace k1_h := Lib.hid (box_below k1_h.out hb1)
    obtain ⟨⟨c0, c1, c2⟩, f0, f1, f2⟩ := box3 k0_h.out
    obtain ⟨⟨d0, d1, d2⟩, g0, g1, g2⟩ := box3 k1_h.out
    have hB1 := below_trans b0_h.out hb1 b0_h.out.size
    have hw1 := box_lt k1_h.out
    obtain ⟨s1, s2⟩ := set3 (a := .int .i64 0) (b := .int .i64 0) (c := .slice none 0 0) k1_h.out
    have hB3 := below_keeps hB1 s2 hB1.size (fun k hk => by omega)
    clear hB1 hb1
    have s1_h := Lib.hid s1
    have s2_h := Lib.hid s2
    have hB3_h := Lib.hid hB3
    clear s1 s2 hB3
    go_wp2_with (fail)
    refine bodyPost_ret (results_cell_tmp rfl _ _ (w.heap.size + 1) _ _ (0, 0) _ rfl s1_h.out Tryd.underlying26 rfl (by kernel_rfl)) rfl ?_
    exact ⟨_, [], rfl, OwSys.zero _ 0 0, FreshL.nil _, hB3_h.out⟩


set_option maxRecDepth 100000 in
set_option maxHeartbeats 2000000 in
theorem iEliminateLast_law (p : Int) {v : Value} {s : Sys} {fp : List Nat} {w : World} (h : OwSys w v s fp) (ok : OkR s.2.2) (hT : Tab w) :
    Calls Tryd.prog 13 #[.int .i64 p, v] w fun e w' => ∃ v' fp', e = .returned (.tuple #[v', .bool (elM p s).2]) ∧ OwSys w' v' (elM p s).1 fp' ∧ FreshL w.heap.size fp' ∧ Below w.heap.size w w' := by
  obtain ⟨C, hC0⟩ : ∃ C, C = elM p s := ⟨_, rfl⟩
  rw [← hC0]
  have hcan : ∀ b, (sysB p s && !(s.2.1 == 0)) = b → elM p s = if b then (elV p s, true) else ((0, 0, []), false) := fun b hb => by unfold elM; rw [hb]
  obtain ⟨A, n, c, rfl⟩ := h.shape
  obtain ⟨W, hW, b0, k0, k1⟩ := alloc2 w (.cells #[.int .i64 s.1, .int .i64 s.2.1, .slice A n c] 26) (.cells #[.int .i64 0, .int .i64 0, .slice none 0 0] 26)
  have hG := isSystem_any p W (h.rd.below b0) (hT.below b0 hT.lt) ok.1 ok.2.1
  obtain ⟨⟨c0, c1, c2⟩, f0, f1, f2⟩ := box3 k0
  by_cases hb : sysB p s = true
  · rw [hb] at hG
    by_cases hz : s.2.1 = 0
    · have hzb : (s.2.1 == 0) = true := by rw [hz]; rfl
      have hb2 := hcan false (by rw [hzb, hb]; rfl)
      rw [if_neg (by simp)] at hb2
      rw [hb2] at hC0
      subst hC0
      clear h ok hb hb2 hcan hz hT
      have hG_h := Lib.hid hG
      have k0_h := Lib.hid k0
      have k1_h := Lib.hid k1
      have b0_h := Lib.hid b0
      clear hG k0 k1 b0
      go_enter Tryd.func13, Tryd.ntmps13
      go_upto_region 1 with (fail)
      rw [← hW]
      clear hW
      go_wp2_with (fail)
      refine (hG_h.out).mono ?_
      rintro e w1 ⟨rfl, hb1⟩
      clear c0 c1 c2 f0 f1 f2
      replace k0_h := Lib.hid (box_below k0_h.out hb1)
      replace k1_h := Lib.hid (box_below k1_h.out hb1)
      obtain ⟨⟨c0, c1, c2⟩, f0, f1, f2⟩ := box3 k0_h.out
      obtain ⟨⟨d0, d1, d2⟩, g0, g1, g2⟩ := box3 k1_h.out
      have hB1 := below_trans b0_h.out hb1 b0_h.out.size
      have hw1 := box_lt k1_h.out
      obtain ⟨s1, s2⟩ := set3 (a := .int .i64 0) (b := .int .i64 0) (c := .slice none 0 0) k1_h.out
      have hB3 := below_keeps hB1 s2 hB1.size (fun k hk => by omega)
      clear hB1 hb1
      have s1_h := Lib.hid s1
      have s2_h := Lib.hid s2
      have hB3_h := Lib.hid hB3
      clear s1 s2 hB3
      go_wp2_with (fail)
      refine bodyPost_ret (results_cell_tmp rfl _ _ (w.heap.size + 1) _ _ (0, 0) _ rfl s1_h.out Tryd.underlying26 rfl (by kernel_rfl)) rfl ?_
      exact ⟨_, [], rfl, OwSys.zero _ 0 0, FreshL.nil _, hB3_h.out⟩
    · have hzb : (s.2.1 == 0) = false := by rw [beq_eq_false_iff_ne]; exact hz
      have hb2 := hcan true (by rw [hzb, hb]; rfl)
      rw [if_pos rfl] at hb2
      rw [hb2] at hC0
      subst hC0
      have hof := SysOk.of hb
      have hvi := hof.vis
      have hhi := hof.hid
      have hF := fun W' (hbb : Below W.heap.size W W') => eliminateLast_any p (s.1 + s.2.1 - 1).toNat W' ((h.rd.below b0).below hbb) hof (by omega) (by omega)
      obtain ⟨V, hV⟩ : ∃ V, V = elV p s := ⟨_, rfl⟩
      have hF' : ∀ W' (_ : Below W.heap.size W W'), Calls Tryd.prog 52 #[.int .i64 p, .agg #[.int .i64 s.1, .int .i64 s.2.1, .slice A n c]] W' fun e w' => ∃ v' fp, e = .returned v' ∧ OwSys w' v' V fp ∧ FreshL W'.heap.size fp ∧ Below W'.heap.size W' w' := by rw [hV]; exact hF
      rw [← hV]
      clear h ok hb hb2 hcan hz hof hvi hhi hF hV hT
      have hF := hF'
      clear hF'
      have hG_h := Lib.hid hG
      have hF_h := Lib.hid hF
      have k0_h := Lib.hid k0
      have k1_h := Lib.hid k1
      have b0_h := Lib.hid b0
      clear hG hF k0 k1 b0
      go_enter Tryd.func13, Tryd.ntmps13
      go_upto_region 1 with (fail)
      rw [← hW]
      clear hW
      go_wp2_with (fail)
      refine (hG_h.out).mono ?_
      rintro e w1 ⟨rfl, hb1⟩
      clear c0 c1 c2 f0 f1 f2
      replace k0_h := Lib.hid (box_below k0_h.out hb1)
      replace k1_h := Lib.hid (box_below k1_h.out hb1)
      obtain ⟨⟨c0, c1, c2⟩, f0, f1, f2⟩ := box3 k0_h.out
      obtain ⟨⟨d0, d1, d2⟩, g0, g1, g2⟩ := box3 k1_h.out
      have hB1 := below_trans b0_h.out hb1 b0_h.out.size
      have hw1 := box_lt k1_h.out
      have hF1 := hF_h.out w1 hb1
      have hF1_h := Lib.hid hF1
      have hB1_h := Lib.hid hB1
      have hb1_h := Lib.hid hb1
      clear hF1 hB1 hb1
      go_wp2_with (fail)
      refine (hF1_h.out).mono ?_
      rintro e w2 ⟨v2, fp2, rfl, hO2, hf2, hb2⟩
      obtain ⟨A2, n2, c2', rfl⟩ := hO2.shape
      have k1' := box_below k1_h.out hb2
      clear d0 d1 d2 g0 g1 g2
      obtain ⟨⟨d0, d1, d2⟩, g0, g1, g2⟩ := box3 k1'
      obtain ⟨s1, s2⟩ := set3 (a := .int .i64 V.1) (b := .int .i64 V.2.1) (c := .slice A2 n2 c2') k1'
      have hB2 := below_trans hB1_h.out hb2 hB1_h.out.size
      have hB3 := below_keeps hB2 s2 hB2.size (fun k hk => by omega)
      have hO3 := hO2.keeps s2 (fun k hk e => by have := hf2 k hk; omega)
      have hf3 := hf2.mono hB1_h.out.size
      clear hB2 hO2 hf2 hb2 k1'
      have s1_h := Lib.hid s1
      have s2_h := Lib.hid s2
      have hB3_h := Lib.hid hB3
      have hO3_h := Lib.hid hO3
      have hf3_h := Lib.hid hf3
      clear s1 s2 hB3 hO3 hf3
      go_wp2_with (fail)
      refine bodyPost_ret (results_cell_tmp rfl _ _ (w.heap.size + 1) _ _ (0, 0) _ rfl s1_h.out Tryd.underlying26 rfl (by kernel_rfl)) rfl ?_
      exact ⟨_, fp2, rfl, hO3_h.out, hf3_h.out, hB3_h.out⟩
  · have hb' : sysB p s = false := by simpa using hb
    rw [hb'] at hG
    have hb2 := hcan false (by rw [hb']; rfl)
    rw [if_neg (by simp)] at hb2
    rw [hb2] at hC0
    subst hC0
    clear h ok hb hb' hb2 hcan hT
    have hG_h := Lib.hid hG
    have k0_h := Lib.hid k0
    have k1_h := Lib.hid k1
    have b0_h := Lib.hid b0
    clear hG k0 k1 b0
    go_enter Tryd.func13, Tryd.ntmps13
    go_upto_region 1 with (fail)
    rw [← hW]
    clear hW
    go_wp2_with (fail)
    refine (hG_h.out).mono ?_
    rintro e w1 ⟨rfl, hb1⟩
    clear c0 c1 c2 f0 f1 f2
    replace k0_h := Lib.hid (box_below k0_h.out hb1)
    replace k1_h := Lib.hid (box_below k1_h.out hb1)
    obtain ⟨⟨c0, c1, c2⟩, f0, f1, f2⟩ := box3 k0_h.out
    obtain ⟨⟨d0, d1, d2⟩, g0, g1, g2⟩ := box3 k1_h.out
    have hB1 := below_trans b0_h.out hb1 b0_h.out.size
    have hw1 := box_lt k1_h.out
    obtain ⟨s1, s2⟩ := set3 (a := .int .i64 0) (b := .int .i64 0) (c := .slice none 0 0) k1_h.out
    have hB3 := below_keeps hB1 s2 hB1.size (fun k hk => by omega)
    clear hB1 hb1
    have s1_h := Lib.hid s1
    have s2_h := Lib.hid s2
    have hB3_h := Lib.hid hB3
    clear s1 s2 hB3
    go_wp2_with (fail)
    refine bodyPost_ret (results_cell_tmp rfl _ _ (w.heap.size + 1) _ _ (0, 0) _ rfl s1_h.out Tryd.underlying26 rfl (by kernel_rfl)) rfl ?_
    exact ⟨_, [], rfl, OwSys.zero _ 0 0, FreshL.nil _, hB3_h.out⟩

end Go.Proofs.YtahnhblodfdfhaaDoor
