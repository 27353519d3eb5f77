/-
  THE WALKS: MergeWires, both sides.
-/
import Derived.Test.YtanhmljgeiajoaaGrGl
import Derived.Test.YtanhmljgeiajoaaGrGs
namespace Go.Proofs.Ytanhmljgeiajoaa
open Go.RowKit

set_option maxRecDepth 100000 in
set_option maxHeartbeats 4000000 in
theorem hgGlue_any {v : Value} {g : Gr} (w : World) (n : Nat) (X : Option Addr) (xc : Nat) (Y : Option Addr) (yc q : Nat) (ps : List (Int × Int)) (h : RdGr w v g) (ok : OkG g) (hgn : g.1 = (n : Int)) (hv : grB g = true)
    (hX : RdI w X (ps.map Prod.fst)) (hY : RdI w Y (ps.map Prod.snd)) (hq : ps.length = q) (hqb : q ≤ 1048576) (hin : ∀ q, q ∈ ps → (0 ≤ q.1 ∧ q.1 < n) ∧ 0 ≤ q.2 ∧ q.2 < n) :
    Calls Try.prog 66 #[v, .slice X q xc, .slice Y q yc] w fun e w' => ∃ v' fp, e = .returned v' ∧ OwGr w' v' (mapG (numM (joinsM (idW n) ps)) (nrM (joinsM (idW n) ps) n : Int) g) fp ∧ FreshL w.heap.size fp ∧ Below w.heap.size w w' := by
  obtain ⟨A, n0, c, B, m0, d, C', k0', e0, rfl⟩ := h.shape
  obtain ⟨z, hz⟩ : ∃ z, z = g.1 := ⟨_, rfl⟩
  rw [← hz] at h ⊢
  obtain ⟨W, hW, bW, k0, k1⟩ := allocs2 w (.cells #[.int .i64 z, .slice A n0 c, .slice B m0 d, .slice C' k0' e0] tGr) (.cells #[.int .i64 0, .slice none 0 0, .slice none 0 0, .slice none 0 0] tGr)
  have hR := hgGlued_any W n X xc Y yc q ps (h.below bW) ok hgn hv (hX.below bW) (hY.below bW) hq hqb hin
  obtain ⟨Rg, hRg⟩ : ∃ Rg, Rg = mapG (numM (joinsM (idW n) ps)) (nrM (joinsM (idW n) ps) n : Int) g := ⟨_, rfl⟩
  rw [← hRg] at hR ⊢
  obtain ⟨⟨c0, c1, c2, c3⟩, f0, f1, f2, f3⟩ := box4 k0
  clear h hX hY ok hgn hv hq hin hz hRg
  have bW_h := Lib.hid bW
  have k0_h := Lib.hid k0
  have k1_h := Lib.hid k1
  have hR_h := Lib.hid hR
  clear bW k0 k1 hR
  go_enter Try.func66, Try.ntmps66
  go_upto_region 1 with (fail)
  rw [← hW]
  clear hW
  go_wp2_with (fail)
  refine (hR_h.out).mono ?_
  rintro e w1 ⟨v1, fp1, A1, c1', rfl, hO, hf, -, -, hb1⟩
  obtain ⟨A6, n6, c6, B6, m6, d6, C6, q6, u6, rfl⟩ := hO.shape
  obtain ⟨W3, hW3, bW3, k3⟩ := alloc_box1g w1 (.cells #[.int .i64 Rg.1, .slice A6 n6 c6, .slice B6 m6 d6, .slice C6 q6 u6] tGr)
  have hb3 := below_trans hb1 bW3 hb1.size
  have k1d := box_below k1_h.out hb3
  have hB3 := below_trans bW_h.out hb3 bW_h.out.size
  have hO3 := hO.below bW3
  have hk1 := box_lt k1_h.out
  have hwW := bW_h.out.size
  obtain ⟨s1, s2⟩ := set4 (a := .int .i64 Rg.1) (b := .slice A6 n6 c6) (c := .slice B6 m6 d6) (d := .slice C6 q6 u6) k1d
  have hBs := below_keeps hB3 s2 hB3.size (fun k hk => by omega)
  have hOs := hO3.keeps s2 (fun x hx e => by have := hf x hx; omega)
  have hFs : FreshL w.heap.size fp1 := fun x hx => by have := hf x hx; omega
  clear c0 c1 c2 c3 f0 f1 f2 f3
  obtain ⟨⟨c0, c1, c2, c3⟩, f0, f1, f2, f3⟩ := box4 k3
  obtain ⟨⟨d0, d1, d2, d3⟩, g0', g1, g2, g3⟩ := box4 k1d
  clear hb1 bW3 k3 hb3 hO hO3 hB3 k1d s2 hf
  have s1_h := Lib.hid s1
  have hBs_h := Lib.hid hBs
  have hOs_h := Lib.hid hOs
  have hFs_h := Lib.hid hFs
  clear s1 hBs hOs hFs
  go_upto_region 2 with (fail)
  rw [← hW3]
  clear hW3
  go_wp2_with (fail)
  refine bodyPost_ret (results_cell_row rfl _ _ (w.heap.size + 1) _ _ (0, 0) _ rfl s1_h.out Try.underlying31 rfl (by kernel_rfl)) rfl ?_
  exact ⟨_, _, rfl, hOs_h.out, hFs_h.out, hBs_h.out⟩
def mwC (g : Gr) (a b : Int) : List Int := joinsM (idW g.1.toNat) [(a, b)]
/-- MergeWires' answer. -/
def mwM (g : Gr) (a b : Int) : Gr × Bool := if (grB g && (inB a 0 (g.1 - 1) && inB b 0 (g.1 - 1))) = true then (mapG (numM (mwC g a b)) (nrM (mwC g a b) g.1.toNat : Int) g, true) else (g0, false)
theorem mwM_no {g : Gr} {a b : Int} (h : (grB g && (inB a 0 (g.1 - 1) && inB b 0 (g.1 - 1))) = false) : mwM g a b = (g0, false) := by unfold mwM; rw [h]; rfl
theorem mwM_yes {g : Gr} {a b : Int} {n : Nat} (hn : g.1 = (n : Int)) (h : (grB g && (inB a 0 (g.1 - 1) && inB b 0 (g.1 - 1))) = true) : mwM g a b = (mapG (numM (joinsM (idW n) [(a, b)])) (nrM (joinsM (idW n) [(a, b)]) n : Int) g, true) := by
  unfold mwM mwC; rw [if_pos h, hn, Int.toNat_natCast]
theorem mapG_ok {g : Gr} (ok : OkG g) (ws : List Int) (n : Int) : OkG (mapG ws n g) := by
  obtain ⟨⟨o1, o2, o3⟩, o4, o5⟩ := ok
  refine ⟨⟨?_, ?_, ?_⟩, fun e he => ?_, ?_⟩
  · show (g.2.1.map (mapE ws)).length ≤ _
    rw [List.length_map]; exact o1
  · show (mapL ws g.2.2.1).length ≤ _
    rw [mapL_length]; exact o2
  · show (mapL ws g.2.2.2).length ≤ _
    rw [mapL_length]; exact o3
  · obtain ⟨x, hx, rfl⟩ := List.mem_map.1 (show e ∈ g.2.1.map (mapE ws) from he)
    simp only [mapE, mapL_length]
    exact o4 x hx
  · show cntE (g.2.1.map (mapE ws)) + (mapL ws g.2.2.1).length + (mapL ws g.2.2.2).length ≤ _
    rw [cntE_map, mapL_length, mapL_length]; exact o5
theorem mwM_ok {g : Gr} (a b : Int) (ok : OkG g) : OkG (mwM g a b).1 := by
  unfold mwM
  split
  · exact mapG_ok ok _ _
  · exact g0_ok

set_option maxRecDepth 100000 in
set_option maxHeartbeats 8000000 in
theorem iMergeWires_law (a b : Int) {v : Value} {g : Gr} {w : World} (h : RdGr w v g) (ok : OkG g) :
    Calls Try.prog 33 #[v, .int .i64 a, .int .i64 b] w fun e w' => ∃ v' fp, e = .returned (.tuple #[v', .bool (mwM g a b).2]) ∧ OwGr w' v' (mwM g a b).1 fp ∧ FreshL w.heap.size fp ∧ Below w.heap.size w w' := by
  obtain ⟨M, hM⟩ : ∃ M, M = mwM g a b := ⟨_, rfl⟩
  rw [← hM]
  obtain ⟨A, n0, c, B, m0, d, C, k0', e0, rfl⟩ := h.shape
  obtain ⟨T, hT⟩ : ∃ T, T = grB g := ⟨_, rfl⟩
  obtain ⟨z, hz⟩ : ∃ z, z = g.1 := ⟨_, rfl⟩
  obtain ⟨B2, hB2⟩ : ∃ x, x = inB a 0 (z - 1) := ⟨_, rfl⟩
  obtain ⟨B3, hB3⟩ : ∃ x, x = inB b 0 (z - 1) := ⟨_, rfl⟩
  have hno : (T && (B2 && B3)) = false → M = (g0, false) := fun hh => hM.trans (mwM_no (by rw [← hT, ← hz, ← hB2, ← hB3]; exact hh))
  have hye : ∀ n : Nat, z = (n : Int) → (T && (B2 && B3)) = true → M = (mapG (numM (joinsM (idW n) [(a, b)])) (nrM (joinsM (idW n) [(a, b)]) n : Int) g, true) := fun n hn hh => hM.trans (mwM_yes (hz.symm.trans hn) (by rw [← hT, ← hz, ← hB2, ← hB3]; exact hh))
  rw [← hz] at h ⊢
  have hzr : T = true → ∃ n : Nat, z = (n : Int) ∧ n ≤ 100 := fun hh => by
    obtain ⟨n, e1, hn, _⟩ := grB_parts (hT.symm.trans hh)
    exact ⟨n, hz.trans e1, hn⟩
  obtain ⟨W, hW, bW, k0, k1⟩ := allocs2 w (.cells #[.int .i64 z, .slice A n0 c, .slice B m0 d, .slice C k0' e0] tGr) (.cells #[.int .i64 0, .slice none 0 0, .slice none 0 0, .slice none 0 0] tGr)
  have hGW := h.below bW
  have hG := isGraph_any W hGW ok
  rw [← hT] at hG
  have hI2 := fun (W : World) => within_any a 0 (z - 1) W
  have hI3 := fun (W : World) => within_any b 0 (z - 1) W
  simp only [← hB2] at hI2
  simp only [← hB3] at hI3
  obtain ⟨⟨c0, c1, c2, c3⟩, f0, f1, f2, f3⟩ := box4 k0
  clear hM h
  have hR : ∀ (W' : World) (n : Nat) (X : Option Addr), z = (n : Int) → (T && (B2 && B3)) = true → Below W.heap.size W W' → RdP W' X [(a, b)] → Calls Try.prog 68 #[.agg #[.int .i64 z, .slice A n0 c, .slice B m0 d, .slice C k0' e0], .slice X 1 1] W' fun e w' => ∃ A1 n1 c1 B1 m1 d1 C1 k1 e1 fp A c, e = .returned (.agg #[.int .i64 (mapG (numM (joinsM (idW n) [(a, b)])) (nrM (joinsM (idW n) [(a, b)]) n : Int) g).1, .slice A1 n1 c1, .slice B1 m1 d1, .slice C1 k1 e1, .slice A n c]) ∧ OwGr w' (.agg #[.int .i64 (mapG (numM (joinsM (idW n) [(a, b)])) (nrM (joinsM (idW n) [(a, b)]) n : Int) g).1, .slice A1 n1 c1, .slice B1 m1 d1, .slice C1 k1 e1]) (mapG (numM (joinsM (idW n) [(a, b)])) (nrM (joinsM (idW n) [(a, b)]) n : Int) g) fp ∧ FreshL W'.heap.size fp ∧ Below W'.heap.size W' w' := fun W' n X hn hh hb hX => by
    rw [Bool.and_eq_true, Bool.and_eq_true] at hh
    have r2 : 0 ≤ a ∧ a ≤ z - 1 := of_decide_eq_true (hB2.symm.trans hh.2.1)
    have r3 : 0 ≤ b ∧ b ≤ z - 1 := of_decide_eq_true (hB3.symm.trans hh.2.2)
    refine (glue_any W' n X 1 1 [(a, b)] (hGW.below hb) ok (hz.symm.trans hn) (hT.symm.trans hh.1) hX rfl (by omega) (fun q hq => ?_)).mono fun e w' hh => ?_
    · obtain rfl := List.mem_singleton.1 hq
      simp only; omega
    · obtain ⟨A1, n1, c1, B1, m1, d1, C1, k1, e1, fp, A, c, h1, h2, h3, _, _, h6⟩ := hh
      exact ⟨A1, n1, c1, B1, m1, d1, C1, k1, e1, fp, A, c, h1, h2, h3, h6⟩
  have hfd : ∀ (x y z u v : Value) (W : World), (Instr.field tGu (.agg #[x, y, z, u, v]) 0).run Try.prog W = .ok (.agg #[x, y, z, u]) W := fun _ _ _ _ _ _ => by kernel_rfl
  clear hz hT hB2 hB3 hGW ok
  have k0_h := Lib.hid k0
  have k1_h := Lib.hid k1
  have bW_h := Lib.hid bW
  have hG_h := Lib.hid hG
  have hI2_h := Lib.hid hI2
  have hI3_h := Lib.hid hI3
  have hR_h := Lib.hid hR
  have hno_h := Lib.hid hno
  have hye_h := Lib.hid hye
  have hzr_h := Lib.hid hzr
  clear k0 k1 bW hG hI2 hI3 hR hno hye hzr
  go_enter Try.func33, Try.ntmps33
  go_upto_region 1 with (fail)
  rw [← hW]
  clear hW
  go_cut [26] (fun sv wx => sv = .bool (!(T && (B2 && B3))) ∧ Below W.heap.size W wx)
  case first =>
    go_wp2_with (fail)
    refine (hG_h.out).mono ?_
    rintro e w1 ⟨rfl, hb1⟩
    cases T
    case false =>
      have hb1_h := Lib.hid hb1
      clear hb1
      go_wp2_with (fail)
      go_meet
      exact ⟨rfl, hb1_h.out⟩
    case true =>
      have k0a := box_below k0_h.out hb1
      clear c0 c1 c2 c3 f0 f1 f2 f3
      obtain ⟨⟨c0, c1, c2, c3⟩, f0, f1, f2, f3⟩ := box4 k0a
      obtain ⟨n, rfl, hn⟩ := hzr_h.out rfl
      have wn : IntKind.i64.wrap ((n : Int) - 1) = (n : Int) - 1 := IntWalk.i64_in _ (by omega)
      have hb1_h := Lib.hid hb1
      have k0a_h := Lib.hid k0a
      clear hb1 k0a
      go_wp2_with (fail)
      refine ((hI2_h.out _)).mono ?_
      rintro e w2 ⟨rfl, rfl⟩
      cases B2
      case false =>
        go_wp2_with (fail)
        go_meet
        exact ⟨rfl, hb1_h.out⟩
      case true =>
        go_wp2_with (fail)
        refine ((hI3_h.out _)).mono ?_
        rintro e w2 ⟨rfl, rfl⟩
        go_wp2_with (fail)
        go_meet
        exact ⟨by cases B3 <;> rfl, hb1_h.out⟩
  case rest =>
    obtain ⟨rfl, hWc⟩ := hcut
    obtain ⟨w5, rfl⟩ : ∃ x, x = wc := ⟨_, rfl⟩
    have k1c := box_below k1_h.out hWc
    have k0c := box_below k0_h.out hWc
    have hk1 := box_lt k1_h.out
    have hB5 := below_trans bW_h.out hWc bW_h.out.size
    clear c0 c1 c2 c3 f0 f1 f2 f3
    obtain ⟨⟨c0, c1, c2, c3⟩, f0, f1, f2, f3⟩ := box4 k0c
    obtain ⟨F, hF⟩ : ∃ F, F = (T && (B2 && B3)) := ⟨_, rfl⟩
    rw [← hF]
    cases F
    case false =>
      have hM0 : M = (g0, false) := hno_h.out hF.symm
      obtain ⟨⟨d0, d1, d2, d3⟩, g0', g1, g2, g3⟩ := box4 k1c
      obtain ⟨s1, s2⟩ := set4 (a := .int .i64 0) (b := .slice none 0 0) (c := .slice none 0 0) (d := .slice none 0 0) k1c
      have hBs := below_keeps hB5 s2 hB5.size (fun k hk => by omega)
      clear hWc hB5 k0c k1c s2
      have hM0_h := Lib.hid hM0
      have s1_h := Lib.hid s1
      have hBs_h := Lib.hid hBs
      have hF_h := Lib.hid hF
      clear hM0 s1 hBs hF
      go_wp2_with (fail)
      refine bodyPost_ret (results_cell_tmp rfl _ _ (w.heap.size + 1) _ _ (0, 0) _ rfl s1_h.out Try.underlying31 rfl (by kernel_rfl)) rfl ?_
      rw [hM0_h.out]
      exact ⟨_, _, rfl, OwGr.zero _, fun b hb => (by cases hb), hBs_h.out⟩
    case true =>
      have hTt : T = true := by
        have := hF.symm
        rw [Bool.and_eq_true] at this; exact this.1
      obtain ⟨n, hzn, hn⟩ := hzr_h.out hTt
      have hM1 := hye_h.out n hzn hF.symm
      have hRX := hR_h.out (w5.alloc (.cells #[.int .i64 a, .int .i64 b] 81)) n (some ⟨w5.heap.size, 0, none⟩) hzn hF.symm (below_trans hWc (below_alloc _ _) hWc.size) (fun j x y hj => by
        have hk := heap_alloc_new w5 (.cells #[.int .i64 a, .int .i64 b] 81)
        obtain ⟨⟨h0, h1⟩, _⟩ := box2 hk
        match j with
        | 0 =>
          obtain ⟨rfl, rfl⟩ := Prod.mk.inj (Option.some.inj hj)
          exact ⟨_, rfl, h0, h1⟩
        | j + 1 => simp at hj)
      have hb7 := below_alloc w5 (.cells #[.int .i64 a, .int .i64 b] 81)
      obtain ⟨N, hN⟩ : ∃ N, N = mapG (numM (joinsM (idW n) [(a, b)])) (nrM (joinsM (idW n) [(a, b)]) n : Int) g := ⟨_, rfl⟩
      rw [← hN] at hM1 hRX
      clear hno_h hye_h hR_h hF hN hzn
      have hM1_h := Lib.hid hM1
      have hRX_h := Lib.hid hRX
      have hWc_h := Lib.hid hWc
      have hB5_h := Lib.hid hB5
      have k1c_h := Lib.hid k1c
      have k0c_h := Lib.hid k0c
      have hb7_h := Lib.hid hb7
      clear hM1 hRX hWc hB5 k1c k0c hb7
      go_wp2_with (fail)
      refine (hRX_h.out).mono ?_
      rintro e w6 ⟨A6, n6, c6, B6, m6, d6, C6, q6, u6, fp6, A7, c7, rfl, hO6, hf6, hb6⟩
      have hb6' := below_trans hb7_h.out hb6 hb7_h.out.size
      have hz7 := hb7_h.out.size
      have k1d := box_below k1c_h.out hb6'
      have hB6 := below_trans hB5_h.out hb6' hB5_h.out.size
      obtain ⟨⟨d0, d1, d2, d3⟩, g0', g1, g2, g3⟩ := box4 k1d
      obtain ⟨s1, s2⟩ := set4 (a := .int .i64 N.1) (b := .slice A6 n6 c6) (c := .slice B6 m6 d6) (d := .slice C6 q6 u6) k1d
      have hBs := below_keeps hB6 s2 hB6.size (fun k hk => by omega)
      have hw5 := hWc_h.out.size
      have hwW := bW_h.out.size
      have hOs := hO6.keeps s2 (fun x hx e => by have := hf6 x hx; omega)
      have hFs : FreshL w.heap.size fp6 := fun x hx => by have := hf6 x hx; omega
      clear hb6 hb6' hO6 hB6 k1d s2 hf6
      have s1_h := Lib.hid s1
      have hBs_h := Lib.hid hBs
      have hOs_h := Lib.hid hOs
      have hFs_h := Lib.hid hFs
      clear s1 hBs hOs hFs
      go_wp2_with (fail)
      refine bodyPost_ret (results_cell_tmp rfl _ _ (w.heap.size + 1) _ _ (0, 0) _ rfl s1_h.out Try.underlying31 rfl (by kernel_rfl)) rfl ?_
      rw [hM1_h.out]
      exact ⟨_, _, rfl, hOs_h.out, hFs_h.out, hBs_h.out⟩
set_option maxRecDepth 100000 in
set_option maxHeartbeats 8000000 in
theorem sMergeWires_law (a b : Int) {v : Value} {g : Gr} {w : World} (h : RdGr w v g) (ok : OkG g) :
    Calls Try.prog 32 #[v, .int .i64 a, .int .i64 b] w fun e w' => ∃ v' fp, e = .returned (.tuple #[v', .bool (mwM g a b).2]) ∧ OwGr w' v' (mwM g a b).1 fp ∧ FreshL w.heap.size fp ∧ Below w.heap.size w w' := by
  obtain ⟨M, hM⟩ : ∃ M, M = mwM g a b := ⟨_, rfl⟩
  rw [← hM]
  obtain ⟨A, n0, c, B, m0, d, C, k0', e0, rfl⟩ := h.shape
  obtain ⟨T, hT⟩ : ∃ T, T = grB g := ⟨_, rfl⟩
  obtain ⟨z, hz⟩ : ∃ z, z = g.1 := ⟨_, rfl⟩
  obtain ⟨B2, hB2⟩ : ∃ x, x = inB a 0 (z - 1) := ⟨_, rfl⟩
  obtain ⟨B3, hB3⟩ : ∃ x, x = inB b 0 (z - 1) := ⟨_, rfl⟩
  have hno : (T && (B2 && B3)) = false → M = (g0, false) := fun hh => hM.trans (mwM_no (by rw [← hT, ← hz, ← hB2, ← hB3]; exact hh))
  have hye : ∀ n : Nat, z = (n : Int) → (T && (B2 && B3)) = true → M = (mapG (numM (joinsM (idW n) [(a, b)])) (nrM (joinsM (idW n) [(a, b)]) n : Int) g, true) := fun n hn hh => hM.trans (mwM_yes (hz.symm.trans hn) (by rw [← hT, ← hz, ← hB2, ← hB3]; exact hh))
  rw [← hz] at h ⊢
  have hzr : T = true → ∃ n : Nat, z = (n : Int) ∧ n ≤ 100 := fun hh => by
    obtain ⟨n, e1, hn, _⟩ := grB_parts (hT.symm.trans hh)
    exact ⟨n, hz.trans e1, hn⟩
  obtain ⟨W, hW, bW, k0, k1⟩ := allocs2 w (.cells #[.int .i64 z, .slice A n0 c, .slice B m0 d, .slice C k0' e0] tGr) (.cells #[.int .i64 0, .slice none 0 0, .slice none 0 0, .slice none 0 0] tGr)
  have hGW := h.below bW
  have hG := hgValid_any W hGW ok
  rw [← hT] at hG
  have hI2 := fun (W : World) => l1In_any a 0 (z - 1) W
  have hI3 := fun (W : World) => l1In_any b 0 (z - 1) W
  simp only [← hB2] at hI2
  simp only [← hB3] at hI3
  obtain ⟨⟨c0, c1, c2, c3⟩, f0, f1, f2, f3⟩ := box4 k0
  clear hM h
  have hR : ∀ (W' : World) (n : Nat) (X Y : Option Addr), z = (n : Int) → (T && (B2 && B3)) = true → Below W.heap.size W W' → RdI W' X [a] → RdI W' Y [b] → Calls Try.prog 66 #[.agg #[.int .i64 z, .slice A n0 c, .slice B m0 d, .slice C k0' e0], .slice X 1 1, .slice Y 1 1] W' fun e w' => ∃ v' fp, e = .returned v' ∧ OwGr w' v' (mapG (numM (joinsM (idW n) [(a, b)])) (nrM (joinsM (idW n) [(a, b)]) n : Int) g) fp ∧ FreshL W'.heap.size fp ∧ Below W'.heap.size W' w' := fun W' n X Y hn hh hb hX hY => by
    rw [Bool.and_eq_true, Bool.and_eq_true] at hh
    have r2 : 0 ≤ a ∧ a ≤ z - 1 := of_decide_eq_true (hB2.symm.trans hh.2.1)
    have r3 : 0 ≤ b ∧ b ≤ z - 1 := of_decide_eq_true (hB3.symm.trans hh.2.2)
    refine hgGlue_any W' n X 1 Y 1 1 [(a, b)] (hGW.below hb) ok (hz.symm.trans hn) (hT.symm.trans hh.1) hX hY rfl (by omega) (fun q hq => ?_)
    obtain rfl := List.mem_singleton.1 hq
    simp only; omega
  have hfd : ∀ (x y z u v : Value) (W : World), (Instr.field tGu (.agg #[x, y, z, u, v]) 0).run Try.prog W = .ok (.agg #[x, y, z, u]) W := fun _ _ _ _ _ _ => by kernel_rfl
  clear hz hT hB2 hB3 hGW ok
  have k0_h := Lib.hid k0
  have k1_h := Lib.hid k1
  have bW_h := Lib.hid bW
  have hG_h := Lib.hid hG
  have hI2_h := Lib.hid hI2
  have hI3_h := Lib.hid hI3
  have hR_h := Lib.hid hR
  have hno_h := Lib.hid hno
  have hye_h := Lib.hid hye
  have hzr_h := Lib.hid hzr
  clear k0 k1 bW hG hI2 hI3 hR hno hye hzr
  go_enter Try.func32, Try.ntmps32
  go_upto_region 1 with (fail)
  rw [← hW]
  clear hW
  go_cut [26] (fun sv wx => sv = .bool (!(T && (B2 && B3))) ∧ Below W.heap.size W wx)
  case first =>
    go_wp2_with (fail)
    refine (hG_h.out).mono ?_
    rintro e w1 ⟨rfl, hb1⟩
    cases T
    case false =>
      have hb1_h := Lib.hid hb1
      clear hb1
      go_wp2_with (fail)
      go_meet
      exact ⟨rfl, hb1_h.out⟩
    case true =>
      have k0a := box_below k0_h.out hb1
      clear c0 c1 c2 c3 f0 f1 f2 f3
      obtain ⟨⟨c0, c1, c2, c3⟩, f0, f1, f2, f3⟩ := box4 k0a
      obtain ⟨n, rfl, hn⟩ := hzr_h.out rfl
      have wn : IntKind.i64.wrap ((n : Int) - 1) = (n : Int) - 1 := IntWalk.i64_in _ (by omega)
      have hb1_h := Lib.hid hb1
      have k0a_h := Lib.hid k0a
      clear hb1 k0a
      go_wp2_with (fail)
      refine ((hI2_h.out _)).mono ?_
      rintro e w2 ⟨rfl, rfl⟩
      cases B2
      case false =>
        go_wp2_with (fail)
        go_meet
        exact ⟨rfl, hb1_h.out⟩
      case true =>
        go_wp2_with (fail)
        refine ((hI3_h.out _)).mono ?_
        rintro e w2 ⟨rfl, rfl⟩
        go_wp2_with (fail)
        go_meet
        exact ⟨by cases B3 <;> rfl, hb1_h.out⟩
  case rest =>
    obtain ⟨rfl, hWc⟩ := hcut
    obtain ⟨w5, rfl⟩ : ∃ x, x = wc := ⟨_, rfl⟩
    have k1c := box_below k1_h.out hWc
    have k0c := box_below k0_h.out hWc
    have hk1 := box_lt k1_h.out
    have hB5 := below_trans bW_h.out hWc bW_h.out.size
    clear c0 c1 c2 c3 f0 f1 f2 f3
    obtain ⟨⟨c0, c1, c2, c3⟩, f0, f1, f2, f3⟩ := box4 k0c
    obtain ⟨F, hF⟩ : ∃ F, F = (T && (B2 && B3)) := ⟨_, rfl⟩
    rw [← hF]
    cases F
    case false =>
      have hM0 : M = (g0, false) := hno_h.out hF.symm
      obtain ⟨⟨d0, d1, d2, d3⟩, g0', g1, g2, g3⟩ := box4 k1c
      obtain ⟨s1, s2⟩ := set4 (a := .int .i64 0) (b := .slice none 0 0) (c := .slice none 0 0) (d := .slice none 0 0) k1c
      have hBs := below_keeps hB5 s2 hB5.size (fun k hk => by omega)
      clear hWc hB5 k0c k1c s2
      have hM0_h := Lib.hid hM0
      have s1_h := Lib.hid s1
      have hBs_h := Lib.hid hBs
      have hF_h := Lib.hid hF
      clear hM0 s1 hBs hF
      go_wp2_with (fail)
      refine bodyPost_ret (results_cell_tmp rfl _ _ (w.heap.size + 1) _ _ (0, 0) _ rfl s1_h.out Try.underlying31 rfl (by kernel_rfl)) rfl ?_
      rw [hM0_h.out]
      exact ⟨_, _, rfl, OwGr.zero _, fun b hb => (by cases hb), hBs_h.out⟩
    case true =>
      have hTt : T = true := by
        have := hF.symm
        rw [Bool.and_eq_true] at this; exact this.1
      obtain ⟨n, hzn, hn⟩ := hzr_h.out hTt
      have hM1 := hye_h.out n hzn hF.symm
      have hRX := hR_h.out ((w5.alloc (.cells #[.int .i64 a] 3)).alloc (.cells #[.int .i64 b] 3)) n (some ⟨w5.heap.size, 0, none⟩) (some ⟨w5.heap.size + 1, 0, none⟩) hzn hF.symm (below_trans hWc (below_trans (below_alloc _ _) (below_alloc _ _) (below_alloc w5 (.cells #[.int .i64 a] 3)).size) hWc.size) (fun j x hj => by
        have hk := box_below (heap_alloc_new w5 (.cells #[.int .i64 a] 3)) (below_alloc (w5.alloc (.cells #[.int .i64 a] 3)) (.cells #[.int .i64 b] 3))
        match j with
        | 0 =>
          obtain rfl := Option.some.inj hj
          exact ⟨_, rfl, (box1 hk).1⟩
        | j + 1 => simp at hj) (fun j x hj => by
        have hk := heap_alloc_new (w5.alloc (.cells #[.int .i64 a] 3)) (.cells #[.int .i64 b] 3)
        rw [World.size_alloc] at hk
        match j with
        | 0 =>
          obtain rfl := Option.some.inj hj
          exact ⟨_, rfl, (box1 hk).1⟩
        | j + 1 => simp at hj)
      have hb7 := below_trans (below_alloc w5 (.cells #[.int .i64 a] 3)) (below_alloc (w5.alloc (.cells #[.int .i64 a] 3)) (.cells #[.int .i64 b] 3)) (below_alloc w5 (.cells #[.int .i64 a] 3)).size
      obtain ⟨N, hN⟩ : ∃ N, N = mapG (numM (joinsM (idW n) [(a, b)])) (nrM (joinsM (idW n) [(a, b)]) n : Int) g := ⟨_, rfl⟩
      rw [← hN] at hM1 hRX
      clear hno_h hye_h hR_h hF hN hzn
      have hM1_h := Lib.hid hM1
      have hRX_h := Lib.hid hRX
      have hWc_h := Lib.hid hWc
      have hB5_h := Lib.hid hB5
      have k1c_h := Lib.hid k1c
      have k0c_h := Lib.hid k0c
      have hb7_h := Lib.hid hb7
      clear hM1 hRX hWc hB5 k1c k0c hb7
      go_wp2_with (fail)
      refine (hRX_h.out).mono ?_
      rintro e w6 ⟨v6, fp6, rfl, hO6, hf6, hb6⟩
      obtain ⟨A6, n6, c6, B6, m6, d6, C6, q6, u6, rfl⟩ := hO6.shape
      have hb6' := below_trans hb7_h.out hb6 hb7_h.out.size
      have hz7 := hb7_h.out.size
      have k1d := box_below k1c_h.out hb6'
      have hB6 := below_trans hB5_h.out hb6' hB5_h.out.size
      obtain ⟨⟨d0, d1, d2, d3⟩, g0', g1, g2, g3⟩ := box4 k1d
      obtain ⟨s1, s2⟩ := set4 (a := .int .i64 N.1) (b := .slice A6 n6 c6) (c := .slice B6 m6 d6) (d := .slice C6 q6 u6) k1d
      have hBs := below_keeps hB6 s2 hB6.size (fun k hk => by omega)
      have hw5 := hWc_h.out.size
      have hwW := bW_h.out.size
      have hOs := hO6.keeps s2 (fun x hx e => by have := hf6 x hx; omega)
      have hFs : FreshL w.heap.size fp6 := fun x hx => by have := hf6 x hx; omega
      clear hb6 hb6' hO6 hB6 k1d s2 hf6
      have s1_h := Lib.hid s1
      have hBs_h := Lib.hid hBs
      have hOs_h := Lib.hid hOs
      have hFs_h := Lib.hid hFs
      clear s1 hBs hOs hFs
      go_wp2_with (fail)
      refine bodyPost_ret (results_cell_tmp rfl _ _ (w.heap.size + 1) _ _ (0, 0) _ rfl s1_h.out Try.underlying31 rfl (by kernel_rfl)) rfl ?_
      rw [hM1_h.out]
      exact ⟨_, _, rfl, hOs_h.out, hFs_h.out, hBs_h.out⟩
end Go.Proofs.Ytanhmljgeiajoaa
