/-
  THE WALKS: monogamous graphs, the reference's side; occursOnce.
-/
import Derived.Test.YtanhmljgeiajoaaGrCa
import Derived.Test.YtanhmljgeiajoaaGrQ
namespace Go.Proofs.Ytanhmljgeiajoaa
open Go.RowKit

theorem cnt_one (n : Nat) (l : List Int) : ((cntM n l).all fun x => inB x 1 1) = (cntM n l).all fun c => decide (c = 1) := by
  congr 1
  funext x
  unfold inB
  exact decide_eq_decide.2 ⟨fun h => by omega, fun h => by omega⟩
theorem cntM_len (n : Nat) (l : List Int) : (cntM n l).length = n := by simp [cntM]
set_option maxRecDepth 100000 in
set_option maxHeartbeats 4000000 in
theorem hgMono_any {v : Value} {g : Gr} (w : World) (n : Nat) (h : RdGr w v g) (ok : OkG g) (hgn : g.1 = (n : Int)) (hnb : n ≤ 1048576) (hin : inW (n : Int) (allW g) = true) :
    Calls Try.prog 108 #[v] w fun e w' => e = .returned (.bool (prmN g.1 (orgW g) && prmN g.1 (dstW g))) ∧ Below w.heap.size w w' := by
  obtain ⟨T1, hT1⟩ : ∃ T, T = prmN g.1 (orgW g) := ⟨_, rfl⟩
  obtain ⟨T2, hT2⟩ : ∃ T, T = prmN g.1 (dstW g) := ⟨_, rfl⟩
  rw [← hT1, ← hT2]
  have hm := fun x (hx : x ∈ allW g) => inW_iff.1 hin x hx
  rw [hgn, prmN_counts (fun k hk => hm k (mem_allW.2 (.inl hk))), ← cnt_one] at hT1
  rw [hgn, prmN_counts (fun k hk => hm k (mem_allW.2 (.inr hk))), ← cnt_one] at hT2
  obtain ⟨A, n0, c, B, m0, d, C, k0', e0, rfl⟩ := h.shape
  obtain ⟨z, hz⟩ : ∃ z, z = g.1 := ⟨_, rfl⟩
  rw [← hz] at h ⊢
  obtain ⟨W, hW, bW, k0⟩ := (⟨_, rfl, below_alloc _ _, heap_alloc_new _ _⟩ : ∃ W, W = w.alloc (.cells #[.int .i64 z, .slice A n0 c, .slice B m0 d, .slice C k0' e0] tGr) ∧ Below w.heap.size w W ∧ W.heap[w.heap.size]? = some (.cells #[.int .i64 z, .slice A n0 c, .slice B m0 d, .slice C k0' e0] tGr))
  have hC := hgCounts_any W n (h.below bW) ok hgn hnb hin
  obtain ⟨X, hX⟩ : ∃ X, X = cntM n (orgW g) := ⟨_, rfl⟩
  obtain ⟨Y, hY⟩ : ∃ Y, Y = cntM n (dstW g) := ⟨_, rfl⟩
  have hXl : X.length = n := by rw [hX, cntM_len]
  have hYl : Y.length = n := by rw [hY, cntM_len]
  rw [← hX] at hC hT1
  rw [← hY] at hC hT2
  obtain ⟨⟨c0, c1, c2, c3⟩, f0, f1, f2, f3⟩ := box4 k0
  clear hm hz hX hY h ok hgn hin
  have bW_h := Lib.hid bW
  have k0_h := Lib.hid k0
  have hC_h := Lib.hid hC
  have hT1_h := Lib.hid hT1
  have hT2_h := Lib.hid hT2
  have hXl_h := Lib.hid hXl
  have hYl_h := Lib.hid hYl
  clear bW k0 hC hT1 hT2 hXl hYl
  go_enter Try.func108, Try.ntmps108
  go_upto_region 1 with (fail)
  rw [← hW]
  clear hW
  go_wp2_with (fail)
  refine (hC_h.out).mono ?_
  rintro e w1 ⟨A1, B1, a1, b1, rfl, hI, hJ, -, -, hb1⟩
  have hB := below_trans bW_h.out hb1 bW_h.out.size
  have hA1 := l1All_any A1 a1 n X 1 1 w1 hI.rd hXl_h.out (by omega)
  have hA2 := l1All_any B1 b1 n Y 1 1 w1 hJ.rd hYl_h.out (by omega)
  rw [← hT1_h.out] at hA1
  rw [← hT2_h.out] at hA2
  clear hI hJ hb1
  have hB_h := Lib.hid hB
  have hA1_h := Lib.hid hA1
  have hA2_h := Lib.hid hA2
  clear hB hA1 hA2
  go_wp2_with (fail)
  refine (hA1_h.out).mono ?_
  rintro e w2 ⟨rfl, rfl⟩
  cases T1
  case false =>
    go_wp2_with (fail)
    go_ret
    exact ⟨rfl, hB_h.out⟩
  case true =>
    go_wp2_with (fail)
    refine (hA2_h.out).mono ?_
    rintro e w3 ⟨rfl, rfl⟩
    go_wp2_with (fail)
    go_ret
    exact ⟨by cases T2 <;> rfl, hB_h.out⟩
set_option maxHeartbeats 1000000 in
theorem occursOnce_any (n : Int) (A : Option Addr) (c m : Nat) (hs : List Hd) (L : List Int) (w : World) (h : RdR w A hs) (hm : hs.length = m) (hl : m ≤ 1048576) (hL : (hs.map fun h : Hd => h.2.2).flatten = L) (hN : L.length ≤ 1048576) :
    Calls Try.prog 104 #[.int .i64 n, .slice A m c] w fun e w' => e = .returned (.bool (prmN n L)) ∧ Below w.heap.size w w' := by
  have hJ := joined_any A c hs w h (by rw [hm]; exact hl) (by rw [hL]; exact hN)
  rw [hm, hL] at hJ
  unfold RetI at hJ
  obtain ⟨q, hq⟩ : ∃ q, q = L.length := ⟨_, rfl⟩
  rw [← hq] at hJ
  obtain ⟨T, hT⟩ : ∃ T, T = prmN n L := ⟨_, rfl⟩
  rw [← hT]
  clear h hm hL
  have hJ_h := Lib.hid hJ
  have hq_h := Lib.hid hq
  have hT_h := Lib.hid hT
  clear hJ hq hT
  go_enter Try.func104, Try.ntmps104
  go_wp2_with (fail)
  refine (hJ_h.out).mono ?_
  rintro e w1 ⟨A1, c1, rfl, hI, hF, hb1⟩
  have hP := isPermN_any A1 c1 n L w1 hI.rd hN
  rw [← hq_h.out, ← hT_h.out] at hP
  clear hI hF
  have hP_h := Lib.hid hP
  have hb1_h := Lib.hid hb1
  clear hP hb1
  go_wp2_with (fail)
  refine (hP_h.out).mono ?_
  rintro e w2 ⟨rfl, hb2⟩
  have hB := below_trans hb1_h.out hb2 hb1_h.out.size
  clear hb2
  have hB_h := Lib.hid hB
  clear hB
  go_wp2_with (fail)
  go_ret
  exact ⟨rfl, hB_h.out⟩
end Go.Proofs.Ytanhmljgeiajoaa
