/-
  IsMatch, both sides.
-/
import Derived.Test.YtanhmljgeiajoaaGrMz
import Derived.Test.YtanhmljgeiajoaaGrMt
import Derived.Test.YtanhmljgeiajoaaGrMg
namespace Go.Proofs.Ytanhmljgeiajoaa
open Go.RowKit

/-- What IsMatch answers. -/
def isMatM (g pt : Gr) (m : Ma) : Bool × Bool := if monoB g && monoB pt then (maB g pt m, true) else (false, false)
theorem isMatM_no {g pt : Gr} {m : Ma} (h : (monoB g && monoB pt) = false) : isMatM g pt m = (false, false) := by unfold isMatM; rw [h]; rfl
theorem isMatM_yes {g pt : Gr} {m : Ma} (h : (monoB g && monoB pt) = true) : isMatM g pt m = (maB g pt m, true) := by unfold isMatM; rw [h]; rfl
theorem monoB_gr {g : Gr} (h : monoB g = true) : grB g = true := by unfold monoB at h; rw [Bool.and_eq_true] at h; exact h.1

set_option maxRecDepth 100000 in
set_option maxHeartbeats 4000000 in
theorem sIsMatch_law {vg vp vm : Value} {g pt : Gr} {m : Ma} {fg fp fm : List Nat} {w : World} (h : OwGr w vg g fg) (h' : OwGr w vp pt fp) (hm : OwMa w vm m fm) (ok : OkG g) (ok' : OkG pt) (okm : OkMa m) :
    Calls Try.prog 26 #[vg, vp, vm] w fun e w' => e = .returned (.tuple #[.bool (isMatM g pt m).1, .bool (isMatM g pt m).2]) ∧ Below w.heap.size w w' := by
  obtain ⟨R, hR⟩ : ∃ D, D = isMatM g pt m := ⟨_, rfl⟩
  obtain ⟨T, hT⟩ : ∃ D, D = (monoB g && monoB pt) := ⟨_, rfl⟩
  have hno : T = false → R = (false, false) := fun hh => hR.trans (isMatM_no (hT.symm.trans hh))
  have hye : T = true → R = (maB g pt m, true) := fun hh => hR.trans (isMatM_yes (hT.symm.trans hh))
  rw [← hR]
  obtain ⟨A, n0, c, B, m0, d, C, k0', e0, rfl⟩ := h.shape
  obtain ⟨A', n0', c', B', m0', d', C', k0'', e0', rfl⟩ := h'.shape
  obtain ⟨X, nu, x, Y, nv, y, rfl⟩ := hm.shape
  obtain ⟨z, hz⟩ : ∃ z, z = g.1 := ⟨_, rfl⟩
  obtain ⟨z', hz'⟩ : ∃ z, z = pt.1 := ⟨_, rfl⟩
  rw [← hz] at h ⊢
  rw [← hz'] at h' ⊢
  obtain ⟨W, hW, bW, k3, k4, k5⟩ := allocs3 w (.cells #[.int .i64 z, .slice A n0 c, .slice B m0 d, .slice C k0' e0] tGr) (.cells #[.int .i64 z', .slice A' n0' c', .slice B' m0' d', .slice C' k0'' e0'] tGr) (.cells #[.slice X nu x, .slice Y nv y] tMa)
  have hM : T = true → ∀ (W' : World), Below W.heap.size W W' → Calls Try.prog 58 #[.agg #[.int .i64 z, .slice A n0 c, .slice B m0 d, .slice C k0' e0], .agg #[.int .i64 z', .slice A' n0' c', .slice B' m0' d', .slice C' k0'' e0'], .agg #[.slice X nu x, .slice Y nv y]] W' fun e w' => e = .returned (.bool (maB g pt m)) ∧ Below W'.heap.size W' w' := fun hh W' hb => by
    have h1 := hT.symm.trans hh
    rw [Bool.and_eq_true] at h1
    exact mtIs_any W' ((h.rd.below bW).below hb) ((h'.rd.below bW).below hb) ((hm.below bW).below hb) (monoB_gr h1.1) (monoB_gr h1.2) okm

  have hG := mtTwo_any W (h.rd.below bW) (h'.rd.below bW) ok ok'
  rw [← hT] at hG
  obtain ⟨Q, hQ⟩ : ∃ D, D = maB g pt m := ⟨_, rfl⟩
  rw [← hQ] at hye
  simp only [← hQ] at hM
  obtain ⟨⟨c0, c1, c2, c3⟩, c4, c5, c6, c7⟩ := box4 k3
  obtain ⟨⟨d0, d1, d2, d3⟩, d4, d5, d6, d7⟩ := box4 k4
  clear h h' hm hz hz' ok ok' okm hR hT hQ
  have bW_h := Lib.hid bW
  have k3_h := Lib.hid k3
  have k4_h := Lib.hid k4
  have k5_h := Lib.hid k5
  have hG_h := Lib.hid hG
  have hM_h := Lib.hid hM
  have hno_h := Lib.hid hno
  have hye_h := Lib.hid hye
  clear bW k3 k4 k5 hG hM hno hye
  go_enter Try.func26, Try.ntmps26
  go_upto_region 1 with (fail)
  rw [← hW]
  clear hW
  go_wp2_with (fail)
  refine (hG_h.out).mono ?_
  rintro e w1 ⟨rfl, hb1⟩
  have k3a := box_below k3_h.out hb1
  have k4a := box_below k4_h.out hb1
  have k5a := box_below k5_h.out hb1
  have hB1 := below_trans bW_h.out hb1 bW_h.out.size
  clear c0 c1 c2 c3 c4 c5 c6 c7 d0 d1 d2 d3 d4 d5 d6 d7
  obtain ⟨⟨c0, c1, c2, c3⟩, c4, c5, c6, c7⟩ := box4 k3a
  obtain ⟨⟨d0, d1, d2, d3⟩, d4, d5, d6, d7⟩ := box4 k4a
  obtain ⟨⟨i0, i1⟩, i2, i3⟩ := box2 k5a
  cases T
  case false =>
    have hR0 := hno_h.out rfl
    clear k3a k4a k5a hb1
    have hB1_h := Lib.hid hB1
    have hR0_h := Lib.hid hR0
    clear hB1 hR0
    go_wp2_with (fail)
    go_ret2
    rw [hR0_h.out]
    exact ⟨rfl, hB1_h.out⟩
  case true =>
    have hR1 := hye_h.out rfl
    have hMq := hM_h.out rfl w1 hb1
    clear k3a k4a k5a hb1
    have hB1_h := Lib.hid hB1
    have hR1_h := Lib.hid hR1
    have hMq_h := Lib.hid hMq
    clear hB1 hR1 hMq
    go_wp2_with (fail)
    refine (hMq_h.out).mono ?_
    rintro e w2 ⟨rfl, hb2⟩
    have hB2 := below_trans hB1_h.out hb2 hB1_h.out.size
    clear hb2
    have hB2_h := Lib.hid hB2
    clear hB2
    go_wp2_with (fail)
    go_ret2
    rw [hR1_h.out]
    exact ⟨rfl, hB2_h.out⟩
set_option maxRecDepth 100000 in
set_option maxHeartbeats 4000000 in
theorem iIsMatch_law {vg vp vm : Value} {g pt : Gr} {m : Ma} {fg fp fm : List Nat} {w : World} (h : OwGr w vg g fg) (h' : OwGr w vp pt fp) (hm : OwMa w vm m fm) (ok : OkG g) (ok' : OkG pt) (okm : OkMa m) :
    Calls Try.prog 28 #[vg, vp, vm] w fun e w' => e = .returned (.tuple #[.bool (isMatM g pt m).1, .bool (isMatM g pt m).2]) ∧ Below w.heap.size w w' := by
  obtain ⟨R, hR⟩ : ∃ D, D = isMatM g pt m := ⟨_, rfl⟩
  obtain ⟨T, hT⟩ : ∃ D, D = (monoB g && monoB pt) := ⟨_, rfl⟩
  have hno : T = false → R = (false, false) := fun hh => hR.trans (isMatM_no (hT.symm.trans hh))
  have hye : T = true → R = (maB g pt m, true) := fun hh => hR.trans (isMatM_yes (hT.symm.trans hh))
  rw [← hR]
  obtain ⟨A, n0, c, B, m0, d, C, k0', e0, rfl⟩ := h.shape
  obtain ⟨A', n0', c', B', m0', d', C', k0'', e0', rfl⟩ := h'.shape
  obtain ⟨X, nu, x, Y, nv, y, rfl⟩ := hm.shape
  obtain ⟨z, hz⟩ : ∃ z, z = g.1 := ⟨_, rfl⟩
  obtain ⟨z', hz'⟩ : ∃ z, z = pt.1 := ⟨_, rfl⟩
  rw [← hz] at h ⊢
  rw [← hz'] at h' ⊢
  obtain ⟨W, hW, bW, k3, k4, k5⟩ := allocs3 w (.cells #[.int .i64 z, .slice A n0 c, .slice B m0 d, .slice C k0' e0] tGr) (.cells #[.int .i64 z', .slice A' n0' c', .slice B' m0' d', .slice C' k0'' e0'] tGr) (.cells #[.slice X nu x, .slice Y nv y] tMa)
  have hM : T = true → ∀ (W' : World), Below W.heap.size W W' → Calls Try.prog 60 #[.agg #[.int .i64 z, .slice A n0 c, .slice B m0 d, .slice C k0' e0], .agg #[.int .i64 z', .slice A' n0' c', .slice B' m0' d', .slice C' k0'' e0'], .agg #[.slice X nu x, .slice Y nv y]] W' fun e w' => e = .returned (.bool (maB g pt m)) ∧ Below W'.heap.size W' w' := fun hh W' hb => by
    have h1 := hT.symm.trans hh
    rw [Bool.and_eq_true] at h1
    exact isMatch_any W' ((h.rd.below bW).below hb) ((h'.rd.below bW).below hb) ((hm.below bW).below hb) (monoB_gr h1.1) (monoB_gr h1.2) okm

  obtain ⟨W2, hW2, bW2, kq⟩ := (⟨_, rfl, below_alloc _ _, heap_alloc_new _ _⟩ : ∃ W2, W2 = W.alloc (.cells #[.int .i64 z, .slice A n0 c, .slice B m0 d, .slice C k0' e0, .int .i64 z', .slice A' n0' c', .slice B' m0' d', .slice C' k0'' e0'] tGr) ∧ Below W.heap.size W W2 ∧ W2.heap[W.heap.size]? = some (.cells #[.int .i64 z, .slice A n0 c, .slice B m0 d, .slice C k0' e0, .int .i64 z', .slice A' n0' c', .slice B' m0' d', .slice C' k0'' e0'] tGr))
  have hG := areMonogamous_any W2 W.heap.size z z' A n0 c B m0 d C k0' e0 A' n0' c' B' m0' d' C' k0'' e0' ((h.rd.below bW).below bW2) ((h'.rd.below bW).below bW2) ok ok' kq
  rw [← hT] at hG
  obtain ⟨Q, hQ⟩ : ∃ D, D = maB g pt m := ⟨_, rfl⟩
  rw [← hQ] at hye
  simp only [← hQ] at hM
  obtain ⟨⟨c0, c1, c2, c3⟩, c4, c5, c6, c7⟩ := box4 k3
  obtain ⟨⟨d0, d1, d2, d3⟩, d4, d5, d6, d7⟩ := box4 k4
  clear h h' hm hz hz' ok ok' okm hR hT hQ
  have bW_h := Lib.hid bW
  have k3_h := Lib.hid k3
  have k4_h := Lib.hid k4
  have k5_h := Lib.hid k5
  have hG_h := Lib.hid hG
  have hM_h := Lib.hid hM
  have hno_h := Lib.hid hno
  have hye_h := Lib.hid hye
  have bW2_h := Lib.hid bW2
  clear bW k3 k4 k5 hG hM hno hye bW2
  go_enter Try.func28, Try.ntmps28
  go_upto_region 1 with (fail)
  rw [← hW]
  clear hW
  go_wp2_with (fail)
  rw [← hW2]
  clear hW2 kq
  refine (hG_h.out).mono ?_
  rintro e w1 ⟨rfl, hb1⟩
  have hb1' := below_trans bW2_h.out hb1 bW2_h.out.size
  clear hb1
  have hb1 := hb1'
  clear hb1'
  have k3a := box_below k3_h.out hb1
  have k4a := box_below k4_h.out hb1
  have k5a := box_below k5_h.out hb1
  have hB1 := below_trans bW_h.out hb1 bW_h.out.size
  clear c0 c1 c2 c3 c4 c5 c6 c7 d0 d1 d2 d3 d4 d5 d6 d7
  obtain ⟨⟨c0, c1, c2, c3⟩, c4, c5, c6, c7⟩ := box4 k3a
  obtain ⟨⟨d0, d1, d2, d3⟩, d4, d5, d6, d7⟩ := box4 k4a
  obtain ⟨⟨i0, i1⟩, i2, i3⟩ := box2 k5a
  cases T
  case false =>
    have hR0 := hno_h.out rfl
    clear k3a k4a k5a hb1
    have hB1_h := Lib.hid hB1
    have hR0_h := Lib.hid hR0
    clear hB1 hR0
    go_wp2_with (fail)
    go_ret2
    rw [hR0_h.out]
    exact ⟨rfl, hB1_h.out⟩
  case true =>
    have hR1 := hye_h.out rfl
    have hMq := hM_h.out rfl w1 hb1
    clear k3a k4a k5a hb1
    have hB1_h := Lib.hid hB1
    have hR1_h := Lib.hid hR1
    have hMq_h := Lib.hid hMq
    clear hB1 hR1 hMq
    go_wp2_with (fail)
    refine (hMq_h.out).mono ?_
    rintro e w2 ⟨rfl, hb2⟩
    have hB2 := below_trans hB1_h.out hb2 hB1_h.out.size
    clear hb2
    have hB2_h := Lib.hid hB2
    clear hB2
    go_wp2_with (fail)
    go_ret2
    rw [hR1_h.out]
    exact ⟨rfl, hB2_h.out⟩
end Go.Proofs.Ytanhmljgeiajoaa
