/-
  AreApart, both sides.
-/
import Derived.Test.YtanhmljgeiajoaaGrNe
namespace Go.Proofs.Ytanhmljgeiajoaa
open Go.RowKit

/-- What AreApart answers. -/
def apM (g pt : Gr) (a : Ma) (ot : Gr) (b : Ma) : Bool × Bool := if ((monoB g && monoB pt) && monoB ot) && (maB g pt a && maB g ot b) then (apB pt a ot b, true) else (false, false)
theorem apM_no {g pt ot : Gr} {a b : Ma} (h : (((monoB g && monoB pt) && monoB ot) && (maB g pt a && maB g ot b)) = false) : apM g pt a ot b = (false, false) := by unfold apM; rw [h]; rfl
theorem apM_yes {g pt ot : Gr} {a b : Ma} (h : (((monoB g && monoB pt) && monoB ot) && (maB g pt a && maB g ot b)) = true) : apM g pt a ot b = (apB pt a ot b, true) := by unfold apM; rw [h]; rfl
theorem maB_nodup {g pt : Gr} {m : Ma} (h : maB g pt m = true) : m.1.Nodup := by
  unfold maB at h
  simp only [Bool.and_eq_true] at h
  exact (difB_iff.1 h.2.1.1).2

set_option maxRecDepth 100000 in
set_option maxHeartbeats 4000000 in
theorem sAreApart_law {v0 v1 va v2 vb : Value} {g pt ot : Gr} {a b : Ma} {f0 f1 fa f2 fb : List Nat} {w : World} (h0 : OwGr w v0 g f0) (h1 : OwGr w v1 pt f1) (ha : OwMa w va a fa) (h2 : OwGr w v2 ot f2) (hb : OwMa w vb b fb) (ok0 : OkG g) (ok1 : OkG pt) (oka : OkMa a) (ok2 : OkG ot) (okb : OkMa b) :
    Calls Try.prog 34 #[v0, v1, va, v2, vb] w fun e w' => e = .returned (.tuple #[.bool (apM g pt a ot b).1, .bool (apM g pt a ot b).2]) ∧ Below w.heap.size w w' := by
  obtain ⟨R, hR⟩ : ∃ D, D = apM g pt a ot b := ⟨_, rfl⟩
  obtain ⟨T0, hT0⟩ : ∃ D, D = (monoB g && monoB pt) := ⟨_, rfl⟩
  obtain ⟨T1, hT1⟩ : ∃ D, D = monoB ot := ⟨_, rfl⟩
  obtain ⟨T2, hT2⟩ : ∃ D, D = maB g pt a := ⟨_, rfl⟩
  obtain ⟨T3, hT3⟩ : ∃ D, D = maB g ot b := ⟨_, rfl⟩
  obtain ⟨Q, hQ⟩ : ∃ D, D = apB pt a ot b := ⟨_, rfl⟩
  have hno : ((T0 && T1) && (T2 && T3)) = false → R = (false, false) := fun hh => hR.trans (apM_no (by rw [← hT0, ← hT1, ← hT2, ← hT3]; exact hh))
  have hye : ((T0 && T1) && (T2 && T3)) = true → R = (Q, true) := fun hh => by rw [hQ]; exact hR.trans (apM_yes (by rw [← hT0, ← hT1, ← hT2, ← hT3]; exact hh))
  rw [← hR]
  have hmo : T0 = true → monoB g = true ∧ monoB pt = true := fun hh => by
    have := hT0.symm.trans hh
    rw [Bool.and_eq_true] at this
    exact this
  obtain ⟨A0, n0, c0, B0, m0, d0, C0, k0, e0, rfl⟩ := h0.shape
  obtain ⟨A1, n1, c1, B1, m1, d1, C1, k1, e1, rfl⟩ := h1.shape
  obtain ⟨A2, n2, c2, B2, m2, d2, C2, k2, e2, rfl⟩ := h2.shape
  obtain ⟨X1, nx1, x1, Y1, ny1, y1, rfl⟩ := ha.shape
  obtain ⟨X2, nx2, x2, Y2, ny2, y2, rfl⟩ := hb.shape
  obtain ⟨z0, hz0⟩ : ∃ z, z = g.1 := ⟨_, rfl⟩
  obtain ⟨z1, hz1⟩ : ∃ z, z = pt.1 := ⟨_, rfl⟩
  obtain ⟨z2, hz2⟩ : ∃ z, z = ot.1 := ⟨_, rfl⟩
  rw [← hz0] at h0 ⊢
  rw [← hz1] at h1 ⊢
  rw [← hz2] at h2 ⊢
  obtain ⟨W, hW, bW, b0, b1, b2, b3, b4⟩ := allocs5 w (.cells #[.int .i64 z0, .slice A0 n0 c0, .slice B0 m0 d0, .slice C0 k0 e0] tGr) (.cells #[.int .i64 z1, .slice A1 n1 c1, .slice B1 m1 d1, .slice C1 k1 e1] tGr) (.cells #[.slice X1 nx1 x1, .slice Y1 ny1 y1] tMa) (.cells #[.int .i64 z2, .slice A2 n2 c2, .slice B2 m2 d2, .slice C2 k2 e2] tGr) (.cells #[.slice X2 nx2 x2, .slice Y2 ny2 y2] tMa)
  have hM1 : T0 = true → ∀ (W' : World), Below w.heap.size w W' → Calls Try.prog 58 #[.agg #[.int .i64 z0, .slice A0 n0 c0, .slice B0 m0 d0, .slice C0 k0 e0], .agg #[.int .i64 z1, .slice A1 n1 c1, .slice B1 m1 d1, .slice C1 k1 e1], .agg #[.slice X1 nx1 x1, .slice Y1 ny1 y1]] W' fun e w' => e = .returned (.bool T2) ∧ Below W'.heap.size W' w' := fun hh W' hbb => by
    rw [hT2]
    exact mtIs_any W' (h0.rd.below hbb) (h1.rd.below hbb) (ha.below hbb) (monoB_gr (hmo hh).1) (monoB_gr (hmo hh).2) oka
  have hM2 : T0 = true → T1 = true → ∀ (W' : World), Below w.heap.size w W' → Calls Try.prog 58 #[.agg #[.int .i64 z0, .slice A0 n0 c0, .slice B0 m0 d0, .slice C0 k0 e0], .agg #[.int .i64 z2, .slice A2 n2 c2, .slice B2 m2 d2, .slice C2 k2 e2], .agg #[.slice X2 nx2 x2, .slice Y2 ny2 y2]] W' fun e w' => e = .returned (.bool T3) ∧ Below W'.heap.size W' w' := fun hh hh1 W' hbb => by
    rw [hT3]
    exact mtIs_any W' (h0.rd.below hbb) (h2.rd.below hbb) (hb.below hbb) (monoB_gr (hmo hh).1) (monoB_gr (hT1.symm.trans hh1)) okb
  have hAp : T3 = true → ∀ (W' : World), Below w.heap.size w W' → Calls Try.prog 70 #[.agg #[.int .i64 z1, .slice A1 n1 c1, .slice B1 m1 d1, .slice C1 k1 e1], .agg #[.slice X1 nx1 x1, .slice Y1 ny1 y1], .agg #[.int .i64 z2, .slice A2 n2 c2, .slice B2 m2 d2, .slice C2 k2 e2], .agg #[.slice X2 nx2 x2, .slice Y2 ny2 y2]] W' fun e w' => e = .returned (.bool Q) ∧ Below W'.heap.size W' w' := fun _ W' hbb => by
    rw [hQ]
    exact mtApart_any W' (h1.rd.below hbb) (ha.rd.below hbb) (h2.rd.below hbb) (hb.rd.below hbb) ok1 oka ok2 okb
  have hG := mtTwo_any W (h0.rd.below bW) (h1.rd.below bW) ok0 ok1
  have hG2 := fun (W' : World) (hbb : Below w.heap.size w W') => sIsMonogamous_any W' (h2.rd.below hbb) ok2
  rw [← hT0] at hG
  simp only [← hT1] at hG2
  obtain ⟨⟨p00, p01, p02, p03⟩, p04, p05, p06, p07⟩ := box4 b0
  obtain ⟨⟨p10, p11, p12, p13⟩, p14, p15, p16, p17⟩ := box4 b1
  obtain ⟨⟨p20, p21⟩, p22, p23⟩ := box2 b2
  obtain ⟨⟨p30, p31, p32, p33⟩, p34, p35, p36, p37⟩ := box4 b3
  obtain ⟨⟨p40, p41⟩, p42, p43⟩ := box2 b4
  clear h0 h1 h2 ha hb hz0 hz1 hz2 ok0 ok1 oka ok2 okb hR hT0 hT1 hT2 hT3 hQ hmo
  have bW_h := Lib.hid bW
  have b0_h := Lib.hid b0
  have b1_h := Lib.hid b1
  have b2_h := Lib.hid b2
  have b3_h := Lib.hid b3
  have b4_h := Lib.hid b4
  have hG_h := Lib.hid hG
  have hM1_h := Lib.hid hM1
  have hM2_h := Lib.hid hM2
  have hAp_h := Lib.hid hAp
  have hno_h := Lib.hid hno
  have hye_h := Lib.hid hye
  have hG2_h := Lib.hid hG2
  clear bW b0 b1 b2 b3 b4 hG hM1 hM2 hAp hno hye hG2
  go_enter Try.func34, Try.ntmps34
  go_upto_region 1 with (fail)
  rw [← hW]
  clear hW
  go_wp2_with (fail)
  refine (hG_h.out).mono ?_
  rintro e w1 ⟨rfl, hb1⟩
  have hB1 := below_trans bW_h.out hb1 bW_h.out.size
  have b0_1 := box_below b0_h.out hb1
  have b1_1 := box_below b1_h.out hb1
  have b2_1 := box_below b2_h.out hb1
  have b3_1 := box_below b3_h.out hb1
  have b4_1 := box_below b4_h.out hb1
  clear p00 p01 p02 p03 p04 p05 p06 p07 p10 p11 p12 p13 p14 p15 p16 p17 p20 p21 p22 p23 p30 p31 p32 p33 p34 p35 p36 p37 p40 p41 p42 p43
  obtain ⟨⟨p00, p01, p02, p03⟩, p04, p05, p06, p07⟩ := box4 b0_1
  obtain ⟨⟨p10, p11, p12, p13⟩, p14, p15, p16, p17⟩ := box4 b1_1
  obtain ⟨⟨p20, p21⟩, p22, p23⟩ := box2 b2_1
  obtain ⟨⟨p30, p31, p32, p33⟩, p34, p35, p36, p37⟩ := box4 b3_1
  obtain ⟨⟨p40, p41⟩, p42, p43⟩ := box2 b4_1
  clear hb1
  have hB1_h := Lib.hid hB1
  have b0_1_h := Lib.hid b0_1
  have b1_1_h := Lib.hid b1_1
  have b2_1_h := Lib.hid b2_1
  have b3_1_h := Lib.hid b3_1
  have b4_1_h := Lib.hid b4_1
  clear hB1 b0_1 b1_1 b2_1 b3_1 b4_1
  cases T0
  case false =>
    have hR0 := hno_h.out (rfl)
    have hR0_h := Lib.hid hR0
    clear hR0
    go_wp2_with (fail)
    go_ret2
    rw [hR0_h.out]
    exact ⟨rfl, hB1_h.out⟩
  have hM1q := hM1_h.out rfl
  have hM2q := hM2_h.out rfl
  have hM1q_h := Lib.hid hM1q
  have hM2q_h := Lib.hid hM2q
  clear hM1q hM2q
  go_wp2_with (fail)
  refine ((hG2_h.out _ hB1_h.out)).mono ?_
  rintro e w2 ⟨rfl, hb2⟩
  have hB2 := below_trans hB1_h.out hb2 hB1_h.out.size
  have b0_2 := box_below b0_1_h.out hb2
  have b1_2 := box_below b1_1_h.out hb2
  have b2_2 := box_below b2_1_h.out hb2
  have b3_2 := box_below b3_1_h.out hb2
  have b4_2 := box_below b4_1_h.out hb2
  clear p00 p01 p02 p03 p04 p05 p06 p07 p10 p11 p12 p13 p14 p15 p16 p17 p20 p21 p22 p23 p30 p31 p32 p33 p34 p35 p36 p37 p40 p41 p42 p43
  obtain ⟨⟨p00, p01, p02, p03⟩, p04, p05, p06, p07⟩ := box4 b0_2
  obtain ⟨⟨p10, p11, p12, p13⟩, p14, p15, p16, p17⟩ := box4 b1_2
  obtain ⟨⟨p20, p21⟩, p22, p23⟩ := box2 b2_2
  obtain ⟨⟨p30, p31, p32, p33⟩, p34, p35, p36, p37⟩ := box4 b3_2
  obtain ⟨⟨p40, p41⟩, p42, p43⟩ := box2 b4_2
  clear hb2
  have hB2_h := Lib.hid hB2
  have b0_2_h := Lib.hid b0_2
  have b1_2_h := Lib.hid b1_2
  have b2_2_h := Lib.hid b2_2
  have b3_2_h := Lib.hid b3_2
  have b4_2_h := Lib.hid b4_2
  clear hB2 b0_2 b1_2 b2_2 b3_2 b4_2
  cases T1
  case false =>
    have hR0 := hno_h.out (rfl)
    have hR0_h := Lib.hid hR0
    clear hR0
    go_wp2_with (fail)
    go_ret2
    rw [hR0_h.out]
    exact ⟨rfl, hB2_h.out⟩
  have hM2r := hM2q_h.out rfl
  have hM2r_h := Lib.hid hM2r
  clear hM2r
  go_wp2_with (fail)
  refine ((hM1q_h.out _ hB2_h.out)).mono ?_
  rintro e w3 ⟨rfl, hb3⟩
  have hB3 := below_trans hB2_h.out hb3 hB2_h.out.size
  have b0_3 := box_below b0_2_h.out hb3
  have b1_3 := box_below b1_2_h.out hb3
  have b2_3 := box_below b2_2_h.out hb3
  have b3_3 := box_below b3_2_h.out hb3
  have b4_3 := box_below b4_2_h.out hb3
  clear p00 p01 p02 p03 p04 p05 p06 p07 p10 p11 p12 p13 p14 p15 p16 p17 p20 p21 p22 p23 p30 p31 p32 p33 p34 p35 p36 p37 p40 p41 p42 p43
  obtain ⟨⟨p00, p01, p02, p03⟩, p04, p05, p06, p07⟩ := box4 b0_3
  obtain ⟨⟨p10, p11, p12, p13⟩, p14, p15, p16, p17⟩ := box4 b1_3
  obtain ⟨⟨p20, p21⟩, p22, p23⟩ := box2 b2_3
  obtain ⟨⟨p30, p31, p32, p33⟩, p34, p35, p36, p37⟩ := box4 b3_3
  obtain ⟨⟨p40, p41⟩, p42, p43⟩ := box2 b4_3
  clear hb3
  have hB3_h := Lib.hid hB3
  have b0_3_h := Lib.hid b0_3
  have b1_3_h := Lib.hid b1_3
  have b2_3_h := Lib.hid b2_3
  have b3_3_h := Lib.hid b3_3
  have b4_3_h := Lib.hid b4_3
  clear hB3 b0_3 b1_3 b2_3 b3_3 b4_3
  cases T2
  case false =>
    have hR0 := hno_h.out (rfl)
    have hR0_h := Lib.hid hR0
    clear hR0
    go_wp2_with (fail)
    go_ret2
    rw [hR0_h.out]
    exact ⟨rfl, hB3_h.out⟩
  go_wp2_with (fail)
  refine ((hM2r_h.out _ hB3_h.out)).mono ?_
  rintro e w4 ⟨rfl, hb4⟩
  have hB4 := below_trans hB3_h.out hb4 hB3_h.out.size
  have b0_4 := box_below b0_3_h.out hb4
  have b1_4 := box_below b1_3_h.out hb4
  have b2_4 := box_below b2_3_h.out hb4
  have b3_4 := box_below b3_3_h.out hb4
  have b4_4 := box_below b4_3_h.out hb4
  clear p00 p01 p02 p03 p04 p05 p06 p07 p10 p11 p12 p13 p14 p15 p16 p17 p20 p21 p22 p23 p30 p31 p32 p33 p34 p35 p36 p37 p40 p41 p42 p43
  obtain ⟨⟨p00, p01, p02, p03⟩, p04, p05, p06, p07⟩ := box4 b0_4
  obtain ⟨⟨p10, p11, p12, p13⟩, p14, p15, p16, p17⟩ := box4 b1_4
  obtain ⟨⟨p20, p21⟩, p22, p23⟩ := box2 b2_4
  obtain ⟨⟨p30, p31, p32, p33⟩, p34, p35, p36, p37⟩ := box4 b3_4
  obtain ⟨⟨p40, p41⟩, p42, p43⟩ := box2 b4_4
  clear hb4
  have hB4_h := Lib.hid hB4
  have b0_4_h := Lib.hid b0_4
  have b1_4_h := Lib.hid b1_4
  have b2_4_h := Lib.hid b2_4
  have b3_4_h := Lib.hid b3_4
  have b4_4_h := Lib.hid b4_4
  clear hB4 b0_4 b1_4 b2_4 b3_4 b4_4
  cases T3
  case false =>
    have hR0 := hno_h.out (rfl)
    have hR0_h := Lib.hid hR0
    clear hR0
    go_wp2_with (fail)
    go_ret2
    rw [hR0_h.out]
    exact ⟨rfl, hB4_h.out⟩
  have hR1 := hye_h.out rfl
  have hApq := hAp_h.out rfl _ hB4_h.out
  have hR1_h := Lib.hid hR1
  have hApq_h := Lib.hid hApq
  clear hR1 hApq
  go_wp2_with (fail)
  refine (hApq_h.out).mono ?_
  rintro e w9 ⟨rfl, hb9⟩
  have hB9 := below_trans hB4_h.out hb9 hB4_h.out.size
  clear hb9
  have hB9_h := Lib.hid hB9
  clear hB9
  go_wp2_with (fail)
  go_ret2
  rw [hR1_h.out]
  exact ⟨rfl, hB9_h.out⟩
set_option maxRecDepth 100000 in
set_option maxHeartbeats 4000000 in
theorem iAreApart_law {v0 v1 va v2 vb : Value} {g pt ot : Gr} {a b : Ma} {f0 f1 fa f2 fb : List Nat} {w : World} (h0 : OwGr w v0 g f0) (h1 : OwGr w v1 pt f1) (ha : OwMa w va a fa) (h2 : OwGr w v2 ot f2) (hb : OwMa w vb b fb) (ok0 : OkG g) (ok1 : OkG pt) (oka : OkMa a) (ok2 : OkG ot) (okb : OkMa b) :
    Calls Try.prog 35 #[v0, v1, va, v2, vb] w fun e w' => e = .returned (.tuple #[.bool (apM g pt a ot b).1, .bool (apM g pt a ot b).2]) ∧ Below w.heap.size w w' := by
  obtain ⟨R, hR⟩ : ∃ D, D = apM g pt a ot b := ⟨_, rfl⟩
  obtain ⟨T0, hT0⟩ : ∃ D, D = (monoB g && monoB pt) := ⟨_, rfl⟩
  obtain ⟨T1, hT1⟩ : ∃ D, D = monoB ot := ⟨_, rfl⟩
  obtain ⟨T2, hT2⟩ : ∃ D, D = maB g pt a := ⟨_, rfl⟩
  obtain ⟨T3, hT3⟩ : ∃ D, D = maB g ot b := ⟨_, rfl⟩
  obtain ⟨Q, hQ⟩ : ∃ D, D = apB pt a ot b := ⟨_, rfl⟩
  have hno : ((T0 && T1) && (T2 && T3)) = false → R = (false, false) := fun hh => hR.trans (apM_no (by rw [← hT0, ← hT1, ← hT2, ← hT3]; exact hh))
  have hye : ((T0 && T1) && (T2 && T3)) = true → R = (Q, true) := fun hh => by rw [hQ]; exact hR.trans (apM_yes (by rw [← hT0, ← hT1, ← hT2, ← hT3]; exact hh))
  rw [← hR]
  have hmo : T0 = true → monoB g = true ∧ monoB pt = true := fun hh => by
    have := hT0.symm.trans hh
    rw [Bool.and_eq_true] at this
    exact this
  obtain ⟨A0, n0, c0, B0, m0, d0, C0, k0, e0, rfl⟩ := h0.shape
  obtain ⟨A1, n1, c1, B1, m1, d1, C1, k1, e1, rfl⟩ := h1.shape
  obtain ⟨A2, n2, c2, B2, m2, d2, C2, k2, e2, rfl⟩ := h2.shape
  obtain ⟨X1, nx1, x1, Y1, ny1, y1, rfl⟩ := ha.shape
  obtain ⟨X2, nx2, x2, Y2, ny2, y2, rfl⟩ := hb.shape
  obtain ⟨z0, hz0⟩ : ∃ z, z = g.1 := ⟨_, rfl⟩
  obtain ⟨z1, hz1⟩ : ∃ z, z = pt.1 := ⟨_, rfl⟩
  obtain ⟨z2, hz2⟩ : ∃ z, z = ot.1 := ⟨_, rfl⟩
  rw [← hz0] at h0 ⊢
  rw [← hz1] at h1 ⊢
  rw [← hz2] at h2 ⊢
  obtain ⟨W, hW, bW, b0, b1, b2, b3, b4⟩ := allocs5 w (.cells #[.int .i64 z0, .slice A0 n0 c0, .slice B0 m0 d0, .slice C0 k0 e0] tGr) (.cells #[.int .i64 z1, .slice A1 n1 c1, .slice B1 m1 d1, .slice C1 k1 e1] tGr) (.cells #[.slice X1 nx1 x1, .slice Y1 ny1 y1] tMa) (.cells #[.int .i64 z2, .slice A2 n2 c2, .slice B2 m2 d2, .slice C2 k2 e2] tGr) (.cells #[.slice X2 nx2 x2, .slice Y2 ny2 y2] tMa)
  have hM1 : T0 = true → ∀ (W' : World), Below w.heap.size w W' → Calls Try.prog 60 #[.agg #[.int .i64 z0, .slice A0 n0 c0, .slice B0 m0 d0, .slice C0 k0 e0], .agg #[.int .i64 z1, .slice A1 n1 c1, .slice B1 m1 d1, .slice C1 k1 e1], .agg #[.slice X1 nx1 x1, .slice Y1 ny1 y1]] W' fun e w' => e = .returned (.bool T2) ∧ Below W'.heap.size W' w' := fun hh W' hbb => by
    rw [hT2]
    exact isMatch_any W' (h0.rd.below hbb) (h1.rd.below hbb) (ha.below hbb) (monoB_gr (hmo hh).1) (monoB_gr (hmo hh).2) oka
  have hM2 : T0 = true → T1 = true → ∀ (W' : World), Below w.heap.size w W' → Calls Try.prog 60 #[.agg #[.int .i64 z0, .slice A0 n0 c0, .slice B0 m0 d0, .slice C0 k0 e0], .agg #[.int .i64 z2, .slice A2 n2 c2, .slice B2 m2 d2, .slice C2 k2 e2], .agg #[.slice X2 nx2 x2, .slice Y2 ny2 y2]] W' fun e w' => e = .returned (.bool T3) ∧ Below W'.heap.size W' w' := fun hh hh1 W' hbb => by
    rw [hT3]
    exact isMatch_any W' (h0.rd.below hbb) (h2.rd.below hbb) (hb.below hbb) (monoB_gr (hmo hh).1) (monoB_gr (hT1.symm.trans hh1)) okb
  have hAp : T3 = true → ∀ (W' : World), Below w.heap.size w W' → Calls Try.prog 71 #[.agg #[.int .i64 z1, .slice A1 n1 c1, .slice B1 m1 d1, .slice C1 k1 e1], .agg #[.slice X1 nx1 x1, .slice Y1 ny1 y1], .agg #[.int .i64 z2, .slice A2 n2 c2, .slice B2 m2 d2, .slice C2 k2 e2], .agg #[.slice X2 nx2 x2, .slice Y2 ny2 y2]] W' fun e w' => e = .returned (.bool Q) ∧ Below W'.heap.size W' w' := fun hh3 W' hbb => by
    rw [hQ]
    exact areApart_any W' (h1.rd.below hbb) (ha.rd.below hbb) (h2.rd.below hbb) (hb.rd.below hbb) ok1 oka ok2 okb (maB_nodup (hT3.symm.trans hh3))
  obtain ⟨W2, hW2, bW2, kq⟩ := alloc_box1g W (.cells #[.int .i64 z0, .slice A0 n0 c0, .slice B0 m0 d0, .slice C0 k0 e0, .int .i64 z1, .slice A1 n1 c1, .slice B1 m1 d1, .slice C1 k1 e1, .int .i64 z2, .slice A2 n2 c2, .slice B2 m2 d2, .slice C2 k2 e2] tGr)
  have hG := areMonogamous3_any W2 W.heap.size z0 A0 n0 c0 B0 m0 d0 C0 k0 e0 z1 A1 n1 c1 B1 m1 d1 C1 k1 e1 z2 A2 n2 c2 B2 m2 d2 C2 k2 e2 ((h0.rd.below bW).below bW2) ok0 ((h1.rd.below bW).below bW2) ok1 ((h2.rd.below bW).below bW2) ok2 kq
  rw [← Bool.and_assoc, ← hT0, ← hT1] at hG
  obtain ⟨⟨p00, p01, p02, p03⟩, p04, p05, p06, p07⟩ := box4 b0
  obtain ⟨⟨p10, p11, p12, p13⟩, p14, p15, p16, p17⟩ := box4 b1
  obtain ⟨⟨p20, p21⟩, p22, p23⟩ := box2 b2
  obtain ⟨⟨p30, p31, p32, p33⟩, p34, p35, p36, p37⟩ := box4 b3
  obtain ⟨⟨p40, p41⟩, p42, p43⟩ := box2 b4
  clear h0 h1 h2 ha hb hz0 hz1 hz2 ok0 ok1 oka ok2 okb hR hT0 hT1 hT2 hT3 hQ hmo
  have bW_h := Lib.hid bW
  have b0_h := Lib.hid b0
  have b1_h := Lib.hid b1
  have b2_h := Lib.hid b2
  have b3_h := Lib.hid b3
  have b4_h := Lib.hid b4
  have hG_h := Lib.hid hG
  have hM1_h := Lib.hid hM1
  have hM2_h := Lib.hid hM2
  have hAp_h := Lib.hid hAp
  have hno_h := Lib.hid hno
  have hye_h := Lib.hid hye
  have bW2_h := Lib.hid bW2
  clear bW b0 b1 b2 b3 b4 hG hM1 hM2 hAp hno hye bW2
  go_enter Try.func35, Try.ntmps35
  go_upto_region 1 with (fail)
  rw [← hW]
  clear hW
  go_wp2_with (fail)
  rw [← hW2]
  clear hW2 kq
  refine (hG_h.out).mono ?_
  rintro e w1 ⟨rfl, hb1⟩
  have hB1 := below_trans (below_trans bW_h.out bW2_h.out bW_h.out.size) hb1 (Nat.le_trans bW_h.out.size bW2_h.out.size)
  have b0_1 := box_below (box_below b0_h.out bW2_h.out) hb1
  have b1_1 := box_below (box_below b1_h.out bW2_h.out) hb1
  have b2_1 := box_below (box_below b2_h.out bW2_h.out) hb1
  have b3_1 := box_below (box_below b3_h.out bW2_h.out) hb1
  have b4_1 := box_below (box_below b4_h.out bW2_h.out) hb1
  clear p00 p01 p02 p03 p04 p05 p06 p07 p10 p11 p12 p13 p14 p15 p16 p17 p20 p21 p22 p23 p30 p31 p32 p33 p34 p35 p36 p37 p40 p41 p42 p43
  obtain ⟨⟨p00, p01, p02, p03⟩, p04, p05, p06, p07⟩ := box4 b0_1
  obtain ⟨⟨p10, p11, p12, p13⟩, p14, p15, p16, p17⟩ := box4 b1_1
  obtain ⟨⟨p20, p21⟩, p22, p23⟩ := box2 b2_1
  obtain ⟨⟨p30, p31, p32, p33⟩, p34, p35, p36, p37⟩ := box4 b3_1
  obtain ⟨⟨p40, p41⟩, p42, p43⟩ := box2 b4_1
  clear hb1
  have hB1_h := Lib.hid hB1
  have b0_1_h := Lib.hid b0_1
  have b1_1_h := Lib.hid b1_1
  have b2_1_h := Lib.hid b2_1
  have b3_1_h := Lib.hid b3_1
  have b4_1_h := Lib.hid b4_1
  clear hB1 b0_1 b1_1 b2_1 b3_1 b4_1
  obtain ⟨T01, hT01⟩ : ∃ D, D = (T0 && T1) := ⟨_, rfl⟩
  rw [← hT01]
  rw [← hT01] at hno_h hye_h
  have hTa : T01 = true → T0 = true ∧ T1 = true := fun hh => by rw [hT01, Bool.and_eq_true] at hh; exact hh
  have hTa_h := Lib.hid hTa
  have hT01_h := Lib.hid hT01
  clear hTa hT01
  cases T01
  case false =>
    have hR0 := hno_h.out (rfl)
    have hR0_h := Lib.hid hR0
    clear hR0
    go_wp2_with (fail)
    go_ret2
    rw [hR0_h.out]
    exact ⟨rfl, hB1_h.out⟩
  obtain ⟨hta, htb⟩ := hTa_h.out rfl
  have hM1q := hM1_h.out hta w1 hB1_h.out
  have hM2q := hM2_h.out hta htb
  clear hta htb
  have hM1q_h := Lib.hid hM1q
  have hM2q_h := Lib.hid hM2q
  clear hM1q hM2q
  go_wp2_with (fail)
  refine (hM1q_h.out).mono ?_
  rintro e w2 ⟨rfl, hb2⟩
  have hB2 := below_trans hB1_h.out hb2 hB1_h.out.size
  have b0_2 := box_below b0_1_h.out hb2
  have b1_2 := box_below b1_1_h.out hb2
  have b2_2 := box_below b2_1_h.out hb2
  have b3_2 := box_below b3_1_h.out hb2
  have b4_2 := box_below b4_1_h.out hb2
  clear p00 p01 p02 p03 p04 p05 p06 p07 p10 p11 p12 p13 p14 p15 p16 p17 p20 p21 p22 p23 p30 p31 p32 p33 p34 p35 p36 p37 p40 p41 p42 p43
  obtain ⟨⟨p00, p01, p02, p03⟩, p04, p05, p06, p07⟩ := box4 b0_2
  obtain ⟨⟨p10, p11, p12, p13⟩, p14, p15, p16, p17⟩ := box4 b1_2
  obtain ⟨⟨p20, p21⟩, p22, p23⟩ := box2 b2_2
  obtain ⟨⟨p30, p31, p32, p33⟩, p34, p35, p36, p37⟩ := box4 b3_2
  obtain ⟨⟨p40, p41⟩, p42, p43⟩ := box2 b4_2
  clear hb2
  have hB2_h := Lib.hid hB2
  have b0_2_h := Lib.hid b0_2
  have b1_2_h := Lib.hid b1_2
  have b2_2_h := Lib.hid b2_2
  have b3_2_h := Lib.hid b3_2
  have b4_2_h := Lib.hid b4_2
  clear hB2 b0_2 b1_2 b2_2 b3_2 b4_2
  cases T2
  case false =>
    have hR0 := hno_h.out (rfl)
    have hR0_h := Lib.hid hR0
    clear hR0
    go_wp2_with (fail)
    go_ret2
    rw [hR0_h.out]
    exact ⟨rfl, hB2_h.out⟩
  go_wp2_with (fail)
  refine ((hM2q_h.out _ hB2_h.out)).mono ?_
  rintro e w3 ⟨rfl, hb3⟩
  have hB3 := below_trans hB2_h.out hb3 hB2_h.out.size
  have b0_3 := box_below b0_2_h.out hb3
  have b1_3 := box_below b1_2_h.out hb3
  have b2_3 := box_below b2_2_h.out hb3
  have b3_3 := box_below b3_2_h.out hb3
  have b4_3 := box_below b4_2_h.out hb3
  clear p00 p01 p02 p03 p04 p05 p06 p07 p10 p11 p12 p13 p14 p15 p16 p17 p20 p21 p22 p23 p30 p31 p32 p33 p34 p35 p36 p37 p40 p41 p42 p43
  obtain ⟨⟨p00, p01, p02, p03⟩, p04, p05, p06, p07⟩ := box4 b0_3
  obtain ⟨⟨p10, p11, p12, p13⟩, p14, p15, p16, p17⟩ := box4 b1_3
  obtain ⟨⟨p20, p21⟩, p22, p23⟩ := box2 b2_3
  obtain ⟨⟨p30, p31, p32, p33⟩, p34, p35, p36, p37⟩ := box4 b3_3
  obtain ⟨⟨p40, p41⟩, p42, p43⟩ := box2 b4_3
  clear hb3
  have hB3_h := Lib.hid hB3
  have b0_3_h := Lib.hid b0_3
  have b1_3_h := Lib.hid b1_3
  have b2_3_h := Lib.hid b2_3
  have b3_3_h := Lib.hid b3_3
  have b4_3_h := Lib.hid b4_3
  clear hB3 b0_3 b1_3 b2_3 b3_3 b4_3
  cases T3
  case false =>
    have hR0 := hno_h.out (rfl)
    have hR0_h := Lib.hid hR0
    clear hR0
    go_wp2_with (fail)
    go_ret2
    rw [hR0_h.out]
    exact ⟨rfl, hB3_h.out⟩
  have hR1 := hye_h.out rfl
  have hApq := hAp_h.out rfl _ hB3_h.out
  have hR1_h := Lib.hid hR1
  have hApq_h := Lib.hid hApq
  clear hR1 hApq
  go_wp2_with (fail)
  refine (hApq_h.out).mono ?_
  rintro e w9 ⟨rfl, hb9⟩
  have hB9 := below_trans hB3_h.out hb9 hB3_h.out.size
  clear hb9
  have hB9_h := Lib.hid hB9
  clear hB9
  go_wp2_with (fail)
  go_ret2
  rw [hR1_h.out]
  exact ⟨rfl, hB9_h.out⟩
end Go.Proofs.Ytanhmljgeiajoaa
