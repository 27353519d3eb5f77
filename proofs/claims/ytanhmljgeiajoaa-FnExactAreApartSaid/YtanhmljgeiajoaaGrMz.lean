/-
  THE WALK: spec.mtIs.
-/
import Derived.Test.YtanhmljgeiajoaaGrMy
namespace Go.Proofs.Ytanhmljgeiajoaa
open Go.RowKit

set_option maxRecDepth 100000 in
set_option maxHeartbeats 4000000 in
theorem mtIs_any {vg vp vm : Value} {g pt : Gr} {ma : Ma} {fp : List Nat} (w : World) (hg : RdGr w vg g) (hp : RdGr w vp pt) (hm : OwMa w vm ma fp) (bg : grB g = true) (bp : grB pt = true) (okm : OkMa ma) :
    Calls Try.prog 58 #[vg, vp, vm] w fun e w' => e = .returned (.bool (maB g pt ma)) ∧ Below w.heap.size w w' := by
  obtain ⟨n, e1, hn, hq60, _, _, hin⟩ := grB_parts bg
  obtain ⟨n', e1', hn', hq60', _, _, hin'⟩ := grB_parts bp
  have hegB := egB_all bp
  have hegG := egB_all bg
  obtain ⟨A, c, hs, ⟨B, b, s⟩, ⟨C, d, t⟩, rfl, f1, _, _, hE, _, _⟩ := hg
  obtain ⟨A', c', hs', ⟨B', b', s'⟩, ⟨C', d', t'⟩, rfl, f1', _, _, hE', _, _⟩ := hp
  obtain ⟨⟨X, x, u⟩, ⟨Y, y, v⟩, rfl, e4, e5, hOw, _⟩ := hm
  have hUI : IS w X x u := hOw.rows (X, x, u) (List.mem_cons_self ..)
  have hVI : IS w Y y v := hOw.rows (Y, y, v) (List.mem_cons_of_mem _ (List.mem_cons_self ..))
  have hU := hUI.rd
  have hV := hVI.rd
  obtain ⟨u0, v0⟩ := ma
  have a4 : u = u0 := e4
  have a5 : v = v0 := e5
  subst a4 a5
  have lu : u.length ≤ 1048576 := okm.1
  have lv : v.length ≤ 1048576 := okm.2.1
  obtain ⟨T, hT⟩ : ∃ T, T = maB g pt (u, v) := ⟨_, rfl⟩
  have hTT := hT
  unfold maB at hTT
  rw [← hT]
  show Calls Try.prog _ #[.agg #[.int .i64 g.1, .slice A hs.length c, .slice B s.length b, .slice C t.length d], .agg #[.int .i64 pt.1, .slice A' hs'.length c', .slice B' s'.length b', .slice C' t'.length d'], .agg #[.slice X u.length x, .slice Y v.length y]] w _
  rw [e1, e1']
  have hin1 := inW_iff.1 (inW_app_right (inW_app_right (show inW (n' : Int) (pt.2.2.1 ++ (pt.2.2.2 ++ edW pt.2.1)) = true from hin')))
  have hql : g.2.1.length = hs.length := by rw [f1, List.length_map]
  have hql' : pt.2.1.length = hs'.length := by rw [f1', List.length_map]
  rw [e1, e1', hql, hql'] at hTT
  obtain ⟨W, hW, bW, k3, k4, k5⟩ := allocs3 w (.cells #[.int .i64 (n : Int), .slice A hs.length c, .slice B s.length b, .slice C t.length d] tGr) (.cells #[.int .i64 (n' : Int), .slice A' hs'.length c', .slice B' s'.length b', .slice C' t'.length d'] tGr) (.cells #[.slice X u.length x, .slice Y v.length y] tMa)
  have hD1 := fun (W' : World) (hb : Below w.heap.size w W') => mtDifferent_any X x n u W' (hUI.below hb) lu (by omega)
  have hD2 := fun (W' : World) (hb : Below w.heap.size w W') => mtDifferent_any Y y hs.length v W' (hVI.below hb) lv (by omega)
  obtain ⟨D1, hD1e⟩ : ∃ D, D = difB (n : Int) u := ⟨_, rfl⟩
  obtain ⟨D2, hD2e⟩ : ∃ D, D = difB (hs.length : Int) v := ⟨_, rfl⟩
  obtain ⟨AL, hAL⟩ : ∃ D, D = (List.range hs'.length).all (atB g pt (u, v)) := ⟨_, rfl⟩
  have hTT' : T = ((decide ((u.length : Int) = (n' : Int)) && decide (v.length = hs'.length)) && ((D1 && D2) && AL)) := by rw [hTT, hD1e, hD2e, hAL]
  rw [show decide (v.length = hs'.length) = decide ((v.length : Int) = (hs'.length : Int)) from decide_eq_decide.2 Int.ofNat_inj.symm] at hTT'
  simp only [← hD1e] at hD1
  simp only [← hD2e] at hD2
  clear hTT hT
  have hTT := hTT'
  clear hTT'
  have hq60 : hs.length ≤ 60 := by rw [← hql]; exact hq60
  have hq60' : hs'.length ≤ 60 := by rw [← hql']; exact hq60'
  obtain ⟨q, hq⟩ : ∃ q, q = hs.length := ⟨_, rfl⟩
  obtain ⟨q', hq'⟩ : ∃ q, q = hs'.length := ⟨_, rfl⟩
  obtain ⟨nu, hnu⟩ : ∃ q, q = u.length := ⟨_, rfl⟩
  obtain ⟨nv, hnv⟩ : ∃ q, q = v.length := ⟨_, rfl⟩
  rw [← hq] at hq60
  rw [← hq'] at hq60'
  rw [← hq] at hD2e hW k3 hD2
  rw [← hq'] at hAL hW k4 hTT
  rw [← hnu] at hTT hW k5 hD1 lu
  rw [← hnv] at hTT hW k5 hD2 lv
  rw [← hq, ← hq', ← hnu, ← hnv]
  generalize s.length = p at *
  generalize t.length = r at *
  generalize s'.length = p' at *
  generalize t'.length = r' at *
  obtain ⟨B1, hB1⟩ : ∃ D, D = decide ((nu : Int) = (n' : Int)) := ⟨_, rfl⟩
  obtain ⟨B2, hB2⟩ : ∃ D, D = decide ((nv : Int) = (q' : Int)) := ⟨_, rfl⟩
  rw [← hB1, ← hB2] at hTT
  obtain ⟨⟨c0, c1, c2, c3⟩, c4, c5, c6, c7⟩ := box4 k3
  obtain ⟨⟨d0, d1, d2, d3⟩, d4, d5, d6, d7⟩ := box4 k4
  obtain ⟨⟨i0, i1⟩, i2, i3⟩ := box2 k5
  clear hOw okm e1 e1' bg bp hin hin' e4 e5 hql hql'
  have hE_h := Lib.hid hE
  have hE'_h := Lib.hid hE'
  have hU_h := Lib.hid hU
  have hV_h := Lib.hid hV
  have f1_h := Lib.hid f1
  have f1'_h := Lib.hid f1'
  have hegB_h := Lib.hid hegB
  have hegG_h := Lib.hid hegG
  have hUI_h := Lib.hid hUI
  have hVI_h := Lib.hid hVI
  have hin1_h := Lib.hid hin1
  have hD1_h := Lib.hid hD1
  have hD2_h := Lib.hid hD2
  have hD1e_h := Lib.hid hD1e
  have hD2e_h := Lib.hid hD2e
  have hAL_h := Lib.hid hAL
  have hTT_h := Lib.hid hTT
  have hq_h := Lib.hid hq
  have hq'_h := Lib.hid hq'
  have hnu_h := Lib.hid hnu
  have hnv_h := Lib.hid hnv
  have hB1_h := Lib.hid hB1
  have hB2_h := Lib.hid hB2
  have bW_h := Lib.hid bW
  have k3_h := Lib.hid k3
  have k4_h := Lib.hid k4
  have k5_h := Lib.hid k5
  clear hE hE' hU hV f1 f1' hegB hegG hUI hVI hin1 hD1 hD2 hD1e hD2e hAL hTT hq hq' hnu hnv hB1 hB2 bW k3 k4 k5
  go_enter Try.func58, Try.ntmps58
  go_upto_region 1 with (fail)
  rw [← hW]
  clear hW
  go_cut [41] (fun sv wx => sv = .bool (!((B1 && B2) && (D1 && D2))) ∧ Below W.heap.size W wx)
  case first =>
    by_cases x1 : (nu : Int) = (n' : Int)
    case neg =>
      have hB1' : B1 = false := by rw [hB1_h.out, decide_eq_false x1]
      subst hB1'
      go_wp2_with (fail)
      go_meet
      exact ⟨rfl, Below.refl _ _⟩
    by_cases x2 : (nv : Int) = (q' : Int)
    case neg =>
      have hB2' : B2 = false := by rw [hB2_h.out, decide_eq_false x2]
      subst hB2'
      go_wp2_with (fail)
      go_meet
      exact ⟨by cases B1 <;> rfl, Below.refl _ _⟩
    have hB1' : B1 = true := by rw [hB1_h.out, decide_eq_true x1]
    have hB2' : B2 = true := by rw [hB2_h.out, decide_eq_true x2]
    subst hB1' hB2'
    go_wp2_with (fail)
    refine ((hD1_h.out _ bW_h.out)).mono ?_
    rintro e w1 ⟨rfl, hb1⟩
    cases D1
    case false =>
      have hb1_h := Lib.hid hb1
      clear hb1
      go_wp2_with (fail)
      go_meet
      exact ⟨rfl, hb1_h.out⟩
    case true =>
      have k3a := box_below k3_h.out hb1
      have k5a := box_below k5_h.out hb1
      have hBw1 := below_trans bW_h.out hb1 bW_h.out.size
      clear c0 c1 c2 c3 c4 c5 c6 c7 i0 i1 i2 i3
      obtain ⟨⟨c0, c1, c2, c3⟩, c4, c5, c6, c7⟩ := box4 k3a
      obtain ⟨⟨i0, i1⟩, i2, i3⟩ := box2 k5a
      have hb1_h := Lib.hid hb1
      have k3a_h := Lib.hid k3a
      have k5a_h := Lib.hid k5a
      have hBw1_h := Lib.hid hBw1
      clear hb1 k3a k5a hBw1
      go_wp2_with (fail)
      refine ((hD2_h.out _ hBw1_h.out)).mono ?_
      rintro e w2 ⟨rfl, hb2⟩
      have hb2' := below_trans hb1_h.out hb2 hb1_h.out.size
      clear hb2
      have hb2'_h := Lib.hid hb2'
      clear hb2'
      go_wp2_with (fail)
      go_meet
      exact ⟨by cases D2 <;> rfl, hb2'_h.out⟩
  case rest =>
    obtain ⟨rfl, hWc⟩ := hcut
    obtain ⟨w5, rfl⟩ : ∃ x, x = wc := ⟨_, rfl⟩
    have k4c := box_below k4_h.out hWc
    clear c0 c1 c2 c3 c4 c5 c6 c7 d0 d1 d2 d3 d4 d5 d6 d7 i0 i1 i2 i3
    have hB5 := below_trans bW_h.out hWc bW_h.out.size
    obtain ⟨F, hF⟩ : ∃ F, F = ((B1 && B2) && (D1 && D2)) := ⟨_, rfl⟩
    rw [← hF]
    cases F
    case false =>
      have hT0 : T = false := by
        rw [hTT_h.out]
        cases B1 <;> cases B2 <;> cases D1 <;> cases D2 <;> first | rfl | cases hF
      subst hT0
      have hF_h := Lib.hid hF
      have hB5_h := Lib.hid hB5
      clear hF hB5
      go_wp2_with (fail)
      go_ret
      exact ⟨rfl, hB5_h.out⟩
    case true =>
      have hT1 : T = AL := by
        rw [hTT_h.out]
        cases B1 <;> cases B2 <;> cases D1 <;> cases D2 <;> first | rfl | cases hF
      have hD1t : D1 = true := by cases B1 <;> cases B2 <;> cases D1 <;> cases D2 <;> first | rfl | cases hF
      have hD2t : D2 = true := by cases B1 <;> cases B2 <;> cases D1 <;> cases D2 <;> first | rfl | cases hF
      have hB1t : B1 = true := by cases B1 <;> cases B2 <;> cases D1 <;> cases D2 <;> first | rfl | cases hF
      have hB2t : B2 = true := by cases B1 <;> cases B2 <;> cases D1 <;> cases D2 <;> first | rfl | cases hF
      have hvb := (difB_iff.1 (hD2e_h.out.symm.trans hD2t)).1
      have hnn : nu = n' := by have := of_decide_eq_true (hB1_h.out.symm.trans hB1t); omega
      have hnq : nv = q' := by have := of_decide_eq_true (hB2_h.out.symm.trans hB2t); omega
      clear hTT_h hB1_h hB2_h hD1_h hD2_h hD1e_h hD2e_h hD1t hD2t hB1t hB2t hF
      subst hT1
      have hal0 : (List.range 0).all (atB g pt (u, v)) = true := rfl
      obtain ⟨⟨d0, d1, d2, d3⟩, d4, d5, d6, d7⟩ := box4 k4c
      have hWc_h := Lib.hid hWc
      have hB5_h := Lib.hid hB5
      have k4c_h := Lib.hid k4c
      have hvb_h := Lib.hid hvb
      have hnn_h := Lib.hid hnn
      have hnq_h := Lib.hid hnq
      clear hWc hB5 k4c hvb hnn hnq
      go_wp2_with (fail)
      go_loopw [45] (fun i wr => ∃ k : Nat, k ≤ q' ∧ i = .int .i64 k ∧ (List.range k).all (atB g pt (u, v)) = true ∧ Below W.heap.size W wr) (fun i _ => q' - (intOf i).toNat)
      case atStart => exact ⟨0, Nat.zero_le _, rfl, rfl, hWc_h.out⟩
      case round =>
        clear hal0 d0 d1 d2 d3 d4 d5 d6 d7 k4c_h hWc_h hB5_h
        obtain ⟨k, hk, rfl, hal, hB⟩ := hrel
        obtain ⟨wo, rfl⟩ : ∃ x, x = wr := ⟨_, rfl⟩
        have hBw := below_trans bW_h.out hB bW_h.out.size
        by_cases hlt : k < q'
        case neg =>
          obtain rfl : q' = k := by omega
          obtain rfl : T = true := by rw [hAL_h.out]; exact hal
          have hBw_h := Lib.hid hBw
          have hal_h := Lib.hid hal
          have hB_h := Lib.hid hB
          clear hBw hal hB
          go_wp2_with (fail)
          go_ret
          exact ⟨rfl, hBw_h.out⟩
        case pos =>
          obtain ⟨ad, κ, vv, B1', b1, s1, C1, b2, t1, rfl, hn2, ⟨d0, d1, d2, d3⟩, hr1, hr2⟩ := (hE'_h.out.below hBw).at_ (j := k) (by rw [← hq'_h.out]; exact hlt)
          have hek : pt.2.1[k]? = some (κ, vv, s1, t1) := by rw [f1'_h.out, List.getElem?_map, hn2]; rfl
          obtain ⟨ad2, f0, rfl, hx2, hc2⟩ := (hV_h.out.below hBw).at_ (j := k) (by rw [← hnv_h.out, hnq_h.out]; exact hlt)
          have hfb := hvb_h.out f0 (List.mem_of_getElem? hx2)
          obtain ⟨f, rfl⟩ : ∃ f : Nat, f0 = (f : Int) := ⟨f0.toNat, by omega⟩
          have hfq : f < q := by omega
          obtain ⟨ad3, κ', vv', B3, b3, s3, C3, b4, t3, rfl, hn3, ⟨y0, y1, y2, y3⟩, hr3, hr4⟩ := (hE_h.out.below hBw).at_ (j := f) (by rw [← hq_h.out]; exact hfq)
          have hef : g.2.1[f]? = some (κ', vv', s3, t3) := by rw [f1_h.out, List.getElem?_map, hn3]; rfl
          have hat : atB g pt (u, v) k = decide (((κ, vv, mapL u s1, mapL u t1) : Eg) = (κ', vv', s3, t3)) := by
            unfold atB
            simp only [List.getD_eq_getElem?_getD, hek, hx2, Option.getD_some, Int.toNat_natCast, hef]
            rfl
          obtain ⟨⟨l1, l2⟩, l3⟩ := egB_len (hegB_h.out _ (List.mem_of_getElem? hek))
          simp only at l1 l2 l3
          obtain ⟨hm1, hm2⟩ := mem_edW_of (List.mem_of_getElem? hek)
          have hi1 : ∀ z, z ∈ s1 → 0 ≤ z ∧ z < (nu : Int) := fun z hz => by rw [hnn_h.out]; exact hin1_h.out z (hm1 z hz)
          have hi2 : ∀ z, z ∈ t1 → 0 ≤ z ∧ z < (nu : Int) := fun z hz => by rw [hnn_h.out]; exact hin1_h.out z (hm2 z hz)
          have hUw := hU_h.out.below hBw
          have hp3b : s3.length ≤ 1048576 := by have := egB_len (hegG_h.out _ (List.mem_of_getElem? hef)); simp only at this; omega
          have hr3b : t3.length ≤ 1048576 := by have := egB_len (hegG_h.out _ (List.mem_of_getElem? hef)); simp only at this; omega
          have hCa := fun (W' : World) (hb : Below wo.heap.size wo W') => hgList_any B1' X b1 x s1.length nu s1 u W' (hr1.below hb) (hUw.below hb) rfl hnu_h.out.symm hi1 (by omega)
          have hCb := fun (W' : World) (hb : Below wo.heap.size wo W') => hgList_any C1 X b2 x t1.length nu t1 u W' (hr2.below hb) (hUw.below hb) rfl hnu_h.out.symm hi2 (by omega)
          obtain ⟨AT, hAT⟩ : ∃ D, D = atB g pt (u, v) k := ⟨_, rfl⟩
          rw [← hAT] at hat
          have hl1 : (mapL u s1).length = s1.length := mapL_length _ _
          have hl2 : (mapL u t1).length = t1.length := mapL_length _ _
          have hkI : (k : Int) < (q' : Int) := by omega
          have hkv : (k : Int) < (nv : Int) := by have := hnq_h.out; omega
          have hfI : (f : Int) < (q : Int) := by omega
          have hal1 : AT = true → (List.range (k + 1)).all (atB g pt (u, v)) = true := fun hh => by
            rw [List.range_succ, List.all_append, hal]
            simp [← hAT, hh]
          have hal0 : AT = false → T = false := fun hh => by
            rw [hAL_h.out, List.all_eq_false]
            exact ⟨k, List.mem_range.2 hlt, by rw [← hAT, hh]; decide⟩
          obtain ⟨p1, hp1⟩ : ∃ p1, p1 = s1.length := ⟨_, rfl⟩
          obtain ⟨r1, hr1'⟩ : ∃ r1, r1 = t1.length := ⟨_, rfl⟩
          obtain ⟨p3, hp3⟩ : ∃ p1, p1 = s3.length := ⟨_, rfl⟩
          obtain ⟨r3, hr3'⟩ : ∃ r1, r1 = t3.length := ⟨_, rfl⟩
          have hr3w := fun (W' : World) (hb : Below wo.heap.size wo W') => hr3.below hb
          have hr4w := fun (W' : World) (hb : Below wo.heap.size wo W') => hr4.below hb
          simp only [← hp1] at hCa hl1 l1
          simp only [← hr1'] at hCb hl2 l2
          rw [← hp1] at d2
          rw [← hr1'] at d3
          rw [← hp3] at y2 hp3b
          rw [← hr3'] at y3 hr3b
          have k3r := box_below k3_h.out hB
          have k4r := box_below k4_h.out hB
          have k5r := box_below k5_h.out hB
          obtain ⟨W6, hW6, bW6, k6⟩ := (⟨_, rfl, below_alloc _ _, heap_alloc_new _ _⟩ : ∃ W, W = wo.alloc (.cells #[.int .i64 κ, .int .i64 vv, .slice B1' p1 b1, .slice C1 r1 b2] tEd) ∧ Below wo.heap.size wo W ∧ W.heap[wo.heap.size]? = some (.cells #[.int .i64 κ, .int .i64 vv, .slice B1' p1 b1, .slice C1 r1 b2] tEd))
          have k3s := box_below k3r bW6
          have k5s := box_below k5r bW6
          have hc2s := cell_below hc2 bW6
          have z0 := cell_below y0 bW6
          have z1 := cell_below y1 bW6
          have z2 := cell_below y2 bW6
          have z3 := cell_below y3 bW6
          obtain ⟨⟨x0, x1, x2, x3⟩, x4, x5, x6, x7⟩ := box4 k4r
          have hBW6 := below_trans hB bW6 hB.size
          clear hr1 hr2 hr3 hr4 hek hx2 hn2 hn3 hef hfb hm1 hm2 hi1 hi2 hUw l3 k3r k4r k5r hc2 y0 y1 y2 y3
          have hal_h := Lib.hid hal
          have hat_h := Lib.hid hat
          have hAT_h := Lib.hid hAT
          have hCa_h := Lib.hid hCa
          have hCb_h := Lib.hid hCb
          have hl1_h := Lib.hid hl1
          have hl2_h := Lib.hid hl2
          have hal1_h := Lib.hid hal1
          have hal0_h := Lib.hid hal0
          have hp1_h := Lib.hid hp1
          have hr1'_h := Lib.hid hr1'
          have hp3_h := Lib.hid hp3
          have hr3'_h := Lib.hid hr3'
          have hr3w_h := Lib.hid hr3w
          have hr4w_h := Lib.hid hr4w
          have bW6_h := Lib.hid bW6
          have k6_h := Lib.hid k6
          have k3s_h := Lib.hid k3s
          have k5s_h := Lib.hid k5s
          have hc2s_h := Lib.hid hc2s
          have z0_h := Lib.hid z0
          have z1_h := Lib.hid z1
          have z2_h := Lib.hid z2
          have z3_h := Lib.hid z3
          have hB_h := Lib.hid hB
          have hBw_h := Lib.hid hBw
          have hBW6_h := Lib.hid hBW6
          clear hal hat hAT hCa hCb hl1 hl2 hal1 hal0 hp1 hr1' hp3 hr3' hr3w hr4w bW6 k6 k3s k5s hc2s z0 z1 z2 z3 hB hBw hBW6
          go_upto_region 6 with (fail)
          rw [← hW6]
          clear hW6 d0 d1 d2 d3 x0 x1 x2 x3 x4 x5 x6 x7
          go_cut [9] (fun sv wx => ∃ (bx : Nat), sv = .pointer (some ⟨bx, 0, none⟩) ∧ wx.heap[bx]? = some (.cells #[.int .i64 κ', .int .i64 vv', .slice B3 p3 b3, .slice C3 r3 b4] tEd) ∧ Below W6.heap.size W6 wx)
          case first =>
            refine beginH (fun w' => Below W6.heap.size W6 w') (by kernel_rfl) ?_
            have hbd : Below W6.heap.size W6 W6.drew := below_drew (Below.refl _ _)
            generalize W6.drew = W7 at hbd ⊢
            obtain ⟨W9, hW9, bW9, k9⟩ := alloc_box1g W7 (.cells #[.int .i64 0, .int .i64 0, .slice none 0 0, .slice none 0 0] tEd)
            have hbc := below_trans hbd bW9 hbd.size
            have hge := hbd.size
            obtain ⟨s1', s2'⟩ := set4 (a := .int .i64 κ') (b := .int .i64 vv') (c := .slice B3 p3 b3) (d := .slice C3 r3 b4) k9
            have hBf := below_keeps hbc s2' hbc.size (fun z hz => by omega)
            obtain ⟨⟨g0, g1, g2, g3⟩, g4, g5, g6, g7⟩ := box4 k9
            clear s2' bW9 hge k9
            have hbd_h := Lib.hid hbd
            have hbc_h := Lib.hid hbc
            have s1'_h := Lib.hid s1'
            have hBf_h := Lib.hid hBf
            clear hbd hbc s1' hBf
            refine takeH 0 (v := ?_) rfl (by kernel_rfl) (by kernel_rfl) (by kernel_rfl) (fun _ _ _ h => h) hbd_h.out (by rfl) (fun W' hW' => ?_) ?_; rotate_left; · (have j0 := box_below k3s_h.out hW'; obtain ⟨⟨a0, a1, a2, a3⟩, a4, a5, a6, a7⟩ := box4 j0; have j1 := box_below k5s_h.out hW'; obtain ⟨⟨e0, e1⟩, e2, e3⟩ := box2 j1; have m0 := cell_below hc2s_h.out hW'; have m1 := cell_below z0_h.out hW'; have m2 := cell_below z1_h.out hW'; have m3 := cell_below z2_h.out hW'; have m4 := cell_below z3_h.out hW'; clear hW'; go_simp; first | done | with_reducible rfl)
            simp only [Act.put, List.setIfInBounds_toArray, List.set_cons_zero, List.set_cons_succ]
            refine takeH 1 (v := ?_) rfl (by kernel_rfl) (by kernel_rfl) (by kernel_rfl) (fun _ _ _ h => h) hbd_h.out (by rfl) (fun W' hW' => ?_) ?_; rotate_left; · (have j0 := box_below k3s_h.out hW'; obtain ⟨⟨a0, a1, a2, a3⟩, a4, a5, a6, a7⟩ := box4 j0; have j1 := box_below k5s_h.out hW'; obtain ⟨⟨e0, e1⟩, e2, e3⟩ := box2 j1; have m0 := cell_below hc2s_h.out hW'; have m1 := cell_below z0_h.out hW'; have m2 := cell_below z1_h.out hW'; have m3 := cell_below z2_h.out hW'; have m4 := cell_below z3_h.out hW'; clear hW'; go_simp; first | done | with_reducible rfl)
            simp only [Act.put, List.setIfInBounds_toArray, List.set_cons_zero, List.set_cons_succ]
            refine takeH 2 (v := ?_) rfl (by kernel_rfl) (by kernel_rfl) (by kernel_rfl) (fun _ _ _ h => h) hbd_h.out (by rfl) (fun W' hW' => ?_) ?_; rotate_left; · (have j0 := box_below k3s_h.out hW'; obtain ⟨⟨a0, a1, a2, a3⟩, a4, a5, a6, a7⟩ := box4 j0; have j1 := box_below k5s_h.out hW'; obtain ⟨⟨e0, e1⟩, e2, e3⟩ := box2 j1; have m0 := cell_below hc2s_h.out hW'; have m1 := cell_below z0_h.out hW'; have m2 := cell_below z1_h.out hW'; have m3 := cell_below z2_h.out hW'; have m4 := cell_below z3_h.out hW'; clear hW'; go_simp; first | done | with_reducible rfl)
            simp only [Act.put, List.setIfInBounds_toArray, List.set_cons_zero, List.set_cons_succ]
            refine takeH 3 (v := ?_) rfl (by kernel_rfl) (by kernel_rfl) (by kernel_rfl) (fun _ _ _ h => h) hbd_h.out (by rfl) (fun W' hW' => ?_) ?_; rotate_left; · (have j0 := box_below k3s_h.out hW'; obtain ⟨⟨a0, a1, a2, a3⟩, a4, a5, a6, a7⟩ := box4 j0; have j1 := box_below k5s_h.out hW'; obtain ⟨⟨e0, e1⟩, e2, e3⟩ := box2 j1; have m0 := cell_below hc2s_h.out hW'; have m1 := cell_below z0_h.out hW'; have m2 := cell_below z1_h.out hW'; have m3 := cell_below z2_h.out hW'; have m4 := cell_below z3_h.out hW'; clear hW'; go_simp; first | done | with_reducible rfl)
            simp only [Act.put, List.setIfInBounds_toArray, List.set_cons_zero, List.set_cons_succ]
            refine takeH 4 (v := ?_) rfl (by kernel_rfl) (by kernel_rfl) (by kernel_rfl) (fun _ _ _ h => h) hbd_h.out (by rfl) (fun W' hW' => ?_) ?_; rotate_left; · (have j0 := box_below k3s_h.out hW'; obtain ⟨⟨a0, a1, a2, a3⟩, a4, a5, a6, a7⟩ := box4 j0; have j1 := box_below k5s_h.out hW'; obtain ⟨⟨e0, e1⟩, e2, e3⟩ := box2 j1; have m0 := cell_below hc2s_h.out hW'; have m1 := cell_below z0_h.out hW'; have m2 := cell_below z1_h.out hW'; have m3 := cell_below z2_h.out hW'; have m4 := cell_below z3_h.out hW'; clear hW'; go_simp; first | done | with_reducible rfl)
            simp only [Act.put, List.setIfInBounds_toArray, List.set_cons_zero, List.set_cons_succ]
            refine takeH 5 (v := ?_) rfl (by kernel_rfl) (by kernel_rfl) (by kernel_rfl) (fun _ _ _ h => h) hbd_h.out (by rfl) (fun W' hW' => ?_) ?_; rotate_left; · (have j0 := box_below k3s_h.out hW'; obtain ⟨⟨a0, a1, a2, a3⟩, a4, a5, a6, a7⟩ := box4 j0; have j1 := box_below k5s_h.out hW'; obtain ⟨⟨e0, e1⟩, e2, e3⟩ := box2 j1; have m0 := cell_below hc2s_h.out hW'; have m1 := cell_below z0_h.out hW'; have m2 := cell_below z1_h.out hW'; have m3 := cell_below z2_h.out hW'; have m4 := cell_below z3_h.out hW'; clear hW'; go_simp; first | done | with_reducible rfl)
            simp only [Act.put, List.setIfInBounds_toArray, List.set_cons_zero, List.set_cons_succ]
            refine takeH 6 (v := ?_) rfl (by kernel_rfl) (by kernel_rfl) (by kernel_rfl) (fun _ _ _ h => h) hbd_h.out (by rfl) (fun W' hW' => ?_) ?_; rotate_left; · (have j0 := box_below k3s_h.out hW'; obtain ⟨⟨a0, a1, a2, a3⟩, a4, a5, a6, a7⟩ := box4 j0; have j1 := box_below k5s_h.out hW'; obtain ⟨⟨e0, e1⟩, e2, e3⟩ := box2 j1; have m0 := cell_below hc2s_h.out hW'; have m1 := cell_below z0_h.out hW'; have m2 := cell_below z1_h.out hW'; have m3 := cell_below z2_h.out hW'; have m4 := cell_below z3_h.out hW'; clear hW'; go_simp; first | done | with_reducible rfl)
            simp only [Act.put, List.setIfInBounds_toArray, List.set_cons_zero, List.set_cons_succ]
            refine takeH 7 (v := ?_) rfl (by kernel_rfl) (by kernel_rfl) (by kernel_rfl) (fun _ _ _ h => h) hbd_h.out (by rfl) (fun W' hW' => ?_) ?_; rotate_left; · (have j0 := box_below k3s_h.out hW'; obtain ⟨⟨a0, a1, a2, a3⟩, a4, a5, a6, a7⟩ := box4 j0; have j1 := box_below k5s_h.out hW'; obtain ⟨⟨e0, e1⟩, e2, e3⟩ := box2 j1; have m0 := cell_below hc2s_h.out hW'; have m1 := cell_below z0_h.out hW'; have m2 := cell_below z1_h.out hW'; have m3 := cell_below z2_h.out hW'; have m4 := cell_below z3_h.out hW'; clear hW'; go_simp; first | done | with_reducible rfl)
            simp only [Act.put, List.setIfInBounds_toArray, List.set_cons_zero, List.set_cons_succ]
            refine takeH 8 (v := ?_) rfl (by kernel_rfl) (by kernel_rfl) (by kernel_rfl) (fun _ _ _ h => h) hbd_h.out (by rfl) (fun W' hW' => ?_) ?_; rotate_left; · (have j0 := box_below k3s_h.out hW'; obtain ⟨⟨a0, a1, a2, a3⟩, a4, a5, a6, a7⟩ := box4 j0; have j1 := box_below k5s_h.out hW'; obtain ⟨⟨e0, e1⟩, e2, e3⟩ := box2 j1; have m0 := cell_below hc2s_h.out hW'; have m1 := cell_below z0_h.out hW'; have m2 := cell_below z1_h.out hW'; have m3 := cell_below z2_h.out hW'; have m4 := cell_below z3_h.out hW'; clear hW'; go_simp; first | done | with_reducible rfl)
            simp only [Act.put, List.setIfInBounds_toArray, List.set_cons_zero, List.set_cons_succ]
            refine oneH 9 rfl (by kernel_rfl) (by rfl) (fun K hK => ?_)
            go_simp
            rw [← hW9]
            refine hK _ _ hbc_h.out ?_
            clear hK K hW9
            refine oneH 10 rfl (by kernel_rfl) (by rfl) (fun K hK => ?_)
            go_simp
            refine hK _ _ hBf_h.out ?_
            clear hK K
            refine doneH (by kernel_rfl) ?_
            go_wp2_with (fail)
            go_meet
            exact ⟨W7.heap.size, rfl, s1'_h.out, hBf_h.out⟩
          case rest =>
            obtain ⟨bx, rfl, k9, hBc⟩ := hcut
            obtain ⟨w7, rfl⟩ : ∃ x, x = wc := ⟨_, rfl⟩
            have hBc' := below_trans bW6_h.out hBc bW6_h.out.size
            have hBo' := below_trans hB_h.out hBc' hB_h.out.size
            have k6r := box_below k6_h.out hBc
            have k5r := box_below k5s_h.out hBc
            obtain ⟨E1, hE1⟩ : ∃ D, D = decide (mapL u s1 = s3) := ⟨_, rfl⟩
            obtain ⟨E2, hE2⟩ : ∃ D, D = decide (mapL u t1 = t3) := ⟨_, rfl⟩
            have hS1 := fun (A2 : Option Addr) (c2 : Nat) (W' : World) (hi : RdI W' A2 (mapL u s1)) (hb : Below wo.heap.size wo W') => l1Same_any A2 B3 c2 b3 p1 p3 (mapL u s1) s3 W' hi (hr3w_h.out W' hb) hl1_h.out hp3_h.out.symm (by omega) hp3b
            have hS2 := fun (A2 : Option Addr) (c2 : Nat) (W' : World) (hi : RdI W' A2 (mapL u t1)) (hb : Below wo.heap.size wo W') => l1Same_any A2 C3 c2 b4 r1 r3 (mapL u t1) t3 W' hi (hr4w_h.out W' hb) hl2_h.out hr3'_h.out.symm (by omega) hr3b
            simp only [← hE1] at hS1
            simp only [← hE2] at hS2
            have hATe : AT = (decide (κ = κ') && (decide (vv = vv') && (E1 && E2))) := by
              rw [hat_h.out, hE1, hE2, Bool.eq_iff_iff]
              simp
            have hBc_h := Lib.hid hBc
            have k9_h := Lib.hid k9
            have hBc'_h := Lib.hid hBc'
            have hBo'_h := Lib.hid hBo'
            have k6r_h := Lib.hid k6r
            have k5r_h := Lib.hid k5r
            have hE1_h := Lib.hid hE1
            have hE2_h := Lib.hid hE2
            have hS1_h := Lib.hid hS1
            have hS2_h := Lib.hid hS2
            have hATe_h := Lib.hid hATe
            clear hBc k9 hBc' hBo' k6r k5r hE1 hE2 hS1 hS2 hATe
            go_upto_region 7 with (fail)
            go_cut [92] (fun sv wx => sv = .bool (!AT) ∧ Below w7.heap.size w7 wx)
            case first =>
              by_cases hκ : κ = κ'
              case neg =>
                have hbn : (κ != κ') = true := by rw [bne_iff_ne]; exact hκ
                obtain rfl : AT = false := by rw [hATe_h.out, decide_eq_false hκ]; rfl
                refine beginH (fun w' => Below w7.heap.size w7 w') (by kernel_rfl) ?_
                have hbd : Below w7.heap.size w7 w7.drew := below_drew (Below.refl _ _)
                generalize w7.drew = W8 at hbd ⊢
                have hbd_h := Lib.hid hbd
                clear hbd
                refine takeH 0 (v := ?_) rfl (by kernel_rfl) (by kernel_rfl) (by kernel_rfl) (fun _ _ _ h => h) hbd_h.out (by rfl) (fun W' hW' => ?_) ?_; rotate_left; · (have j0 := box_below k6r_h.out hW'; obtain ⟨⟨a0, a1, a2, a3⟩, a4, a5, a6, a7⟩ := box4 j0; have j1 := box_below k5r_h.out hW'; obtain ⟨⟨e0, e1⟩, e2, e3⟩ := box2 j1; have j2 := box_below k9_h.out hW'; obtain ⟨⟨g0, g1, g2, g3⟩, g4, g5, g6, g7⟩ := box4 j2; clear hW'; go_simp; first | done | with_reducible rfl)
                simp only [Act.put, List.setIfInBounds_toArray, List.set_cons_zero, List.set_cons_succ]
                refine takeH 1 (v := ?_) rfl (by kernel_rfl) (by kernel_rfl) (by kernel_rfl) (fun _ _ _ h => h) hbd_h.out (by rfl) (fun W' hW' => ?_) ?_; rotate_left; · (have j0 := box_below k6r_h.out hW'; obtain ⟨⟨a0, a1, a2, a3⟩, a4, a5, a6, a7⟩ := box4 j0; have j1 := box_below k5r_h.out hW'; obtain ⟨⟨e0, e1⟩, e2, e3⟩ := box2 j1; have j2 := box_below k9_h.out hW'; obtain ⟨⟨g0, g1, g2, g3⟩, g4, g5, g6, g7⟩ := box4 j2; clear hW'; go_simp; first | done | with_reducible rfl)
                simp only [Act.put, List.setIfInBounds_toArray, List.set_cons_zero, List.set_cons_succ]
                refine takeH 2 (v := ?_) rfl (by kernel_rfl) (by kernel_rfl) (by kernel_rfl) (fun _ _ _ h => h) hbd_h.out (by rfl) (fun W' hW' => ?_) ?_; rotate_left; · (have j0 := box_below k6r_h.out hW'; obtain ⟨⟨a0, a1, a2, a3⟩, a4, a5, a6, a7⟩ := box4 j0; have j1 := box_below k5r_h.out hW'; obtain ⟨⟨e0, e1⟩, e2, e3⟩ := box2 j1; have j2 := box_below k9_h.out hW'; obtain ⟨⟨g0, g1, g2, g3⟩, g4, g5, g6, g7⟩ := box4 j2; clear hW'; go_simp; first | done | with_reducible rfl)
                simp only [Act.put, List.setIfInBounds_toArray, List.set_cons_zero, List.set_cons_succ]
                refine takeH 3 (v := ?_) rfl (by kernel_rfl) (by kernel_rfl) (by kernel_rfl) (fun _ _ _ h => h) hbd_h.out (by rfl) (fun W' hW' => ?_) ?_; rotate_left; · (have j0 := box_below k6r_h.out hW'; obtain ⟨⟨a0, a1, a2, a3⟩, a4, a5, a6, a7⟩ := box4 j0; have j1 := box_below k5r_h.out hW'; obtain ⟨⟨e0, e1⟩, e2, e3⟩ := box2 j1; have j2 := box_below k9_h.out hW'; obtain ⟨⟨g0, g1, g2, g3⟩, g4, g5, g6, g7⟩ := box4 j2; clear hW'; go_simp; first | done | with_reducible rfl)
                simp only [Act.put, List.setIfInBounds_toArray, List.set_cons_zero, List.set_cons_succ]
                refine takeH 4 (v := ?_) rfl (by kernel_rfl) (by kernel_rfl) (by kernel_rfl) (fun _ _ _ h => h) hbd_h.out (by rfl) (fun W' hW' => ?_) ?_; rotate_left; · (have j0 := box_below k6r_h.out hW'; obtain ⟨⟨a0, a1, a2, a3⟩, a4, a5, a6, a7⟩ := box4 j0; have j1 := box_below k5r_h.out hW'; obtain ⟨⟨e0, e1⟩, e2, e3⟩ := box2 j1; have j2 := box_below k9_h.out hW'; obtain ⟨⟨g0, g1, g2, g3⟩, g4, g5, g6, g7⟩ := box4 j2; clear hW'; go_simp; first | done | with_reducible rfl)
                simp only [Act.put, List.setIfInBounds_toArray, List.set_cons_zero, List.set_cons_succ]
                refine takeH 5 (v := ?_) rfl (by kernel_rfl) (by kernel_rfl) (by kernel_rfl) (fun _ _ _ h => h) hbd_h.out (by rfl) (fun W' hW' => ?_) ?_; rotate_left; · (have j0 := box_below k6r_h.out hW'; obtain ⟨⟨a0, a1, a2, a3⟩, a4, a5, a6, a7⟩ := box4 j0; have j1 := box_below k5r_h.out hW'; obtain ⟨⟨e0, e1⟩, e2, e3⟩ := box2 j1; have j2 := box_below k9_h.out hW'; obtain ⟨⟨g0, g1, g2, g3⟩, g4, g5, g6, g7⟩ := box4 j2; clear hW'; go_simp; first | done | with_reducible rfl)
                simp only [Act.put, List.setIfInBounds_toArray, List.set_cons_zero, List.set_cons_succ]
                refine offH 6 rfl (by kernel_rfl) (by kernel_rfl) (by kernel_rfl) (fun _ _ _ h => h) hbd_h.out (by rfl) ?_
                simp only [Act.put, List.setIfInBounds_toArray, List.set_cons_zero, List.set_cons_succ]
                refine offH 7 rfl (by kernel_rfl) (by kernel_rfl) (by kernel_rfl) (fun _ _ _ h => h) hbd_h.out (by rfl) ?_
                simp only [Act.put, List.setIfInBounds_toArray, List.set_cons_zero, List.set_cons_succ]
                refine offH 8 rfl (by kernel_rfl) (by kernel_rfl) (by kernel_rfl) (fun _ _ _ h => h) hbd_h.out (by rfl) ?_
                simp only [Act.put, List.setIfInBounds_toArray, List.set_cons_zero, List.set_cons_succ]
                refine offH 9 rfl (by kernel_rfl) (by kernel_rfl) (by kernel_rfl) (fun _ _ _ h => h) hbd_h.out (by rfl) ?_
                simp only [Act.put, List.setIfInBounds_toArray, List.set_cons_zero, List.set_cons_succ]
                refine offH 10 rfl (by kernel_rfl) (by kernel_rfl) (by kernel_rfl) (fun _ _ _ h => h) hbd_h.out (by rfl) ?_
                simp only [Act.put, List.setIfInBounds_toArray, List.set_cons_zero, List.set_cons_succ]
                refine takeH 11 (v := ?_) rfl (by kernel_rfl) (by kernel_rfl) (by kernel_rfl) (fun _ _ _ h => h) hbd_h.out (by rfl) (fun W' hW' => ?_) ?_; rotate_left; · (skip; clear hW'; go_simp; first | done | with_reducible rfl)
                simp only [Act.put, List.setIfInBounds_toArray, List.set_cons_zero, List.set_cons_succ]
                refine takeH 12 (v := ?_) rfl (by kernel_rfl) (by kernel_rfl) (by kernel_rfl) (fun _ _ _ h => h) hbd_h.out (by rfl) (fun W' hW' => ?_) ?_; rotate_left; · (skip; clear hW'; go_simp; first | done | with_reducible rfl)
                simp only [Act.put, List.setIfInBounds_toArray, List.set_cons_zero, List.set_cons_succ]
                refine offH 13 rfl (by kernel_rfl) (by kernel_rfl) (by kernel_rfl) (fun _ _ _ h => h) hbd_h.out (by rfl) ?_
                simp only [Act.put, List.setIfInBounds_toArray, List.set_cons_zero, List.set_cons_succ]
                refine offH 14 rfl (by kernel_rfl) (by kernel_rfl) (by kernel_rfl) (fun _ _ _ h => h) hbd_h.out (by rfl) ?_
                simp only [Act.put, List.setIfInBounds_toArray, List.set_cons_zero, List.set_cons_succ]
                refine offH 15 rfl (by kernel_rfl) (by kernel_rfl) (by kernel_rfl) (fun _ _ _ h => h) hbd_h.out (by rfl) ?_
                simp only [Act.put, List.setIfInBounds_toArray, List.set_cons_zero, List.set_cons_succ]
                refine offH 16 rfl (by kernel_rfl) (by kernel_rfl) (by kernel_rfl) (fun _ _ _ h => h) hbd_h.out (by rfl) ?_
                simp only [Act.put, List.setIfInBounds_toArray, List.set_cons_zero, List.set_cons_succ]
                refine offH 18 rfl (by kernel_rfl) (by kernel_rfl) (by kernel_rfl) (fun _ _ _ h => h) hbd_h.out (by rfl) ?_
                simp only [Act.put, List.setIfInBounds_toArray, List.set_cons_zero, List.set_cons_succ]
                refine offH 19 rfl (by kernel_rfl) (by kernel_rfl) (by kernel_rfl) (fun _ _ _ h => h) hbd_h.out (by rfl) ?_
                simp only [Act.put, List.setIfInBounds_toArray, List.set_cons_zero, List.set_cons_succ]
                refine offOneH 17 rfl (by kernel_rfl) (by rfl) hbd_h.out ?_
                simp only [Act.put, List.setIfInBounds_toArray, List.set_cons_zero, List.set_cons_succ]
                refine offOneH 20 rfl (by kernel_rfl) (by rfl) hbd_h.out ?_
                simp only [Act.put, List.setIfInBounds_toArray, List.set_cons_zero, List.set_cons_succ]
                refine offH 21 rfl (by kernel_rfl) (by kernel_rfl) (by kernel_rfl) (fun _ _ _ h => h) hbd_h.out (by rfl) ?_
                simp only [Act.put, List.setIfInBounds_toArray, List.set_cons_zero, List.set_cons_succ]
                refine takeH 22 (v := ?_) rfl (by kernel_rfl) (by kernel_rfl) (by kernel_rfl) (fun _ _ _ h => h) hbd_h.out (by rfl) (fun W' hW' => ?_) ?_; rotate_left; · (skip; clear hW'; go_simp; first | done | with_reducible rfl)
                simp only [Act.put, List.setIfInBounds_toArray, List.set_cons_zero, List.set_cons_succ]
                refine takeH 23 (v := ?_) rfl (by kernel_rfl) (by kernel_rfl) (by kernel_rfl) (fun _ _ _ h => h) hbd_h.out (by rfl) (fun W' hW' => ?_) ?_; rotate_left; · (skip; clear hW'; go_simp; first | done | with_reducible rfl)
                simp only [Act.put, List.setIfInBounds_toArray, List.set_cons_zero, List.set_cons_succ]
                refine offH 24 rfl (by kernel_rfl) (by kernel_rfl) (by kernel_rfl) (fun _ _ _ h => h) hbd_h.out (by rfl) ?_
                simp only [Act.put, List.setIfInBounds_toArray, List.set_cons_zero, List.set_cons_succ]
                refine offH 25 rfl (by kernel_rfl) (by kernel_rfl) (by kernel_rfl) (fun _ _ _ h => h) hbd_h.out (by rfl) ?_
                simp only [Act.put, List.setIfInBounds_toArray, List.set_cons_zero, List.set_cons_succ]
                refine offH 26 rfl (by kernel_rfl) (by kernel_rfl) (by kernel_rfl) (fun _ _ _ h => h) hbd_h.out (by rfl) ?_
                simp only [Act.put, List.setIfInBounds_toArray, List.set_cons_zero, List.set_cons_succ]
                refine offH 27 rfl (by kernel_rfl) (by kernel_rfl) (by kernel_rfl) (fun _ _ _ h => h) hbd_h.out (by rfl) ?_
                simp only [Act.put, List.setIfInBounds_toArray, List.set_cons_zero, List.set_cons_succ]
                refine offH 29 rfl (by kernel_rfl) (by kernel_rfl) (by kernel_rfl) (fun _ _ _ h => h) hbd_h.out (by rfl) ?_
                simp only [Act.put, List.setIfInBounds_toArray, List.set_cons_zero, List.set_cons_succ]
                refine offH 30 rfl (by kernel_rfl) (by kernel_rfl) (by kernel_rfl) (fun _ _ _ h => h) hbd_h.out (by rfl) ?_
                simp only [Act.put, List.setIfInBounds_toArray, List.set_cons_zero, List.set_cons_succ]
                refine offOneH 28 rfl (by kernel_rfl) (by rfl) hbd_h.out ?_
                simp only [Act.put, List.setIfInBounds_toArray, List.set_cons_zero, List.set_cons_succ]
                refine offOneH 31 rfl (by kernel_rfl) (by rfl) hbd_h.out ?_
                simp only [Act.put, List.setIfInBounds_toArray, List.set_cons_zero, List.set_cons_succ]
                refine offH 32 rfl (by kernel_rfl) (by kernel_rfl) (by kernel_rfl) (fun _ _ _ h => h) hbd_h.out (by rfl) ?_
                simp only [Act.put, List.setIfInBounds_toArray, List.set_cons_zero, List.set_cons_succ]
                refine takeH 33 (v := ?_) rfl (by kernel_rfl) (by kernel_rfl) (by kernel_rfl) (fun _ _ _ h => h) hbd_h.out (by rfl) (fun W' hW' => ?_) ?_; rotate_left; · (skip; clear hW'; go_simp; first | done | with_reducible rfl)
                simp only [Act.put, List.setIfInBounds_toArray, List.set_cons_zero, List.set_cons_succ]
                refine doneH (by kernel_rfl) ?_
                go_wp2_with (fail)
                go_meet
                exact ⟨rfl, hbd_h.out⟩
              have hbn : (κ != κ') = false := by rw [hκ]; simp
              by_cases hv : vv = vv'
              case neg =>
                have hbv : (vv != vv') = true := by rw [bne_iff_ne]; exact hv
                obtain rfl : AT = false := by rw [hATe_h.out, decide_eq_false hv]; simp
                refine beginH (fun w' => Below w7.heap.size w7 w') (by kernel_rfl) ?_
                have hbd : Below w7.heap.size w7 w7.drew := below_drew (Below.refl _ _)
                generalize w7.drew = W8 at hbd ⊢
                have hbd_h := Lib.hid hbd
                clear hbd
                refine takeH 0 (v := ?_) rfl (by kernel_rfl) (by kernel_rfl) (by kernel_rfl) (fun _ _ _ h => h) hbd_h.out (by rfl) (fun W' hW' => ?_) ?_; rotate_left; · (have j0 := box_below k6r_h.out hW'; obtain ⟨⟨a0, a1, a2, a3⟩, a4, a5, a6, a7⟩ := box4 j0; have j1 := box_below k5r_h.out hW'; obtain ⟨⟨e0, e1⟩, e2, e3⟩ := box2 j1; have j2 := box_below k9_h.out hW'; obtain ⟨⟨g0, g1, g2, g3⟩, g4, g5, g6, g7⟩ := box4 j2; clear hW'; go_simp; first | done | with_reducible rfl)
                simp only [Act.put, List.setIfInBounds_toArray, List.set_cons_zero, List.set_cons_succ]
                refine takeH 1 (v := ?_) rfl (by kernel_rfl) (by kernel_rfl) (by kernel_rfl) (fun _ _ _ h => h) hbd_h.out (by rfl) (fun W' hW' => ?_) ?_; rotate_left; · (have j0 := box_below k6r_h.out hW'; obtain ⟨⟨a0, a1, a2, a3⟩, a4, a5, a6, a7⟩ := box4 j0; have j1 := box_below k5r_h.out hW'; obtain ⟨⟨e0, e1⟩, e2, e3⟩ := box2 j1; have j2 := box_below k9_h.out hW'; obtain ⟨⟨g0, g1, g2, g3⟩, g4, g5, g6, g7⟩ := box4 j2; clear hW'; go_simp; first | done | with_reducible rfl)
                simp only [Act.put, List.setIfInBounds_toArray, List.set_cons_zero, List.set_cons_succ]
                refine takeH 2 (v := ?_) rfl (by kernel_rfl) (by kernel_rfl) (by kernel_rfl) (fun _ _ _ h => h) hbd_h.out (by rfl) (fun W' hW' => ?_) ?_; rotate_left; · (have j0 := box_below k6r_h.out hW'; obtain ⟨⟨a0, a1, a2, a3⟩, a4, a5, a6, a7⟩ := box4 j0; have j1 := box_below k5r_h.out hW'; obtain ⟨⟨e0, e1⟩, e2, e3⟩ := box2 j1; have j2 := box_below k9_h.out hW'; obtain ⟨⟨g0, g1, g2, g3⟩, g4, g5, g6, g7⟩ := box4 j2; clear hW'; go_simp; first | done | with_reducible rfl)
                simp only [Act.put, List.setIfInBounds_toArray, List.set_cons_zero, List.set_cons_succ]
                refine takeH 3 (v := ?_) rfl (by kernel_rfl) (by kernel_rfl) (by kernel_rfl) (fun _ _ _ h => h) hbd_h.out (by rfl) (fun W' hW' => ?_) ?_; rotate_left; · (have j0 := box_below k6r_h.out hW'; obtain ⟨⟨a0, a1, a2, a3⟩, a4, a5, a6, a7⟩ := box4 j0; have j1 := box_below k5r_h.out hW'; obtain ⟨⟨e0, e1⟩, e2, e3⟩ := box2 j1; have j2 := box_below k9_h.out hW'; obtain ⟨⟨g0, g1, g2, g3⟩, g4, g5, g6, g7⟩ := box4 j2; clear hW'; go_simp; first | done | with_reducible rfl)
                simp only [Act.put, List.setIfInBounds_toArray, List.set_cons_zero, List.set_cons_succ]
                refine takeH 4 (v := ?_) rfl (by kernel_rfl) (by kernel_rfl) (by kernel_rfl) (fun _ _ _ h => h) hbd_h.out (by rfl) (fun W' hW' => ?_) ?_; rotate_left; · (have j0 := box_below k6r_h.out hW'; obtain ⟨⟨a0, a1, a2, a3⟩, a4, a5, a6, a7⟩ := box4 j0; have j1 := box_below k5r_h.out hW'; obtain ⟨⟨e0, e1⟩, e2, e3⟩ := box2 j1; have j2 := box_below k9_h.out hW'; obtain ⟨⟨g0, g1, g2, g3⟩, g4, g5, g6, g7⟩ := box4 j2; clear hW'; go_simp; first | done | with_reducible rfl)
                simp only [Act.put, List.setIfInBounds_toArray, List.set_cons_zero, List.set_cons_succ]
                refine takeH 5 (v := ?_) rfl (by kernel_rfl) (by kernel_rfl) (by kernel_rfl) (fun _ _ _ h => h) hbd_h.out (by rfl) (fun W' hW' => ?_) ?_; rotate_left; · (have j0 := box_below k6r_h.out hW'; obtain ⟨⟨a0, a1, a2, a3⟩, a4, a5, a6, a7⟩ := box4 j0; have j1 := box_below k5r_h.out hW'; obtain ⟨⟨e0, e1⟩, e2, e3⟩ := box2 j1; have j2 := box_below k9_h.out hW'; obtain ⟨⟨g0, g1, g2, g3⟩, g4, g5, g6, g7⟩ := box4 j2; clear hW'; go_simp; first | done | with_reducible rfl)
                simp only [Act.put, List.setIfInBounds_toArray, List.set_cons_zero, List.set_cons_succ]
                refine takeH 6 (v := ?_) rfl (by kernel_rfl) (by kernel_rfl) (by kernel_rfl) (fun _ _ _ h => h) hbd_h.out (by rfl) (fun W' hW' => ?_) ?_; rotate_left; · (have j0 := box_below k6r_h.out hW'; obtain ⟨⟨a0, a1, a2, a3⟩, a4, a5, a6, a7⟩ := box4 j0; have j1 := box_below k5r_h.out hW'; obtain ⟨⟨e0, e1⟩, e2, e3⟩ := box2 j1; have j2 := box_below k9_h.out hW'; obtain ⟨⟨g0, g1, g2, g3⟩, g4, g5, g6, g7⟩ := box4 j2; clear hW'; go_simp; first | done | with_reducible rfl)
                simp only [Act.put, List.setIfInBounds_toArray, List.set_cons_zero, List.set_cons_succ]
                refine takeH 7 (v := ?_) rfl (by kernel_rfl) (by kernel_rfl) (by kernel_rfl) (fun _ _ _ h => h) hbd_h.out (by rfl) (fun W' hW' => ?_) ?_; rotate_left; · (have j0 := box_below k6r_h.out hW'; obtain ⟨⟨a0, a1, a2, a3⟩, a4, a5, a6, a7⟩ := box4 j0; have j1 := box_below k5r_h.out hW'; obtain ⟨⟨e0, e1⟩, e2, e3⟩ := box2 j1; have j2 := box_below k9_h.out hW'; obtain ⟨⟨g0, g1, g2, g3⟩, g4, g5, g6, g7⟩ := box4 j2; clear hW'; go_simp; first | done | with_reducible rfl)
                simp only [Act.put, List.setIfInBounds_toArray, List.set_cons_zero, List.set_cons_succ]
                refine takeH 8 (v := ?_) rfl (by kernel_rfl) (by kernel_rfl) (by kernel_rfl) (fun _ _ _ h => h) hbd_h.out (by rfl) (fun W' hW' => ?_) ?_; rotate_left; · (have j0 := box_below k6r_h.out hW'; obtain ⟨⟨a0, a1, a2, a3⟩, a4, a5, a6, a7⟩ := box4 j0; have j1 := box_below k5r_h.out hW'; obtain ⟨⟨e0, e1⟩, e2, e3⟩ := box2 j1; have j2 := box_below k9_h.out hW'; obtain ⟨⟨g0, g1, g2, g3⟩, g4, g5, g6, g7⟩ := box4 j2; clear hW'; go_simp; first | done | with_reducible rfl)
                simp only [Act.put, List.setIfInBounds_toArray, List.set_cons_zero, List.set_cons_succ]
                refine takeH 9 (v := ?_) rfl (by kernel_rfl) (by kernel_rfl) (by kernel_rfl) (fun _ _ _ h => h) hbd_h.out (by rfl) (fun W' hW' => ?_) ?_; rotate_left; · (have j0 := box_below k6r_h.out hW'; obtain ⟨⟨a0, a1, a2, a3⟩, a4, a5, a6, a7⟩ := box4 j0; have j1 := box_below k5r_h.out hW'; obtain ⟨⟨e0, e1⟩, e2, e3⟩ := box2 j1; have j2 := box_below k9_h.out hW'; obtain ⟨⟨g0, g1, g2, g3⟩, g4, g5, g6, g7⟩ := box4 j2; clear hW'; go_simp; first | done | with_reducible rfl)
                simp only [Act.put, List.setIfInBounds_toArray, List.set_cons_zero, List.set_cons_succ]
                refine takeH 10 (v := ?_) rfl (by kernel_rfl) (by kernel_rfl) (by kernel_rfl) (fun _ _ _ h => h) hbd_h.out (by rfl) (fun W' hW' => ?_) ?_; rotate_left; · (have j0 := box_below k6r_h.out hW'; obtain ⟨⟨a0, a1, a2, a3⟩, a4, a5, a6, a7⟩ := box4 j0; have j1 := box_below k5r_h.out hW'; obtain ⟨⟨e0, e1⟩, e2, e3⟩ := box2 j1; have j2 := box_below k9_h.out hW'; obtain ⟨⟨g0, g1, g2, g3⟩, g4, g5, g6, g7⟩ := box4 j2; clear hW'; go_simp; first | done | with_reducible rfl)
                simp only [Act.put, List.setIfInBounds_toArray, List.set_cons_zero, List.set_cons_succ]
                refine takeH 11 (v := ?_) rfl (by kernel_rfl) (by kernel_rfl) (by kernel_rfl) (fun _ _ _ h => h) hbd_h.out (by rfl) (fun W' hW' => ?_) ?_; rotate_left; · (have j0 := box_below k6r_h.out hW'; obtain ⟨⟨a0, a1, a2, a3⟩, a4, a5, a6, a7⟩ := box4 j0; have j1 := box_below k5r_h.out hW'; obtain ⟨⟨e0, e1⟩, e2, e3⟩ := box2 j1; have j2 := box_below k9_h.out hW'; obtain ⟨⟨g0, g1, g2, g3⟩, g4, g5, g6, g7⟩ := box4 j2; clear hW'; go_simp; first | done | with_reducible rfl)
                simp only [Act.put, List.setIfInBounds_toArray, List.set_cons_zero, List.set_cons_succ]
                refine takeH 12 (v := ?_) rfl (by kernel_rfl) (by kernel_rfl) (by kernel_rfl) (fun _ _ _ h => h) hbd_h.out (by rfl) (fun W' hW' => ?_) ?_; rotate_left; · (have j0 := box_below k6r_h.out hW'; obtain ⟨⟨a0, a1, a2, a3⟩, a4, a5, a6, a7⟩ := box4 j0; have j1 := box_below k5r_h.out hW'; obtain ⟨⟨e0, e1⟩, e2, e3⟩ := box2 j1; have j2 := box_below k9_h.out hW'; obtain ⟨⟨g0, g1, g2, g3⟩, g4, g5, g6, g7⟩ := box4 j2; clear hW'; go_simp; first | done | with_reducible rfl)
                simp only [Act.put, List.setIfInBounds_toArray, List.set_cons_zero, List.set_cons_succ]
                refine offH 13 rfl (by kernel_rfl) (by kernel_rfl) (by kernel_rfl) (fun _ _ _ h => h) hbd_h.out (by rfl) ?_
                simp only [Act.put, List.setIfInBounds_toArray, List.set_cons_zero, List.set_cons_succ]
                refine offH 14 rfl (by kernel_rfl) (by kernel_rfl) (by kernel_rfl) (fun _ _ _ h => h) hbd_h.out (by rfl) ?_
                simp only [Act.put, List.setIfInBounds_toArray, List.set_cons_zero, List.set_cons_succ]
                refine offH 15 rfl (by kernel_rfl) (by kernel_rfl) (by kernel_rfl) (fun _ _ _ h => h) hbd_h.out (by rfl) ?_
                simp only [Act.put, List.setIfInBounds_toArray, List.set_cons_zero, List.set_cons_succ]
                refine offH 16 rfl (by kernel_rfl) (by kernel_rfl) (by kernel_rfl) (fun _ _ _ h => h) hbd_h.out (by rfl) ?_
                simp only [Act.put, List.setIfInBounds_toArray, List.set_cons_zero, List.set_cons_succ]
                refine offH 18 rfl (by kernel_rfl) (by kernel_rfl) (by kernel_rfl) (fun _ _ _ h => h) hbd_h.out (by rfl) ?_
                simp only [Act.put, List.setIfInBounds_toArray, List.set_cons_zero, List.set_cons_succ]
                refine offH 19 rfl (by kernel_rfl) (by kernel_rfl) (by kernel_rfl) (fun _ _ _ h => h) hbd_h.out (by rfl) ?_
                simp only [Act.put, List.setIfInBounds_toArray, List.set_cons_zero, List.set_cons_succ]
                refine offOneH 17 rfl (by kernel_rfl) (by rfl) hbd_h.out ?_
                simp only [Act.put, List.setIfInBounds_toArray, List.set_cons_zero, List.set_cons_succ]
                refine offOneH 20 rfl (by kernel_rfl) (by rfl) hbd_h.out ?_
                simp only [Act.put, List.setIfInBounds_toArray, List.set_cons_zero, List.set_cons_succ]
                refine offH 21 rfl (by kernel_rfl) (by kernel_rfl) (by kernel_rfl) (fun _ _ _ h => h) hbd_h.out (by rfl) ?_
                simp only [Act.put, List.setIfInBounds_toArray, List.set_cons_zero, List.set_cons_succ]
                refine takeH 22 (v := ?_) rfl (by kernel_rfl) (by kernel_rfl) (by kernel_rfl) (fun _ _ _ h => h) hbd_h.out (by rfl) (fun W' hW' => ?_) ?_; rotate_left; · (skip; clear hW'; go_simp; first | done | with_reducible rfl)
                simp only [Act.put, List.setIfInBounds_toArray, List.set_cons_zero, List.set_cons_succ]
                refine takeH 23 (v := ?_) rfl (by kernel_rfl) (by kernel_rfl) (by kernel_rfl) (fun _ _ _ h => h) hbd_h.out (by rfl) (fun W' hW' => ?_) ?_; rotate_left; · (skip; clear hW'; go_simp; first | done | with_reducible rfl)
                simp only [Act.put, List.setIfInBounds_toArray, List.set_cons_zero, List.set_cons_succ]
                refine offH 24 rfl (by kernel_rfl) (by kernel_rfl) (by kernel_rfl) (fun _ _ _ h => h) hbd_h.out (by rfl) ?_
                simp only [Act.put, List.setIfInBounds_toArray, List.set_cons_zero, List.set_cons_succ]
                refine offH 25 rfl (by kernel_rfl) (by kernel_rfl) (by kernel_rfl) (fun _ _ _ h => h) hbd_h.out (by rfl) ?_
                simp only [Act.put, List.setIfInBounds_toArray, List.set_cons_zero, List.set_cons_succ]
                refine offH 26 rfl (by kernel_rfl) (by kernel_rfl) (by kernel_rfl) (fun _ _ _ h => h) hbd_h.out (by rfl) ?_
                simp only [Act.put, List.setIfInBounds_toArray, List.set_cons_zero, List.set_cons_succ]
                refine offH 27 rfl (by kernel_rfl) (by kernel_rfl) (by kernel_rfl) (fun _ _ _ h => h) hbd_h.out (by rfl) ?_
                simp only [Act.put, List.setIfInBounds_toArray, List.set_cons_zero, List.set_cons_succ]
                refine offH 29 rfl (by kernel_rfl) (by kernel_rfl) (by kernel_rfl) (fun _ _ _ h => h) hbd_h.out (by rfl) ?_
                simp only [Act.put, List.setIfInBounds_toArray, List.set_cons_zero, List.set_cons_succ]
                refine offH 30 rfl (by kernel_rfl) (by kernel_rfl) (by kernel_rfl) (fun _ _ _ h => h) hbd_h.out (by rfl) ?_
                simp only [Act.put, List.setIfInBounds_toArray, List.set_cons_zero, List.set_cons_succ]
                refine offOneH 28 rfl (by kernel_rfl) (by rfl) hbd_h.out ?_
                simp only [Act.put, List.setIfInBounds_toArray, List.set_cons_zero, List.set_cons_succ]
                refine offOneH 31 rfl (by kernel_rfl) (by rfl) hbd_h.out ?_
                simp only [Act.put, List.setIfInBounds_toArray, List.set_cons_zero, List.set_cons_succ]
                refine offH 32 rfl (by kernel_rfl) (by kernel_rfl) (by kernel_rfl) (fun _ _ _ h => h) hbd_h.out (by rfl) ?_
                simp only [Act.put, List.setIfInBounds_toArray, List.set_cons_zero, List.set_cons_succ]
                refine takeH 33 (v := ?_) rfl (by kernel_rfl) (by kernel_rfl) (by kernel_rfl) (fun _ _ _ h => h) hbd_h.out (by rfl) (fun W' hW' => ?_) ?_; rotate_left; · (skip; clear hW'; go_simp; first | done | with_reducible rfl)
                simp only [Act.put, List.setIfInBounds_toArray, List.set_cons_zero, List.set_cons_succ]
                refine doneH (by kernel_rfl) ?_
                go_wp2_with (fail)
                go_meet
                exact ⟨rfl, hbd_h.out⟩
              have hbv : (vv != vv') = false := by rw [hv]; simp
              have hAE : AT = (E1 && E2) := by rw [hATe_h.out, decide_eq_true hκ, decide_eq_true hv]; rfl
              clear hκ hv
              have hAE_h := Lib.hid hAE
              clear hAE
              refine beginH (fun w' => Below w7.heap.size w7 w') (by kernel_rfl) ?_
              have hbd : Below w7.heap.size w7 w7.drew := below_drew (Below.refl _ _)
              generalize w7.drew = W8 at hbd ⊢
              have hbd_h := Lib.hid hbd
              clear hbd
              refine takeH 0 (v := ?_) rfl (by kernel_rfl) (by kernel_rfl) (by kernel_rfl) (fun _ _ _ h => h) hbd_h.out (by rfl) (fun W' hW' => ?_) ?_; rotate_left; · (have j0 := box_below k6r_h.out hW'; obtain ⟨⟨a0, a1, a2, a3⟩, a4, a5, a6, a7⟩ := box4 j0; have j1 := box_below k5r_h.out hW'; obtain ⟨⟨e0, e1⟩, e2, e3⟩ := box2 j1; have j2 := box_below k9_h.out hW'; obtain ⟨⟨g0, g1, g2, g3⟩, g4, g5, g6, g7⟩ := box4 j2; clear hW'; go_simp; first | done | with_reducible rfl)
              simp only [Act.put, List.setIfInBounds_toArray, List.set_cons_zero, List.set_cons_succ]
              refine takeH 1 (v := ?_) rfl (by kernel_rfl) (by kernel_rfl) (by kernel_rfl) (fun _ _ _ h => h) hbd_h.out (by rfl) (fun W' hW' => ?_) ?_; rotate_left; · (have j0 := box_below k6r_h.out hW'; obtain ⟨⟨a0, a1, a2, a3⟩, a4, a5, a6, a7⟩ := box4 j0; have j1 := box_below k5r_h.out hW'; obtain ⟨⟨e0, e1⟩, e2, e3⟩ := box2 j1; have j2 := box_below k9_h.out hW'; obtain ⟨⟨g0, g1, g2, g3⟩, g4, g5, g6, g7⟩ := box4 j2; clear hW'; go_simp; first | done | with_reducible rfl)
              simp only [Act.put, List.setIfInBounds_toArray, List.set_cons_zero, List.set_cons_succ]
              refine takeH 2 (v := ?_) rfl (by kernel_rfl) (by kernel_rfl) (by kernel_rfl) (fun _ _ _ h => h) hbd_h.out (by rfl) (fun W' hW' => ?_) ?_; rotate_left; · (have j0 := box_below k6r_h.out hW'; obtain ⟨⟨a0, a1, a2, a3⟩, a4, a5, a6, a7⟩ := box4 j0; have j1 := box_below k5r_h.out hW'; obtain ⟨⟨e0, e1⟩, e2, e3⟩ := box2 j1; have j2 := box_below k9_h.out hW'; obtain ⟨⟨g0, g1, g2, g3⟩, g4, g5, g6, g7⟩ := box4 j2; clear hW'; go_simp; first | done | with_reducible rfl)
              simp only [Act.put, List.setIfInBounds_toArray, List.set_cons_zero, List.set_cons_succ]
              refine takeH 3 (v := ?_) rfl (by kernel_rfl) (by kernel_rfl) (by kernel_rfl) (fun _ _ _ h => h) hbd_h.out (by rfl) (fun W' hW' => ?_) ?_; rotate_left; · (have j0 := box_below k6r_h.out hW'; obtain ⟨⟨a0, a1, a2, a3⟩, a4, a5, a6, a7⟩ := box4 j0; have j1 := box_below k5r_h.out hW'; obtain ⟨⟨e0, e1⟩, e2, e3⟩ := box2 j1; have j2 := box_below k9_h.out hW'; obtain ⟨⟨g0, g1, g2, g3⟩, g4, g5, g6, g7⟩ := box4 j2; clear hW'; go_simp; first | done | with_reducible rfl)
              simp only [Act.put, List.setIfInBounds_toArray, List.set_cons_zero, List.set_cons_succ]
              refine takeH 4 (v := ?_) rfl (by kernel_rfl) (by kernel_rfl) (by kernel_rfl) (fun _ _ _ h => h) hbd_h.out (by rfl) (fun W' hW' => ?_) ?_; rotate_left; · (have j0 := box_below k6r_h.out hW'; obtain ⟨⟨a0, a1, a2, a3⟩, a4, a5, a6, a7⟩ := box4 j0; have j1 := box_below k5r_h.out hW'; obtain ⟨⟨e0, e1⟩, e2, e3⟩ := box2 j1; have j2 := box_below k9_h.out hW'; obtain ⟨⟨g0, g1, g2, g3⟩, g4, g5, g6, g7⟩ := box4 j2; clear hW'; go_simp; first | done | with_reducible rfl)
              simp only [Act.put, List.setIfInBounds_toArray, List.set_cons_zero, List.set_cons_succ]
              refine takeH 5 (v := ?_) rfl (by kernel_rfl) (by kernel_rfl) (by kernel_rfl) (fun _ _ _ h => h) hbd_h.out (by rfl) (fun W' hW' => ?_) ?_; rotate_left; · (have j0 := box_below k6r_h.out hW'; obtain ⟨⟨a0, a1, a2, a3⟩, a4, a5, a6, a7⟩ := box4 j0; have j1 := box_below k5r_h.out hW'; obtain ⟨⟨e0, e1⟩, e2, e3⟩ := box2 j1; have j2 := box_below k9_h.out hW'; obtain ⟨⟨g0, g1, g2, g3⟩, g4, g5, g6, g7⟩ := box4 j2; clear hW'; go_simp; first | done | with_reducible rfl)
              simp only [Act.put, List.setIfInBounds_toArray, List.set_cons_zero, List.set_cons_succ]
              refine takeH 6 (v := ?_) rfl (by kernel_rfl) (by kernel_rfl) (by kernel_rfl) (fun _ _ _ h => h) hbd_h.out (by rfl) (fun W' hW' => ?_) ?_; rotate_left; · (have j0 := box_below k6r_h.out hW'; obtain ⟨⟨a0, a1, a2, a3⟩, a4, a5, a6, a7⟩ := box4 j0; have j1 := box_below k5r_h.out hW'; obtain ⟨⟨e0, e1⟩, e2, e3⟩ := box2 j1; have j2 := box_below k9_h.out hW'; obtain ⟨⟨g0, g1, g2, g3⟩, g4, g5, g6, g7⟩ := box4 j2; clear hW'; go_simp; first | done | with_reducible rfl)
              simp only [Act.put, List.setIfInBounds_toArray, List.set_cons_zero, List.set_cons_succ]
              refine takeH 7 (v := ?_) rfl (by kernel_rfl) (by kernel_rfl) (by kernel_rfl) (fun _ _ _ h => h) hbd_h.out (by rfl) (fun W' hW' => ?_) ?_; rotate_left; · (have j0 := box_below k6r_h.out hW'; obtain ⟨⟨a0, a1, a2, a3⟩, a4, a5, a6, a7⟩ := box4 j0; have j1 := box_below k5r_h.out hW'; obtain ⟨⟨e0, e1⟩, e2, e3⟩ := box2 j1; have j2 := box_below k9_h.out hW'; obtain ⟨⟨g0, g1, g2, g3⟩, g4, g5, g6, g7⟩ := box4 j2; clear hW'; go_simp; first | done | with_reducible rfl)
              simp only [Act.put, List.setIfInBounds_toArray, List.set_cons_zero, List.set_cons_succ]
              refine takeH 8 (v := ?_) rfl (by kernel_rfl) (by kernel_rfl) (by kernel_rfl) (fun _ _ _ h => h) hbd_h.out (by rfl) (fun W' hW' => ?_) ?_; rotate_left; · (have j0 := box_below k6r_h.out hW'; obtain ⟨⟨a0, a1, a2, a3⟩, a4, a5, a6, a7⟩ := box4 j0; have j1 := box_below k5r_h.out hW'; obtain ⟨⟨e0, e1⟩, e2, e3⟩ := box2 j1; have j2 := box_below k9_h.out hW'; obtain ⟨⟨g0, g1, g2, g3⟩, g4, g5, g6, g7⟩ := box4 j2; clear hW'; go_simp; first | done | with_reducible rfl)
              simp only [Act.put, List.setIfInBounds_toArray, List.set_cons_zero, List.set_cons_succ]
              refine takeH 9 (v := ?_) rfl (by kernel_rfl) (by kernel_rfl) (by kernel_rfl) (fun _ _ _ h => h) hbd_h.out (by rfl) (fun W' hW' => ?_) ?_; rotate_left; · (have j0 := box_below k6r_h.out hW'; obtain ⟨⟨a0, a1, a2, a3⟩, a4, a5, a6, a7⟩ := box4 j0; have j1 := box_below k5r_h.out hW'; obtain ⟨⟨e0, e1⟩, e2, e3⟩ := box2 j1; have j2 := box_below k9_h.out hW'; obtain ⟨⟨g0, g1, g2, g3⟩, g4, g5, g6, g7⟩ := box4 j2; clear hW'; go_simp; first | done | with_reducible rfl)
              simp only [Act.put, List.setIfInBounds_toArray, List.set_cons_zero, List.set_cons_succ]
              refine takeH 10 (v := ?_) rfl (by kernel_rfl) (by kernel_rfl) (by kernel_rfl) (fun _ _ _ h => h) hbd_h.out (by rfl) (fun W' hW' => ?_) ?_; rotate_left; · (have j0 := box_below k6r_h.out hW'; obtain ⟨⟨a0, a1, a2, a3⟩, a4, a5, a6, a7⟩ := box4 j0; have j1 := box_below k5r_h.out hW'; obtain ⟨⟨e0, e1⟩, e2, e3⟩ := box2 j1; have j2 := box_below k9_h.out hW'; obtain ⟨⟨g0, g1, g2, g3⟩, g4, g5, g6, g7⟩ := box4 j2; clear hW'; go_simp; first | done | with_reducible rfl)
              simp only [Act.put, List.setIfInBounds_toArray, List.set_cons_zero, List.set_cons_succ]
              refine takeH 11 (v := ?_) rfl (by kernel_rfl) (by kernel_rfl) (by kernel_rfl) (fun _ _ _ h => h) hbd_h.out (by rfl) (fun W' hW' => ?_) ?_; rotate_left; · (have j0 := box_below k6r_h.out hW'; obtain ⟨⟨a0, a1, a2, a3⟩, a4, a5, a6, a7⟩ := box4 j0; have j1 := box_below k5r_h.out hW'; obtain ⟨⟨e0, e1⟩, e2, e3⟩ := box2 j1; have j2 := box_below k9_h.out hW'; obtain ⟨⟨g0, g1, g2, g3⟩, g4, g5, g6, g7⟩ := box4 j2; clear hW'; go_simp; first | done | with_reducible rfl)
              simp only [Act.put, List.setIfInBounds_toArray, List.set_cons_zero, List.set_cons_succ]
              refine takeH 12 (v := ?_) rfl (by kernel_rfl) (by kernel_rfl) (by kernel_rfl) (fun _ _ _ h => h) hbd_h.out (by rfl) (fun W' hW' => ?_) ?_; rotate_left; · (have j0 := box_below k6r_h.out hW'; obtain ⟨⟨a0, a1, a2, a3⟩, a4, a5, a6, a7⟩ := box4 j0; have j1 := box_below k5r_h.out hW'; obtain ⟨⟨e0, e1⟩, e2, e3⟩ := box2 j1; have j2 := box_below k9_h.out hW'; obtain ⟨⟨g0, g1, g2, g3⟩, g4, g5, g6, g7⟩ := box4 j2; clear hW'; go_simp; first | done | with_reducible rfl)
              simp only [Act.put, List.setIfInBounds_toArray, List.set_cons_zero, List.set_cons_succ]
              refine takeH 13 (v := ?_) rfl (by kernel_rfl) (by kernel_rfl) (by kernel_rfl) (fun _ _ _ h => h) hbd_h.out (by rfl) (fun W' hW' => ?_) ?_; rotate_left; · (have j0 := box_below k6r_h.out hW'; obtain ⟨⟨a0, a1, a2, a3⟩, a4, a5, a6, a7⟩ := box4 j0; have j1 := box_below k5r_h.out hW'; obtain ⟨⟨e0, e1⟩, e2, e3⟩ := box2 j1; have j2 := box_below k9_h.out hW'; obtain ⟨⟨g0, g1, g2, g3⟩, g4, g5, g6, g7⟩ := box4 j2; clear hW'; go_simp; first | done | with_reducible rfl)
              simp only [Act.put, List.setIfInBounds_toArray, List.set_cons_zero, List.set_cons_succ]
              refine takeH 14 (v := ?_) rfl (by kernel_rfl) (by kernel_rfl) (by kernel_rfl) (fun _ _ _ h => h) hbd_h.out (by rfl) (fun W' hW' => ?_) ?_; rotate_left; · (have j0 := box_below k6r_h.out hW'; obtain ⟨⟨a0, a1, a2, a3⟩, a4, a5, a6, a7⟩ := box4 j0; have j1 := box_below k5r_h.out hW'; obtain ⟨⟨e0, e1⟩, e2, e3⟩ := box2 j1; have j2 := box_below k9_h.out hW'; obtain ⟨⟨g0, g1, g2, g3⟩, g4, g5, g6, g7⟩ := box4 j2; clear hW'; go_simp; first | done | with_reducible rfl)
              simp only [Act.put, List.setIfInBounds_toArray, List.set_cons_zero, List.set_cons_succ]
              refine takeH 15 (v := ?_) rfl (by kernel_rfl) (by kernel_rfl) (by kernel_rfl) (fun _ _ _ h => h) hbd_h.out (by rfl) (fun W' hW' => ?_) ?_; rotate_left; · (have j0 := box_below k6r_h.out hW'; obtain ⟨⟨a0, a1, a2, a3⟩, a4, a5, a6, a7⟩ := box4 j0; have j1 := box_below k5r_h.out hW'; obtain ⟨⟨e0, e1⟩, e2, e3⟩ := box2 j1; have j2 := box_below k9_h.out hW'; obtain ⟨⟨g0, g1, g2, g3⟩, g4, g5, g6, g7⟩ := box4 j2; clear hW'; go_simp; first | done | with_reducible rfl)
              simp only [Act.put, List.setIfInBounds_toArray, List.set_cons_zero, List.set_cons_succ]
              refine takeH 16 (v := ?_) rfl (by kernel_rfl) (by kernel_rfl) (by kernel_rfl) (fun _ _ _ h => h) hbd_h.out (by rfl) (fun W' hW' => ?_) ?_; rotate_left; · (have j0 := box_below k6r_h.out hW'; obtain ⟨⟨a0, a1, a2, a3⟩, a4, a5, a6, a7⟩ := box4 j0; have j1 := box_below k5r_h.out hW'; obtain ⟨⟨e0, e1⟩, e2, e3⟩ := box2 j1; have j2 := box_below k9_h.out hW'; obtain ⟨⟨g0, g1, g2, g3⟩, g4, g5, g6, g7⟩ := box4 j2; clear hW'; go_simp; first | done | with_reducible rfl)
              simp only [Act.put, List.setIfInBounds_toArray, List.set_cons_zero, List.set_cons_succ]
              refine takeH 18 (v := ?_) rfl (by kernel_rfl) (by kernel_rfl) (by kernel_rfl) (fun _ _ _ h => h) hbd_h.out (by rfl) (fun W' hW' => ?_) ?_; rotate_left; · (have j0 := box_below k6r_h.out hW'; obtain ⟨⟨a0, a1, a2, a3⟩, a4, a5, a6, a7⟩ := box4 j0; have j1 := box_below k5r_h.out hW'; obtain ⟨⟨e0, e1⟩, e2, e3⟩ := box2 j1; have j2 := box_below k9_h.out hW'; obtain ⟨⟨g0, g1, g2, g3⟩, g4, g5, g6, g7⟩ := box4 j2; clear hW'; go_simp; first | done | with_reducible rfl)
              simp only [Act.put, List.setIfInBounds_toArray, List.set_cons_zero, List.set_cons_succ]
              refine takeH 19 (v := ?_) rfl (by kernel_rfl) (by kernel_rfl) (by kernel_rfl) (fun _ _ _ h => h) hbd_h.out (by rfl) (fun W' hW' => ?_) ?_; rotate_left; · (have j0 := box_below k6r_h.out hW'; obtain ⟨⟨a0, a1, a2, a3⟩, a4, a5, a6, a7⟩ := box4 j0; have j1 := box_below k5r_h.out hW'; obtain ⟨⟨e0, e1⟩, e2, e3⟩ := box2 j1; have j2 := box_below k9_h.out hW'; obtain ⟨⟨g0, g1, g2, g3⟩, g4, g5, g6, g7⟩ := box4 j2; clear hW'; go_simp; first | done | with_reducible rfl)
              simp only [Act.put, List.setIfInBounds_toArray, List.set_cons_zero, List.set_cons_succ]
              refine' callH 17 (f := _) (args := _) rfl (by kernel_rfl) (by rfl) ?_ ?_; rotate_left 2; · (go_simp; first | done | with_reducible rfl | (constructor <;> with_reducible rfl))
              refine ((hCa_h.out _ (below_trans hBc'_h.out hbd_h.out hBc'_h.out.size))).mono ?_
              rintro e w9 ⟨A2, c2', rfl, hO2⟩
              have hB9 := below_trans hbd_h.out hO2.below_ hbd_h.out.size
              have hi9 := hO2.is.rd
              clear hO2
              have hB9_h := Lib.hid hB9
              have hi9_h := Lib.hid hi9
              clear hB9 hi9
              refine ⟨_, rfl, hB9_h.out, ?_⟩
              simp only [Act.put, List.setIfInBounds_toArray, List.set_cons_zero, List.set_cons_succ]
              refine' callH 20 (f := _) (args := _) rfl (by kernel_rfl) (by rfl) ?_ ?_; rotate_left 2; · (go_simp; first | done | with_reducible rfl | (constructor <;> with_reducible rfl))
              refine ((hS1_h.out A2 c2' w9 hi9_h.out (below_trans hBc'_h.out hB9_h.out hBc'_h.out.size))).mono ?_
              rintro e w10 ⟨rfl, hb10⟩
              have hB10 := below_trans hB9_h.out hb10 hB9_h.out.size
              clear hb10
              have hB10_h := Lib.hid hB10
              clear hB10
              refine ⟨_, rfl, hB10_h.out, ?_⟩
              simp only [Act.put, List.setIfInBounds_toArray, List.set_cons_zero, List.set_cons_succ]
              cases E1
              case false =>
                obtain rfl : AT = false := hAE_h.out
                refine takeH 21 (v := ?_) rfl (by kernel_rfl) (by kernel_rfl) (by kernel_rfl) (fun _ _ _ h => h) hB10_h.out (by rfl) (fun W' hW' => ?_) ?_; rotate_left; · (skip; clear hW'; go_simp; first | done | with_reducible rfl)
                simp only [Act.put, List.setIfInBounds_toArray, List.set_cons_zero, List.set_cons_succ]
                refine takeH 22 (v := ?_) rfl (by kernel_rfl) (by kernel_rfl) (by kernel_rfl) (fun _ _ _ h => h) hB10_h.out (by rfl) (fun W' hW' => ?_) ?_; rotate_left; · (skip; clear hW'; go_simp; first | done | with_reducible rfl)
                simp only [Act.put, List.setIfInBounds_toArray, List.set_cons_zero, List.set_cons_succ]
                refine takeH 23 (v := ?_) rfl (by kernel_rfl) (by kernel_rfl) (by kernel_rfl) (fun _ _ _ h => h) hB10_h.out (by rfl) (fun W' hW' => ?_) ?_; rotate_left; · (skip; clear hW'; go_simp; first | done | with_reducible rfl)
                simp only [Act.put, List.setIfInBounds_toArray, List.set_cons_zero, List.set_cons_succ]
                refine offH 24 rfl (by kernel_rfl) (by kernel_rfl) (by kernel_rfl) (fun _ _ _ h => h) hB10_h.out (by rfl) ?_
                simp only [Act.put, List.setIfInBounds_toArray, List.set_cons_zero, List.set_cons_succ]
                refine offH 25 rfl (by kernel_rfl) (by kernel_rfl) (by kernel_rfl) (fun _ _ _ h => h) hB10_h.out (by rfl) ?_
                simp only [Act.put, List.setIfInBounds_toArray, List.set_cons_zero, List.set_cons_succ]
                refine offH 26 rfl (by kernel_rfl) (by kernel_rfl) (by kernel_rfl) (fun _ _ _ h => h) hB10_h.out (by rfl) ?_
                simp only [Act.put, List.setIfInBounds_toArray, List.set_cons_zero, List.set_cons_succ]
                refine offH 27 rfl (by kernel_rfl) (by kernel_rfl) (by kernel_rfl) (fun _ _ _ h => h) hB10_h.out (by rfl) ?_
                simp only [Act.put, List.setIfInBounds_toArray, List.set_cons_zero, List.set_cons_succ]
                refine offH 29 rfl (by kernel_rfl) (by kernel_rfl) (by kernel_rfl) (fun _ _ _ h => h) hB10_h.out (by rfl) ?_
                simp only [Act.put, List.setIfInBounds_toArray, List.set_cons_zero, List.set_cons_succ]
                refine offH 30 rfl (by kernel_rfl) (by kernel_rfl) (by kernel_rfl) (fun _ _ _ h => h) hB10_h.out (by rfl) ?_
                simp only [Act.put, List.setIfInBounds_toArray, List.set_cons_zero, List.set_cons_succ]
                refine offOneH 28 rfl (by kernel_rfl) (by rfl) hB10_h.out ?_
                simp only [Act.put, List.setIfInBounds_toArray, List.set_cons_zero, List.set_cons_succ]
                refine offOneH 31 rfl (by kernel_rfl) (by rfl) hB10_h.out ?_
                simp only [Act.put, List.setIfInBounds_toArray, List.set_cons_zero, List.set_cons_succ]
                refine offH 32 rfl (by kernel_rfl) (by kernel_rfl) (by kernel_rfl) (fun _ _ _ h => h) hB10_h.out (by rfl) ?_
                simp only [Act.put, List.setIfInBounds_toArray, List.set_cons_zero, List.set_cons_succ]
                refine takeH 33 (v := ?_) rfl (by kernel_rfl) (by kernel_rfl) (by kernel_rfl) (fun _ _ _ h => h) hB10_h.out (by rfl) (fun W' hW' => ?_) ?_; rotate_left; · (skip; clear hW'; go_simp; first | done | with_reducible rfl)
                simp only [Act.put, List.setIfInBounds_toArray, List.set_cons_zero, List.set_cons_succ]
                refine doneH (by kernel_rfl) ?_
                go_wp2_with (fail)
                go_meet
                exact ⟨rfl, hB10_h.out⟩
              case true =>
                obtain rfl : AT = E2 := hAE_h.out.trans (Bool.true_and _)
                refine takeH 21 (v := ?_) rfl (by kernel_rfl) (by kernel_rfl) (by kernel_rfl) (fun _ _ _ h => h) hB10_h.out (by rfl) (fun W' hW' => ?_) ?_; rotate_left; · (skip; clear hW'; go_simp; first | done | with_reducible rfl)
                simp only [Act.put, List.setIfInBounds_toArray, List.set_cons_zero, List.set_cons_succ]
                refine takeH 22 (v := ?_) rfl (by kernel_rfl) (by kernel_rfl) (by kernel_rfl) (fun _ _ _ h => h) hB10_h.out (by rfl) (fun W' hW' => ?_) ?_; rotate_left; · (skip; clear hW'; go_simp; first | done | with_reducible rfl)
                simp only [Act.put, List.setIfInBounds_toArray, List.set_cons_zero, List.set_cons_succ]
                refine takeH 23 (v := ?_) rfl (by kernel_rfl) (by kernel_rfl) (by kernel_rfl) (fun _ _ _ h => h) hB10_h.out (by rfl) (fun W' hW' => ?_) ?_; rotate_left; · (skip; clear hW'; go_simp; first | done | with_reducible rfl)
                simp only [Act.put, List.setIfInBounds_toArray, List.set_cons_zero, List.set_cons_succ]
                refine takeH 24 (v := ?_) rfl (by kernel_rfl) (by kernel_rfl) (by kernel_rfl) (fun _ _ _ h => h) hB10_h.out (by rfl) (fun W' hW' => ?_) ?_; rotate_left; · (have j0 := box_below k6r_h.out hW'; obtain ⟨⟨a0, a1, a2, a3⟩, a4, a5, a6, a7⟩ := box4 j0; have j1 := box_below k5r_h.out hW'; obtain ⟨⟨e0, e1⟩, e2, e3⟩ := box2 j1; have j2 := box_below k9_h.out hW'; obtain ⟨⟨g0, g1, g2, g3⟩, g4, g5, g6, g7⟩ := box4 j2; clear hW'; go_simp; first | done | with_reducible rfl)
                simp only [Act.put, List.setIfInBounds_toArray, List.set_cons_zero, List.set_cons_succ]
                refine takeH 25 (v := ?_) rfl (by kernel_rfl) (by kernel_rfl) (by kernel_rfl) (fun _ _ _ h => h) hB10_h.out (by rfl) (fun W' hW' => ?_) ?_; rotate_left; · (have j0 := box_below k6r_h.out hW'; obtain ⟨⟨a0, a1, a2, a3⟩, a4, a5, a6, a7⟩ := box4 j0; have j1 := box_below k5r_h.out hW'; obtain ⟨⟨e0, e1⟩, e2, e3⟩ := box2 j1; have j2 := box_below k9_h.out hW'; obtain ⟨⟨g0, g1, g2, g3⟩, g4, g5, g6, g7⟩ := box4 j2; clear hW'; go_simp; first | done | with_reducible rfl)
                simp only [Act.put, List.setIfInBounds_toArray, List.set_cons_zero, List.set_cons_succ]
                refine takeH 26 (v := ?_) rfl (by kernel_rfl) (by kernel_rfl) (by kernel_rfl) (fun _ _ _ h => h) hB10_h.out (by rfl) (fun W' hW' => ?_) ?_; rotate_left; · (have j0 := box_below k6r_h.out hW'; obtain ⟨⟨a0, a1, a2, a3⟩, a4, a5, a6, a7⟩ := box4 j0; have j1 := box_below k5r_h.out hW'; obtain ⟨⟨e0, e1⟩, e2, e3⟩ := box2 j1; have j2 := box_below k9_h.out hW'; obtain ⟨⟨g0, g1, g2, g3⟩, g4, g5, g6, g7⟩ := box4 j2; clear hW'; go_simp; first | done | with_reducible rfl)
                simp only [Act.put, List.setIfInBounds_toArray, List.set_cons_zero, List.set_cons_succ]
                refine takeH 27 (v := ?_) rfl (by kernel_rfl) (by kernel_rfl) (by kernel_rfl) (fun _ _ _ h => h) hB10_h.out (by rfl) (fun W' hW' => ?_) ?_; rotate_left; · (have j0 := box_below k6r_h.out hW'; obtain ⟨⟨a0, a1, a2, a3⟩, a4, a5, a6, a7⟩ := box4 j0; have j1 := box_below k5r_h.out hW'; obtain ⟨⟨e0, e1⟩, e2, e3⟩ := box2 j1; have j2 := box_below k9_h.out hW'; obtain ⟨⟨g0, g1, g2, g3⟩, g4, g5, g6, g7⟩ := box4 j2; clear hW'; go_simp; first | done | with_reducible rfl)
                simp only [Act.put, List.setIfInBounds_toArray, List.set_cons_zero, List.set_cons_succ]
                refine takeH 29 (v := ?_) rfl (by kernel_rfl) (by kernel_rfl) (by kernel_rfl) (fun _ _ _ h => h) hB10_h.out (by rfl) (fun W' hW' => ?_) ?_; rotate_left; · (have j0 := box_below k6r_h.out hW'; obtain ⟨⟨a0, a1, a2, a3⟩, a4, a5, a6, a7⟩ := box4 j0; have j1 := box_below k5r_h.out hW'; obtain ⟨⟨e0, e1⟩, e2, e3⟩ := box2 j1; have j2 := box_below k9_h.out hW'; obtain ⟨⟨g0, g1, g2, g3⟩, g4, g5, g6, g7⟩ := box4 j2; clear hW'; go_simp; first | done | with_reducible rfl)
                simp only [Act.put, List.setIfInBounds_toArray, List.set_cons_zero, List.set_cons_succ]
                refine takeH 30 (v := ?_) rfl (by kernel_rfl) (by kernel_rfl) (by kernel_rfl) (fun _ _ _ h => h) hB10_h.out (by rfl) (fun W' hW' => ?_) ?_; rotate_left; · (have j0 := box_below k6r_h.out hW'; obtain ⟨⟨a0, a1, a2, a3⟩, a4, a5, a6, a7⟩ := box4 j0; have j1 := box_below k5r_h.out hW'; obtain ⟨⟨e0, e1⟩, e2, e3⟩ := box2 j1; have j2 := box_below k9_h.out hW'; obtain ⟨⟨g0, g1, g2, g3⟩, g4, g5, g6, g7⟩ := box4 j2; clear hW'; go_simp; first | done | with_reducible rfl)
                simp only [Act.put, List.setIfInBounds_toArray, List.set_cons_zero, List.set_cons_succ]
                refine' callH 28 (f := _) (args := _) rfl (by kernel_rfl) (by rfl) ?_ ?_; rotate_left 2; · (go_simp; first | done | with_reducible rfl | (constructor <;> with_reducible rfl))
                refine ((hCb_h.out _ (below_trans hBc'_h.out hB10_h.out hBc'_h.out.size))).mono ?_
                rintro e w11 ⟨A3, c3', rfl, hO3⟩
                have hB11 := below_trans hB10_h.out hO3.below_ hB10_h.out.size
                have hi11 := hO3.is.rd
                clear hO3
                have hB11_h := Lib.hid hB11
                have hi11_h := Lib.hid hi11
                clear hB11 hi11
                refine ⟨_, rfl, hB11_h.out, ?_⟩
                simp only [Act.put, List.setIfInBounds_toArray, List.set_cons_zero, List.set_cons_succ]
                refine' callH 31 (f := _) (args := _) rfl (by kernel_rfl) (by rfl) ?_ ?_; rotate_left 2; · (go_simp; first | done | with_reducible rfl | (constructor <;> with_reducible rfl))
                refine ((hS2_h.out A3 c3' w11 hi11_h.out (below_trans hBc'_h.out hB11_h.out hBc'_h.out.size))).mono ?_
                rintro e w12 ⟨rfl, hb12⟩
                have hB12 := below_trans hB11_h.out hb12 hB11_h.out.size
                clear hb12
                have hB12_h := Lib.hid hB12
                clear hB12
                refine ⟨_, rfl, hB12_h.out, ?_⟩
                simp only [Act.put, List.setIfInBounds_toArray, List.set_cons_zero, List.set_cons_succ]
                refine takeH 32 (v := ?_) rfl (by kernel_rfl) (by kernel_rfl) (by kernel_rfl) (fun _ _ _ h => h) hB12_h.out (by rfl) (fun W' hW' => ?_) ?_; rotate_left; · (skip; clear hW'; go_simp; first | done | with_reducible rfl)
                simp only [Act.put, List.setIfInBounds_toArray, List.set_cons_zero, List.set_cons_succ]
                refine takeH 33 (v := ?_) rfl (by kernel_rfl) (by kernel_rfl) (by kernel_rfl) (fun _ _ _ h => h) hB12_h.out (by rfl) (fun W' hW' => ?_) ?_; rotate_left; · (skip; clear hW'; go_simp; first | done | with_reducible rfl)
                simp only [Act.put, List.setIfInBounds_toArray, List.set_cons_zero, List.set_cons_succ]
                refine doneH (by kernel_rfl) ?_
                go_wp2_with (fail)
                go_meet
                exact ⟨rfl, hB12_h.out⟩
            case rest =>
              obtain ⟨rfl, hBe⟩ := hcut
              obtain ⟨w8, rfl⟩ : ∃ x, x = wc := ⟨_, rfl⟩
              have hBn := below_trans hBo'_h.out hBe (Nat.le_trans hBo'_h.out.size (Nat.le_refl _))
              have hBm := below_trans bW_h.out hBn bW_h.out.size
              clear hBe
              have hBn_h := Lib.hid hBn
              have hBm_h := Lib.hid hBm
              clear hBn hBm
              cases AT
              case false =>
                obtain rfl : T = false := hal0_h.out rfl
                go_wp2_with (fail)
                go_ret
                exact ⟨rfl, hBm_h.out⟩
              case true =>
                have hal2 := hal1_h.out rfl
                have hal2_h := Lib.hid hal2
                clear hal2
                go_wp2_with (fail)
                go_roundw
                case rel => exact ⟨k + 1, by omega, by go_num, hal2_h.out, hBn_h.out⟩
                case measure => simp [intOf]; omega
end Go.Proofs.Ytanhmljgeiajoaa
