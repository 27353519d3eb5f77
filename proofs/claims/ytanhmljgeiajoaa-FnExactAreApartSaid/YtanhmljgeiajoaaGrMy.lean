/-
  THE WALK: impl.isMatch.
-/
import Derived.Test.YtanhmljgeiajoaaGrMf
import Derived.Test.YtanhmljgeiajoaaGrMx
import Derived.Test.YtanhmljgeiajoaaGrMd
import Derived.Test.YtanhmljgeiajoaaMaLaw
import Derived.Test.YtanhmljgeiajoaaGrRn
namespace Go.Proofs.Ytanhmljgeiajoaa
open Go.RowKit

theorem cell_below {w w' : World} {ad : Addr} {u : Value} (h : w.cell? ad = some u) (hb : Below w.heap.size w w') : w'.cell? ad = some u := (hb.cell (World.block_lt_of_cell? w _ h)).trans h
theorem egB_all {g : Gr} (h : grB g = true) : ∀ e, e ∈ g.2.1 → egB e = true := by
  unfold grB at h
  simp only [Bool.and_eq_true] at h
  exact List.all_eq_true.1 h.2.1
/-- a row of ints does not lie in a box of an edge -/
theorem IS.ne_box {w : World} {A : Option Addr} {c b : Nat} {l : List Int} {cs : Array Value} (h : IS w A c l) (hb : w.heap[b]? = some (.cells cs tEd)) : ∀ x, x ∈ fpA A → x ≠ b := by
  intro x hx e
  subst e
  rcases h.2.2.2 with ⟨rfl, _⟩ | ⟨g, off, cur, rfl, hg, _⟩
  · simp at hx
  · simp at hx
    subst hx
    rw [hb] at hg
    injection hg with hg
    injection hg with _ h2 _
    exact absurd h2 (by decide)

set_option maxRecDepth 100000 in
set_option maxHeartbeats 4000000 in
theorem isMatch_any {vg vp vm : Value} {g pt : Gr} {ma : Ma} {fp : List Nat} (w : World) (hg : RdGr w vg g) (hp : RdGr w vp pt) (hm : OwMa w vm ma fp) (bg : grB g = true) (bp : grB pt = true) (okm : OkMa ma) :
    Calls Try.prog 60 #[vg, vp, vm] w fun e w' => e = .returned (.bool (maB g pt ma)) ∧ Below w.heap.size w w' := by
  obtain ⟨n, e1, hn, hq60, _, _, hin⟩ := grB_parts bg
  obtain ⟨n', e1', hn', hq60', _, _, hin'⟩ := grB_parts bp
  have hegB := egB_all bp
  obtain ⟨A, c, hs, ⟨B, b, s⟩, ⟨C, d, t⟩, rfl, f1, _, _, hE, _, _⟩ := hg
  obtain ⟨A', c', hs', ⟨B', b', s'⟩, ⟨C', d', t'⟩, rfl, f1', _, _, hE', _, _⟩ := hp
  obtain ⟨⟨X, x, u⟩, ⟨Y, y, v⟩, rfl, e4, e5, hOw, _⟩ := hm
  have hUI : IS w X x u := hOw.rows (X, x, u) (List.mem_cons_self ..)
  have hVI : IS w Y y v := hOw.rows (Y, y, v) (List.mem_cons_of_mem _ (List.mem_cons_self ..))
  have hU := hUI.rd
  have hV := hVI.rd
  obtain ⟨u0, v0⟩ := ma
  have a4 : u = u0 := e4
  have a5 : v = v0 := e5
  subst a4 a5
  have lu : u.length ≤ 1048576 := okm.1
  have lv : v.length ≤ 1048576 := okm.2.1
  obtain ⟨T, hT⟩ : ∃ T, T = maB g pt (u, v) := ⟨_, rfl⟩
  have hTT := hT
  unfold maB at hTT
  rw [← hT]
  show Calls Try.prog _ #[.agg #[.int .i64 g.1, .slice A hs.length c, .slice B s.length b, .slice C t.length d], .agg #[.int .i64 pt.1, .slice A' hs'.length c', .slice B' s'.length b', .slice C' t'.length d'], .agg #[.slice X u.length x, .slice Y v.length y]] w _
  rw [e1, e1']
  have hin1 := inW_iff.1 (inW_app_right (inW_app_right (show inW (n' : Int) (pt.2.2.1 ++ (pt.2.2.2 ++ edW pt.2.1)) = true from hin')))
  have hql : g.2.1.length = hs.length := by rw [f1, List.length_map]
  have hql' : pt.2.1.length = hs'.length := by rw [f1', List.length_map]
  rw [e1, e1', hql, hql'] at hTT
  obtain ⟨W, hW, bW, k3, k4, k5⟩ := allocs3 w (.cells #[.int .i64 (n : Int), .slice A hs.length c, .slice B s.length b, .slice C t.length d] tGr) (.cells #[.int .i64 (n' : Int), .slice A' hs'.length c', .slice B' s'.length b', .slice C' t'.length d'] tGr) (.cells #[.slice X u.length x, .slice Y v.length y] tMa)
  have hD1 := fun (W' : World) (hb : Below w.heap.size w W') => areDifferent_any X x n u W' (hU.below hb) lu (by omega)
  have hD2 := fun (W' : World) (hb : Below w.heap.size w W') => areDifferent_any Y y hs.length v W' (hV.below hb) lv (by omega)
  obtain ⟨D1, hD1e⟩ : ∃ D, D = difB (n : Int) u := ⟨_, rfl⟩
  obtain ⟨D2, hD2e⟩ : ∃ D, D = difB (hs.length : Int) v := ⟨_, rfl⟩
  obtain ⟨AL, hAL⟩ : ∃ D, D = (List.range hs'.length).all (atB g pt (u, v)) := ⟨_, rfl⟩
  have hTT' : T = ((decide ((u.length : Int) = (n' : Int)) && decide (v.length = hs'.length)) && ((D1 && D2) && AL)) := by rw [hTT, hD1e, hD2e, hAL]
  rw [show decide (v.length = hs'.length) = decide ((v.length : Int) = (hs'.length : Int)) from decide_eq_decide.2 Int.ofNat_inj.symm] at hTT'
  simp only [← hD1e] at hD1
  simp only [← hD2e] at hD2
  clear hTT hT
  have hTT := hTT'
  clear hTT'
  have hq60 : hs.length ≤ 60 := by rw [← hql]; exact hq60
  have hq60' : hs'.length ≤ 60 := by rw [← hql']; exact hq60'
  obtain ⟨q, hq⟩ : ∃ q, q = hs.length := ⟨_, rfl⟩
  obtain ⟨q', hq'⟩ : ∃ q, q = hs'.length := ⟨_, rfl⟩
  obtain ⟨nu, hnu⟩ : ∃ q, q = u.length := ⟨_, rfl⟩
  obtain ⟨nv, hnv⟩ : ∃ q, q = v.length := ⟨_, rfl⟩
  rw [← hq] at hq60
  rw [← hq'] at hq60'
  rw [← hq] at hD2e hW k3 hD2
  rw [← hq'] at hAL hW k4 hTT
  rw [← hnu] at hTT hW k5 hD1 lu
  rw [← hnv] at hTT hW k5 hD2 lv
  rw [← hq, ← hq', ← hnu, ← hnv]
  generalize s.length = p at *
  generalize t.length = r at *
  generalize s'.length = p' at *
  generalize t'.length = r' at *
  obtain ⟨B1, hB1⟩ : ∃ D, D = decide ((nu : Int) = (n' : Int)) := ⟨_, rfl⟩
  obtain ⟨B2, hB2⟩ : ∃ D, D = decide ((nv : Int) = (q' : Int)) := ⟨_, rfl⟩
  rw [← hB1, ← hB2] at hTT
  obtain ⟨⟨c0, c1, c2, c3⟩, c4, c5, c6, c7⟩ := box4 k3
  obtain ⟨⟨d0, d1, d2, d3⟩, d4, d5, d6, d7⟩ := box4 k4
  obtain ⟨⟨i0, i1⟩, i2, i3⟩ := box2 k5
  clear hOw okm e1 e1' bg bp hin hin' e4 e5 hql hql'
  have hE_h := Lib.hid hE
  have hE'_h := Lib.hid hE'
  have hU_h := Lib.hid hU
  have hV_h := Lib.hid hV
  have f1_h := Lib.hid f1
  have f1'_h := Lib.hid f1'
  have hegB_h := Lib.hid hegB
  have hUI_h := Lib.hid hUI
  have hVI_h := Lib.hid hVI
  have hin1_h := Lib.hid hin1
  have hD1_h := Lib.hid hD1
  have hD2_h := Lib.hid hD2
  have hD1e_h := Lib.hid hD1e
  have hD2e_h := Lib.hid hD2e
  have hAL_h := Lib.hid hAL
  have hTT_h := Lib.hid hTT
  have hq_h := Lib.hid hq
  have hq'_h := Lib.hid hq'
  have hnu_h := Lib.hid hnu
  have hnv_h := Lib.hid hnv
  have hB1_h := Lib.hid hB1
  have hB2_h := Lib.hid hB2
  have bW_h := Lib.hid bW
  have k3_h := Lib.hid k3
  have k4_h := Lib.hid k4
  have k5_h := Lib.hid k5
  clear hE hE' hU hV f1 f1' hegB hUI hVI hin1 hD1 hD2 hD1e hD2e hAL hTT hq hq' hnu hnv hB1 hB2 bW k3 k4 k5
  go_enter Try.func60, Try.ntmps60
  go_upto_region 1 with (fail)
  rw [← hW]
  clear hW
  go_cut [41] (fun sv wx => sv = .bool (!((B1 && B2) && (D1 && D2))) ∧ Below W.heap.size W wx)
  case first =>
    by_cases x1 : (nu : Int) = (n' : Int)
    case neg =>
      have hB1' : B1 = false := by rw [hB1_h.out, decide_eq_false x1]
      subst hB1'
      go_wp2_with (fail)
      go_meet
      exact ⟨rfl, Below.refl _ _⟩
    by_cases x2 : (nv : Int) = (q' : Int)
    case neg =>
      have hB2' : B2 = false := by rw [hB2_h.out, decide_eq_false x2]
      subst hB2'
      go_wp2_with (fail)
      go_meet
      exact ⟨by cases B1 <;> rfl, Below.refl _ _⟩
    have hB1' : B1 = true := by rw [hB1_h.out, decide_eq_true x1]
    have hB2' : B2 = true := by rw [hB2_h.out, decide_eq_true x2]
    subst hB1' hB2'
    go_wp2_with (fail)
    refine ((hD1_h.out _ bW_h.out)).mono ?_
    rintro e w1 ⟨rfl, hb1⟩
    cases D1
    case false =>
      have hb1_h := Lib.hid hb1
      clear hb1
      go_wp2_with (fail)
      go_meet
      exact ⟨rfl, hb1_h.out⟩
    case true =>
      have k3a := box_below k3_h.out hb1
      have k5a := box_below k5_h.out hb1
      have hBw1 := below_trans bW_h.out hb1 bW_h.out.size
      clear c0 c1 c2 c3 c4 c5 c6 c7 i0 i1 i2 i3
      obtain ⟨⟨c0, c1, c2, c3⟩, c4, c5, c6, c7⟩ := box4 k3a
      obtain ⟨⟨i0, i1⟩, i2, i3⟩ := box2 k5a
      have hb1_h := Lib.hid hb1
      have k3a_h := Lib.hid k3a
      have k5a_h := Lib.hid k5a
      have hBw1_h := Lib.hid hBw1
      clear hb1 k3a k5a hBw1
      go_wp2_with (fail)
      refine ((hD2_h.out _ hBw1_h.out)).mono ?_
      rintro e w2 ⟨rfl, hb2⟩
      have hb2' := below_trans hb1_h.out hb2 hb1_h.out.size
      clear hb2
      have hb2'_h := Lib.hid hb2'
      clear hb2'
      go_wp2_with (fail)
      go_meet
      exact ⟨by cases D2 <;> rfl, hb2'_h.out⟩
  case rest =>
    obtain ⟨rfl, hWc⟩ := hcut
    obtain ⟨w5, rfl⟩ : ∃ x, x = wc := ⟨_, rfl⟩
    have k4c := box_below k4_h.out hWc
    clear c0 c1 c2 c3 c4 c5 c6 c7 d0 d1 d2 d3 d4 d5 d6 d7 i0 i1 i2 i3
    have hB5 := below_trans bW_h.out hWc bW_h.out.size
    obtain ⟨F, hF⟩ : ∃ F, F = ((B1 && B2) && (D1 && D2)) := ⟨_, rfl⟩
    rw [← hF]
    cases F
    case false =>
      have hT0 : T = false := by
        rw [hTT_h.out]
        cases B1 <;> cases B2 <;> cases D1 <;> cases D2 <;> first | rfl | cases hF
      subst hT0
      have hF_h := Lib.hid hF
      have hB5_h := Lib.hid hB5
      clear hF hB5
      go_wp2_with (fail)
      go_ret
      exact ⟨rfl, hB5_h.out⟩
    case true =>
      have hT1 : T = AL := by
        rw [hTT_h.out]
        cases B1 <;> cases B2 <;> cases D1 <;> cases D2 <;> first | rfl | cases hF
      have hD1t : D1 = true := by cases B1 <;> cases B2 <;> cases D1 <;> cases D2 <;> first | rfl | cases hF
      have hD2t : D2 = true := by cases B1 <;> cases B2 <;> cases D1 <;> cases D2 <;> first | rfl | cases hF
      have hB1t : B1 = true := by cases B1 <;> cases B2 <;> cases D1 <;> cases D2 <;> first | rfl | cases hF
      have hB2t : B2 = true := by cases B1 <;> cases B2 <;> cases D1 <;> cases D2 <;> first | rfl | cases hF
      have hvb := (difB_iff.1 (hD2e_h.out.symm.trans hD2t)).1
      have hnn : nu = n' := by have := of_decide_eq_true (hB1_h.out.symm.trans hB1t); omega
      have hnq : nv = q' := by have := of_decide_eq_true (hB2_h.out.symm.trans hB2t); omega
      clear hTT_h hB1_h hB2_h hD1_h hD2_h hD1e_h hD2e_h hD1t hD2t hB1t hB2t hF
      subst hT1
      have hal0 : (List.range 0).all (atB g pt (u, v)) = true := rfl
      obtain ⟨⟨d0, d1, d2, d3⟩, d4, d5, d6, d7⟩ := box4 k4c
      have hWc_h := Lib.hid hWc
      have hB5_h := Lib.hid hB5
      have k4c_h := Lib.hid k4c
      have hvb_h := Lib.hid hvb
      have hnn_h := Lib.hid hnn
      have hnq_h := Lib.hid hnq
      clear hWc hB5 k4c hvb hnn hnq
      go_wp2_with (fail)
      go_loopw [45] (fun i wr => ∃ k : Nat, k ≤ q' ∧ i = .int .i64 k ∧ (List.range k).all (atB g pt (u, v)) = true ∧ Below W.heap.size W wr) (fun i _ => q' - (intOf i).toNat)
      case atStart => exact ⟨0, Nat.zero_le _, rfl, rfl, hWc_h.out⟩
      case round =>
        clear hal0 d0 d1 d2 d3 d4 d5 d6 d7 k4c_h hWc_h hB5_h
        obtain ⟨k, hk, rfl, hal, hB⟩ := hrel
        obtain ⟨wo, rfl⟩ : ∃ x, x = wr := ⟨_, rfl⟩
        have hBw := below_trans bW_h.out hB bW_h.out.size
        by_cases hlt : k < q'
        case neg =>
          obtain rfl : q' = k := by omega
          obtain rfl : T = true := by rw [hAL_h.out]; exact hal
          have hBw_h := Lib.hid hBw
          have hal_h := Lib.hid hal
          have hB_h := Lib.hid hB
          clear hBw hal hB
          go_wp2_with (fail)
          go_ret
          exact ⟨rfl, hBw_h.out⟩
        case pos =>
          obtain ⟨ad, κ, vv, B1', b1, s1, C1, b2, t1, rfl, hn2, ⟨d0, d1, d2, d3⟩, hr1, hr2⟩ := (hE'_h.out.below hBw).at_ (j := k) (by rw [← hq'_h.out]; exact hlt)
          have hek : pt.2.1[k]? = some (κ, vv, s1, t1) := by rw [f1'_h.out, List.getElem?_map, hn2]; rfl
          obtain ⟨ad2, f0, rfl, hx2, hc2⟩ := (hV_h.out.below hBw).at_ (j := k) (by rw [← hnv_h.out, hnq_h.out]; exact hlt)
          have hfb := hvb_h.out f0 (List.mem_of_getElem? hx2)
          obtain ⟨f, rfl⟩ : ∃ f : Nat, f0 = (f : Int) := ⟨f0.toNat, by omega⟩
          have hfq : f < q := by omega
          obtain ⟨ad3, κ', vv', B3, b3, s3, C3, b4, t3, rfl, hn3, ⟨y0, y1, y2, y3⟩, hr3, hr4⟩ := (hE_h.out.below hBw).at_ (j := f) (by rw [← hq_h.out]; exact hfq)
          have hef : g.2.1[f]? = some (κ', vv', s3, t3) := by rw [f1_h.out, List.getElem?_map, hn3]; rfl
          have hat : atB g pt (u, v) k = decide (((κ, vv, mapL u s1, mapL u t1) : Eg) = (κ', vv', s3, t3)) := by
            unfold atB
            simp only [List.getD_eq_getElem?_getD, hek, hx2, Option.getD_some, Int.toNat_natCast, hef]
            rfl
          obtain ⟨⟨l1, l2⟩, l3⟩ := egB_len (hegB_h.out _ (List.mem_of_getElem? hek))
          simp only at l1 l2 l3
          obtain ⟨hm1, hm2⟩ := mem_edW_of (List.mem_of_getElem? hek)
          have hi1 : ∀ z, z ∈ s1 → 0 ≤ z ∧ z < (nu : Int) := fun z hz => by rw [hnn_h.out]; exact hin1_h.out z (hm1 z hz)
          have hi2 : ∀ z, z ∈ t1 → 0 ≤ z ∧ z < (nu : Int) := fun z hz => by rw [hnn_h.out]; exact hin1_h.out z (hm2 z hz)
          have hUw := hU_h.out.below hBw
          have hCa := fun (W' : World) (hb : Below wo.heap.size wo W') => mapped_any B1' X b1 x s1.length nu s1 u W' (hr1.below hb) (hUw.below hb) rfl hnu_h.out.symm hi1 (by omega)
          have hCb := fun (W' : World) (hb : Below wo.heap.size wo W') => mapped_any C1 X b2 x t1.length nu t1 u W' (hr2.below hb) (hUw.below hb) rfl hnu_h.out.symm hi2 (by omega)
          obtain ⟨AT, hAT⟩ : ∃ D, D = atB g pt (u, v) k := ⟨_, rfl⟩
          rw [← hAT] at hat
          have hl1 : (mapL u s1).length = s1.length := mapL_length _ _
          have hl2 : (mapL u t1).length = t1.length := mapL_length _ _
          have hkI : (k : Int) < (q' : Int) := by omega
          have hkv : (k : Int) < (nv : Int) := by have := hnq_h.out; omega
          have hfI : (f : Int) < (q : Int) := by omega
          have hal1 : AT = true → (List.range (k + 1)).all (atB g pt (u, v)) = true := fun hh => by
            rw [List.range_succ, List.all_append, hal]
            simp [← hAT, hh]
          have hal0 : AT = false → T = false := fun hh => by
            rw [hAL_h.out, List.all_eq_false]
            exact ⟨k, List.mem_range.2 hlt, by rw [← hAT, hh]; decide⟩
          obtain ⟨p1, hp1⟩ : ∃ p1, p1 = s1.length := ⟨_, rfl⟩
          obtain ⟨r1, hr1'⟩ : ∃ r1, r1 = t1.length := ⟨_, rfl⟩
          obtain ⟨p3, hp3⟩ : ∃ p1, p1 = s3.length := ⟨_, rfl⟩
          obtain ⟨r3, hr3'⟩ : ∃ r1, r1 = t3.length := ⟨_, rfl⟩
          have hr3w := fun (W' : World) (hb : Below wo.heap.size wo W') => hr3.below hb
          have hr4w := fun (W' : World) (hb : Below wo.heap.size wo W') => hr4.below hb
          simp only [← hp1] at hCa hl1 l1
          simp only [← hr1'] at hCb hl2 l2
          rw [← hp1] at d2
          rw [← hr1'] at d3
          rw [← hp3] at y2
          rw [← hr3'] at y3
          have k3r := box_below k3_h.out hB
          have k4r := box_below k4_h.out hB
          have k5r := box_below k5_h.out hB
          obtain ⟨W6, hW6, bW6, k6⟩ := (⟨_, rfl, below_alloc _ _, heap_alloc_new _ _⟩ : ∃ W, W = wo.alloc (.cells #[.int .i64 κ, .int .i64 vv, .slice B1' p1 b1, .slice C1 r1 b2] tEd) ∧ Below wo.heap.size wo W ∧ W.heap[wo.heap.size]? = some (.cells #[.int .i64 κ, .int .i64 vv, .slice B1' p1 b1, .slice C1 r1 b2] tEd))
          have k3s := box_below k3r bW6
          have k5s := box_below k5r bW6
          have hc2s := cell_below hc2 bW6
          have z0 := cell_below y0 bW6
          have z1 := cell_below y1 bW6
          have z2 := cell_below y2 bW6
          have z3 := cell_below y3 bW6
          obtain ⟨⟨x0, x1, x2, x3⟩, x4, x5, x6, x7⟩ := box4 k4r
          have hBW6 := below_trans hB bW6 hB.size
          clear hr1 hr2 hr3 hr4 hek hx2 hn2 hn3 hef hfb hm1 hm2 hi1 hi2 hUw l3 k3r k4r k5r hc2 y0 y1 y2 y3
          have hal_h := Lib.hid hal
          have hat_h := Lib.hid hat
          have hAT_h := Lib.hid hAT
          have hCa_h := Lib.hid hCa
          have hCb_h := Lib.hid hCb
          have hl1_h := Lib.hid hl1
          have hl2_h := Lib.hid hl2
          have hal1_h := Lib.hid hal1
          have hal0_h := Lib.hid hal0
          have hp1_h := Lib.hid hp1
          have hr1'_h := Lib.hid hr1'
          have hp3_h := Lib.hid hp3
          have hr3'_h := Lib.hid hr3'
          have hr3w_h := Lib.hid hr3w
          have hr4w_h := Lib.hid hr4w
          have bW6_h := Lib.hid bW6
          have k6_h := Lib.hid k6
          have k3s_h := Lib.hid k3s
          have k5s_h := Lib.hid k5s
          have hc2s_h := Lib.hid hc2s
          have z0_h := Lib.hid z0
          have z1_h := Lib.hid z1
          have z2_h := Lib.hid z2
          have z3_h := Lib.hid z3
          have hB_h := Lib.hid hB
          have hBw_h := Lib.hid hBw
          have hBW6_h := Lib.hid hBW6
          clear hal hat hAT hCa hCb hl1 hl2 hal1 hal0 hp1 hr1' hp3 hr3' hr3w hr4w bW6 k6 k3s k5s hc2s z0 z1 z2 z3 hB hBw hBW6
          go_upto_region 6 with (fail)
          rw [← hW6]
          clear hW6 d0 d1 d2 d3 x0 x1 x2 x3 x4 x5 x6 x7
          have hk6 := box_lt k6_h.out
          go_cut [9] (fun sv wx => ∃ (bx : Nat) (X1 : Option Addr) (X2 : Nat) (Y1 : Option Addr) (Y2 : Nat), sv = .pointer (some ⟨bx, 0, none⟩) ∧ wx.heap[bx]? = some (.cells #[.int .i64 κ, .int .i64 vv, .slice X1 p1 X2, .slice Y1 r1 Y2] tEd) ∧ RdI wx X1 (mapL u s1) ∧ RdI wx Y1 (mapL u t1) ∧ Below W6.heap.size W6 wx)
          case first =>
            refine beginH (fun w' => Below W6.heap.size W6 w') (by kernel_rfl) ?_
            have hbd : Below W6.heap.size W6 W6.drew := below_drew (Below.refl _ _)
            generalize W6.drew = W7 at hbd ⊢
            have hbd_h := Lib.hid hbd
            clear hbd
            refine takeH 0 (v := ?_) rfl (by kernel_rfl) (by kernel_rfl) (by kernel_rfl) (fun _ _ _ h => h) hbd_h.out (by rfl) (fun W' hW' => ?_) ?_; rotate_left; · (have j0 := box_below k6_h.out hW'; obtain ⟨⟨a0, a1, a2, a3⟩, a4, a5, a6, a7⟩ := box4 j0; have j1 := box_below k5s_h.out hW'; obtain ⟨⟨e0, e1⟩, e2, e3⟩ := box2 j1; clear hW'; go_simp; first | done | with_reducible rfl)
            simp only [Act.put, List.setIfInBounds_toArray, List.set_cons_zero, List.set_cons_succ]
            refine takeH 1 (v := ?_) rfl (by kernel_rfl) (by kernel_rfl) (by kernel_rfl) (fun _ _ _ h => h) hbd_h.out (by rfl) (fun W' hW' => ?_) ?_; rotate_left; · (have j0 := box_below k6_h.out hW'; obtain ⟨⟨a0, a1, a2, a3⟩, a4, a5, a6, a7⟩ := box4 j0; have j1 := box_below k5s_h.out hW'; obtain ⟨⟨e0, e1⟩, e2, e3⟩ := box2 j1; clear hW'; go_simp; first | done | with_reducible rfl)
            simp only [Act.put, List.setIfInBounds_toArray, List.set_cons_zero, List.set_cons_succ]
            refine takeH 2 (v := ?_) rfl (by kernel_rfl) (by kernel_rfl) (by kernel_rfl) (fun _ _ _ h => h) hbd_h.out (by rfl) (fun W' hW' => ?_) ?_; rotate_left; · (have j0 := box_below k6_h.out hW'; obtain ⟨⟨a0, a1, a2, a3⟩, a4, a5, a6, a7⟩ := box4 j0; have j1 := box_below k5s_h.out hW'; obtain ⟨⟨e0, e1⟩, e2, e3⟩ := box2 j1; clear hW'; go_simp; first | done | with_reducible rfl)
            simp only [Act.put, List.setIfInBounds_toArray, List.set_cons_zero, List.set_cons_succ]
            refine takeH 3 (v := ?_) rfl (by kernel_rfl) (by kernel_rfl) (by kernel_rfl) (fun _ _ _ h => h) hbd_h.out (by rfl) (fun W' hW' => ?_) ?_; rotate_left; · (have j0 := box_below k6_h.out hW'; obtain ⟨⟨a0, a1, a2, a3⟩, a4, a5, a6, a7⟩ := box4 j0; have j1 := box_below k5s_h.out hW'; obtain ⟨⟨e0, e1⟩, e2, e3⟩ := box2 j1; clear hW'; go_simp; first | done | with_reducible rfl)
            simp only [Act.put, List.setIfInBounds_toArray, List.set_cons_zero, List.set_cons_succ]
            refine takeH 4 (v := ?_) rfl (by kernel_rfl) (by kernel_rfl) (by kernel_rfl) (fun _ _ _ h => h) hbd_h.out (by rfl) (fun W' hW' => ?_) ?_; rotate_left; · (have j0 := box_below k6_h.out hW'; obtain ⟨⟨a0, a1, a2, a3⟩, a4, a5, a6, a7⟩ := box4 j0; have j1 := box_below k5s_h.out hW'; obtain ⟨⟨e0, e1⟩, e2, e3⟩ := box2 j1; clear hW'; go_simp; first | done | with_reducible rfl)
            simp only [Act.put, List.setIfInBounds_toArray, List.set_cons_zero, List.set_cons_succ]
            refine takeH 5 (v := ?_) rfl (by kernel_rfl) (by kernel_rfl) (by kernel_rfl) (fun _ _ _ h => h) hbd_h.out (by rfl) (fun W' hW' => ?_) ?_; rotate_left; · (have j0 := box_below k6_h.out hW'; obtain ⟨⟨a0, a1, a2, a3⟩, a4, a5, a6, a7⟩ := box4 j0; have j1 := box_below k5s_h.out hW'; obtain ⟨⟨e0, e1⟩, e2, e3⟩ := box2 j1; clear hW'; go_simp; first | done | with_reducible rfl)
            simp only [Act.put, List.setIfInBounds_toArray, List.set_cons_zero, List.set_cons_succ]
            refine takeH 6 (v := ?_) rfl (by kernel_rfl) (by kernel_rfl) (by kernel_rfl) (fun _ _ _ h => h) hbd_h.out (by rfl) (fun W' hW' => ?_) ?_; rotate_left; · (have j0 := box_below k6_h.out hW'; obtain ⟨⟨a0, a1, a2, a3⟩, a4, a5, a6, a7⟩ := box4 j0; have j1 := box_below k5s_h.out hW'; obtain ⟨⟨e0, e1⟩, e2, e3⟩ := box2 j1; clear hW'; go_simp; first | done | with_reducible rfl)
            simp only [Act.put, List.setIfInBounds_toArray, List.set_cons_zero, List.set_cons_succ]
            refine takeH 7 (v := ?_) rfl (by kernel_rfl) (by kernel_rfl) (by kernel_rfl) (fun _ _ _ h => h) hbd_h.out (by rfl) (fun W' hW' => ?_) ?_; rotate_left; · (have j0 := box_below k6_h.out hW'; obtain ⟨⟨a0, a1, a2, a3⟩, a4, a5, a6, a7⟩ := box4 j0; have j1 := box_below k5s_h.out hW'; obtain ⟨⟨e0, e1⟩, e2, e3⟩ := box2 j1; clear hW'; go_simp; first | done | with_reducible rfl)
            simp only [Act.put, List.setIfInBounds_toArray, List.set_cons_zero, List.set_cons_succ]
            refine takeH 9 (v := ?_) rfl (by kernel_rfl) (by kernel_rfl) (by kernel_rfl) (fun _ _ _ h => h) hbd_h.out (by rfl) (fun W' hW' => ?_) ?_; rotate_left; · (have j0 := box_below k6_h.out hW'; obtain ⟨⟨a0, a1, a2, a3⟩, a4, a5, a6, a7⟩ := box4 j0; have j1 := box_below k5s_h.out hW'; obtain ⟨⟨e0, e1⟩, e2, e3⟩ := box2 j1; clear hW'; go_simp; first | done | with_reducible rfl)
            simp only [Act.put, List.setIfInBounds_toArray, List.set_cons_zero, List.set_cons_succ]
            refine takeH 10 (v := ?_) rfl (by kernel_rfl) (by kernel_rfl) (by kernel_rfl) (fun _ _ _ h => h) hbd_h.out (by rfl) (fun W' hW' => ?_) ?_; rotate_left; · (have j0 := box_below k6_h.out hW'; obtain ⟨⟨a0, a1, a2, a3⟩, a4, a5, a6, a7⟩ := box4 j0; have j1 := box_below k5s_h.out hW'; obtain ⟨⟨e0, e1⟩, e2, e3⟩ := box2 j1; clear hW'; go_simp; first | done | with_reducible rfl)
            simp only [Act.put, List.setIfInBounds_toArray, List.set_cons_zero, List.set_cons_succ]
            refine takeH 11 (v := ?_) rfl (by kernel_rfl) (by kernel_rfl) (by kernel_rfl) (fun _ _ _ h => h) hbd_h.out (by rfl) (fun W' hW' => ?_) ?_; rotate_left; · (have j0 := box_below k6_h.out hW'; obtain ⟨⟨a0, a1, a2, a3⟩, a4, a5, a6, a7⟩ := box4 j0; have j1 := box_below k5s_h.out hW'; obtain ⟨⟨e0, e1⟩, e2, e3⟩ := box2 j1; clear hW'; go_simp; first | done | with_reducible rfl)
            simp only [Act.put, List.setIfInBounds_toArray, List.set_cons_zero, List.set_cons_succ]
            refine takeH 12 (v := ?_) rfl (by kernel_rfl) (by kernel_rfl) (by kernel_rfl) (fun _ _ _ h => h) hbd_h.out (by rfl) (fun W' hW' => ?_) ?_; rotate_left; · (have j0 := box_below k6_h.out hW'; obtain ⟨⟨a0, a1, a2, a3⟩, a4, a5, a6, a7⟩ := box4 j0; have j1 := box_below k5s_h.out hW'; obtain ⟨⟨e0, e1⟩, e2, e3⟩ := box2 j1; clear hW'; go_simp; first | done | with_reducible rfl)
            simp only [Act.put, List.setIfInBounds_toArray, List.set_cons_zero, List.set_cons_succ]
            refine callOrH 8 15 (f := ?foa) (args := ?ara) (vj := ?vja) (wj := ?wja) rfl rfl (by kernel_rfl) (by rfl) (by rfl) ?hra ?hja ?h1a ?hSa ?h2a
            case hra => (go_simp; first | done | with_reducible rfl | (constructor <;> with_reducible rfl))
            case hja => (go_simp; first | done | with_reducible rfl | (constructor <;> with_reducible rfl))
            case hSa => exact below_trans hbd_h.out (below_alloc _ _) hbd_h.out.size
            case h1a =>
              refine ((hCa_h.out _ (below_trans bW6_h.out hbd_h.out bW6_h.out.size))).mono ?_
              rintro e w2 ⟨A2, c2', rfl, hO2⟩
              have hB2 := below_trans hbd_h.out hO2.below_ hbd_h.out.size
              have ho2 := hO2.is
              clear hO2
              have hB2_h := Lib.hid hB2
              have ho2_h := Lib.hid ho2
              clear hB2 ho2
              refine ⟨_, rfl, hB2_h.out, ?_⟩
              simp only [Act.put, List.setIfInBounds_toArray, List.set_cons_zero, List.set_cons_succ]
              refine callOrH 13 15 (f := ?fob) (args := ?arb) (vj := ?vjb) (wj := ?wjb) rfl rfl (by kernel_rfl) (by rfl) (by rfl) ?hrb ?hjb ?h1b ?hSb ?h2b
              case hrb => (go_simp; first | done | with_reducible rfl | (constructor <;> with_reducible rfl))
              case hjb => (go_simp; first | done | with_reducible rfl | (constructor <;> with_reducible rfl))
              case hSb => exact below_trans hB2_h.out (below_alloc _ _) hB2_h.out.size
              case h1b =>
                refine ((hCb_h.out _ (below_trans bW6_h.out hB2_h.out bW6_h.out.size))).mono ?_
                rintro e w3 ⟨A3, c3', rfl, hO3⟩
                have hB3 := below_trans hB2_h.out hO3.below_ hB2_h.out.size
                have ho3 := hO3.is
                have ho2b := ho2_h.out.below hO3.below_
                obtain ⟨W9, hW9, bW9, k9⟩ := alloc_box1g w3 (.cells #[.int .i64 0, .int .i64 0, .slice none 0 0, .slice none 0 0] tEd)
                have ho2c := ho2b.below bW9
                have ho3c := ho3.below bW9
                have hbc := below_trans hB3 bW9 hB3.size
                have hge := hB3.size
                obtain ⟨s1', s2'⟩ := set4 (a := .int .i64 κ) (b := .int .i64 vv) (c := .slice A2 p1 c2') (d := .slice A3 r1 c3') k9
                have ne1 := IS.ne_box ho2c k9
                have ne2 := IS.ne_box ho3c k9
                have rd1 := (IS.keeps ho2c s2' (fun z hz e => ne1 z hz e)).rd
                have rd2 := (IS.keeps ho3c s2' (fun z hz e => ne2 z hz e)).rd
                have hBf := below_keeps hbc s2' hbc.size (fun z hz => by omega)
                obtain ⟨⟨g0, g1, g2, g3⟩, g4, g5, g6, g7⟩ := box4 k9
                clear hO3 ho3 ho2b bW9 ho2c ho3c ne1 ne2 hge
                have hB3_h := Lib.hid hB3
                have s1'_h := Lib.hid s1'
                have s2'_h := Lib.hid s2'
                have rd1_h := Lib.hid rd1
                have rd2_h := Lib.hid rd2
                have hBf_h := Lib.hid hBf
                have k9_h := Lib.hid k9
                have hbc_h := Lib.hid hbc
                clear hB3 s1' s2' rd1 rd2 hBf k9 hbc
                refine ⟨_, rfl, hB3_h.out, ?_⟩
                simp only [Act.put, List.setIfInBounds_toArray, List.set_cons_zero, List.set_cons_succ]
                refine takeH 14 (v := ?_) rfl (by kernel_rfl) (by kernel_rfl) (by kernel_rfl) (fun _ _ _ h => h) hB3_h.out (by rfl) (fun W' hW' => ?_) ?_; rotate_left; · (skip; clear hW'; go_simp; first | done | with_reducible rfl)
                simp only [Act.put, List.setIfInBounds_toArray, List.set_cons_zero, List.set_cons_succ]
                refine oneH 15 rfl (by kernel_rfl) (by rfl) (fun K hK => ?_)
                go_simp
                rw [← hW9]
                refine hK _ _ hbc_h.out ?_
                clear hK K hW9
                refine oneH 16 rfl (by kernel_rfl) (by rfl) (fun K hK => ?_)
                go_simp
                refine hK _ _ hBf_h.out ?_
                clear hK K
                refine doneH (by kernel_rfl) ?_
                go_wp2_with (fail)
                go_meet
                exact ⟨w3.heap.size, A2, c2', A3, c3', rfl, s1'_h.out, rd1_h.out, rd2_h.out, hBf_h.out⟩
              case h2b =>
                have bAq := below_alloc w2 (.cells #[.int .i64 0, .int .i64 0, .slice none 0 0, .slice none 0 0] tEd)
                have kAq := heap_alloc_new w2 (.cells #[.int .i64 0, .int .i64 0, .slice none 0 0, .slice none 0 0] tEd)
                have hBq := below_trans hB2_h.out bAq hB2_h.out.size
                have hge := hB2_h.out.size
                simp only [Act.put, List.setIfInBounds_toArray, List.set_cons_zero, List.set_cons_succ]
                refine' callH 13 (f := _) (args := _) rfl (by kernel_rfl) (by rfl) ?_ ?_; rotate_left 2; · (go_simp; first | done | with_reducible rfl | (constructor <;> with_reducible rfl))
                refine ((hCb_h.out _ (below_trans bW6_h.out hBq bW6_h.out.size))).mono ?_
                rintro e w3 ⟨A3, c3', rfl, hO3⟩
                have hbc := below_trans hBq hO3.below_ hBq.size
                have ho3 := hO3.is
                have ho2c := (ho2_h.out.below bAq).below hO3.below_
                have k9 := box_below kAq hO3.below_
                obtain ⟨s1', s2'⟩ := set4 (a := .int .i64 κ) (b := .int .i64 vv) (c := .slice A2 p1 c2') (d := .slice A3 r1 c3') k9
                have ne1 := IS.ne_box ho2c k9
                have ne2 := IS.ne_box ho3 k9
                have rd1 := (IS.keeps ho2c s2' (fun z hz e => ne1 z hz e)).rd
                have rd2 := (IS.keeps ho3 s2' (fun z hz e => ne2 z hz e)).rd
                have hBf := below_keeps hbc s2' hbc.size (fun z hz => by omega)
                obtain ⟨⟨g0, g1, g2, g3⟩, g4, g5, g6, g7⟩ := box4 k9
                refine ⟨_, rfl, hbc, ?_⟩
                clear hO3 ho3 ho2c k9 ne1 ne2 hge bAq kAq hBq
                have hbc_h := Lib.hid hbc
                have s1'_h := Lib.hid s1'
                have s2'_h := Lib.hid s2'
                have rd1_h := Lib.hid rd1
                have rd2_h := Lib.hid rd2
                have hBf_h := Lib.hid hBf
                clear hbc s1' s2' rd1 rd2 hBf
                simp only [Act.put, List.setIfInBounds_toArray, List.set_cons_zero, List.set_cons_succ]
                refine takeH 14 (v := ?_) rfl (by kernel_rfl) (by kernel_rfl) (by kernel_rfl) (fun _ _ _ h => h) hbc_h.out (by rfl) (fun W' hW' => ?_) ?_; rotate_left; · (skip; clear hW'; go_simp; first | done | with_reducible rfl)
                simp only [Act.put, List.setIfInBounds_toArray, List.set_cons_zero, List.set_cons_succ]
                refine oneH 16 rfl (by kernel_rfl) (by rfl) (fun K hK => ?_)
                go_simp
                refine hK _ _ hBf_h.out ?_
                clear hK K
                refine doneH (by kernel_rfl) ?_
                go_wp2_with (fail)
                go_meet
                exact ⟨w2.heap.size, A2, c2', A3, c3', rfl, s1'_h.out, rd1_h.out, rd2_h.out, hBf_h.out⟩
            case h2a =>
              have bAp := below_alloc W7 (.cells #[.int .i64 0, .int .i64 0, .slice none 0 0, .slice none 0 0] tEd)
              have kAp := heap_alloc_new W7 (.cells #[.int .i64 0, .int .i64 0, .slice none 0 0, .slice none 0 0] tEd)
              have hBp := below_trans hbd_h.out bAp hbd_h.out.size
              have hge := hbd_h.out.size
              simp only [Act.put, List.setIfInBounds_toArray, List.set_cons_zero, List.set_cons_succ]
              refine' callH 8 (f := _) (args := _) rfl (by kernel_rfl) (by rfl) ?_ ?_; rotate_left 2; · (go_simp; first | done | with_reducible rfl | (constructor <;> with_reducible rfl))
              refine ((hCa_h.out _ (below_trans bW6_h.out hBp bW6_h.out.size))).mono ?_
              rintro e w2 ⟨A2, c2', rfl, hO2⟩
              have hB2 := below_trans hBp hO2.below_ hBp.size
              have ho2 := hO2.is
              have k8 := box_below kAp hO2.below_
              refine ⟨_, rfl, hB2, ?_⟩
              simp only [Act.put, List.setIfInBounds_toArray, List.set_cons_zero, List.set_cons_succ]
              refine' callH 13 (f := _) (args := _) rfl (by kernel_rfl) (by rfl) ?_ ?_; rotate_left 2; · (go_simp; first | done | with_reducible rfl | (constructor <;> with_reducible rfl))
              refine ((hCb_h.out _ (below_trans bW6_h.out hB2 bW6_h.out.size))).mono ?_
              rintro e w3 ⟨A3, c3', rfl, hO3⟩
              have hbc := below_trans hB2 hO3.below_ hB2.size
              have ho3 := hO3.is
              have ho2c := ho2.below hO3.below_
              have k9 := box_below k8 hO3.below_
              obtain ⟨s1', s2'⟩ := set4 (a := .int .i64 κ) (b := .int .i64 vv) (c := .slice A2 p1 c2') (d := .slice A3 r1 c3') k9
              have ne1 := IS.ne_box ho2c k9
              have ne2 := IS.ne_box ho3 k9
              have rd1 := (IS.keeps ho2c s2' (fun z hz e => ne1 z hz e)).rd
              have rd2 := (IS.keeps ho3 s2' (fun z hz e => ne2 z hz e)).rd
              have hBf := below_keeps hbc s2' hbc.size (fun z hz => by omega)
              obtain ⟨⟨g0, g1, g2, g3⟩, g4, g5, g6, g7⟩ := box4 k9
              refine ⟨_, rfl, hbc, ?_⟩
              clear hO3 ho3 ho2c k9 ne1 ne2 hge bAp kAp hBp hO2 hB2 ho2 k8
              have hbc_h := Lib.hid hbc
              have s1'_h := Lib.hid s1'
              have s2'_h := Lib.hid s2'
              have rd1_h := Lib.hid rd1
              have rd2_h := Lib.hid rd2
              have hBf_h := Lib.hid hBf
              clear hbc s1' s2' rd1 rd2 hBf
              simp only [Act.put, List.setIfInBounds_toArray, List.set_cons_zero, List.set_cons_succ]
              refine takeH 14 (v := ?_) rfl (by kernel_rfl) (by kernel_rfl) (by kernel_rfl) (fun _ _ _ h => h) hbc_h.out (by rfl) (fun W' hW' => ?_) ?_; rotate_left; · (skip; clear hW'; go_simp; first | done | with_reducible rfl)
              simp only [Act.put, List.setIfInBounds_toArray, List.set_cons_zero, List.set_cons_succ]
              refine oneH 16 rfl (by kernel_rfl) (by rfl) (fun K hK => ?_)
              go_simp
              refine hK _ _ hBf_h.out ?_
              clear hK K
              refine doneH (by kernel_rfl) ?_
              go_wp2_with (fail)
              go_meet
              exact ⟨W7.heap.size, A2, c2', A3, c3', rfl, s1'_h.out, rd1_h.out, rd2_h.out, hBf_h.out⟩
          case rest =>
            obtain ⟨bx, X1, X2, Y1, Y2, rfl, k9, rd1, rd2, hBc⟩ := hcut
            obtain ⟨w7, rfl⟩ : ∃ x, x = wc := ⟨_, rfl⟩
            have hBc' := below_trans bW6_h.out hBc bW6_h.out.size
            have hQ := fun (W' : World) (hb : Below w7.heap.size w7 W') => equalEdges_any κ vv X1 Y1 X2 Y2 (mapL u s1) (mapL u t1) κ' vv' B3 C3 b3 b4 s3 t3 W' (rd1.below hb) (rd2.below hb) (hr3w_h.out W' (below_trans hBc' hb hBc'.size)) (hr4w_h.out W' (below_trans hBc' hb hBc'.size)) (by rw [hl1_h.out]; omega) (by rw [hl2_h.out]; omega)
            simp only [hl1_h.out, hl2_h.out, ← hp3_h.out, ← hr3'_h.out, ← hat_h.out] at hQ
            clear rd1 rd2 hBc'
            have hBc_h := Lib.hid hBc
            have k9_h := Lib.hid k9
            have hQ_h := Lib.hid hQ
            clear hBc k9 hQ
            go_upto_region 7 with (fail)
            go_cut [76] (fun sv wx => sv = .bool (!AT) ∧ Below w7.heap.size w7 wx)
            case first =>
              refine beginH (fun w' => Below w7.heap.size w7 w') (by kernel_rfl) ?_
              have hbd : Below w7.heap.size w7 w7.drew := below_drew (Below.refl _ _)
              generalize w7.drew = W8 at hbd ⊢
              have hbd_h := Lib.hid hbd
              clear hbd
              refine takeH 0 (v := ?_) rfl (by kernel_rfl) (by kernel_rfl) (by kernel_rfl) (fun _ _ _ h => h) hbd_h.out (by rfl) (fun W' hW' => ?_) ?_; rotate_left; · (have j0 := box_below k9_h.out hW'; obtain ⟨⟨a0, a1, a2, a3⟩, a4, a5, a6, a7⟩ := box4 j0; have j1 := box_below (box_below k5s_h.out hBc_h.out) hW'; obtain ⟨⟨e0, e1⟩, e2, e3⟩ := box2 j1; have j2 := box_below (box_below k3s_h.out hBc_h.out) hW'; obtain ⟨⟨g0, g1, g2, g3⟩, g4, g5, g6, g7⟩ := box4 j2; have m0 := cell_below (cell_below hc2s_h.out hBc_h.out) hW'; have m1 := cell_below (cell_below z0_h.out hBc_h.out) hW'; have m2 := cell_below (cell_below z1_h.out hBc_h.out) hW'; have m3 := cell_below (cell_below z2_h.out hBc_h.out) hW'; have m4 := cell_below (cell_below z3_h.out hBc_h.out) hW'; clear hW'; go_simp; first | done | with_reducible rfl)
              simp only [Act.put, List.setIfInBounds_toArray, List.set_cons_zero, List.set_cons_succ]
              refine takeH 1 (v := ?_) rfl (by kernel_rfl) (by kernel_rfl) (by kernel_rfl) (fun _ _ _ h => h) hbd_h.out (by rfl) (fun W' hW' => ?_) ?_; rotate_left; · (have j0 := box_below k9_h.out hW'; obtain ⟨⟨a0, a1, a2, a3⟩, a4, a5, a6, a7⟩ := box4 j0; have j1 := box_below (box_below k5s_h.out hBc_h.out) hW'; obtain ⟨⟨e0, e1⟩, e2, e3⟩ := box2 j1; have j2 := box_below (box_below k3s_h.out hBc_h.out) hW'; obtain ⟨⟨g0, g1, g2, g3⟩, g4, g5, g6, g7⟩ := box4 j2; have m0 := cell_below (cell_below hc2s_h.out hBc_h.out) hW'; have m1 := cell_below (cell_below z0_h.out hBc_h.out) hW'; have m2 := cell_below (cell_below z1_h.out hBc_h.out) hW'; have m3 := cell_below (cell_below z2_h.out hBc_h.out) hW'; have m4 := cell_below (cell_below z3_h.out hBc_h.out) hW'; clear hW'; go_simp; first | done | with_reducible rfl)
              simp only [Act.put, List.setIfInBounds_toArray, List.set_cons_zero, List.set_cons_succ]
              refine takeH 2 (v := ?_) rfl (by kernel_rfl) (by kernel_rfl) (by kernel_rfl) (fun _ _ _ h => h) hbd_h.out (by rfl) (fun W' hW' => ?_) ?_; rotate_left; · (have j0 := box_below k9_h.out hW'; obtain ⟨⟨a0, a1, a2, a3⟩, a4, a5, a6, a7⟩ := box4 j0; have j1 := box_below (box_below k5s_h.out hBc_h.out) hW'; obtain ⟨⟨e0, e1⟩, e2, e3⟩ := box2 j1; have j2 := box_below (box_below k3s_h.out hBc_h.out) hW'; obtain ⟨⟨g0, g1, g2, g3⟩, g4, g5, g6, g7⟩ := box4 j2; have m0 := cell_below (cell_below hc2s_h.out hBc_h.out) hW'; have m1 := cell_below (cell_below z0_h.out hBc_h.out) hW'; have m2 := cell_below (cell_below z1_h.out hBc_h.out) hW'; have m3 := cell_below (cell_below z2_h.out hBc_h.out) hW'; have m4 := cell_below (cell_below z3_h.out hBc_h.out) hW'; clear hW'; go_simp; first | done | with_reducible rfl)
              simp only [Act.put, List.setIfInBounds_toArray, List.set_cons_zero, List.set_cons_succ]
              refine takeH 3 (v := ?_) rfl (by kernel_rfl) (by kernel_rfl) (by kernel_rfl) (fun _ _ _ h => h) hbd_h.out (by rfl) (fun W' hW' => ?_) ?_; rotate_left; · (have j0 := box_below k9_h.out hW'; obtain ⟨⟨a0, a1, a2, a3⟩, a4, a5, a6, a7⟩ := box4 j0; have j1 := box_below (box_below k5s_h.out hBc_h.out) hW'; obtain ⟨⟨e0, e1⟩, e2, e3⟩ := box2 j1; have j2 := box_below (box_below k3s_h.out hBc_h.out) hW'; obtain ⟨⟨g0, g1, g2, g3⟩, g4, g5, g6, g7⟩ := box4 j2; have m0 := cell_below (cell_below hc2s_h.out hBc_h.out) hW'; have m1 := cell_below (cell_below z0_h.out hBc_h.out) hW'; have m2 := cell_below (cell_below z1_h.out hBc_h.out) hW'; have m3 := cell_below (cell_below z2_h.out hBc_h.out) hW'; have m4 := cell_below (cell_below z3_h.out hBc_h.out) hW'; clear hW'; go_simp; first | done | with_reducible rfl)
              simp only [Act.put, List.setIfInBounds_toArray, List.set_cons_zero, List.set_cons_succ]
              refine takeH 4 (v := ?_) rfl (by kernel_rfl) (by kernel_rfl) (by kernel_rfl) (fun _ _ _ h => h) hbd_h.out (by rfl) (fun W' hW' => ?_) ?_; rotate_left; · (have j0 := box_below k9_h.out hW'; obtain ⟨⟨a0, a1, a2, a3⟩, a4, a5, a6, a7⟩ := box4 j0; have j1 := box_below (box_below k5s_h.out hBc_h.out) hW'; obtain ⟨⟨e0, e1⟩, e2, e3⟩ := box2 j1; have j2 := box_below (box_below k3s_h.out hBc_h.out) hW'; obtain ⟨⟨g0, g1, g2, g3⟩, g4, g5, g6, g7⟩ := box4 j2; have m0 := cell_below (cell_below hc2s_h.out hBc_h.out) hW'; have m1 := cell_below (cell_below z0_h.out hBc_h.out) hW'; have m2 := cell_below (cell_below z1_h.out hBc_h.out) hW'; have m3 := cell_below (cell_below z2_h.out hBc_h.out) hW'; have m4 := cell_below (cell_below z3_h.out hBc_h.out) hW'; clear hW'; go_simp; first | done | with_reducible rfl)
              simp only [Act.put, List.setIfInBounds_toArray, List.set_cons_zero, List.set_cons_succ]
              refine takeH 5 (v := ?_) rfl (by kernel_rfl) (by kernel_rfl) (by kernel_rfl) (fun _ _ _ h => h) hbd_h.out (by rfl) (fun W' hW' => ?_) ?_; rotate_left; · (have j0 := box_below k9_h.out hW'; obtain ⟨⟨a0, a1, a2, a3⟩, a4, a5, a6, a7⟩ := box4 j0; have j1 := box_below (box_below k5s_h.out hBc_h.out) hW'; obtain ⟨⟨e0, e1⟩, e2, e3⟩ := box2 j1; have j2 := box_below (box_below k3s_h.out hBc_h.out) hW'; obtain ⟨⟨g0, g1, g2, g3⟩, g4, g5, g6, g7⟩ := box4 j2; have m0 := cell_below (cell_below hc2s_h.out hBc_h.out) hW'; have m1 := cell_below (cell_below z0_h.out hBc_h.out) hW'; have m2 := cell_below (cell_below z1_h.out hBc_h.out) hW'; have m3 := cell_below (cell_below z2_h.out hBc_h.out) hW'; have m4 := cell_below (cell_below z3_h.out hBc_h.out) hW'; clear hW'; go_simp; first | done | with_reducible rfl)
              simp only [Act.put, List.setIfInBounds_toArray, List.set_cons_zero, List.set_cons_succ]
              refine takeH 6 (v := ?_) rfl (by kernel_rfl) (by kernel_rfl) (by kernel_rfl) (fun _ _ _ h => h) hbd_h.out (by rfl) (fun W' hW' => ?_) ?_; rotate_left; · (have j0 := box_below k9_h.out hW'; obtain ⟨⟨a0, a1, a2, a3⟩, a4, a5, a6, a7⟩ := box4 j0; have j1 := box_below (box_below k5s_h.out hBc_h.out) hW'; obtain ⟨⟨e0, e1⟩, e2, e3⟩ := box2 j1; have j2 := box_below (box_below k3s_h.out hBc_h.out) hW'; obtain ⟨⟨g0, g1, g2, g3⟩, g4, g5, g6, g7⟩ := box4 j2; have m0 := cell_below (cell_below hc2s_h.out hBc_h.out) hW'; have m1 := cell_below (cell_below z0_h.out hBc_h.out) hW'; have m2 := cell_below (cell_below z1_h.out hBc_h.out) hW'; have m3 := cell_below (cell_below z2_h.out hBc_h.out) hW'; have m4 := cell_below (cell_below z3_h.out hBc_h.out) hW'; clear hW'; go_simp; first | done | with_reducible rfl)
              simp only [Act.put, List.setIfInBounds_toArray, List.set_cons_zero, List.set_cons_succ]
              refine takeH 7 (v := ?_) rfl (by kernel_rfl) (by kernel_rfl) (by kernel_rfl) (fun _ _ _ h => h) hbd_h.out (by rfl) (fun W' hW' => ?_) ?_; rotate_left; · (have j0 := box_below k9_h.out hW'; obtain ⟨⟨a0, a1, a2, a3⟩, a4, a5, a6, a7⟩ := box4 j0; have j1 := box_below (box_below k5s_h.out hBc_h.out) hW'; obtain ⟨⟨e0, e1⟩, e2, e3⟩ := box2 j1; have j2 := box_below (box_below k3s_h.out hBc_h.out) hW'; obtain ⟨⟨g0, g1, g2, g3⟩, g4, g5, g6, g7⟩ := box4 j2; have m0 := cell_below (cell_below hc2s_h.out hBc_h.out) hW'; have m1 := cell_below (cell_below z0_h.out hBc_h.out) hW'; have m2 := cell_below (cell_below z1_h.out hBc_h.out) hW'; have m3 := cell_below (cell_below z2_h.out hBc_h.out) hW'; have m4 := cell_below (cell_below z3_h.out hBc_h.out) hW'; clear hW'; go_simp; first | done | with_reducible rfl)
              simp only [Act.put, List.setIfInBounds_toArray, List.set_cons_zero, List.set_cons_succ]
              refine takeH 8 (v := ?_) rfl (by kernel_rfl) (by kernel_rfl) (by kernel_rfl) (fun _ _ _ h => h) hbd_h.out (by rfl) (fun W' hW' => ?_) ?_; rotate_left; · (have j0 := box_below k9_h.out hW'; obtain ⟨⟨a0, a1, a2, a3⟩, a4, a5, a6, a7⟩ := box4 j0; have j1 := box_below (box_below k5s_h.out hBc_h.out) hW'; obtain ⟨⟨e0, e1⟩, e2, e3⟩ := box2 j1; have j2 := box_below (box_below k3s_h.out hBc_h.out) hW'; obtain ⟨⟨g0, g1, g2, g3⟩, g4, g5, g6, g7⟩ := box4 j2; have m0 := cell_below (cell_below hc2s_h.out hBc_h.out) hW'; have m1 := cell_below (cell_below z0_h.out hBc_h.out) hW'; have m2 := cell_below (cell_below z1_h.out hBc_h.out) hW'; have m3 := cell_below (cell_below z2_h.out hBc_h.out) hW'; have m4 := cell_below (cell_below z3_h.out hBc_h.out) hW'; clear hW'; go_simp; first | done | with_reducible rfl)
              simp only [Act.put, List.setIfInBounds_toArray, List.set_cons_zero, List.set_cons_succ]
              refine takeH 9 (v := ?_) rfl (by kernel_rfl) (by kernel_rfl) (by kernel_rfl) (fun _ _ _ h => h) hbd_h.out (by rfl) (fun W' hW' => ?_) ?_; rotate_left; · (have j0 := box_below k9_h.out hW'; obtain ⟨⟨a0, a1, a2, a3⟩, a4, a5, a6, a7⟩ := box4 j0; have j1 := box_below (box_below k5s_h.out hBc_h.out) hW'; obtain ⟨⟨e0, e1⟩, e2, e3⟩ := box2 j1; have j2 := box_below (box_below k3s_h.out hBc_h.out) hW'; obtain ⟨⟨g0, g1, g2, g3⟩, g4, g5, g6, g7⟩ := box4 j2; have m0 := cell_below (cell_below hc2s_h.out hBc_h.out) hW'; have m1 := cell_below (cell_below z0_h.out hBc_h.out) hW'; have m2 := cell_below (cell_below z1_h.out hBc_h.out) hW'; have m3 := cell_below (cell_below z2_h.out hBc_h.out) hW'; have m4 := cell_below (cell_below z3_h.out hBc_h.out) hW'; clear hW'; go_simp; first | done | with_reducible rfl)
              simp only [Act.put, List.setIfInBounds_toArray, List.set_cons_zero, List.set_cons_succ]
              refine' callH 10 (f := _) (args := _) rfl (by kernel_rfl) (by rfl) ?_ ?_; rotate_left 2; · (go_simp; first | done | with_reducible rfl | (constructor <;> with_reducible rfl))
              refine ((hQ_h.out _ hbd_h.out)).mono ?_
              rintro e w9 ⟨rfl, hb9⟩
              have hb9' := below_trans hbd_h.out hb9 hbd_h.out.size
              clear hb9
              have hb9'_h := Lib.hid hb9'
              clear hb9'
              refine ⟨_, rfl, hb9'_h.out, ?_⟩
              simp only [Act.put, List.setIfInBounds_toArray, List.set_cons_zero, List.set_cons_succ]
              refine takeH 11 (v := ?_) rfl (by kernel_rfl) (by kernel_rfl) (by kernel_rfl) (fun _ _ _ h => h) hb9'_h.out (by rfl) (fun W' hW' => ?_) ?_; rotate_left; · (skip; clear hW'; go_simp; first | done | with_reducible rfl)
              simp only [Act.put, List.setIfInBounds_toArray, List.set_cons_zero, List.set_cons_succ]
              refine doneH (by kernel_rfl) ?_
              go_wp2_with (fail)
              go_meet
              exact ⟨rfl, hb9'_h.out⟩
            case rest =>
              obtain ⟨rfl, hBe⟩ := hcut
              obtain ⟨w8, rfl⟩ : ∃ x, x = wc := ⟨_, rfl⟩
              have hBo := below_trans hBc_h.out hBe hBc_h.out.size
              have hBn := below_trans hBW6_h.out hBo hBW6_h.out.size
              have hBm := below_trans bW_h.out hBn bW_h.out.size
              clear hBo hBe
              have hBn_h := Lib.hid hBn
              have hBm_h := Lib.hid hBm
              clear hBn hBm
              cases AT
              case false =>
                obtain rfl : T = false := hal0_h.out rfl
                go_wp2_with (fail)
                go_ret
                exact ⟨rfl, hBm_h.out⟩
              case true =>
                have hal2 := hal1_h.out rfl
                have hal2_h := Lib.hid hal2
                clear hal2
                go_wp2_with (fail)
                go_roundw
                case rel => exact ⟨k + 1, by omega, by go_num, hal2_h.out, hBn_h.out⟩
                case measure => simp [intOf]; omega
end Go.Proofs.Ytanhmljgeiajoaa
