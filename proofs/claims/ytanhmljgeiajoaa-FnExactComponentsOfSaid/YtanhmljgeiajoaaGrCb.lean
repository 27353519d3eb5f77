/-
  THE WALK: impl.Graph.components.
-/
import Derived.Test.YtanhmljgeiajoaaGrCa
import Derived.Test.YtanhmljgeiajoaaGrCd
import Derived.Test.YtanhmljgeiajoaaGrQ
namespace Go.Proofs.Ytanhmljgeiajoaa
open Go.RowKit

theorem rd2 {w : World} {B C : Option Addr} {b c : Nat} {s t : List Int} (hB : RdI w B s) (hC : RdI w C t) : RdR (w.alloc (.cells #[.slice B s.length b, .slice C t.length c] 23)) (some ⟨w.heap.size, 0, none⟩) [(B, b, s), (C, c, t)] := by
  have hx := heap_alloc_new w (.cells #[.slice B s.length b, .slice C t.length c] 23)
  obtain ⟨⟨h0, h1⟩, _⟩ := box2 hx
  refine ⟨fun i h hi => ?_, fun h hh => ?_⟩
  · refine ⟨_, rfl, ?_⟩
    match i with
    | 0 => obtain rfl := Option.some.inj hi; exact h0
    | 1 => obtain rfl := Option.some.inj hi; exact h1
    | i + 2 => simp at hi
  · simp at hh
    rcases hh with rfl | rfl
    · exact hB.below (below_alloc _ _)
    · exact hC.below (below_alloc _ _)
set_option maxRecDepth 100000 in
set_option maxHeartbeats 8000000 in
theorem components_any {v : Value} {g : Gr} (w : World) (n : Nat) (h : RdGr w v g) (hgn : g.1 = (n : Int)) (hv : grB g = true) :
    Calls Try.prog 49 #[v] w fun e w' => ∃ A c, e = .returned (.tuple #[.slice A n c, .int .i64 (nrM (clsG g) n : Int)]) ∧ IS w' A c (numM (clsG g)) ∧ Fresh w.heap.size A ∧ Below w.heap.size w w' := by
  obtain ⟨n', e1', hn1, hm60, _, _, hin⟩ := grB_parts hv
  obtain rfl : n' = n := by omega
  have hegB : ∀ e, e ∈ g.2.1 → egB e = true := by
    unfold grB at hv
    simp only [Bool.and_eq_true] at hv
    exact List.all_eq_true.1 hv.2.1
  obtain ⟨C, hC⟩ : ∃ C, C = clsG g := ⟨_, rfl⟩
  rw [← hC]
  have hCK := clsK_all g n' hgn
  rw [← hC] at hCK
  obtain ⟨A, c, hs, ⟨B, b, s⟩, ⟨C', d', t⟩, rfl, e1, e2, e3, hE, hRa, hRb⟩ := h
  obtain ⟨z, es, s0, t0⟩ := g
  have a1 : es = hs.map egOf := e1
  have a4 : z = (n' : Int) := hgn
  subst a4
  have hin2 : inW (n' : Int) (edW es) = true := by
    have : inW (n' : Int) (allW ((n' : Int), es, s0, t0)) = true := hin
    unfold allW at this
    exact inW_app_right (inW_app_right this)
  have hCls := fun k (hk : k ≤ es.length) => Cls.clsK hin2 k hk
  have hLr : ∀ {k : Nat} {e : Eg} {L : List Int}, es[k]? = some e → L = e.2.2.1 ++ e.2.2.2 → ∀ x, x ∈ L → 0 ≤ x ∧ x < (n' : Int) := fun {k e L} hk hL x hx => by
    have hm := mem_edW_of (List.mem_of_getElem? hk)
    rw [hL] at hx
    rcases List.mem_append.1 hx with hx | hx
    · exact inW_iff.1 hin2 x (hm.1 x hx)
    · exact inW_iff.1 hin2 x (hm.2 x hx)
  have hegB' : ∀ e, e ∈ es → egB e = true := hegB
  obtain ⟨m, hm⟩ : ∃ m, m = hs.length := ⟨_, rfl⟩
  have hLm : es.length = m := by rw [a1, List.length_map, hm]
  have hm60' : es.length ≤ 60 := hm60
  change clsK n' es es.length = C at hCK
  rw [hLm] at hCK hCls hm60'
  obtain ⟨p, hp⟩ : ∃ p, p = s.length := ⟨_, rfl⟩
  obtain ⟨r, hr⟩ : ∃ r, r = t.length := ⟨_, rfl⟩
  show Calls Try.prog _ #[.agg #[.int .i64 (n' : Int), .slice A hs.length c, .slice B s.length b, .slice C' t.length d']] w _
  rw [← hm, ← hp, ← hr]
  obtain ⟨n, rfl⟩ : ∃ x, x = n' := ⟨_, rfl⟩
  obtain ⟨W, hW, bW, k0⟩ := (⟨_, rfl, below_alloc _ _, heap_alloc_new _ _⟩ : ∃ W, W = w.alloc (.cells #[.int .i64 (n : Int), .slice A m c, .slice B p b, .slice C' r d'] tGr) ∧ Below w.heap.size w W ∧ W.heap[w.heap.size]? = some (.cells #[.int .i64 (n : Int), .slice A m c, .slice B p b, .slice C' r d'] tGr))
  have hU := upTo_any n W (by omega)
  have hZ := fun (W' : World) => zeros_any n W' (by omega)
  have hCm := hCls m (Nat.le_refl _)
  rw [hCK] at hCm
  obtain ⟨⟨c0, c1, c2, c3⟩, f0, f1, f2, f3⟩ := box4 k0
  clear hRa hRb e1 e2 e3 hgn hv e1' hin hin2 hegB hC
  have hE_h := Lib.hid hE
  have hCK_h := Lib.hid hCK
  have hCls_h := Lib.hid hCls
  have hegB'_h := Lib.hid hegB'
  have hm_h := Lib.hid hm
  have hLm_h := Lib.hid hLm
  have a1_h := Lib.hid a1
  have hp_h := Lib.hid hp
  have hr_h := Lib.hid hr
  have bW_h := Lib.hid bW
  have k0_h := Lib.hid k0
  have hU_h := Lib.hid hU
  have hZ_h := Lib.hid hZ
  have hCm_h := Lib.hid hCm
  clear hE hCK hCls hegB' hm hLm a1 hp hr bW k0 hU hZ hCm
  go_enter Try.func49, Try.ntmps49
  go_upto_region 1 with (fail)
  rw [← hW]
  clear hW
  go_wp2_with (fail)
  refine (hU_h.out).mono ?_
  rintro e w1 ⟨G, rfl, hG1, hGb, hb1⟩
  have k1 := box_below k0_h.out hb1
  clear c0 c1 c2 c3 f0 f1 f2 f3
  obtain ⟨⟨c0, c1, c2, c3⟩, f0, f1, f2, f3⟩ := box4 k1
  have hG1_h := Lib.hid hG1
  have hb1_h := Lib.hid hb1
  have k1_h := Lib.hid k1
  clear hG1 hb1 k1
  go_wp2_with (fail)
  clear c0 c1 c2 c3 f0 f1 f2 f3
  go_loopw [20] (fun i wr => ∃ (k : Nat) (P : List Int), k ≤ m ∧ i = .int .i64 k ∧ IS wr (some G) n P ∧ Par n P (clsK n es k) ∧ Below W.heap.size W wr) (fun i _ => m - (intOf i).toNat)
  case atStart => exact ⟨0, _, Nat.zero_le _, rfl, hG1_h.out, by rw [clsK_zero]; exact Par.id n, hb1_h.out⟩
  case round =>
    clear hG1_h hb1_h k1_h
    obtain ⟨k, Pk, hk, rfl, hIS, hPar, hB1⟩ := hrel
    obtain ⟨wo, rfl⟩ : ∃ x, x = wr := ⟨_, rfl⟩
    have kr := box_below k0_h.out hB1
    have hBw := below_trans bW_h.out hB1 bW_h.out.size
    by_cases hlt : k < m
    · obtain ⟨ad, κ, vv, B1, b1, s1, C1, b2, t1, rfl, hn, ⟨d0, d1, d2, d3⟩, hr1, hr2⟩ := (hE_h.out.below hBw).at_ (j := k) (by rw [← hm_h.out]; exact hlt)
      have hek : es[k]? = some (κ, vv, s1, t1) := by rw [a1_h.out, List.getElem?_map, hn]; rfl
      obtain ⟨⟨l1, l2⟩, l3⟩ := egB_len (hegB'_h.out _ (List.mem_of_getElem? hek))
      simp only at l1 l2 l3
      have hClk := hCls_h.out k hk
      have hClk1 := hCls_h.out (k + 1) (by omega)
      rw [clsK_step hek] at hClk1
      obtain ⟨p1, hp1⟩ : ∃ p1, p1 = s1.length := ⟨_, rfl⟩
      obtain ⟨r1, hr1'⟩ : ∃ r1, r1 = t1.length := ⟨_, rfl⟩
      obtain ⟨L, hL⟩ : ∃ L, L = s1 ++ t1 := ⟨_, rfl⟩
      obtain ⟨q, hq⟩ : ∃ q, q = L.length := ⟨_, rfl⟩
      have hqp : q = p1 + r1 := by rw [hq, hL, List.length_append, hp1, hr1']
      have hq1 : 1 ≤ q := by rw [hqp, hp1, hr1']; exact l3
      have hq4 : q ≤ 4 := by rw [hqp, hp1, hr1']; omega
      have hstep := clsK_step (n := n) hek
      simp only [← hL, ← hp1, ← hr1', ← hqp] at hstep hClk1
      have hqp_h := Lib.hid hqp
      clear hqp
      have hLin : ∀ x, x ∈ L → 0 ≤ x ∧ x < (n : Int) := hLr hek hL
      obtain ⟨a, ha0, han, haL⟩ := getD0_in hLin (by rw [← hq]; omega)
      obtain ⟨W6, hW6, bW6, k6⟩ := (⟨_, rfl, below_alloc _ _, heap_alloc_new _ _⟩ : ∃ W, W = wo.alloc (.cells #[.int .i64 κ, .int .i64 vv, .slice B1 p1 b1, .slice C1 r1 b2] tEd) ∧ Below wo.heap.size wo W ∧ W.heap[wo.heap.size]? = some (.cells #[.int .i64 κ, .int .i64 vv, .slice B1 p1 b1, .slice C1 r1 b2] tEd))
      have hJ0 := joined_any (some ⟨W6.heap.size, 0, none⟩) 2 [(B1, b1, s1), (C1, b2, t1)] (W6.alloc (.cells #[.slice B1 s1.length b1, .slice C1 t1.length b2] 23)) (rd2 (hr1.below bW6) (hr2.below bW6)) (by simp) (by simp; omega)
      rw [show (([(B1, b1, s1), (C1, b2, t1)] : List Hd).map fun h : Hd => h.2.2).flatten = L by rw [hL]; simp, ← hp1, ← hr1'] at hJ0
      have hJ : Calls Try.prog 94 #[.slice (some ⟨W6.heap.size, 0, none⟩) 2 2] (W6.alloc (.cells #[.slice B1 p1 b1, .slice C1 r1 b2] 23)) (RetI (W6.alloc (.cells #[.slice B1 p1 b1, .slice C1 r1 b2] 23)) L) := hJ0
      unfold RetI at hJ
      have bW7 := below_alloc W6 (.cells #[.slice B1 p1 b1, .slice C1 r1 b2] 23)
      rw [← hp1] at d2
      rw [← hr1'] at d3
      obtain ⟨⟨c0, c1, c2, c3⟩, f0, f1, f2, f3⟩ := box4 k6
      obtain ⟨⟨y0, y1, y2, y3⟩, g0, g1, g2, g3⟩ := box4 kr
      have hr1_h := Lib.hid hr1'
      have hkI : (k : Int) < (m : Int) := by omega
      clear hr1' hr1 hr2 hn hJ0 kr
      have hJ_h := Lib.hid hJ
      have hek_h := Lib.hid hek
      have hp1_h := Lib.hid hp1
      have bW6_h := Lib.hid bW6
      have k6_h := Lib.hid k6
      have hIS_h := Lib.hid hIS
      have hPar_h := Lib.hid hPar
      have hB1_h := Lib.hid hB1
      have hBw_h := Lib.hid hBw
      have hClk_h := Lib.hid hClk
      have hClk1_h := Lib.hid hClk1
      have hL_h := Lib.hid hL
      have hq_h := Lib.hid hq
      have hstep_h := Lib.hid hstep
      have hLin_h := Lib.hid hLin
      have ha0_h := Lib.hid ha0
      have haL_h := Lib.hid haL
      have bW7_h := Lib.hid bW7
      clear hJ hek hp1 bW6 k6 hIS hPar hB1 hBw hClk hClk1 hL hq hstep hLin ha0 haL bW7
      go_upto_region 5 with (fail)
      rw [← hW6]
      clear hW6 d0 d1 d2 d3 y0 y1 y2 y3 g0 g1 g2 g3
      go_wp2_with (fail)
      refine (hJ_h.out).mono ?_
      rintro e w7 ⟨A7, c7, rfl, hI7, hF7, hb7⟩
      rw [← hq_h.out]
      have hb8 := below_trans bW6_h.out (below_trans bW7_h.out hb7 bW7_h.out.size) bW6_h.out.size
      have hB7 := below_trans hB1_h.out hb8 hB1_h.out.size
      have hG7 := hIS_h.out.below hb8
      have hGl := hIS_h.out.lt G.block (by simp)
      have hA7 : ∀ b, b ∈ fpA A7 → ¬ b ∈ fpA (some G) := fun b hb hb' => by
        have h1 := hF7 b hb
        have h2 := bW6_h.out.size
        have h3 := bW7_h.out.size
        simp at hb'; omega
      obtain ⟨gd, y0', rfl, _⟩ := hI7.at_ (j := 0) (by rw [← hq_h.out]; omega)
      clear c0 c1 c2 c3 f0 f1 f2 f3 hF7 hb7 hb8
      have hI7_h := Lib.hid hI7
      have hB7_h := Lib.hid hB7
      have hG7_h := Lib.hid hG7
      have hA7_h := Lib.hid hA7
      clear hI7 hB7 hG7 hA7
      go_wp2_with (fail)
      go_loopw [32] (fun i wr => ∃ (j : Nat) (P : List Int), j ≤ q ∧ i = .int .i64 j ∧ IS wr (some G) n P ∧ Par n P (clsJ (clsK n es k) L j) ∧ IS wr (some gd) c7 L ∧ Below W.heap.size W wr) (fun i _ => q - (intOf i).toNat)
      case atStart => exact ⟨0, Pk, Nat.zero_le _, rfl, hG7_h.out, by rw [clsJ_zero]; exact hPar_h.out, hI7_h.out, hB7_h.out⟩
      case round =>
        clear hG7_h hI7_h hB7_h
        obtain ⟨j, Pj, hj, rfl, hISj, hParj, hIj, hBj⟩ := hrel
        obtain ⟨wi, rfl⟩ : ∃ x, x = wr := ⟨_, rfl⟩
        by_cases hltj : j < q
        · obtain ⟨x, hx⟩ : ∃ x, L[j]? = some x := ⟨_, List.getElem?_eq_getElem (by rw [← hq_h.out]; exact hltj)⟩
          have hxr := hLin_h.out x (List.mem_of_getElem? hx)
          obtain ⟨bb, rfl⟩ : ∃ bb : Nat, x = (bb : Int) := ⟨x.toNat, by omega⟩
          have hjn := join_any G n a bb Pj _ wi hISj hParj (hClk_h.out.clsJ hLin_h.out j) han (by omega)
          rw [← clsJ_step ha0_h.out hx] at hjn
          obtain ⟨gd0, g0e, y0⟩ := hIj.rd 0 _ haL_h.out
          obtain rfl := Option.some.inj g0e
          have y00 : wi.cell? gd = some (.int .i64 (a : Int)) := y0
          obtain ⟨gd1, g1e, y1⟩ := hIj.rd j _ hx
          obtain rfl := Option.some.inj g1e
          have hjI : (j : Int) < (q : Int) := by omega
          have hq0 : (0 : Int) < (q : Int) := by omega
          clear hISj hParj g0e g1e hxr
          have hjn_h := Lib.hid hjn
          have hx_h := Lib.hid hx
          have hIj_h := Lib.hid hIj
          have hBj_h := Lib.hid hBj
          clear hjn hx hIj hBj
          go_wp2_with (fail)
          refine (hjn_h.out).mono ?_
          rintro e w9 ⟨rfl, P9, hI9, hP9, hk9⟩
          have hI9' := hIj_h.out.keeps hk9 hA7_h.out
          have hB9 := below_keeps hBj_h.out hk9 hBj_h.out.size (fun b hb => by simp at hb; omega)
          clear y0 y00 y1 hk9
          have hI9_h := Lib.hid hI9
          have hP9_h := Lib.hid hP9
          have hI9'_h := Lib.hid hI9'
          have hB9_h := Lib.hid hB9
          clear hI9 hP9 hI9' hB9
          go_wp2_with (fail)
          go_roundw
          case rel => exact ⟨j + 1, P9, by omega, by go_num, hI9_h.out, hP9_h.out, hI9'_h.out, hB9_h.out⟩
          case measure => simp [intOf]; omega
        · obtain rfl : q = j := by omega
          rw [← hstep_h.out] at hParj
          clear hIj
          have hISj_h := Lib.hid hISj
          have hParj_h := Lib.hid hParj
          have hBj_h := Lib.hid hBj
          clear hISj hParj hBj
          go_wp2_with (fail)
          go_roundw
          case rel => exact ⟨k + 1, Pj, by omega, by go_num, hISj_h.out, hParj_h.out, hBj_h.out⟩
          case measure => simp [intOf]; omega
    · obtain rfl : m = k := by omega
      rw [hCK_h.out] at hPar
      obtain ⟨⟨y0, y1, y2, y3⟩, g0, g1, g2, g3⟩ := box4 kr
      have hZw := hZ_h.out wo
      clear kr
      have hIS_h := Lib.hid hIS
      have hPar_h := Lib.hid hPar
      have hB1_h := Lib.hid hB1
      have hBw_h := Lib.hid hBw
      have hZw_h := Lib.hid hZw
      clear hIS hPar hB1 hBw hZw
      go_wp2_with (fail)
      refine (hZw_h.out).mono ?_
      rintro e w2 ⟨Z, rfl, hZ0, hZb, hb2⟩
      have hIS2 := hIS_h.out.below hb2
      have hB2 := below_trans hB1_h.out hb2 hB1_h.out.size
      have hGZ : ∀ b, b ∈ fpA (some G) → ¬ b ∈ fpA (some Z) := fun b hb hb' => by
        have := hIS_h.out.lt G.block (by simp)
        simp at hb hb'; omega
      have hWo := hB1_h.out.size
      clear y0 y1 y2 y3 g0 g1 g2 g3 hb2
      have hZ0_h := Lib.hid hZ0
      have hIS2_h := Lib.hid hIS2
      have hB2_h := Lib.hid hB2
      have hGZ_h := Lib.hid hGZ
      clear hZ0 hIS2 hB2 hGZ
      go_wp2_with (fail)
      go_loopw [49, 11] (fun i u wr => ∃ k : Nat, k ≤ n ∧ i = .int .i64 k ∧ u = .int .i64 (nrM C k : Int) ∧ IS wr (some Z) n ((numM C).take k ++ List.replicate (n - k) 0) ∧ IS wr (some G) n Pk ∧ Below W.heap.size W wr) (fun i _ _ => n - (intOf i).toNat)
      case atStart => exact ⟨0, Nat.zero_le _, rfl, rfl, by simpa using hZ0_h.out, hIS2_h.out, hB2_h.out⟩
      case round =>
        clear hZ0_h hIS2_h hB2_h
        obtain ⟨k, hk, rfl, rfl, hIZ, hIG, hBk⟩ := hrel
        obtain ⟨wi, rfl⟩ : ∃ x, x = wr := ⟨_, rfl⟩
        have hnl : (numM C).length = n := by rw [numM_length, hCm_h.out.len]
        by_cases hlt : k < n
        · have hroot := root_any G n k Pk C wi hIG.rd hPar_h.out hlt
          obtain ⟨hr0, hrk⟩ := hCm_h.out.le k hlt
          obtain ⟨u, hu⟩ : ∃ u : Nat, C.getD k 0 = (u : Int) := ⟨(C.getD k 0).toNat, by omega⟩
          have hfu := hCm_h.out.fix k hlt
          rw [hu] at hroot hr0 hrk hfu
          rw [Int.toNat_natCast] at hfu
          have hnk := numM_at hCm_h.out hlt hu
          have htk := numM_take hnk
          have hlenZ : ((numM C).take k ++ List.replicate (n - k) (0 : Int)).length = n := by rw [List.length_append, List.length_take, List.length_replicate, hnl]; omega
          have hstep : ((numM C).take k ++ List.replicate (n - k) (0 : Int)).set k (nrM C u : Int) = (numM C).take (k + 1) ++ List.replicate (n - (k + 1)) 0 := by
            rw [htk]; exact set_rep_step _ _ _ (by rw [List.length_take, hnl]; omega) hlt
          have hset := hIZ.set (ad := Z) rfl (j := k) (nrM C u : Int) (by rw [hlenZ]; exact hlt)
          rw [hstep] at hset
          have hks : Keeps (· ∈ fpA (some Z)) wi (wi.setCell (Z.add k) (.int .i64 (nrM C u : Int))) := Keeps.setCell (S := (· ∈ fpA (some Z))) (Keeps.refl _ wi) (p := Z.add k) (by rw [block_of_add]; simp) _
          have hIG2 := hIG.keeps hks hGZ_h.out
          have hBk2 := below_keeps hBk hks hBk.size (fun b hb => by simp at hb; omega)
          obtain ⟨zd, z0, ze, _, _, zc, zf⟩ := hIZ.at_ (j := k) (by rw [hlenZ]; exact hlt)
          obtain rfl := Option.some.inj ze
          have zfk := zf k
          have hkI : (k : Int) < (n : Int) := by omega
          have hle := nrM_le C k
          by_cases huk : u < k
          · have huI : (u : Int) < (k : Int) := by omega
            have hsk : nrM C (k + 1) = nrM C k := nrM_skip (by rw [hu]; omega)
            have hnu := numM_at hCm_h.out (k := u) (r := u) (by omega) hfu
            have hzu : ((numM C).take k ++ List.replicate (n - k) (0 : Int))[u]? = some (nrM C u : Int) := by
              rw [List.getElem?_append_left (by rw [List.length_take, hnl]; omega), List.getElem?_take_of_lt huk]; exact hnu
            obtain ⟨zd2, ze2, zcu⟩ := hIZ.rd u _ hzu
            obtain rfl := Option.some.inj ze2
            have huI2 : (u : Int) < (n : Int) := by omega
            clear zf hnk htk hstep hnl hlenZ hIZ hIG hks ze ze2 hfu hr0 hrk
            have hroot_h := Lib.hid hroot
            have hset_h := Lib.hid hset
            have hIG2_h := Lib.hid hIG2
            have hBk2_h := Lib.hid hBk2
            have hsk_h := Lib.hid hsk
            have hu_h := Lib.hid hu
            have hnu_h := Lib.hid hnu
            have hzu_h := Lib.hid hzu
            clear hroot hset hIG2 hBk2 hsk hu hnu hzu
            go_wp2_with (fail)
            refine (hroot_h.out).mono ?_
            rintro e w' ⟨rfl, rfl⟩
            go_wp2_with (fail)
            go_roundw
            case rel => exact ⟨k + 1, by omega, by go_num, by rw [hsk_h.out], hset_h.out, hIG2_h.out, hBk2_h.out⟩
            case measure => simp [intOf]; omega
          · obtain rfl : u = k := by omega
            have hsk : nrM C (u + 1) = nrM C u + 1 := nrM_new hu
            have huI : ¬ (u : Int) < (u : Int) := by omega
            clear zf hnk htk hstep hnl hlenZ hIZ hIG hks ze hfu hr0 hrk
            have hroot_h := Lib.hid hroot
            have hset_h := Lib.hid hset
            have hIG2_h := Lib.hid hIG2
            have hBk2_h := Lib.hid hBk2
            have hsk_h := Lib.hid hsk
            have hu_h := Lib.hid hu
            clear hroot hset hIG2 hBk2 hsk hu
            go_wp2_with (fail)
            refine (hroot_h.out).mono ?_
            rintro e w' ⟨rfl, rfl⟩
            go_wp2_with (fail)
            go_roundw
            case rel => exact ⟨u + 1, by omega, by go_num, by rw [hsk_h.out]; go_num, hset_h.out, hIG2_h.out, hBk2_h.out⟩
            case measure => simp [intOf]; omega
        · obtain rfl : n = k := by omega
          rw [List.take_of_length_le (by omega), Nat.sub_self, List.replicate_zero, List.append_nil] at hIZ
          have hBz := below_trans bW_h.out hBk bW_h.out.size
          have hFz : Fresh w.heap.size (some Z) := fun b hb => by
            have := bW_h.out.size
            simp at hb; omega
          clear hIG hBk hnl
          have hIZ_h := Lib.hid hIZ
          have hBz_h := Lib.hid hBz
          have hFz_h := Lib.hid hFz
          clear hIZ hBz hFz
          go_wp2_with (fail)
          go_ret2
          exact ⟨some Z, n, rfl, hIZ_h.out, hFz_h.out, hBz_h.out⟩
end Go.Proofs.Ytanhmljgeiajoaa

