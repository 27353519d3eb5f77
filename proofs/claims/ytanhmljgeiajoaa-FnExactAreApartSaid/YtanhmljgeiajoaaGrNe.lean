/-
  THE WALKS: impl.areApart, spec.mtApart.
-/
import Derived.Test.YtanhmljgeiajoaaGrNd
namespace Go.Proofs.Ytanhmljgeiajoaa
open Go.RowKit

theorem allocs4 (w : World) (o1 o2 o3 o4 : Obj) : ∃ W, W = (((w.alloc o1).alloc o2).alloc o3).alloc o4 ∧ Below w.heap.size w W ∧ W.heap[w.heap.size]? = some o1 ∧ W.heap[w.heap.size + 1]? = some o2 ∧ W.heap[w.heap.size + 1 + 1]? = some o3 ∧ W.heap[w.heap.size + 1 + 1 + 1]? = some o4 := by
  obtain ⟨W, hW, hb, h1, h2, h3⟩ := allocs3 w o1 o2 o3
  refine ⟨W.alloc o4, by rw [hW], below_trans hb (below_alloc _ _) hb.size, box_below h1 (below_alloc _ _), box_below h2 (below_alloc _ _), box_below h3 (below_alloc _ _), ?_⟩
  have := heap_alloc_new W o4
  rw [hW] at this ⊢
  simp only [World.size_alloc] at this
  exact this
theorem allocs5 (w : World) (o1 o2 o3 o4 o5 : Obj) : ∃ W, W = ((((w.alloc o1).alloc o2).alloc o3).alloc o4).alloc o5 ∧ Below w.heap.size w W ∧ W.heap[w.heap.size]? = some o1 ∧ W.heap[w.heap.size + 1]? = some o2 ∧ W.heap[w.heap.size + 1 + 1]? = some o3 ∧ W.heap[w.heap.size + 1 + 1 + 1]? = some o4 ∧ W.heap[w.heap.size + 1 + 1 + 1 + 1]? = some o5 := by
  obtain ⟨W, hW, hb, h1, h2, h3, h4⟩ := allocs4 w o1 o2 o3 o4
  refine ⟨W.alloc o5, by rw [hW], below_trans hb (below_alloc _ _) hb.size, box_below h1 (below_alloc _ _), box_below h2 (below_alloc _ _), box_below h3 (below_alloc _ _), box_below h4 (below_alloc _ _), ?_⟩
  have := heap_alloc_new W o5
  rw [hW] at this ⊢
  simp only [World.size_alloc] at this
  exact this

set_option maxRecDepth 100000 in
set_option maxHeartbeats 4000000 in
theorem areApart_any {vp va vo vb : Value} {pt ot : Gr} {ma mb : Ma} (w : World) (hp : RdGr w vp pt) (ha : RdMa w va ma) (ho : RdGr w vo ot) (hb : RdMa w vb mb) (okp : OkG pt) (oka : OkMa ma) (oko : OkG ot) (okb : OkMa mb) (hn : mb.1.Nodup) :
    Calls Try.prog 71 #[vp, va, vo, vb] w fun e w' => e = .returned (.bool (apB pt ma ot mb)) ∧ Below w.heap.size w w' := by
  obtain ⟨T, hT⟩ : ∃ T, T = apB pt ma ot mb := ⟨_, rfl⟩
  rw [← hT]
  unfold apB at hT
  have hp0 := hp
  have ho0 := ho
  obtain ⟨A, c, hs, ⟨B, b, s⟩, ⟨C, d, t⟩, rfl, e1, e2, e3, hE, hRa, hRb⟩ := hp
  obtain ⟨A', c', hs', ⟨B', b', s'⟩, ⟨C', d', t'⟩, rfl, e1', e2', e3', hE', hRa', hRb'⟩ := ho
  obtain ⟨⟨X, x, u⟩, ⟨Y, y, v⟩, rfl, f1, f2, hU, hV⟩ := ha
  obtain ⟨⟨X', x', u'⟩, ⟨Y', y', v'⟩, rfl, f1', f2', hU', hV'⟩ := hb
  obtain ⟨z, L, s0, t0⟩ := pt
  obtain ⟨z', L', s0', t0'⟩ := ot
  obtain ⟨u0, v0⟩ := ma
  obtain ⟨u0', v0'⟩ := mb
  have a2 : s = s0 := e2
  have a3 : t = t0 := e3
  have a2' : s' = s0' := e2'
  have a3' : t' = t0' := e3'
  have a4 : u = u0 := f1
  have a5 : v = v0 := f2
  have a4' : u' = u0' := f1'
  have a5' : v' = v0' := f2'
  subst a2 a3 a2' a3' a4 a5 a4' a5'
  have ls : s.length ≤ 1048576 := okp.1.2.1
  have lt : t.length ≤ 1048576 := okp.1.2.2
  have ls' : s'.length ≤ 1048576 := oko.1.2.1
  have lt' : t'.length ≤ 1048576 := oko.1.2.2
  have lu : u.length ≤ 1048576 := oka.1
  have lv : v.length ≤ 1048576 := oka.2.1
  have lu' : u'.length ≤ 1048576 := okb.1
  have lv' : v'.length ≤ 1048576 := okb.2.1
  have hRs : RdI w B s := hRa
  have hRt : RdI w C t := hRb
  have hRs' : RdI w B' s' := hRa'
  have hRt' : RdI w C' t' := hRb'
  have hRu : RdI w X u := hU
  have hRv : RdI w Y v := hV
  have hRu' : RdI w X' u' := hU'
  have hRv' : RdI w Y' v' := hV'
  show Calls Try.prog _ #[.agg #[.int .i64 z, .slice A hs.length c, .slice B s.length b, .slice C t.length d], .agg #[.slice X u.length x, .slice Y v.length y], .agg #[.int .i64 z', .slice A' hs'.length c', .slice B' s'.length b', .slice C' t'.length d'], .agg #[.slice X' u'.length x', .slice Y' v'.length y']] w _
  change RdGr w (.agg #[.int .i64 z, .slice A hs.length c, .slice B s.length b, .slice C t.length d]) (z, L, s, t) at hp0
  change RdGr w (.agg #[.int .i64 z', .slice A' hs'.length c', .slice B' s'.length b', .slice C' t'.length d']) (z', L', s', t') at ho0
  obtain ⟨q, hq⟩ : ∃ p, p = hs.length := ⟨_, rfl⟩
  obtain ⟨q', hq'⟩ : ∃ p, p = hs'.length := ⟨_, rfl⟩
  obtain ⟨p, hpl⟩ : ∃ p, p = s.length := ⟨_, rfl⟩
  obtain ⟨r, hr⟩ : ∃ p, p = t.length := ⟨_, rfl⟩
  obtain ⟨p', hpl'⟩ : ∃ p, p = s'.length := ⟨_, rfl⟩
  obtain ⟨r', hr'⟩ : ∃ p, p = t'.length := ⟨_, rfl⟩
  obtain ⟨nu, hnu⟩ : ∃ p, p = u.length := ⟨_, rfl⟩
  obtain ⟨nv, hnv⟩ : ∃ p, p = v.length := ⟨_, rfl⟩
  obtain ⟨nu', hnu'⟩ : ∃ p, p = u'.length := ⟨_, rfl⟩
  obtain ⟨nv', hnv'⟩ : ∃ p, p = v'.length := ⟨_, rfl⟩
  rw [← hq, ← hpl, ← hr] at hp0
  rw [← hq', ← hpl', ← hr'] at ho0
  rw [← hnu] at lu
  rw [← hnv] at lv
  rw [← hnu'] at lu'
  rw [← hnv'] at lv'
  rw [← hpl] at ls
  rw [← hr] at lt
  rw [← hpl'] at ls'
  rw [← hr'] at lt'
  rw [← hq, ← hq', ← hpl, ← hpl', ← hr, ← hr', ← hnu, ← hnv, ← hnu', ← hnv']
  obtain ⟨W, hW, bW, k4, k5, k6, k7⟩ := allocs4 w (.cells #[.int .i64 z, .slice A q c, .slice B p b, .slice C r d] tGr) (.cells #[.slice X nu x, .slice Y nv y] tMa) (.cells #[.int .i64 z', .slice A' q' c', .slice B' p' b', .slice C' r' d'] tGr) (.cells #[.slice X' nu' x', .slice Y' nv' y'] tMa)
  have hCe := fun (e : Int) (W' : World) (hb : Below w.heap.size w W') => contains_any Y' y' nv' v' e W' (hRv'.below hb) hnv'.symm lv'
  have hIx := fun (e : Int) (W' : World) (hb : Below w.heap.size w W') => index_any X' x' nu' u' e W' (hRu'.below hb) hnu'.symm lu'
  have hMs := fun (i j : Int) (W' : World) (hb : Below w.heap.size w W') => mayShare_any i j W' (hp0.below hb) (ho0.below hb) okp oko
  have hn' : u'.Nodup := hn
  obtain ⟨PT, hPT⟩ : ∃ PT : Gr, PT = (z, L, s, t) := ⟨_, rfl⟩
  obtain ⟨OT, hOT⟩ : ∃ PT : Gr, PT = (z', L', s', t') := ⟨_, rfl⟩
  simp only [← hPT, ← hOT] at hMs hT
  have hT1 : (v.all fun e => !v'.contains e) = false → T = false := fun hh => by rw [hT, hh]; rfl
  have hT2 : ∀ i : Nat, i < nu → apAt PT OT (i : Int) (u.getD i 0) u' = false → T = false := fun i hi hh => by
    rw [hT, Bool.and_eq_false_iff]
    right
    rw [List.all_eq_false]
    exact ⟨i, List.mem_range.2 (by rw [← hnu]; exact hi), by rw [hh]; decide⟩
  have hT3 : (v.all fun e => !v'.contains e) = true → ((List.range nu).all fun i => apAt PT OT (i : Int) (u.getD i 0) u') = true → T = true := fun h1 h2 => by
    rw [hT, h1, ← hnu]; exact h2
  obtain ⟨⟨c0, c1, c2, c3⟩, c4, c5, c6, c7⟩ := box4 k4
  obtain ⟨⟨i0, i1⟩, i2, i3⟩ := box2 k5
  obtain ⟨⟨d0, d1, d2, d3⟩, d4, d5, d6, d7⟩ := box4 k6
  obtain ⟨⟨j0, j1⟩, j2, j3⟩ := box2 k7
  clear hRa hRb hRa' hRb' hE hE' e1 e2 e3 e1' e2' e3' f1 f2 f1' f2' hU hV hU' hV' hRs hRt hRs' hRt' hp0 ho0 okp oka oko okb hT hn ls lt ls' lt' hpl hr hpl' hr' hq hq' hPT hOT
  have bW_h := Lib.hid bW
  have k4_h := Lib.hid k4
  have k5_h := Lib.hid k5
  have k6_h := Lib.hid k6
  have k7_h := Lib.hid k7
  have hCe_h := Lib.hid hCe
  have hIx_h := Lib.hid hIx
  have hMs_h := Lib.hid hMs
  have hT1_h := Lib.hid hT1
  have hT2_h := Lib.hid hT2
  have hT3_h := Lib.hid hT3
  have hn'_h := Lib.hid hn'
  have hnu_h := Lib.hid hnu
  have hnv_h := Lib.hid hnv
  have hnu'_h := Lib.hid hnu'
  have hnv'_h := Lib.hid hnv'
  have hRu_h := Lib.hid hRu
  have hRv_h := Lib.hid hRv
  have hRu'_h := Lib.hid hRu'
  have hRv'_h := Lib.hid hRv'
  clear bW k4 k5 k6 k7 hCe hIx hMs hT1 hT2 hT3 hn' hnu hnv hnu' hnv' hRu hRv hRu' hRv'
  go_enter Try.func71, Try.ntmps71
  go_upto_region 1 with (fail)
  rw [← hW]
  clear hW
  go_wp2_with (fail)
  go_loopw [17] (fun i wr => ∃ k : Nat, k ≤ nv ∧ i = .int .i64 k ∧ ((v.take k).all fun e => !v'.contains e) = true ∧ wr = W) (fun i _ => nv - (intOf i).toNat)
  case atStart => exact ⟨0, Nat.zero_le _, rfl, by simp, rfl⟩
  case round =>
    obtain ⟨k, hk, rfl, hal, rfl⟩ := hrel
    by_cases hlt : k < nv
    · obtain ⟨ad, e, rfl, hx, hc⟩ := (hRv_h.out.below bW_h.out).at_ (j := k) (by rw [← hnv_h.out]; exact hlt)
      have hkI : (k : Int) < (nv : Int) := by omega
      have hCe1 := hCe_h.out e _ bW_h.out
      obtain ⟨E, hE⟩ : ∃ E, E = v'.contains e := ⟨_, rfl⟩
      rw [← hE] at hCe1
      cases E
      case true =>
        have ht : T = false := hT1_h.out (by
          rw [List.all_eq_false]
          exact ⟨e, List.mem_of_getElem? hx, by rw [← hE]; decide⟩)
        subst ht
        have hx_h := Lib.hid hx
        have hal_h := Lib.hid hal
        have hE_h := Lib.hid hE
        have hCe1_h := Lib.hid hCe1
        clear hx hal hE hCe1
        go_wp2_with (fail)
        refine (hCe1_h.out).mono ?_
        rintro e w1 ⟨rfl, rfl⟩
        go_wp2_with (fail)
        go_ret
        exact ⟨rfl, bW_h.out⟩
      case false =>
        have hal2 : ((v.take (k + 1)).all fun e => !v'.contains e) = true := by
          rw [List.take_add_one, hx, List.all_append, hal]
          simp only [Option.toList_some, List.all_cons, List.all_nil, ← hE]
          rfl
        have hx_h := Lib.hid hx
        have hal_h := Lib.hid hal
        have hE_h := Lib.hid hE
        have hCe1_h := Lib.hid hCe1
        have hal2_h := Lib.hid hal2
        clear hx hal hE hCe1 hal2
        go_wp2_with (fail)
        refine (hCe1_h.out).mono ?_
        rintro e w1 ⟨rfl, rfl⟩
        go_wp2_with (fail)
        go_roundw
        case rel => exact ⟨k + 1, by omega, by go_num, hal2_h.out, trivial⟩
        case measure => simp [intOf]; omega
    · obtain rfl : nv = k := by omega
      rw [List.take_of_length_le (by rw [← hnv_h.out]; exact Nat.le_refl _)] at hal
      obtain ⟨wo, rfl⟩ : ∃ x, x = wr := ⟨_, rfl⟩
      have hal_h := Lib.hid hal
      clear hal
      go_wp2_with (fail)
      go_loopw [29] (fun i wr => ∃ k : Nat, k ≤ nu ∧ i = .int .i64 k ∧ ((List.range k).all fun i => apAt PT OT (i : Int) (u.getD i 0) u') = true ∧ Below wo.heap.size wo wr) (fun i _ => nu - (intOf i).toNat)
      case atStart => exact ⟨0, Nat.zero_le _, rfl, rfl, Below.refl _ _⟩
      case round =>
        clear c0 c1 c2 c3 c4 c5 c6 c7 i0 i1 i2 i3 d0 d1 d2 d3 d4 d5 d6 d7 j0 j1 j2 j3
        obtain ⟨k, hk, rfl, hal2, hB⟩ := hrel
        obtain ⟨w2, rfl⟩ : ∃ x, x = wr := ⟨_, rfl⟩
        have hBw := below_trans bW_h.out hB bW_h.out.size
        by_cases hlt : k < nu
        case neg =>
          obtain rfl : nu = k := by omega
          obtain rfl : T = true := hT3_h.out hal_h.out hal2
          have hal2_h := Lib.hid hal2
          have hB_h := Lib.hid hB
          have hBw_h := Lib.hid hBw
          clear hal2 hB hBw
          go_wp2_with (fail)
          go_ret
          exact ⟨rfl, hBw_h.out⟩
        obtain ⟨ad, e, rfl, hx, hc⟩ := (hRu_h.out.below hBw).at_ (j := k) (by rw [← hnu_h.out]; exact hlt)
        have hkI : (k : Int) < (nu : Int) := by omega
        have hIx1 := hIx_h.out e w2 hBw
        have hgd : u.getD k 0 = e := by rw [List.getD_eq_getElem?_getD, hx]; rfl
        have k4r := box_below k4_h.out hB
        have k6r := box_below k6_h.out hB
        have k7r := box_below k7_h.out hB
        obtain ⟨⟨j0, j1⟩, j2, j3⟩ := box2 k7r
        have hal3 : apAt PT OT (k : Int) (u.getD k 0) u' = true → ((List.range (k + 1)).all fun i => apAt PT OT (i : Int) (u.getD i 0) u') = true := fun hh => by
          rw [List.range_succ, List.all_append, hal2]
          simp only [List.all_cons, List.all_nil, hh]; rfl
        have ht2 := hT2_h.out k hlt
        rw [hgd] at hal3 ht2
        by_cases hcn : u'.contains e = true
        case neg =>
          have hcf : u'.contains e = false := by simpa using hcn
          have hidx : idxI u' e = -1 := idxI_no hcf
          rw [hidx] at hIx1
          have hal4 := hal3 (apAt_no (by rw [Bool.eq_false_iff, ne_eq, List.contains_iff_mem] at hcf; exact hcf))
          clear hcn hal3 ht2 hgd k4r k6r k7r hidx
          have hx_h := Lib.hid hx
          have hIx1_h := Lib.hid hIx1
          have hcf_h := Lib.hid hcf
          have hal2_h := Lib.hid hal2
          have hal4_h := Lib.hid hal4
          have hB_h := Lib.hid hB
          have hBw_h := Lib.hid hBw
          clear hx hIx1 hcf hal2 hal4 hB hBw
          go_wp2_with (fail)
          refine (hIx1_h.out).mono ?_
          rintro e w3 ⟨rfl, rfl⟩
          go_wp2_with (fail)
          go_roundw
          case rel => exact ⟨k + 1, by omega, by go_num, hal4_h.out, hB_h.out⟩
          case measure => simp [intOf]; omega
        case pos =>
          have hmem : e ∈ u' := List.contains_iff_mem.1 hcn
          obtain ⟨j, hj⟩ : ∃ j, j = idxN u' e := ⟨_, rfl⟩
          have hget := idxN_get hmem
          rw [← hj] at hget
          have hidx : idxI u' e = (j : Int) := by unfold idxI; rw [if_pos hcn, hj]
          rw [hidx] at hIx1
          have hat := apAt_at (pt := PT) (ot := OT) (i := (k : Int)) hn'_h.out hget
          rw [hat] at hal3 ht2
          have hMs1 := hMs_h.out (k : Int) (j : Int) w2 hBw
          obtain ⟨M, hM⟩ : ∃ M, M = shareB PT (k : Int) OT (j : Int) := ⟨_, rfl⟩
          rw [← hM] at hMs1 hal3 ht2
          have hj0 : (0 : Int) ≤ (j : Int) := by omega
          obtain ⟨⟨c0, c1, c2, c3⟩, c4, c5, c6, c7⟩ := box4 k4r
          obtain ⟨⟨d0, d1, d2, d3⟩, d4, d5, d6, d7⟩ := box4 k6r
          clear hcn hmem hj hget hidx hat hgd k4r k6r k7r
          have hx_h := Lib.hid hx
          have hIx1_h := Lib.hid hIx1
          have hal2_h := Lib.hid hal2
          have hal3_h := Lib.hid hal3
          have ht2_h := Lib.hid ht2
          have hB_h := Lib.hid hB
          have hBw_h := Lib.hid hBw
          have hMs1_h := Lib.hid hMs1
          have hM_h := Lib.hid hM
          clear hx hIx1 hal2 hal3 ht2 hB hBw hMs1 hM
          go_wp2_with (fail)
          refine (hIx1_h.out).mono ?_
          rintro e w3 ⟨rfl, rfl⟩
          go_wp2_with (fail)
          refine (hMs1_h.out).mono ?_
          rintro e w4 ⟨rfl, hb4⟩
          have hB4 := below_trans hB_h.out hb4 hB_h.out.size
          have hB5 := below_trans hBw_h.out hb4 hBw_h.out.size
          clear hb4
          cases M
          case false =>
            obtain rfl : T = false := ht2_h.out rfl
            have hB4_h := Lib.hid hB4
            have hB5_h := Lib.hid hB5
            clear hB4 hB5
            go_wp2_with (fail)
            go_ret
            exact ⟨rfl, hB5_h.out⟩
          case true =>
            have hal4 := hal3_h.out rfl
            have hB4_h := Lib.hid hB4
            have hB5_h := Lib.hid hB5
            have hal4_h := Lib.hid hal4
            clear hB4 hB5 hal4
            go_wp2_with (fail)
            go_roundw
            case rel => exact ⟨k + 1, by omega, by go_num, hal4_h.out, hB4_h.out⟩
            case measure => simp [intOf]; omega
set_option maxRecDepth 100000 in
set_option maxHeartbeats 4000000 in
theorem mtApart_any {vp va vo vb : Value} {pt ot : Gr} {ma mb : Ma} (w : World) (hp : RdGr w vp pt) (ha : RdMa w va ma) (ho : RdGr w vo ot) (hb : RdMa w vb mb) (okp : OkG pt) (oka : OkMa ma) (oko : OkG ot) (okb : OkMa mb) :
    Calls Try.prog 70 #[vp, va, vo, vb] w fun e w' => e = .returned (.bool (apB pt ma ot mb)) ∧ Below w.heap.size w w' := by
  obtain ⟨T, hT⟩ : ∃ T, T = apB pt ma ot mb := ⟨_, rfl⟩
  rw [← hT]
  unfold apB at hT
  have hp0 := hp
  have ho0 := ho
  obtain ⟨A, c, hs, ⟨B, b, s⟩, ⟨C, d, t⟩, rfl, e1, e2, e3, hE, hRa, hRb⟩ := hp
  obtain ⟨A', c', hs', ⟨B', b', s'⟩, ⟨C', d', t'⟩, rfl, e1', e2', e3', hE', hRa', hRb'⟩ := ho
  obtain ⟨⟨X, x, u⟩, ⟨Y, y, v⟩, rfl, f1, f2, hU, hV⟩ := ha
  obtain ⟨⟨X', x', u'⟩, ⟨Y', y', v'⟩, rfl, f1', f2', hU', hV'⟩ := hb
  obtain ⟨z, L, s0, t0⟩ := pt
  obtain ⟨z', L', s0', t0'⟩ := ot
  obtain ⟨u0, v0⟩ := ma
  obtain ⟨u0', v0'⟩ := mb
  have a2 : s = s0 := e2
  have a3 : t = t0 := e3
  have a2' : s' = s0' := e2'
  have a3' : t' = t0' := e3'
  have a4 : u = u0 := f1
  have a5 : v = v0 := f2
  have a4' : u' = u0' := f1'
  have a5' : v' = v0' := f2'
  subst a2 a3 a2' a3' a4 a5 a4' a5'
  have ls : s.length ≤ 1048576 := okp.1.2.1
  have lt : t.length ≤ 1048576 := okp.1.2.2
  have ls' : s'.length ≤ 1048576 := oko.1.2.1
  have lt' : t'.length ≤ 1048576 := oko.1.2.2
  have lu : u.length ≤ 1048576 := oka.1
  have lv : v.length ≤ 1048576 := oka.2.1
  have lu' : u'.length ≤ 1048576 := okb.1
  have lv' : v'.length ≤ 1048576 := okb.2.1
  have hRs : RdI w B s := hRa
  have hRt : RdI w C t := hRb
  have hRs' : RdI w B' s' := hRa'
  have hRt' : RdI w C' t' := hRb'
  have hRu : RdI w X u := hU
  have hRv : RdI w Y v := hV
  have hRu' : RdI w X' u' := hU'
  have hRv' : RdI w Y' v' := hV'
  show Calls Try.prog _ #[.agg #[.int .i64 z, .slice A hs.length c, .slice B s.length b, .slice C t.length d], .agg #[.slice X u.length x, .slice Y v.length y], .agg #[.int .i64 z', .slice A' hs'.length c', .slice B' s'.length b', .slice C' t'.length d'], .agg #[.slice X' u'.length x', .slice Y' v'.length y']] w _
  change RdGr w (.agg #[.int .i64 z, .slice A hs.length c, .slice B s.length b, .slice C t.length d]) (z, L, s, t) at hp0
  change RdGr w (.agg #[.int .i64 z', .slice A' hs'.length c', .slice B' s'.length b', .slice C' t'.length d']) (z', L', s', t') at ho0
  obtain ⟨q, hq⟩ : ∃ p, p = hs.length := ⟨_, rfl⟩
  obtain ⟨q', hq'⟩ : ∃ p, p = hs'.length := ⟨_, rfl⟩
  obtain ⟨p, hpl⟩ : ∃ p, p = s.length := ⟨_, rfl⟩
  obtain ⟨r, hr⟩ : ∃ p, p = t.length := ⟨_, rfl⟩
  obtain ⟨p', hpl'⟩ : ∃ p, p = s'.length := ⟨_, rfl⟩
  obtain ⟨r', hr'⟩ : ∃ p, p = t'.length := ⟨_, rfl⟩
  obtain ⟨nu, hnu⟩ : ∃ p, p = u.length := ⟨_, rfl⟩
  obtain ⟨nv, hnv⟩ : ∃ p, p = v.length := ⟨_, rfl⟩
  obtain ⟨nu', hnu'⟩ : ∃ p, p = u'.length := ⟨_, rfl⟩
  obtain ⟨nv', hnv'⟩ : ∃ p, p = v'.length := ⟨_, rfl⟩
  rw [← hq, ← hpl, ← hr] at hp0
  rw [← hq', ← hpl', ← hr'] at ho0
  rw [← hnu] at lu
  rw [← hnv] at lv
  rw [← hnu'] at lu'
  rw [← hnv'] at lv'
  rw [← hpl] at ls
  rw [← hr] at lt
  rw [← hpl'] at ls'
  rw [← hr'] at lt'
  rw [← hq, ← hq', ← hpl, ← hpl', ← hr, ← hr', ← hnu, ← hnv, ← hnu', ← hnv']
  obtain ⟨W, hW, bW, k4, k5, k6, k7⟩ := allocs4 w (.cells #[.int .i64 z, .slice A q c, .slice B p b, .slice C r d] tGr) (.cells #[.slice X nu x, .slice Y nv y] tMa) (.cells #[.int .i64 z', .slice A' q' c', .slice B' p' b', .slice C' r' d'] tGr) (.cells #[.slice X' nu' x', .slice Y' nv' y'] tMa)
  obtain ⟨PT, hPT⟩ : ∃ PT : Gr, PT = (z, L, s, t) := ⟨_, rfl⟩
  obtain ⟨OT, hOT⟩ : ∃ PT : Gr, PT = (z', L', s', t') := ⟨_, rfl⟩
  have hM1 := hgMeets_any Y Y' y y' nv nv' v v' W (hRv.below bW) (hRv'.below bW) hnv.symm hnv'.symm lv lv'
  have hS1 := fun (i : Int) => mtSide_any C B d b r p t s i W (hRt.below bW) (hRs.below bW) hr.symm hpl.symm lt ls
  have hS2 := fun (i : Int) => mtSide_any B' C' b' d' p' r' s' t' i W (hRs'.below bW) (hRt'.below bW) hpl'.symm hr'.symm ls' lt'
  have hS3 := fun (i : Int) => mtSide_any B C b d p r s t i W (hRs.below bW) (hRt.below bW) hpl.symm hr.symm ls lt
  have hS4 := fun (i : Int) => mtSide_any C' B' d' b' r' p' t' s' i W (hRt'.below bW) (hRs'.below bW) hr'.symm hpl'.symm lt' ls'
  have hsh : ∀ i j : Int, shareB PT i OT j = ((sideB t s i && sideB s' t' j) || (sideB s t i && sideB t' s' j)) := fun i j => by rw [hPT, hOT]; rfl
  obtain ⟨E, hE0⟩ : ∃ E, E = v.any fun x => v'.contains x := ⟨_, rfl⟩
  rw [← hE0] at hM1
  rw [← hPT, ← hOT] at hT
  have hall : (v.all fun e => !v'.contains e) = !E := by
    rw [hE0, List.any_eq_not_all_not, Bool.not_not]
  have hT1 : E = true → T = false := fun hh => by rw [hT, hall, hh]; rfl
  have hT2 : ∀ i j : Nat, i < nu → j < nu' → u.getD i 0 = u'.getD j 0 → shareB PT (i : Int) OT (j : Int) = false → T = false := fun i j hi hj he hh => by
    rw [hT, Bool.and_eq_false_iff]
    right
    rw [List.all_eq_false]
    refine ⟨i, List.mem_range.2 (by rw [← hnu]; exact hi), ?_⟩
    rw [Bool.not_eq_true]
    unfold apAt
    rw [List.all_eq_false]
    refine ⟨j, List.mem_range.2 (by rw [← hnu']; exact hj), ?_⟩
    rw [hh, decide_eq_true he]; decide
  have hT3 : E = false → ((List.range nu).all fun i => apAt PT OT (i : Int) (u.getD i 0) u') = true → T = true := fun h1 h2 => by
    rw [hT, hall, h1, ← hnu]; exact h2
  obtain ⟨⟨c0, c1, c2, c3⟩, c4, c5, c6, c7⟩ := box4 k4
  obtain ⟨⟨i0, i1⟩, i2, i3⟩ := box2 k5
  obtain ⟨⟨d0, d1, d2, d3⟩, d4, d5, d6, d7⟩ := box4 k6
  obtain ⟨⟨j0, j1⟩, j2, j3⟩ := box2 k7
  have hRuW := hRu.below bW
  have hRuW' := hRu'.below bW
  clear hRa hRb hRa' hRb' hE hE' e1 e2 e3 e1' e2' e3' f1 f2 f1' f2' hU hV hU' hV' hRs hRt hRs' hRt' hp0 ho0 okp oka oko okb hT ls lt ls' lt' hpl hr hpl' hr' hq hq' hPT hOT hRu hRv hRu' hRv' hE0 hall k4 k5 k6 k7 lv lv'
  have bW_h := Lib.hid bW
  have hM1_h := Lib.hid hM1
  have hS1_h := Lib.hid hS1
  have hS2_h := Lib.hid hS2
  have hS3_h := Lib.hid hS3
  have hS4_h := Lib.hid hS4
  have hT1_h := Lib.hid hT1
  have hT2_h := Lib.hid hT2
  have hT3_h := Lib.hid hT3
  have hsh_h := Lib.hid hsh
  have hnu_h := Lib.hid hnu
  have hnv_h := Lib.hid hnv
  have hnu'_h := Lib.hid hnu'
  have hnv'_h := Lib.hid hnv'
  have hRuW_h := Lib.hid hRuW
  have hRuW'_h := Lib.hid hRuW'
  clear bW hM1 hS1 hS2 hS3 hS4 hT1 hT2 hT3 hsh hnu hnv hnu' hnv' hRuW hRuW'
  go_enter Try.func70, Try.ntmps70
  go_upto_region 1 with (fail)
  rw [← hW]
  clear hW
  go_wp2_with (fail)
  refine (hM1_h.out).mono ?_
  rintro e w1 ⟨rfl, rfl⟩
  cases E
  case true =>
    obtain rfl : T = false := hT1_h.out rfl
    go_wp2_with (fail)
    go_ret
    exact ⟨rfl, bW_h.out⟩
  have hT4 := hT3_h.out rfl
  obtain ⟨wo, rfl⟩ : ∃ x, x = w1 := ⟨_, rfl⟩
  have hT4_h := Lib.hid hT4
  clear hT4
  go_wp2_with (fail)
  go_loopw [22] (fun i wr => ∃ k : Nat, k ≤ nu ∧ i = .int .i64 k ∧ ((List.range k).all fun i => apAt PT OT (i : Int) (u.getD i 0) u') = true ∧ wr = wo) (fun i _ => nu - (intOf i).toNat)
  case atStart => exact ⟨0, Nat.zero_le _, rfl, rfl, rfl⟩
  case round =>
    obtain ⟨k, hk, rfl, hal, hwr⟩ := hrel
    subst hwr
    obtain ⟨w2, rfl⟩ : ∃ x, x = wr := ⟨_, rfl⟩
    by_cases hlt : k < nu
    case neg =>
      obtain rfl : nu = k := by omega
      obtain rfl : T = true := hT4_h.out hal
      have hal_h := Lib.hid hal
      clear hal
      go_wp2_with (fail)
      go_ret
      exact ⟨rfl, bW_h.out⟩
    obtain ⟨ad, e, rfl, hx, hc⟩ := hRuW_h.out.at_ (j := k) (by rw [← hnu_h.out]; exact hlt)
    have hkI : (k : Int) < (nu : Int) := by omega
    have hgd : u.getD k 0 = e := by rw [List.getD_eq_getElem?_getD, hx]; rfl
    have hal3 : apAt PT OT (k : Int) e u' = true → ((List.range (k + 1)).all fun i => apAt PT OT (i : Int) (u.getD i 0) u') = true := fun hh => by
      rw [List.range_succ, List.all_append, hal]
      simp only [List.all_cons, List.all_nil, hgd, hh]; rfl
    have hap : ((List.range nu').all fun j => !decide (e = u'.getD j 0) || shareB PT (k : Int) OT (j : Int)) = true → apAt PT OT (k : Int) e u' = true := fun hh => by unfold apAt; rw [← hnu'_h.out]; exact hh
    have hx_h := Lib.hid hx
    have hgd_h := Lib.hid hgd
    have hal_h := Lib.hid hal
    have hal3_h := Lib.hid hal3
    have hap_h := Lib.hid hap
    clear hx hgd hal hal3 hap
    go_wp2_with (fail)
    go_loopw [30] (fun i wr => ∃ j : Nat, j ≤ nu' ∧ i = .int .i64 j ∧ ((List.range j).all fun j => !decide (e = u'.getD j 0) || shareB PT (k : Int) OT (j : Int)) = true ∧ wr = w2) (fun i _ => nu' - (intOf i).toNat)
    case atStart => exact ⟨0, Nat.zero_le _, rfl, rfl, rfl⟩
    case round =>
      obtain ⟨j, hj, rfl, hin, hwr⟩ := hrel
      subst hwr
      obtain ⟨w3, rfl⟩ : ∃ x, x = wr := ⟨_, rfl⟩
      by_cases hlj : j < nu'
      case neg =>
        obtain rfl : nu' = j := by omega
        have hal4 := hal3_h.out (hap_h.out hin)
        have hin_h := Lib.hid hin
        have hal4_h := Lib.hid hal4
        clear hin hal4
        go_wp2_with (fail)
        go_roundw
        case rel => exact ⟨k + 1, by omega, by go_num, hal4_h.out, trivial⟩
        case measure => simp [intOf]; omega
      obtain ⟨bd, f, rfl, hy, hd⟩ := hRuW'_h.out.at_ (j := j) (by rw [← hnu'_h.out]; exact hlj)
      have hjI : (j : Int) < (nu' : Int) := by omega
      have hgf : u'.getD j 0 = f := by rw [List.getD_eq_getElem?_getD, hy]; rfl
      have hin3 : (!decide (e = f) || shareB PT (k : Int) OT (j : Int)) = true → ((List.range (j + 1)).all fun j => !decide (e = u'.getD j 0) || shareB PT (k : Int) OT (j : Int)) = true := fun hh => by
        rw [List.range_succ, List.all_append, hin]
        simp only [List.all_cons, List.all_nil, hgf, hh]; rfl
      by_cases hef : e = f
      case neg =>
        have hbn : (e != f) = true := by rw [bne_iff_ne]; exact hef
        have hin4 := hin3 (by rw [decide_eq_false hef]; rfl)
        clear hin3
        have hin_h := Lib.hid hin
        have hy_h := Lib.hid hy
        have hgf_h := Lib.hid hgf
        have hin4_h := Lib.hid hin4
        clear hin hy hgf hin4
        go_wp2_with (fail)
        go_roundw
        case rel => exact ⟨j + 1, by omega, by go_num, hin4_h.out, trivial⟩
        case measure => simp [intOf]; omega
      have hbn : (e != f) = false := by rw [hef]; simp
      have ht2 := hT2_h.out k j hlt hlj (by rw [hgd_h.out, hgf]; exact hef)
      rw [decide_eq_true hef] at hin3
      have hsh1 := hsh_h.out (k : Int) (j : Int)
      obtain ⟨SH, hSH⟩ : ∃ SH, SH = shareB PT (k : Int) OT (j : Int) := ⟨_, rfl⟩
      rw [← hSH] at ht2 hin3 hsh1
      have q1 := hS1_h.out (k : Int)
      have q2 := hS2_h.out (j : Int)
      have q3 := hS3_h.out (k : Int)
      have q4 := hS4_h.out (j : Int)
      obtain ⟨s1, hs1⟩ : ∃ S, S = sideB t s (k : Int) := ⟨_, rfl⟩
      obtain ⟨s2, hs2⟩ : ∃ S, S = sideB s' t' (j : Int) := ⟨_, rfl⟩
      obtain ⟨s3, hs3⟩ : ∃ S, S = sideB s t (k : Int) := ⟨_, rfl⟩
      obtain ⟨s4, hs4⟩ : ∃ S, S = sideB t' s' (j : Int) := ⟨_, rfl⟩
      rw [← hs1] at q1 hsh1
      rw [← hs2] at q2 hsh1
      rw [← hs3] at q3 hsh1
      rw [← hs4] at q4 hsh1
      have hin4 : SH = true → ((List.range (j + 1)).all fun j => !decide (e = u'.getD j 0) || shareB PT (k : Int) OT (j : Int)) = true := fun hh => hin3 (by rw [hh]; rfl)
      have hef_h := Lib.hid hef
      clear hef hin3 hs1 hs2 hs3 hs4 hSH
      have hin_h := Lib.hid hin
      have hy_h := Lib.hid hy
      have hgf_h := Lib.hid hgf
      have ht2_h := Lib.hid ht2
      have hsh1_h := Lib.hid hsh1
      have q1_h := Lib.hid q1
      have q2_h := Lib.hid q2
      have q3_h := Lib.hid q3
      have q4_h := Lib.hid q4
      have hin4_h := Lib.hid hin4
      clear hin hy hgf ht2 hsh1 q1 q2 q3 q4 hin4
      go_upto_region 10 with (fail)
      go_cut [13] (fun sv wx => sv = .bool (s1 && s2) ∧ wx = w3)
      case first =>
        go_wp2_with (fail)
        refine (q1_h.out).mono ?_
        rintro e w4 ⟨rfl, rfl⟩
        cases s1
        case false =>
          go_wp2_with (fail)
          go_meet
          exact ⟨rfl, rfl⟩
        go_wp2_with (fail)
        refine (q2_h.out).mono ?_
        rintro e w5 ⟨rfl, rfl⟩
        go_wp2_with (fail)
        go_meet
        exact ⟨by cases s2 <;> rfl, rfl⟩
      case rest =>
        obtain ⟨rfl, hwc⟩ := hcut
        subst hwc
        obtain ⟨w4, rfl⟩ : ∃ x, x = wc := ⟨_, rfl⟩
        obtain ⟨MT, hMT⟩ : ∃ MT, MT = (s1 && s2) := ⟨_, rfl⟩
        rw [← hMT]
        have hsh2 : SH = (MT || (s3 && s4)) := by rw [hsh1_h.out, hMT]
        have hMT_h := Lib.hid hMT
        clear hMT
        have hsh2_h := Lib.hid hsh2
        clear hsh2
        cases MT
        case true =>
          have hin5 := hin4_h.out hsh2_h.out
          have hin5_h := Lib.hid hin5
          clear hin5
          go_wp2_with (fail)
          go_roundw
          case rel => exact ⟨j + 1, by omega, by go_num, hin5_h.out, trivial⟩
          case measure => simp [intOf]; omega
        have hsh3 : SH = (s3 && s4) := hsh2_h.out.trans (Bool.false_or _)
        have hsh3_h := Lib.hid hsh3
        clear hsh3
        go_wp2_with (fail)
        refine (q3_h.out).mono ?_
        rintro e w5 ⟨rfl, rfl⟩
        cases s3
        case false =>
          obtain rfl : T = false := ht2_h.out hsh3_h.out
          go_wp2_with (fail)
          go_ret
          exact ⟨rfl, bW_h.out⟩
        go_wp2_with (fail)
        refine (q4_h.out).mono ?_
        rintro e w6 ⟨rfl, rfl⟩
        cases s4
        case false =>
          obtain rfl : T = false := ht2_h.out hsh3_h.out
          go_wp2_with (fail)
          go_ret
          exact ⟨rfl, bW_h.out⟩
        case true =>
          have hin5 := hin4_h.out hsh3_h.out
          have hin5_h := Lib.hid hin5
          clear hin5
          go_wp2_with (fail)
          go_roundw
          case rel => exact ⟨j + 1, by omega, by go_num, hin5_h.out, trivial⟩
          case measure => simp [intOf]; omega
end Go.Proofs.Ytanhmljgeiajoaa
