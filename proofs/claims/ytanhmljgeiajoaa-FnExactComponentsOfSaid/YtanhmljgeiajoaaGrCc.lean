/-
  THE WALK: spec.hgParts.
-/
import Derived.Test.YtanhmljgeiajoaaGrCa
import Derived.Test.YtanhmljgeiajoaaGrCd
import Derived.Test.YtanhmljgeiajoaaGrQ
namespace Go.Proofs.Ytanhmljgeiajoaa
open Go.RowKit

theorem mid_skip {xs ys : List Int} {c : Nat} {v : Int} (hx : xs[c]? = some v) (hy : ys[c]? = some v) : xs.take c ++ ys.drop c = xs.take (c + 1) ++ ys.drop (c + 1) := by
  rw [List.take_add_one, hx, drop_of hy]; simp
theorem mid_set {xs ys : List Int} {c : Nat} {v : Int} (hc : c < ys.length) (hx : xs[c]? = some v) : (xs.take c ++ ys.drop c).set c v = xs.take (c + 1) ++ ys.drop (c + 1) := by
  have hl := (List.getElem?_eq_some_iff.1 hx).1
  have ht : (xs.take c).length = c := by rw [List.length_take]; omega
  rw [List.set_append_right _ _ (by omega), ht, Nat.sub_self, List.take_add_one, hx, List.drop_eq_getElem_cons hc, List.set_cons_zero, List.append_assoc]; rfl
theorem relab_get {x y : Int} {D : List Int} {c : Nat} {v : Int} (h : D[c]? = some v) : (relab x y D)[c]? = some (relV x y v) := by
  unfold relab; rw [List.getElem?_map, h]; rfl
set_option maxRecDepth 100000 in
set_option maxHeartbeats 16000000 in
theorem hgParts_any {v : Value} {g : Gr} (w : World) (n : Nat) (h : RdGr w v g) (hgn : g.1 = (n : Int)) (hv : grB g = true) :
    Calls Try.prog 46 #[v] w fun e w' => ∃ A c, e = .returned (.tuple #[.slice A n c, .int .i64 (nrM (clsG g) n : Int)]) ∧ IS w' A c (numM (clsG g)) ∧ Fresh w.heap.size A ∧ Below w.heap.size w w' := by
  obtain ⟨n', e1', hn1, hm60, _, _, hin⟩ := grB_parts hv
  obtain rfl : n' = n := by omega
  have hegB : ∀ e, e ∈ g.2.1 → egB e = true := by
    unfold grB at hv
    simp only [Bool.and_eq_true] at hv
    exact List.all_eq_true.1 hv.2.1
  obtain ⟨C, hC⟩ : ∃ C, C = clsG g := ⟨_, rfl⟩
  rw [← hC]
  have hCK := clsK_all g n' hgn
  rw [← hC] at hCK
  obtain ⟨A, c, hs, ⟨B, b, s⟩, ⟨C', d', t⟩, rfl, e1, e2, e3, hE, hRa, hRb⟩ := h
  obtain ⟨z, es, s0, t0⟩ := g
  have a1 : es = hs.map egOf := e1
  have a4 : z = (n' : Int) := hgn
  subst a4
  have hin2 : inW (n' : Int) (edW es) = true := by
    have : inW (n' : Int) (allW ((n' : Int), es, s0, t0)) = true := hin
    unfold allW at this
    exact inW_app_right (inW_app_right this)
  have hCls := fun k (hk : k ≤ es.length) => Cls.clsK hin2 k hk
  have hLr : ∀ {k : Nat} {e : Eg} {L : List Int}, es[k]? = some e → L = e.2.2.1 ++ e.2.2.2 → ∀ x, x ∈ L → 0 ≤ x ∧ x < (n' : Int) := fun {k e L} hk hL x hx => by
    have hm := mem_edW_of (List.mem_of_getElem? hk)
    rw [hL] at hx
    rcases List.mem_append.1 hx with hx | hx
    · exact inW_iff.1 hin2 x (hm.1 x hx)
    · exact inW_iff.1 hin2 x (hm.2 x hx)
  have hegB' : ∀ e, e ∈ es → egB e = true := hegB
  obtain ⟨m, hm⟩ : ∃ m, m = hs.length := ⟨_, rfl⟩
  have hLm : es.length = m := by rw [a1, List.length_map, hm]
  have hm60' : es.length ≤ 60 := hm60
  change clsK n' es es.length = C at hCK
  rw [hLm] at hCK hCls hm60'
  obtain ⟨p, hp⟩ : ∃ p, p = s.length := ⟨_, rfl⟩
  obtain ⟨r, hr⟩ : ∃ r, r = t.length := ⟨_, rfl⟩
  show Calls Try.prog _ #[.agg #[.int .i64 (n' : Int), .slice A hs.length c, .slice B s.length b, .slice C' t.length d']] w _
  rw [← hm, ← hp, ← hr]
  obtain ⟨n, rfl⟩ : ∃ x, x = n' := ⟨_, rfl⟩
  obtain ⟨W, hW, bW, k0⟩ := (⟨_, rfl, below_alloc _ _, heap_alloc_new _ _⟩ : ∃ W, W = w.alloc (.cells #[.int .i64 (n : Int), .slice A m c, .slice B p b, .slice C' r d'] tGr) ∧ Below w.heap.size w W ∧ W.heap[w.heap.size]? = some (.cells #[.int .i64 (n : Int), .slice A m c, .slice B p b, .slice C' r d'] tGr))
  have hCm := hCls m (Nat.le_refl _)
  rw [hCK] at hCm
  obtain ⟨⟨c0, c1, c2, c3⟩, f0, f1, f2, f3⟩ := box4 k0
  clear hRa hRb e1 e2 e3 hgn hv e1' hin hin2 hegB hC
  have hE_h := Lib.hid hE
  have hCK_h := Lib.hid hCK
  have hCls_h := Lib.hid hCls
  have hegB'_h := Lib.hid hegB'
  have hm_h := Lib.hid hm
  have hLm_h := Lib.hid hLm
  have a1_h := Lib.hid a1
  have hp_h := Lib.hid hp
  have hr_h := Lib.hid hr
  have bW_h := Lib.hid bW
  have k0_h := Lib.hid k0
  have hCm_h := Lib.hid hCm
  clear hE hCK hCls hegB' hm hLm a1 hp hr bW k0 hCm
  go_enter Try.func46, Try.ntmps46
  go_upto_region 1 with (fail)
  rw [← hW]
  clear hW
  go_wp2_with (at_make; refine wpList_make_Sl _ rfl _ _ _ rfl tInt Try.underlying23 info_int n n rfl rfl rfl rfl (Nat.le_refl _) (by omega) (by unfold maxLen; omega) ?_; intro G w1 hs0 hG hb1)
  have hG1 : IS w1 (some G) n (List.replicate n 0) := IS.of_made hs0
  clear hs0 c0 c1 c2 c3 f0 f1 f2 f3
  have hG1_h := Lib.hid hG1
  have hb1_h := Lib.hid hb1
  clear hG1 hb1
  go_loopw [25] (fun i wr => ∃ k : Nat, k ≤ n ∧ i = .int .i64 k ∧ IS wr (some G) n ((idW n).take k ++ List.replicate (n - k) 0) ∧ Below W.heap.size W wr) (fun i _ => n - (intOf i).toNat)
  case atStart => exact ⟨0, Nat.zero_le _, rfl, by simpa using hG1_h.out, hb1_h.out⟩
  case round =>
   clear hG1_h hb1_h
   obtain ⟨k, hk, rfl, hIS, hB1⟩ := hrel
   by_cases hlt : k < n
   · have hlen : ((idW n).take k ++ List.replicate (n - k) (0 : Int)).length = n := by rw [List.length_append, List.length_take, List.length_replicate, idW_length]; omega
     have hset := hIS.set (ad := G) rfl (j := k) (k : Int) (by rw [hlen]; exact hlt)
     have htk : (idW n).take (k + 1) = (idW n).take k ++ [(k : Int)] := by rw [List.take_add_one, idW_get hlt]; rfl
     rw [set_rep_step _ _ _ (by rw [List.length_take, idW_length]; omega) hlt, ← htk] at hset
     obtain ⟨ad, y, hA, hy, _, hc', hf'⟩ := hIS.at_ (j := k) (by rw [hlen]; exact hlt)
     obtain rfl := Option.some.inj hA
     have hfz := hf' k
     have hb' := hB1.setCell (p := G.add k) (by rw [block_of_add]; exact hG) (.int .i64 (k : Int))
     have hkI : (k : Int) < (n : Int) := by omega
     clear hf' hIS hy hlen hB1 hA htk
     have hset_h := Lib.hid hset
     have hb'_h := Lib.hid hb'
     clear hset hb'
     go_wp2_with (fail)
     go_roundw
     case rel => exact ⟨k + 1, by omega, by go_num, hset_h.out, hb'_h.out⟩
     case measure => simp [intOf]; omega
   · obtain rfl : n = k := by omega
     rw [List.take_of_length_le (by simp), Nat.sub_self, List.replicate_zero, List.append_nil] at hIS
     have kr := box_below k0_h.out hB1
     obtain ⟨⟨c0, c1, c2, c3⟩, f0, f1, f2, f3⟩ := box4 kr
     obtain ⟨w2, rfl⟩ : ∃ x, x = wr := ⟨_, rfl⟩
     clear kr
     have hIS_h := Lib.hid hIS
     have hB1_h := Lib.hid hB1
     clear hIS hB1
     go_wp2_with (fail)
     clear c0 c1 c2 c3 f0 f1 f2 f3
     go_loopw [36] (fun i wr => ∃ k : Nat, k ≤ m ∧ i = .int .i64 k ∧ IS wr (some G) n (clsK n es k) ∧ Below W.heap.size W wr) (fun i _ => m - (intOf i).toNat)
     case atStart => exact ⟨0, Nat.zero_le _, rfl, by rw [clsK_zero]; exact hIS_h.out, hB1_h.out⟩
     case round =>
      clear hIS_h hB1_h
      obtain ⟨k, hk, rfl, hIS, hB1⟩ := hrel
      obtain ⟨wo, rfl⟩ : ∃ x, x = wr := ⟨_, rfl⟩
      have kr := box_below k0_h.out hB1
      have hBw := below_trans bW_h.out hB1 bW_h.out.size
      by_cases hlt : k < m
      · obtain ⟨ad, κ, vv, B1, b1, s1, C1, b2, t1, rfl, hn, ⟨d0, d1, d2, d3⟩, hr1, hr2⟩ := (hE_h.out.below hBw).at_ (j := k) (by rw [← hm_h.out]; exact hlt)
        have hek : es[k]? = some (κ, vv, s1, t1) := by rw [a1_h.out, List.getElem?_map, hn]; rfl
        obtain ⟨⟨l1, l2⟩, l3⟩ := egB_len (hegB'_h.out _ (List.mem_of_getElem? hek))
        simp only at l1 l2 l3
        have hClk := hCls_h.out k hk
        obtain ⟨p1, hp1⟩ : ∃ p1, p1 = s1.length := ⟨_, rfl⟩
        obtain ⟨r1, hr1'⟩ : ∃ r1, r1 = t1.length := ⟨_, rfl⟩
        obtain ⟨L, hL⟩ : ∃ L, L = s1 ++ t1 := ⟨_, rfl⟩
        obtain ⟨q, hq⟩ : ∃ q, q = L.length := ⟨_, rfl⟩
        have hqp : q = p1 + r1 := by rw [hq, hL, List.length_append, hp1, hr1']
        have hq1 : 1 ≤ q := by rw [hqp, hp1, hr1']; exact l3
        have hq4 : q ≤ 4 := by rw [hqp, hp1, hr1']; omega
        have hpr : p1 ≤ 2 ∧ r1 ≤ 2 := by rw [hp1, hr1']; exact ⟨l1, l2⟩
        have hstep := clsK_step (n := n) hek
        simp only [← hL, ← hp1, ← hr1', ← hqp] at hstep
        have hLin : ∀ x, x ∈ L → 0 ≤ x ∧ x < (n : Int) := hLr hek hL
        obtain ⟨a, ha0, han, haL⟩ := getD0_in hLin (by rw [← hq]; omega)
        obtain ⟨W6, hW6, bW6, k6⟩ := (⟨_, rfl, below_alloc _ _, heap_alloc_new _ _⟩ : ∃ W, W = wo.alloc (.cells #[.int .i64 κ, .int .i64 vv, .slice B1 p1 b1, .slice C1 r1 b2] tEd) ∧ Below wo.heap.size wo W ∧ W.heap[wo.heap.size]? = some (.cells #[.int .i64 κ, .int .i64 vv, .slice B1 p1 b1, .slice C1 r1 b2] tEd))
        have hOwn := fun (W' : World) (hb : Below wo.heap.size wo W') => l1Own_any B1 b1 s1 W' (hr1.below hb) (by omega)
        simp only [← hp1] at hOwn
        have hT1 := fun (W' : World) (hb : Below wo.heap.size wo W') => hr2.below hb
        have hil : (ints t1).length = r1 * 1 := by rw [ints_length, hr1', Nat.mul_one]
        rw [← hp1] at d2
        rw [← hr1'] at d3
        obtain ⟨⟨y0, y1, y2, y3⟩, g0, g1, g2, g3⟩ := box4 kr
        have hr1_h := Lib.hid hr1'
        have hqp_h := Lib.hid hqp
        have hkI : (k : Int) < (m : Int) := by omega
        clear hr1' hr1 hr2 hn kr hqp l1 l2 l3
        have hek_h := Lib.hid hek
        have hp1_h := Lib.hid hp1
        have bW6_h := Lib.hid bW6
        have k6_h := Lib.hid k6
        have hIS_h := Lib.hid hIS
        have hB1_h := Lib.hid hB1
        have hBw_h := Lib.hid hBw
        have hClk_h := Lib.hid hClk
        have hL_h := Lib.hid hL
        have hq_h := Lib.hid hq
        have hstep_h := Lib.hid hstep
        have hLin_h := Lib.hid hLin
        have ha0_h := Lib.hid ha0
        have haL_h := Lib.hid haL
        have hOwn_h := Lib.hid hOwn
        have hT1_h := Lib.hid hT1
        have hil_h := Lib.hid hil
        clear hek hp1 bW6 k6 hIS hB1 hBw hClk hL hq hstep hLin ha0 haL hOwn hT1 hil
        go_upto_region 10 with (fail)
        rw [← hW6]
        clear hW6 d0 d1 d2 d3 y0 y1 y2 y3 g0 g1 g2 g3
        go_cut [8] (fun sv wx => ∃ (A3 : Option Addr) (c3 : Nat), sv = .slice A3 q c3 ∧ IS wx A3 c3 L ∧ Fresh W6.heap.size A3 ∧ Below W6.heap.size W6 wx)
        case first =>
          refine beginH (fun w' => w'.heap[wo.heap.size]? = some (.cells #[.int .i64 κ, .int .i64 vv, .slice B1 p1 b1, .slice C1 r1 b2] tEd)) (by kernel_rfl) ?_
          have hbd : Below W6.heap.size W6 W6.drew := below_drew (Below.refl _ _)
          generalize W6.drew = W7 at hbd ⊢
          have k7 := box_below k6_h.out hbd
          have hbd_h := Lib.hid hbd
          have k7_h := Lib.hid k7
          clear hbd k7
          refine takeH 0 (v := ?_) rfl (by kernel_rfl) (by kernel_rfl) (by kernel_rfl) (fun _ _ _ h => h) k7_h.out (by rfl) (fun W' hW' => ?_) ?_; rotate_left; · (obtain ⟨⟨u0, u1, u2, u3⟩, v0, v1, v2, v3⟩ := box4 hW'; clear hW'; go_simp; first | done | with_reducible rfl)
          simp only [Act.put, List.setIfInBounds_toArray, List.set_cons_zero, List.set_cons_succ]
          refine takeH 1 (v := ?_) rfl (by kernel_rfl) (by kernel_rfl) (by kernel_rfl) (fun _ _ _ h => h) k7_h.out (by rfl) (fun W' hW' => ?_) ?_; rotate_left; · (obtain ⟨⟨u0, u1, u2, u3⟩, v0, v1, v2, v3⟩ := box4 hW'; clear hW'; go_simp; first | done | with_reducible rfl)
          simp only [Act.put, List.setIfInBounds_toArray, List.set_cons_zero, List.set_cons_succ]
          refine takeH 3 (v := ?_) rfl (by kernel_rfl) (by kernel_rfl) (by kernel_rfl) (fun _ _ _ h => h) k7_h.out (by rfl) (fun W' hW' => ?_) ?_; rotate_left; · (obtain ⟨⟨u0, u1, u2, u3⟩, v0, v1, v2, v3⟩ := box4 hW'; clear hW'; go_simp; first | done | with_reducible rfl)
          simp only [Act.put, List.setIfInBounds_toArray, List.set_cons_zero, List.set_cons_succ]
          refine takeH 4 (v := ?_) rfl (by kernel_rfl) (by kernel_rfl) (by kernel_rfl) (fun _ _ _ h => h) k7_h.out (by rfl) (fun W' hW' => ?_) ?_; rotate_left; · (obtain ⟨⟨u0, u1, u2, u3⟩, v0, v1, v2, v3⟩ := box4 hW'; clear hW'; go_simp; first | done | with_reducible rfl)
          simp only [Act.put, List.setIfInBounds_toArray, List.set_cons_zero, List.set_cons_succ]
          refine' callH 2 (f := _) (args := _) rfl (by kernel_rfl) (by rfl) ?_ ?_; rotate_left 2; · (go_simp; first | done | with_reducible rfl | (constructor <;> with_reducible rfl))
          refine ((hOwn_h.out _ (below_trans bW6_h.out hbd_h.out bW6_h.out.size))).mono ?_
          rintro e w8 ⟨A8, c8, rfl, hI8, hF8, hb8⟩
          have hb8' := below_trans hbd_h.out hb8 hbd_h.out.size
          have k8 := box_below k7_h.out hb8
          have hs8 : Sl w8 tInt 1 A8 p1 c8 (ints s1) := by rw [hp1_h.out]; exact hI8
          have ht8 := hT1_h.out _ (below_trans bW6_h.out hb8' bW6_h.out.size)
          rw [← hp1_h.out]
          clear hb8 hI8
          have hb8'_h := Lib.hid hb8'
          have k8_h := Lib.hid k8
          have hs8_h := Lib.hid hs8
          have hF8_h := Lib.hid hF8
          have ht8_h := Lib.hid ht8
          clear hb8' k8 hs8 hF8 ht8
          refine ⟨_, rfl, k8_h.out, ?_⟩
          simp only [Act.put, List.setIfInBounds_toArray, List.set_cons_zero, List.set_cons_succ]
          refine appH 5 rfl (by kernel_rfl) (by rfl) _ _ _ rfl tInt Try.underlying23 info_int rfl (by omega) rfl hs8_h.out rfl hil_h.out ht8_h.out.rdc (ints_one t1) (by unfold maxLen; omega) (by omega) ?_
          intro A3 c3 w9 hs9 hA9 hk9
          have hz7 := hbd_h.out.size
          have hz6 := bW6_h.out.size
          have hz8 := hb8'_h.out.size
          have hxl := box_lt k6_h.out
          have hF8' := hF8_h.out
          have k9 := box_keeps k8_h.out hk9 (fun h => by have := hF8' _ h; omega)
          have hb9 := below_keeps hb8'_h.out hk9 hb8'_h.out.size (fun x hx => by have := hF8' x hx; omega)
          have hI9 : IS w9 A3 c3 L := by
            unfold IS
            rw [← hq_h.out, hL_h.out, show ints (s1 ++ t1) = ints s1 ++ ints t1 by simp [ints], hqp_h.out]
            exact hs9
          have hF9 : Fresh W6.heap.size A3 := fun x hx => by
            rcases hA9 x hx with h | h
            · have := hF8' x h; omega
            · omega
          rw [← hqp_h.out]
          clear hs9 hA9 hk9 hF8'
          have k9_h := Lib.hid k9
          have hb9_h := Lib.hid hb9
          have hI9_h := Lib.hid hI9
          have hF9_h := Lib.hid hF9
          clear k9 hb9 hI9 hF9
          refine ⟨k9_h.out, ?_⟩
          simp only [Act.put, List.setIfInBounds_toArray, List.set_cons_zero, List.set_cons_succ]
          refine takeH 6 (v := ?_) rfl (by kernel_rfl) (by kernel_rfl) (by kernel_rfl) (fun _ _ _ h => h) k9_h.out (by rfl) (fun W' hW' => ?_) ?_; rotate_left; · (skip; clear hW'; go_simp; first | done | with_reducible rfl)
          simp only [Act.put, List.setIfInBounds_toArray, List.set_cons_zero, List.set_cons_succ]
          refine doneH (by kernel_rfl) ?_
          go_wp2_with (fail)
          go_meet
          exact ⟨A3, c3, rfl, hI9_h.out, hF9_h.out, hb9_h.out⟩
        case rest =>
        obtain ⟨A3, c3, rfl, hI3, hF3, hb3⟩ := hcut
        obtain ⟨w7, rfl⟩ : ∃ x, x = wc := ⟨_, rfl⟩
        have hb8 := below_trans bW6_h.out hb3 bW6_h.out.size
        have hB7 := below_trans hB1_h.out hb8 hB1_h.out.size
        have hG7 := hIS_h.out.below hb8
        have hGl := hIS_h.out.lt G.block (by simp)
        have hA3 : ∀ b, b ∈ fpA A3 → ¬ b ∈ fpA (some G) := fun b hb hb' => by
          have h1 := hF3 b hb
          have h2 := bW6_h.out.size
          simp at hb'; omega
        obtain ⟨gd, y0', rfl, _⟩ := hI3.at_ (j := 0) (by rw [← hq_h.out]; omega)
        clear hF3 hb3 hb8
        have hI3_h := Lib.hid hI3
        have hB7_h := Lib.hid hB7
        have hG7_h := Lib.hid hG7
        have hA3_h := Lib.hid hA3
        clear hI3 hB7 hG7 hA3
        go_wp2_with (fail)
        go_loopw [48] (fun i wr => ∃ j : Nat, j ≤ q ∧ i = .int .i64 j ∧ IS wr (some G) n (clsJ (clsK n es k) L j) ∧ IS wr (some gd) c3 L ∧ Below W.heap.size W wr) (fun i _ => q - (intOf i).toNat)
        case atStart => exact ⟨0, Nat.zero_le _, rfl, by rw [clsJ_zero]; exact hG7_h.out, hI3_h.out, hB7_h.out⟩
        case round =>
         clear hG7_h hI3_h hB7_h
         obtain ⟨j, hj, rfl, hISj, hIj, hBj⟩ := hrel
         obtain ⟨wi, rfl⟩ : ∃ x, x = wr := ⟨_, rfl⟩
         by_cases hltj : j < q
         · obtain ⟨x, hx⟩ : ∃ x, L[j]? = some x := ⟨_, List.getElem?_eq_getElem (by rw [← hq_h.out]; exact hltj)⟩
           have hxr := hLin_h.out x (List.mem_of_getElem? hx)
           obtain ⟨bb, rfl⟩ : ∃ bb : Nat, x = (bb : Int) := ⟨x.toNat, by omega⟩
           have hbn : bb < n := by omega
           have hDj := hClk_h.out.clsJ hLin_h.out j
           obtain ⟨D, hD⟩ : ∃ D, D = clsJ (clsK n es k) L j := ⟨_, rfl⟩
           have hnext := clsJ_step (D := clsK n es k) ha0_h.out hx
           rw [← hD] at hnext hDj hISj
           obtain ⟨X, hX⟩ : ∃ X, X = D.getD bb 0 := ⟨_, rfl⟩
           obtain ⟨Y, hY⟩ : ∃ Y, Y = D.getD a 0 := ⟨_, rfl⟩
           have hX1 := hDj.le bb hbn
           have hY1 := hDj.le a han
           have gX := hDj.get hbn
           have gY := hDj.get han
           rw [← hX] at hX1 gX hnext
           rw [← hY] at hY1 gY hnext
           rw [relab_comm] at hnext
           obtain ⟨gd0, g0e, y0⟩ := hIj.rd 0 _ haL_h.out
           obtain rfl := Option.some.inj g0e
           have y00 : wi.cell? gd = some (.int .i64 (a : Int)) := y0
           obtain ⟨gd1, g1e, y1⟩ := hIj.rd j _ hx
           obtain rfl := Option.some.inj g1e
           obtain ⟨gd2, g2e, y2⟩ := hISj.rd bb _ gX
           obtain rfl := Option.some.inj g2e
           obtain ⟨gd3, g3e, y3⟩ := hISj.rd a _ gY
           obtain rfl := Option.some.inj g3e
           have hjI : (j : Int) < (q : Int) := by omega
           have hq0 : (0 : Int) < (q : Int) := by omega
           have hbI : (bb : Int) < (n : Int) := by omega
           have haI : (a : Int) < (n : Int) := by omega
           clear g0e g1e g2e g3e hxr gX gY
           have hx_h := Lib.hid hx
           have hIj_h := Lib.hid hIj
           have hBj_h := Lib.hid hBj
           have hISj_h := Lib.hid hISj
           have hDj_h := Lib.hid hDj
           have hD_h := Lib.hid hD
           have hnext_h := Lib.hid hnext
           have hX_h := Lib.hid hX
           have hY_h := Lib.hid hY
           clear hx hIj hBj hISj hDj hD hnext hX hY
           go_wp2_with (fail)
           go_quiet (fail)
           go_wp2_with (fail)
           clear y0 y00 y1 y2 y3
           go_loopw [64] (fun i wr => ∃ e : Nat, e ≤ n ∧ i = .int .i64 e ∧ IS wr (some G) n ((relab X Y D).take e ++ D.drop e) ∧ IS wr (some gd) c3 L ∧ Below W.heap.size W wr) (fun i _ => n - (intOf i).toNat)
           case atStart => exact ⟨0, Nat.zero_le _, rfl, by simpa using hISj_h.out.below (below_drewN (Below.refl _ _) _), hIj_h.out.below (below_drewN (Below.refl _ _) _), below_drewN hBj_h.out _⟩
           case round =>
            clear hIj_h hBj_h hISj_h
            obtain ⟨e, he, rfl, hISe, hIe, hBe⟩ := hrel
            obtain ⟨wj, rfl⟩ : ∃ x, x = wr := ⟨_, rfl⟩
            by_cases hlte : e < n
            · obtain ⟨V, hV⟩ : ∃ V, V = D.getD e 0 := ⟨_, rfl⟩
              have gV := hDj_h.out.get hlte
              rw [← hV] at gV
              have hDl := hDj_h.out.len
              have hlen : ((relab X Y D).take e ++ D.drop e).length = n := by rw [List.length_append, List.length_take, List.length_drop, relab_length, hDl]; omega
              have gm : ((relab X Y D).take e ++ D.drop e)[e]? = some V := by rw [get_mid (by rw [relab_length]; omega)]; exact gV
              have gr := relab_get (x := X) (y := Y) gV
              obtain ⟨gd2, g2e, y2⟩ := hISe.rd e _ gm
              obtain rfl := Option.some.inj g2e
              have heI : (e : Int) < (n : Int) := by omega
              obtain ⟨M, hM⟩ : ∃ M, M = max X Y := ⟨_, rfl⟩
              obtain ⟨mn, hmn⟩ : ∃ mn, mn = min X Y := ⟨_, rfl⟩
              have hMo := fun W => l1Most_any X Y W
              have hLe := fun W => l1Least_any X Y W
              simp only [← hM] at hMo
              simp only [← hmn] at hLe
              unfold relV at gr
              rw [← hM, ← hmn] at gr
              by_cases hVM : V = M
              · subst hVM
                rw [if_pos rfl] at gr
                clear y2
                have hMo_h := Lib.hid hMo
                have hLe_h := Lib.hid hLe
                clear hMo hLe
                go_wp2_with (fail)
                refine beginB (by kernel_rfl) (fun W1 hW1 => ?_)
                have hbw : Below wj.heap.size wj W1 := by rw [hW1]; exact below_drew (Below.refl _ _)
                clear hW1
                have hI1 := hISe.below hbw
                have hI2 := hIe.below hbw
                have hB2 := below_trans hBe hbw hBe.size
                obtain ⟨zd, ze, y2⟩ := hI1.rd e _ gm
                obtain rfl := Option.some.inj ze
                clear ze hISe hIe hBe hbw
                have hset := hI1.set (ad := G) rfl (j := e) mn (by rw [hlen]; exact hlte)
                rw [mid_set (by omega) gr] at hset
                obtain ⟨zd, z0, ze, _, _, zc, zf⟩ := hI1.at_ (j := e) (by rw [hlen]; exact hlte)
                obtain rfl := Option.some.inj ze
                have zfe := zf e
                have hks : Keeps (· ∈ fpA (some G)) W1 (W1.setCell (G.add e) (.int .i64 mn)) := Keeps.setCell (S := (· ∈ fpA (some G))) (Keeps.refl _ W1) (p := G.add e) (by rw [block_of_add]; simp) _
                have hI2' := hI2.keeps hks hA3_h.out
                have hB2' := below_keeps hB2 hks hB2.size (fun b hb => by simp at hb; omega)
                clear hI1 hI2 hB2 hks ze zf zc gm gr gV
                have hset_h := Lib.hid hset
                have hI2'_h := Lib.hid hI2'
                have hB2'_h := Lib.hid hB2'
                have hV_h := Lib.hid hV
                have hDl_h := Lib.hid hDl
                have hlen_h := Lib.hid hlen
                have hM_h := Lib.hid hM
                have hmn_h := Lib.hid hmn
                clear hset hI2' hB2' hV hDl hlen hM hmn
                refine takeH 0 (v := ?_) rfl (by kernel_rfl) (by kernel_rfl) (by kernel_rfl) (fun _ _ _ h => h) (Below.refl _ _) (by rfl) (fun W' hW' => ?_) ?_; rotate_left; · (have z := (hW'.cell (World.block_lt_of_cell? _ _ y2)).trans y2; clear hW'; go_simp; first | done | with_reducible rfl)
                simp only [Act.put, List.setIfInBounds_toArray, List.set_cons_zero, List.set_cons_succ]
                refine takeH 1 (v := ?_) rfl (by kernel_rfl) (by kernel_rfl) (by kernel_rfl) (fun _ _ _ h => h) (Below.refl _ _) (by rfl) (fun W' hW' => ?_) ?_; rotate_left; · (have z := (hW'.cell (World.block_lt_of_cell? _ _ y2)).trans y2; clear hW'; go_simp; first | done | with_reducible rfl)
                simp only [Act.put, List.setIfInBounds_toArray, List.set_cons_zero, List.set_cons_succ]
                refine takeH 2 (v := ?_) rfl (by kernel_rfl) (by kernel_rfl) (by kernel_rfl) (fun _ _ _ h => h) (Below.refl _ _) (by rfl) (fun W' hW' => ?_) ?_; rotate_left; · (have z := (hW'.cell (World.block_lt_of_cell? _ _ y2)).trans y2; clear hW'; go_simp; first | done | with_reducible rfl)
                simp only [Act.put, List.setIfInBounds_toArray, List.set_cons_zero, List.set_cons_succ]
                refine takeH 3 (v := ?_) rfl (by kernel_rfl) (by kernel_rfl) (by kernel_rfl) (fun _ _ _ h => h) (Below.refl _ _) (by rfl) (fun W' hW' => ?_) ?_; rotate_left; · (have z := (hW'.cell (World.block_lt_of_cell? _ _ y2)).trans y2; clear hW'; go_simp; first | done | with_reducible rfl)
                simp only [Act.put, List.setIfInBounds_toArray, List.set_cons_zero, List.set_cons_succ]
                refine takeH 4 (v := ?_) rfl (by kernel_rfl) (by kernel_rfl) (by kernel_rfl) (fun _ _ _ h => h) (Below.refl _ _) (by rfl) (fun W' hW' => ?_) ?_; rotate_left; · (skip; clear hW'; go_simp; first | done | with_reducible rfl)
                simp only [Act.put, List.setIfInBounds_toArray, List.set_cons_zero, List.set_cons_succ]
                refine takeH 5 (v := ?_) rfl (by kernel_rfl) (by kernel_rfl) (by kernel_rfl) (fun _ _ _ h => h) (Below.refl _ _) (by rfl) (fun W' hW' => ?_) ?_; rotate_left; · (skip; clear hW'; go_simp; first | done | with_reducible rfl)
                simp only [Act.put, List.setIfInBounds_toArray, List.set_cons_zero, List.set_cons_succ]
                refine' callH 6 (f := _) (args := _) rfl (by kernel_rfl) (by rfl) ?_ ?_; rotate_left 2; · (go_simp; first | done | with_reducible rfl | (constructor <;> with_reducible rfl))
                refine ((hMo_h.out _)).mono ?_
                rintro e w2 ⟨rfl, rfl⟩
                refine ⟨_, rfl, Below.refl _ _, ?_⟩
                simp only [Act.put, List.setIfInBounds_toArray, List.set_cons_zero, List.set_cons_succ]
                refine takeH 7 (v := ?_) rfl (by kernel_rfl) (by kernel_rfl) (by kernel_rfl) (fun _ _ _ h => h) (Below.refl _ _) (by rfl) (fun W' hW' => ?_) ?_; rotate_left; · (skip; clear hW'; go_simp; first | done | with_reducible rfl)
                simp only [Act.put, List.setIfInBounds_toArray, List.set_cons_zero, List.set_cons_succ]
                refine doneH (by kernel_rfl) ?_
                go_wp2_with (fail)
                refine ((hLe_h.out _)).mono ?_
                rintro e w3 ⟨rfl, rfl⟩
                go_wp2_with (fail)
                go_roundw
                case rel => exact ⟨e + 1, by omega, by go_num, hset_h.out, hI2'_h.out, hB2'_h.out⟩
                case measure => simp [intOf]; omega
              · rw [if_neg hVM] at gr
                have hsk := mid_skip gr gV
                have hbq : (V == M) = false := by rw [beq_eq_false_iff_ne]; exact hVM
                clear y2
                have hMo_h := Lib.hid hMo
                have hLe_h := Lib.hid hLe
                have hsk_h := Lib.hid hsk
                clear hMo hLe hsk
                go_wp2_with (fail)
                refine beginB (by kernel_rfl) (fun W1 hW1 => ?_)
                have hbw : Below wj.heap.size wj W1 := by rw [hW1]; exact below_drew (Below.refl _ _)
                clear hW1
                have hI1 := hISe.below hbw
                have hI2 := hIe.below hbw
                have hB2 := below_trans hBe hbw hBe.size
                obtain ⟨zd, ze, y2⟩ := hI1.rd e _ gm
                obtain rfl := Option.some.inj ze
                clear ze hISe hIe hBe hbw
                rw [hsk_h.out] at hI1
                clear gm gr gV
                have hI1_h := Lib.hid hI1
                have hI2_h := Lib.hid hI2
                have hB2_h := Lib.hid hB2
                have hV_h := Lib.hid hV
                have hDl_h := Lib.hid hDl
                have hlen_h := Lib.hid hlen
                have hM_h := Lib.hid hM
                have hmn_h := Lib.hid hmn
                clear hI1 hI2 hB2 hV hDl hlen hM hmn
                refine takeH 0 (v := ?_) rfl (by kernel_rfl) (by kernel_rfl) (by kernel_rfl) (fun _ _ _ h => h) (Below.refl _ _) (by rfl) (fun W' hW' => ?_) ?_; rotate_left; · (have z := (hW'.cell (World.block_lt_of_cell? _ _ y2)).trans y2; clear hW'; go_simp; first | done | with_reducible rfl)
                simp only [Act.put, List.setIfInBounds_toArray, List.set_cons_zero, List.set_cons_succ]
                refine takeH 1 (v := ?_) rfl (by kernel_rfl) (by kernel_rfl) (by kernel_rfl) (fun _ _ _ h => h) (Below.refl _ _) (by rfl) (fun W' hW' => ?_) ?_; rotate_left; · (have z := (hW'.cell (World.block_lt_of_cell? _ _ y2)).trans y2; clear hW'; go_simp; first | done | with_reducible rfl)
                simp only [Act.put, List.setIfInBounds_toArray, List.set_cons_zero, List.set_cons_succ]
                refine takeH 2 (v := ?_) rfl (by kernel_rfl) (by kernel_rfl) (by kernel_rfl) (fun _ _ _ h => h) (Below.refl _ _) (by rfl) (fun W' hW' => ?_) ?_; rotate_left; · (have z := (hW'.cell (World.block_lt_of_cell? _ _ y2)).trans y2; clear hW'; go_simp; first | done | with_reducible rfl)
                simp only [Act.put, List.setIfInBounds_toArray, List.set_cons_zero, List.set_cons_succ]
                refine takeH 3 (v := ?_) rfl (by kernel_rfl) (by kernel_rfl) (by kernel_rfl) (fun _ _ _ h => h) (Below.refl _ _) (by rfl) (fun W' hW' => ?_) ?_; rotate_left; · (have z := (hW'.cell (World.block_lt_of_cell? _ _ y2)).trans y2; clear hW'; go_simp; first | done | with_reducible rfl)
                simp only [Act.put, List.setIfInBounds_toArray, List.set_cons_zero, List.set_cons_succ]
                refine takeH 4 (v := ?_) rfl (by kernel_rfl) (by kernel_rfl) (by kernel_rfl) (fun _ _ _ h => h) (Below.refl _ _) (by rfl) (fun W' hW' => ?_) ?_; rotate_left; · (skip; clear hW'; go_simp; first | done | with_reducible rfl)
                simp only [Act.put, List.setIfInBounds_toArray, List.set_cons_zero, List.set_cons_succ]
                refine takeH 5 (v := ?_) rfl (by kernel_rfl) (by kernel_rfl) (by kernel_rfl) (fun _ _ _ h => h) (Below.refl _ _) (by rfl) (fun W' hW' => ?_) ?_; rotate_left; · (skip; clear hW'; go_simp; first | done | with_reducible rfl)
                simp only [Act.put, List.setIfInBounds_toArray, List.set_cons_zero, List.set_cons_succ]
                refine' callH 6 (f := _) (args := _) rfl (by kernel_rfl) (by rfl) ?_ ?_; rotate_left 2; · (go_simp; first | done | with_reducible rfl | (constructor <;> with_reducible rfl))
                refine ((hMo_h.out _)).mono ?_
                rintro e w2 ⟨rfl, rfl⟩
                refine ⟨_, rfl, Below.refl _ _, ?_⟩
                simp only [Act.put, List.setIfInBounds_toArray, List.set_cons_zero, List.set_cons_succ]
                refine takeH 7 (v := ?_) rfl (by kernel_rfl) (by kernel_rfl) (by kernel_rfl) (fun _ _ _ h => h) (Below.refl _ _) (by rfl) (fun W' hW' => ?_) ?_; rotate_left; · (skip; clear hW'; go_simp; first | done | with_reducible rfl)
                simp only [Act.put, List.setIfInBounds_toArray, List.set_cons_zero, List.set_cons_succ]
                refine doneH (by kernel_rfl) ?_
                go_wp2_with (fail)
                go_roundw
                case rel => exact ⟨e + 1, by omega, by go_num, hI1_h.out, hI2_h.out, hB2_h.out⟩
                case measure => simp [intOf]; omega
            · obtain rfl : n = e := by omega
              have hDl := hDj_h.out.len
              rw [List.take_of_length_le (by rw [relab_length]; omega), List.drop_of_length_le (by omega), List.append_nil, ← hnext_h.out] at hISe
              have hISe_h := Lib.hid hISe
              have hIe_h := Lib.hid hIe
              have hBe_h := Lib.hid hBe
              clear hISe hIe hBe
              go_wp2_with (fail)
              go_roundw
              case rel => exact ⟨j + 1, by omega, by go_num, hISe_h.out, hIe_h.out, hBe_h.out⟩
              case measure => simp [intOf]; omega
         · obtain rfl : q = j := by omega
           rw [← hstep_h.out] at hISj
           clear hIj
           have hISj_h := Lib.hid hISj
           have hBj_h := Lib.hid hBj
           clear hISj hBj
           go_wp2_with (fail)
           go_roundw
           case rel => exact ⟨k + 1, by omega, by go_num, hISj_h.out, hBj_h.out⟩
           case measure => simp [intOf]; omega
      · obtain rfl : m = k := by omega
        rw [hCK_h.out] at hIS
        obtain ⟨⟨y0, y1, y2, y3⟩, g0, g1, g2, g3⟩ := box4 kr
        clear kr
        go_wp2_with (at_make; refine wpList_make_Sl _ rfl _ _ _ rfl tInt Try.underlying23 info_int n n rfl rfl rfl rfl (Nat.le_refl _) (by omega) (by unfold maxLen; omega) ?_; intro Z w3 hs0 hZb hb2)
        have hZ1 : IS w3 (some Z) n (List.replicate n 0) := IS.of_made hs0
        have hIS2 := hIS.below hb2
        have hB2 := below_trans hB1 hb2 hB1.size
        have hGZ : ∀ b, b ∈ fpA (some G) → ¬ b ∈ fpA (some Z) := fun b hb hb' => by
          have := hIS.lt G.block (by simp)
          simp at hb hb'; omega
        have hWo := hB1.size
        clear y0 y1 y2 y3 g0 g1 g2 g3 hb2 hs0 hIS hB1 hBw
        have hZ1_h := Lib.hid hZ1
        have hIS2_h := Lib.hid hIS2
        have hB2_h := Lib.hid hB2
        have hGZ_h := Lib.hid hGZ
        clear hZ1 hIS2 hB2 hGZ
        go_loopw [89, 15] (fun i u wr => ∃ k : Nat, k ≤ n ∧ i = .int .i64 k ∧ u = .int .i64 (nrM C k : Int) ∧ IS wr (some Z) n ((num0 C).take k ++ List.replicate (n - k) 0) ∧ IS wr (some G) n C ∧ Below W.heap.size W wr) (fun i _ _ => n - (intOf i).toNat)
        case atStart => exact ⟨0, Nat.zero_le _, rfl, rfl, by simpa using hZ1_h.out, hIS2_h.out, hB2_h.out⟩
        case round =>
         clear hZ1_h hIS2_h hB2_h
         obtain ⟨k, hk, rfl, rfl, hIZ, hIG, hBk⟩ := hrel
         obtain ⟨wi, rfl⟩ : ∃ x, x = wr := ⟨_, rfl⟩
         have hCl := hCm_h.out.len
         have hnl : (num0 C).length = n := by rw [num0_length, hCl]
         by_cases hlt : k < n
         · have gC := hCm_h.out.get hlt
           obtain ⟨hr0, hrk⟩ := hCm_h.out.le k hlt
           obtain ⟨u, hu⟩ : ∃ u : Nat, C.getD k 0 = (u : Int) := ⟨(C.getD k 0).toNat, by omega⟩
           rw [hu] at gC hr0 hrk
           obtain ⟨gd2, g2e, y2⟩ := hIG.rd k _ gC
           obtain rfl := Option.some.inj g2e
           have hn0 := num0_get (C := C) (w := k) (by omega)
           have htk := num0_take (C := C) (k := k) (by omega)
           rw [hu] at hn0 htk
           have hlenZ : ((num0 C).take k ++ List.replicate (n - k) (0 : Int)).length = n := by rw [List.length_append, List.length_take, List.length_replicate, hnl]; omega
           have hkI : (k : Int) < (n : Int) := by omega
           have hle := nrM_le C k
           by_cases huk : u = k
           · subst huk
             have hsk : nrM C (u + 1) = nrM C u + 1 := nrM_new hu
             rw [if_pos rfl] at htk
             have hset := hIZ.set (ad := Z) rfl (j := u) (nrM C u : Int) (by rw [hlenZ]; exact hlt)
             rw [set_rep_step _ _ _ (by rw [List.length_take, hnl]; omega) hlt, ← htk] at hset
             obtain ⟨zd, z0, ze, _, _, zc, zf⟩ := hIZ.at_ (j := u) (by rw [hlenZ]; exact hlt)
             obtain rfl := Option.some.inj ze
             have zfe := zf u
             have hks : Keeps (· ∈ fpA (some Z)) wi (wi.setCell (Z.add u) (.int .i64 (nrM C u : Int))) := Keeps.setCell (S := (· ∈ fpA (some Z))) (Keeps.refl _ wi) (p := Z.add u) (by rw [block_of_add]; simp) _
             have hIG2 := hIG.keeps hks hGZ_h.out
             have hBk2 := below_keeps hBk hks hBk.size (fun b hb => by simp at hb; omega)
             clear hIZ hIG hBk hks ze zf g2e hn0 htk hlenZ gC hr0 hrk hnl
             have hset_h := Lib.hid hset
             have hIG2_h := Lib.hid hIG2
             have hBk2_h := Lib.hid hBk2
             have hsk_h := Lib.hid hsk
             have hu_h := Lib.hid hu
             clear hset hIG2 hBk2 hsk hu
             go_wp2_with (fail)
             go_roundw
             case rel => exact ⟨u + 1, by omega, by go_num, by rw [hsk_h.out]; go_num, hset_h.out, hIG2_h.out, hBk2_h.out⟩
             case measure => simp [intOf]; omega
           · have huI : ¬ (u : Int) = (k : Int) := by omega
             rw [if_neg huI] at htk
             have hbq : ((u : Int) == (k : Int)) = false := by rw [beq_eq_false_iff_ne]; exact huI
             have hsk : nrM C (k + 1) = nrM C k := nrM_skip (by rw [hu]; omega)
             have hrep : (num0 C).take k ++ List.replicate (n - k) (0 : Int) = (num0 C).take (k + 1) ++ List.replicate (n - (k + 1)) 0 := by
               rw [htk, show n - k = (n - (k + 1)) + 1 by omega, List.replicate_succ, List.append_assoc]; rfl
             rw [hrep] at hIZ
             clear hn0 htk hlenZ gC g2e hnl hrep
             have hIZ_h := Lib.hid hIZ
             have hIG_h := Lib.hid hIG
             have hBk_h := Lib.hid hBk
             have hsk_h := Lib.hid hsk
             have hu_h := Lib.hid hu
             clear hIZ hIG hBk hsk hu
             go_wp2_with (fail)
             go_roundw
             case rel => exact ⟨k + 1, by omega, by go_num, by rw [hsk_h.out], hIZ_h.out, hIG_h.out, hBk_h.out⟩
             case measure => simp [intOf]; omega
         · obtain rfl : n = k := by omega
           rw [List.take_of_length_le (by omega), Nat.sub_self, List.replicate_zero, List.append_nil] at hIZ
           clear hnl hCl
           have hIZ_h := Lib.hid hIZ
           have hIG_h := Lib.hid hIG
           have hBk_h := Lib.hid hBk
           clear hIZ hIG hBk
           go_wp2_with (fail)
           go_loopw [106] (fun i wr => ∃ k : Nat, k ≤ n ∧ i = .int .i64 k ∧ IS wr (some Z) n ((numM C).take k ++ (num0 C).drop k) ∧ IS wr (some G) n C ∧ Below W.heap.size W wr) (fun i _ => n - (intOf i).toNat)
           case atStart => exact ⟨0, Nat.zero_le _, rfl, by simpa using hIZ_h.out, hIG_h.out, hBk_h.out⟩
           case round =>
            clear hIZ_h hIG_h hBk_h
            obtain ⟨k, hk, rfl, hIZ, hIG, hBk⟩ := hrel
            obtain ⟨wj, rfl⟩ : ∃ x, x = wr := ⟨_, rfl⟩
            have hCl := hCm_h.out.len
            have hnl : (numM C).length = n := by rw [numM_length, hCl]
            have hn0l : (num0 C).length = n := by rw [num0_length, hCl]
            by_cases hlt : k < n
            · have gC := hCm_h.out.get hlt
              obtain ⟨hr0, hrk⟩ := hCm_h.out.le k hlt
              obtain ⟨u, hu⟩ : ∃ u : Nat, C.getD k 0 = (u : Int) := ⟨(C.getD k 0).toNat, by omega⟩
              have hfu := hCm_h.out.fix k hlt
              rw [hu] at gC hr0 hrk hfu
              rw [Int.toNat_natCast] at hfu
              obtain ⟨gd2, g2e, y2⟩ := hIG.rd k _ gC
              obtain rfl := Option.some.inj g2e
              have hnk := numM_at hCm_h.out hlt hu
              have hlenZ : ((numM C).take k ++ (num0 C).drop k).length = n := by rw [List.length_append, List.length_take, List.length_drop, hnl, hn0l]; omega
              have gm : ((numM C).take k ++ (num0 C).drop k)[u]? = some (nrM C u : Int) := by
                by_cases huk : u < k
                · rw [List.getElem?_append_left (by rw [List.length_take, hnl]; omega), List.getElem?_take_of_lt huk]
                  exact numM_at hCm_h.out (by omega) hfu
                · obtain rfl : u = k := by omega
                  rw [get_mid (by omega), num0_get (by omega), if_pos hu]
              obtain ⟨gd3, g3e, y3⟩ := hIZ.rd u _ gm
              obtain rfl := Option.some.inj g3e
              have hset := hIZ.set (ad := Z) rfl (j := k) (nrM C u : Int) (by rw [hlenZ]; exact hlt)
              rw [mid_set (by omega) hnk] at hset
              obtain ⟨zd, z0, ze, _, _, zc, zf⟩ := hIZ.at_ (j := k) (by rw [hlenZ]; exact hlt)
              obtain rfl := Option.some.inj ze
              have zfe := zf k
              have hks : Keeps (· ∈ fpA (some Z)) wj (wj.setCell (Z.add k) (.int .i64 (nrM C u : Int))) := Keeps.setCell (S := (· ∈ fpA (some Z))) (Keeps.refl _ wj) (p := Z.add k) (by rw [block_of_add]; simp) _
              have hIG2 := hIG.keeps hks hGZ_h.out
              have hBk2 := below_keeps hBk hks hBk.size (fun b hb => by simp at hb; omega)
              have hkI : (k : Int) < (n : Int) := by omega
              have huI : (u : Int) < (n : Int) := by omega
              clear hIZ hIG hBk hks ze zf g2e g3e hnk hlenZ gC gm hnl hn0l hCl
              have hset_h := Lib.hid hset
              have hIG2_h := Lib.hid hIG2
              have hBk2_h := Lib.hid hBk2
              have hu_h := Lib.hid hu
              have hfu_h := Lib.hid hfu
              clear hset hIG2 hBk2 hu hfu
              go_wp2_with (fail)
              go_roundw
              case rel => exact ⟨k + 1, by omega, by go_num, hset_h.out, hIG2_h.out, hBk2_h.out⟩
              case measure => simp [intOf]; omega
            · obtain rfl : n = k := by omega
              rw [List.take_of_length_le (by omega), List.drop_of_length_le (by omega), List.append_nil] at hIZ
              have hBz := below_trans bW_h.out hBk bW_h.out.size
              have hFz : Fresh w.heap.size (some Z) := fun b hb => by
                have := bW_h.out.size
                simp at hb; omega
              clear hIG hBk hnl hn0l hCl
              have hIZ_h := Lib.hid hIZ
              have hBz_h := Lib.hid hBz
              have hFz_h := Lib.hid hFz
              clear hIZ hBz hFz
              go_wp2_with (fail)
              go_ret2
              exact ⟨some Z, n, rfl, hIZ_h.out, hFz_h.out, hBz_h.out⟩

end Go.Proofs.Ytanhmljgeiajoaa
