/-
  What the texts above it need, part 3.
-/
import Derived.Test.YtpkmjenoniedjaaGreatKSpiderGraph2
import Derived.Maps.RangeWalk
import Derived.Maps.OwnSet
namespace Go.Proofs.YtpkmjenoniedjaaGreat
open Go.RowKit
theorem mono_of {g : Gr} (h : monoB g = true) : ∃ n, Mono g n := by
 unfold monoB at h
 simp only [Bool.and_eq_true] at h
 obtain ⟨h1, h2, h3⟩ := h
 obtain ⟨n, hn, n100, m60, i12, o12, hin⟩ := grB_parts h1
 have hk : ∀ e, e ∈ g.2.1 → egB e = true := by
  unfold grB at h1
  simp only [Bool.and_eq_true] at h1
  exact List.all_eq_true.1 h1.2.1
 obtain ⟨l2, p2⟩ := prmN_parts h2
 obtain ⟨_, p3⟩ := prmN_parts h3
 rw [hn] at l2
 have o2 := permGo_nodup p2
 have o3 := permGo_nodup p3
 have rng : ∀ x, x ∈ orgW g → 0 ≤ x ∧ x < (n : Int) := fun x hx => by
  refine inW_iff.1 hin x ?_
  unfold orgW at hx
  unfold t_allW
  rcases List.mem_append.1 hx with hx | hx
  · exact List.mem_append_left _ hx
  · refine List.mem_append_right _ (List.mem_append_right _ ?_)
    have key : ∀ es : List Eg, x ∈ outW es → x ∈ edW es := fun es => by
     induction es with
     | nil => intro hh; simp [outW] at hh
     | cons a r ih =>
       intro hh
       unfold outW at hh
       unfold edW
       rcases List.mem_append.1 hh with h2 | h2
       · simp [h2]
       · simp [ih h2]
    exact key _ hx
 exact ⟨n, hn, n100, m60, i12, o12, fun x hx => inW_iff.1 hin x hx, o2.1, o3.1, fun w hw => perm_full o2.1 rng (by omega) hw, hk⟩
def tabK (f : Eg → List Int) (es : List Eg) (n k : Nat) : List Int := (List.range n).map fun w : Nat => atE f es k (w : Int)
def tabJ (f : Eg → List Int) (es : List Eg) (n k j : Nat) : List Int := (List.range n).map fun w : Nat => if (w : Int) ∈ (f (es.getD k eg0)).take j then (k : Int) else atE f es k (w : Int)
@[simp] theorem tabK_length (f : Eg → List Int) (es : List Eg) (n k : Nat) : (tabK f es n k).length = n := by simp [tabK]
@[simp] theorem tabJ_length (f : Eg → List Int) (es : List Eg) (n k j : Nat) : (tabJ f es n k j).length = n := by simp [tabJ]
theorem tabK_get {f : Eg → List Int} {es : List Eg} {n k w : Nat} (h : w < n) : (tabK f es n k)[w]? = some (atE f es k (w : Int)) := by simp [tabK, h]
theorem tabK_zero (f : Eg → List Int) (es : List Eg) (n : Nat) : tabK f es n 0 = List.replicate n (-1) := by
 unfold tabK
 rw [List.eq_replicate_iff]
 refine ⟨by simp, fun x hx => ?_⟩
 obtain ⟨w, _, rfl⟩ := List.mem_map.1 hx
 rfl
theorem tabJ_zero (f : Eg → List Int) (es : List Eg) (n k : Nat) : tabJ f es n k 0 = tabK f es n k := by simp [tabJ, tabK]
theorem tabJ_all {f : Eg → List Int} {es : List Eg} {n k j : Nat} (h : (f (es.getD k eg0)).length ≤ j) : tabJ f es n k j = tabK f es n (k + 1) := by
 unfold tabJ tabK
 rw [List.take_of_length_le h]
 rfl
theorem tabJ_step {f : Eg → List Int} {es : List Eg} {n k j x : Nat} (h : (f (es.getD k eg0))[j]? = some (x : Int)) : tabJ f es n k (j + 1) = (tabJ f es n k j).set x (k : Int) := by
 apply List.ext_getElem?
 intro i
 rw [List.getElem?_set]
 by_cases hi : i < n
 · unfold tabJ
   simp only [List.getElem?_map, List.getElem?_range hi, Option.map_some, List.length_map, List.length_range]
   have e : (f (es.getD k eg0)).take (j + 1) = (f (es.getD k eg0)).take j ++ [(x : Int)] := by rw [List.take_add_one, h]; rfl
   rw [e]
   by_cases hx : x = i
   · subst hx
     simp [hi]
   · have hne : ¬ (i : Int) = (x : Int) := by omega
     simp [hx, hne]
 · rw [List.getElem?_eq_none (by simpa using hi), List.getElem?_eq_none (by simpa using hi)]
   split
   · rw [if_neg (by rw [tabJ_length]; omega)]
   · rfl
set_option maxHeartbeats 400000 in
theorem cnNone_any (n : Nat) (w : World) (hn : n ≤ 1048576) :
  Calls Tryz.prog 58 #[.int .i64 n] w fun e w' => ∃ G, e = .returned (.slice (some G) n n) ∧ IS w' (some G) n (List.replicate n (-1)) ∧ w.heap.size ≤ G.block ∧ Below w.heap.size w w' := by
 go_enter Tryz.func58, Tryz.ntmps58
 go_wp2_with (at_make; refine wpList_make_Sl _ rfl _ _ _ rfl tInt Tryz.underlying23 info_int n n rfl rfl rfl rfl (Nat.le_refl _) (by omega) (by unfold maxLen; omega) ?_; intro G w1 hs hfG hb1)
 have his0 : IS w1 (some G) n (List.replicate n 0) := IS.of_made hs
 clear hs
 go_loopw [9] (fun i wr => ∃ k : Nat, k ≤ n ∧ i = .int .i64 k ∧ IS wr (some G) n ((List.replicate n (-1)).take k ++ (List.replicate n (0 : Int)).drop k) ∧ Below w.heap.size w wr) (fun i _ => n - (intOf i).toNat)
 case atStart => exact ⟨0, Nat.zero_le _, rfl, by simpa using his0, hb1⟩
 case round =>
  clear his0 hb1
  obtain ⟨k, hk, rfl, his, hb⟩ := hrel
  have hlen : ((List.replicate n (-1 : Int)).take k ++ (List.replicate n (0 : Int)).drop k).length = n := by simp; omega
  by_cases hlt : k < n
  · obtain ⟨ad, y, hA, hy, _, hc', hf'⟩ := his.at_ (j := k) (by rw [hlen]; exact hlt)
    obtain rfl := Option.some.inj hA
    have hfz := hf' k
    have his' := his.set (ad := G) rfl (j := k) (-1) (by rw [hlen]; exact hlt)
    rw [take_append_step (x := (-1 : Int)) (by simp) (by simp [hlt])] at his'
    have HI := lH his'
    have hb' := lH (hb.setCell (p := G.add k) (by rw [block_of_add]; exact hfG) (.int .i64 (-1)))
    have hkI : (k : Int) < (n : Int) := by omega
    clear his' hf' his hy hlen hb
    go_wp2_with (fail)
    go_roundw
    case rel => exact ⟨k + 1, by omega, by go_num, HI.out, hb'.out⟩
    case measure => simp [intOf]; omega
  · obtain rfl : n = k := by omega
    have his2 : IS wr (some G) n (List.replicate n (-1)) := by
     have := his
     rwa [List.take_of_length_le (by simp), List.drop_of_length_le (by simp), List.append_nil] at this
    clear his hlen
    go_wp2_with (fail)
    go_ret
    exact ⟨G, rfl, his2, hfG, hb⟩
set_option maxRecDepth 100000 in
set_option maxHeartbeats 8000000 in
theorem mtOrigins_any {v : Value} {g : Gr} (w : World) (n : Nat) (h : RdGr w v g) (hm : Mono g n) :
  Calls Tryz.prog 80 #[v] w fun e w' => ∃ G, e = .returned (.slice (some G) n n) ∧ IS w' (some G) n (tabK outE g.2.1 n g.2.1.length) ∧ w.heap.size ≤ G.block ∧ Below w.heap.size w w' := by
 obtain ⟨A, c, hs, ⟨B, b, s⟩, ⟨C', d', t⟩, rfl, e1, e2, e3, hE, hRa, hRb⟩ := h
 have hwr : ∀ i : Nat, i < g.2.1.length → ∀ x, x ∈ outE (g.2.1.getD i eg0) → 0 ≤ x ∧ x < (n : Int) := fun i hi x hx => hm.wires (e := (i : Int)) (by omega) (by omega) x (by unfold wiresE edgeAt; rw [Int.toNat_natCast]; exact List.mem_append_right _ hx)
 have hk' := hm.kind
 have hn100 := hm.n100
 have hm60 := hm.m60
 have hgn := hm.hn
 clear hm
 obtain ⟨z, es, s0, t0⟩ := g
 have a1 : es = hs.map egOf := e1
 have a4 : z = (n : Int) := hgn
 subst a4
 have hegB : ∀ e, e ∈ es → egB e = true := hk'
 have hwr' : ∀ i : Nat, i < es.length → ∀ x, x ∈ outE (es.getD i eg0) → 0 ≤ x ∧ x < (n : Int) := hwr
 obtain ⟨m, hm⟩ : ∃ m, m = hs.length := ⟨_, rfl⟩
 have hLm : es.length = m := by rw [a1, List.length_map, hm]
 have hm60' : es.length ≤ 60 := hm60
 show Calls Tryz.prog _ #[.agg #[.int .i64 (n : Int), .slice A hs.length c, .slice B s.length b, .slice C' t.length d']] w fun e w' => ∃ G, e = .returned (.slice (some G) n n) ∧ IS w' (some G) n (tabK outE es n es.length) ∧ w.heap.size ≤ G.block ∧ Below w.heap.size w w'
 rw [hLm] at hwr' hm60' ⊢
 rw [← hm]
 obtain ⟨p, hp⟩ : ∃ p, p = s.length := ⟨_, rfl⟩
 obtain ⟨r, hr⟩ : ∃ r, r = t.length := ⟨_, rfl⟩
 rw [← hp, ← hr]
 obtain ⟨W, hW, bW, k0⟩ := (⟨_, rfl, t_below_alloc _ _, heap_alloc_new _ _⟩ : ∃ W, W = w.alloc (.cells #[.int .i64 (n : Int), .slice A m c, .slice B p b, .slice C' r d'] tGr) ∧ Below w.heap.size w W ∧ W.heap[w.heap.size]? = some (.cells #[.int .i64 (n : Int), .slice A m c, .slice B p b, .slice C' r d'] tGr))
 obtain ⟨⟨c0, c1, c2, c3⟩, f0, f1, f2, f3⟩ := t_box4 k0
 clear hRa hRb e1 e2 e3 hgn hwr hk' hm60; have hE_h := lH hE; have hegB_h := lH hegB; have hwr'_h := lH hwr'; have hm_h := lH hm; have hLm_h := lH hLm; have a1_h := lH a1; have hp_h := lH hp; have hr_h := lH hr; have bW_h := lH bW; have k0_h := lH k0; clear hE hegB hwr' hm hLm a1 hp hr bW k0
 go_enter Tryz.func80, Tryz.ntmps80
 go_upto_region 1 with (fail)
 rw [← hW]
 clear hW
 go_wp2_with (at_make; refine wpList_make_Sl _ rfl _ _ _ rfl tInt Tryz.underlying23 info_int n n rfl rfl rfl rfl (Nat.le_refl _) (by omega) (by unfold maxLen; omega) ?_; intro G w1 hs1 hfG hb1)
 have his0 : IS w1 (some G) n (List.replicate n 0) := IS.of_made hs1
 clear hs1 c0 c1 c2 c3 f0 f1 f2 f3
 have hGw : w.heap.size ≤ G.block := by have := bW_h.out.size; omega
 have his0_h := lH his0; have hb1_h := lH hb1; clear his0 hb1
 go_loopw [14] (fun i wr => ∃ k : Nat, k ≤ n ∧ i = .int .i64 k ∧ IS wr (some G) n ((List.replicate n (-1)).take k ++ (List.replicate n (0 : Int)).drop k) ∧ Below W.heap.size W wr) (fun i _ => n - (intOf i).toNat)
 case atStart => exact ⟨0, Nat.zero_le _, rfl, by simpa using his0_h.out, hb1_h.out⟩
 case round =>
  clear his0_h hb1_h
  obtain ⟨k, hk, rfl, his, hb⟩ := hrel
  obtain ⟨wo, rfl⟩ : ∃ x, x = wr := ⟨_, rfl⟩
  have hlen : ((List.replicate n (-1 : Int)).take k ++ (List.replicate n (0 : Int)).drop k).length = n := by simp; omega
  by_cases hlt : k < n
  · obtain ⟨ad, y, hA, hy, _, hc', hf'⟩ := his.at_ (j := k) (by rw [hlen]; exact hlt)
    obtain rfl := Option.some.inj hA
    have hfz := hf' k
    have his' := his.set (ad := G) rfl (j := k) (-1) (by rw [hlen]; exact hlt)
    rw [take_append_step (x := (-1 : Int)) (by simp) (by simp [hlt])] at his'
    have hb' := hb.setCell (p := G.add k) (by rw [block_of_add]; exact hfG) (.int .i64 (-1))
    have hkI : (k : Int) < (n : Int) := by omega
    clear hf' his hy hlen hb; have his'_h := lH his'; have hb'_h := lH hb'; clear his' hb'
    go_wp2_with (fail)
    go_roundw
    case rel => exact ⟨k + 1, by omega, by go_num, his'_h.out, hb'_h.out⟩
    case measure => simp [intOf]; omega
  · obtain rfl : n = k := by omega
    have his2 : IS wo (some G) n (tabK outE es n 0) := by
     rw [tabK_zero]
     have := his
     rwa [List.take_of_length_le (by simp), List.drop_of_length_le (by simp), List.append_nil] at this
    have ko := t_box_below k0_h.out hb
    obtain ⟨⟨c0, c1, c2, c3⟩, f0, f1, f2, f3⟩ := t_box4 ko
    clear his hlen ko; have his2_h := lH his2; have hb_h := lH hb; clear his2 hb
    go_wp2_with (fail)
    clear c0 c1 c2 c3 f0 f1 f2 f3
    go_loopw [24] (fun i wr => ∃ k : Nat, k ≤ m ∧ i = .int .i64 k ∧ IS wr (some G) n (tabK outE es n k) ∧ Below W.heap.size W wr) (fun i _ => m - (intOf i).toNat)
    case atStart => exact ⟨0, Nat.zero_le _, rfl, his2_h.out, hb_h.out⟩
    case round =>
     clear his2_h hb_h
     obtain ⟨k, hk, rfl, hIS, hB1⟩ := hrel
     obtain ⟨wo, rfl⟩ : ∃ x, x = wr := ⟨_, rfl⟩
     have hBw := below_trans bW_h.out hB1 bW_h.out.size
     by_cases hlt : k < m
     · obtain ⟨ad, κ, vv, B1, b1, s1, C1, b2, t1, rfl, hn, ⟨d0, d1, d2, d3⟩, _⟩ := (hE_h.out.below hBw).at_ (j := k) (by rw [← hm_h.out]; exact hlt)
       have hr1 := (hE_h.out.2 _ (List.mem_of_getElem? hn)).2
       have hek : es[k]? = some (κ, vv, s1, t1) := by rw [a1_h.out, List.getElem?_map, hn]; rfl
       have hed : es.getD k eg0 = (κ, vv, s1, t1) := by rw [List.getD_eq_getElem?_getD, hek]; rfl
       obtain ⟨⟨l1, l2⟩, l3⟩ := egB_len (hegB_h.out _ (List.mem_of_getElem? hek))
       simp only at l1 l2 l3
       have hwk := hwr'_h.out k hlt
       rw [hed] at hwk
       have hwk' : ∀ x, x ∈ t1 → 0 ≤ x ∧ x < (n : Int) := hwk
       clear hwk
       obtain ⟨p1, hp1⟩ : ∃ p1, p1 = s1.length := ⟨_, rfl⟩
       obtain ⟨r1, hr1'⟩ : ∃ r1, r1 = t1.length := ⟨_, rfl⟩
       rw [← hp1] at d2 l1
       rw [← hr1'] at d3 l2
       obtain ⟨W6, hW6, bW6, k6⟩ := (⟨_, rfl, t_below_alloc _ _, heap_alloc_new _ _⟩ : ∃ W, W = wo.alloc (.cells #[.int .i64 κ, .int .i64 vv, .slice B1 p1 b1, .slice C1 r1 b2] tEd) ∧ Below wo.heap.size wo W ∧ W.heap[wo.heap.size]? = some (.cells #[.int .i64 κ, .int .i64 vv, .slice B1 p1 b1, .slice C1 r1 b2] tEd))
       have kr := t_box_below k0_h.out hB1
       have hB6 := below_trans hB1 bW6 hB1.size
       have hI6 := hIS.below bW6
       obtain ⟨⟨c0, c1, c2, c3⟩, f0, f1, f2, f3⟩ := t_box4 k6
       obtain ⟨⟨y0, y1, y2, y3⟩, g0, g1, g2, g3⟩ := t_box4 kr
       have hkI : (k : Int) < (m : Int) := by omega
       have hr1_h' := lH hr1'; clear hr1' hn kr l3; have hek_h := lH hek; have hed_h := lH hed; have hp1_h := lH hp1; have bW6_h := lH bW6; have k6_h := lH k6; have hIS_h := lH hIS; have hB1_h := lH hB1; have hBw_h := lH hBw; have hwk'_h := lH hwk'; have hB6_h := lH hB6; have hI6_h := lH hI6; have hr1_h := lH hr1; clear hek hed hp1 bW6 k6 hIS hB1 hBw hwk' hB6 hI6 hr1
       go_upto_region 10 with (fail)
       rw [← hW6]
       clear hW6 d0 d1 d2 d3 y0 y1 y2 y3 g0 g1 g2 g3
       go_wp2_with (fail)
       clear c0 c1 c2 c3 f0 f1 f2 f3
       go_loopw [32] (fun i wr => ∃ j : Nat, j ≤ r1 ∧ i = .int .i64 j ∧ IS wr (some G) n (tabJ outE es n k j) ∧ Below W.heap.size W wr) (fun i _ => r1 - (intOf i).toNat)
       case atStart => exact ⟨0, Nat.zero_le _, rfl, by rw [tabJ_zero]; exact hI6_h.out, hB6_h.out⟩
       case round =>
        clear hI6_h hB6_h
        obtain ⟨j, hj, rfl, hISj, hBj⟩ := hrel
        obtain ⟨wi, rfl⟩ : ∃ x, x = wr := ⟨_, rfl⟩
        by_cases hltj : j < r1
        · obtain ⟨x, hx⟩ : ∃ x, t1[j]? = some x := ⟨_, List.getElem?_eq_getElem (by rw [← hr1_h'.out]; exact hltj)⟩
          have hxr := hwk'_h.out x (List.mem_of_getElem? hx)
          obtain ⟨bb, rfl⟩ : ∃ bb : Nat, x = (bb : Int) := ⟨x.toNat, by omega⟩
          obtain ⟨cd, rfl, yj⟩ := (hr1_h.out.below (below_trans bW_h.out hBj bW_h.out.size)) j _ hx
          have hstep : tabJ outE es n k (j + 1) = _ := tabJ_step (x := bb) (n := n) (by rw [hed_h.out]; exact hx)
          obtain ⟨zd, z0, ze, _, _, zc, zf⟩ := hISj.at_ (j := bb) (by rw [tabJ_length]; omega)
          obtain rfl := Option.some.inj ze
          have zfk := zf bb
          have hset := hISj.set (ad := G) rfl (j := bb) (k : Int) (by rw [tabJ_length]; omega)
          rw [← hstep] at hset
          have hBk := hBj.setCell (p := G.add bb) (by rw [block_of_add]; exact hfG) (.int .i64 (k : Int))
          have hjI : (j : Int) < (r1 : Int) := by omega
          have hbI : (bb : Int) < (n : Int) := by omega
          clear hISj hBj zf ze hstep hxr; have hset_h := lH hset; have hBk_h := lH hBk; have hx_h := lH hx; clear hset hBk hx
          go_wp2_with (fail)
          go_roundw
          case rel => exact ⟨j + 1, by omega, by go_num, hset_h.out, hBk_h.out⟩
          case measure => simp [intOf]; omega
        · obtain rfl : r1 = j := by omega
          have hI2 : IS wi (some G) n (tabK outE es n (k + 1)) := by
           rw [← tabJ_all (j := r1) (by rw [hed_h.out]; show t1.length ≤ _; rw [← hr1_h'.out]; exact Nat.le_refl _)]
           exact hISj
          clear hISj; have hI2_h := lH hI2; have hBj_h := lH hBj; clear hI2 hBj
          go_wp2_with (fail)
          go_roundw
          case rel => exact ⟨k + 1, by omega, by go_num, hI2_h.out, hBj_h.out⟩
          case measure => simp [intOf]; omega
     · obtain rfl : m = k := by omega
       have hIS_h := lH hIS; have hBw_h := lH hBw; clear hIS hBw; clear hB1
       go_wp2_with (fail)
       go_ret
       exact ⟨G, rfl, hIS_h.out, hGw, hBw_h.out⟩
set_option maxRecDepth 100000 in
set_option maxHeartbeats 8000000 in
theorem mtEnds_any {v : Value} {g : Gr} (w : World) (n : Nat) (h : RdGr w v g) (hm : Mono g n) :
  Calls Tryz.prog 81 #[v] w fun e w' => ∃ G, e = .returned (.slice (some G) n n) ∧ IS w' (some G) n (tabK inE g.2.1 n g.2.1.length) ∧ w.heap.size ≤ G.block ∧ Below w.heap.size w w' := by
 obtain ⟨A, c, hs, ⟨B, b, s⟩, ⟨C', d', t⟩, rfl, e1, e2, e3, hE, hRa, hRb⟩ := h
 have hwr : ∀ i : Nat, i < g.2.1.length → ∀ x, x ∈ inE (g.2.1.getD i eg0) → 0 ≤ x ∧ x < (n : Int) := fun i hi x hx => hm.wires (e := (i : Int)) (by omega) (by omega) x (by unfold wiresE edgeAt; rw [Int.toNat_natCast]; exact List.mem_append_left _ hx)
 have hk' := hm.kind
 have hn100 := hm.n100
 have hm60 := hm.m60
 have hgn := hm.hn
 clear hm
 obtain ⟨z, es, s0, t0⟩ := g
 have a1 : es = hs.map egOf := e1
 have a4 : z = (n : Int) := hgn
 subst a4
 have hegB : ∀ e, e ∈ es → egB e = true := hk'
 have hwr' : ∀ i : Nat, i < es.length → ∀ x, x ∈ inE (es.getD i eg0) → 0 ≤ x ∧ x < (n : Int) := hwr
 obtain ⟨m, hm⟩ : ∃ m, m = hs.length := ⟨_, rfl⟩
 have hLm : es.length = m := by rw [a1, List.length_map, hm]
 have hm60' : es.length ≤ 60 := hm60
 show Calls Tryz.prog _ #[.agg #[.int .i64 (n : Int), .slice A hs.length c, .slice B s.length b, .slice C' t.length d']] w fun e w' => ∃ G, e = .returned (.slice (some G) n n) ∧ IS w' (some G) n (tabK inE es n es.length) ∧ w.heap.size ≤ G.block ∧ Below w.heap.size w w'
 rw [hLm] at hwr' hm60' ⊢
 rw [← hm]
 obtain ⟨p, hp⟩ : ∃ p, p = s.length := ⟨_, rfl⟩
 obtain ⟨r, hr⟩ : ∃ r, r = t.length := ⟨_, rfl⟩
 rw [← hp, ← hr]
 obtain ⟨W, hW, bW, k0⟩ := (⟨_, rfl, t_below_alloc _ _, heap_alloc_new _ _⟩ : ∃ W, W = w.alloc (.cells #[.int .i64 (n : Int), .slice A m c, .slice B p b, .slice C' r d'] tGr) ∧ Below w.heap.size w W ∧ W.heap[w.heap.size]? = some (.cells #[.int .i64 (n : Int), .slice A m c, .slice B p b, .slice C' r d'] tGr))
 obtain ⟨⟨c0, c1, c2, c3⟩, f0, f1, f2, f3⟩ := t_box4 k0
 clear hRa hRb e1 e2 e3 hgn hwr hk' hm60; have hE_h := lH hE; have hegB_h := lH hegB; have hwr'_h := lH hwr'; have hm_h := lH hm; have hLm_h := lH hLm; have a1_h := lH a1; have hp_h := lH hp; have hr_h := lH hr; have bW_h := lH bW; have k0_h := lH k0; clear hE hegB hwr' hm hLm a1 hp hr bW k0
 go_enter Tryz.func81, Tryz.ntmps81
 go_upto_region 1 with (fail)
 rw [← hW]
 clear hW
 go_wp2_with (at_make; refine wpList_make_Sl _ rfl _ _ _ rfl tInt Tryz.underlying23 info_int n n rfl rfl rfl rfl (Nat.le_refl _) (by omega) (by unfold maxLen; omega) ?_; intro G w1 hs1 hfG hb1)
 have his0 : IS w1 (some G) n (List.replicate n 0) := IS.of_made hs1
 clear hs1 c0 c1 c2 c3 f0 f1 f2 f3
 have hGw : w.heap.size ≤ G.block := by have := bW_h.out.size; omega
 have his0_h := lH his0; have hb1_h := lH hb1; clear his0 hb1
 go_loopw [14] (fun i wr => ∃ k : Nat, k ≤ n ∧ i = .int .i64 k ∧ IS wr (some G) n ((List.replicate n (-1)).take k ++ (List.replicate n (0 : Int)).drop k) ∧ Below W.heap.size W wr) (fun i _ => n - (intOf i).toNat)
 case atStart => exact ⟨0, Nat.zero_le _, rfl, by simpa using his0_h.out, hb1_h.out⟩
 case round =>
  clear his0_h hb1_h
  obtain ⟨k, hk, rfl, his, hb⟩ := hrel
  obtain ⟨wo, rfl⟩ : ∃ x, x = wr := ⟨_, rfl⟩
  have hlen : ((List.replicate n (-1 : Int)).take k ++ (List.replicate n (0 : Int)).drop k).length = n := by simp; omega
  by_cases hlt : k < n
  · obtain ⟨ad, y, hA, hy, _, hc', hf'⟩ := his.at_ (j := k) (by rw [hlen]; exact hlt)
    obtain rfl := Option.some.inj hA
    have hfz := hf' k
    have his' := his.set (ad := G) rfl (j := k) (-1) (by rw [hlen]; exact hlt)
    rw [take_append_step (x := (-1 : Int)) (by simp) (by simp [hlt])] at his'
    have hb' := hb.setCell (p := G.add k) (by rw [block_of_add]; exact hfG) (.int .i64 (-1))
    have hkI : (k : Int) < (n : Int) := by omega
    clear hf' his hy hlen hb; have his'_h := lH his'; have hb'_h := lH hb'; clear his' hb'
    go_wp2_with (fail)
    go_roundw
    case rel => exact ⟨k + 1, by omega, by go_num, his'_h.out, hb'_h.out⟩
    case measure => simp [intOf]; omega
  · obtain rfl : n = k := by omega
    have his2 : IS wo (some G) n (tabK inE es n 0) := by
     rw [tabK_zero]
     have := his
     rwa [List.take_of_length_le (by simp), List.drop_of_length_le (by simp), List.append_nil] at this
    have ko := t_box_below k0_h.out hb
    obtain ⟨⟨c0, c1, c2, c3⟩, f0, f1, f2, f3⟩ := t_box4 ko
    clear his hlen ko; have his2_h := lH his2; have hb_h := lH hb; clear his2 hb
    go_wp2_with (fail)
    clear c0 c1 c2 c3 f0 f1 f2 f3
    go_loopw [24] (fun i wr => ∃ k : Nat, k ≤ m ∧ i = .int .i64 k ∧ IS wr (some G) n (tabK inE es n k) ∧ Below W.heap.size W wr) (fun i _ => m - (intOf i).toNat)
    case atStart => exact ⟨0, Nat.zero_le _, rfl, his2_h.out, hb_h.out⟩
    case round =>
     clear his2_h hb_h
     obtain ⟨k, hk, rfl, hIS, hB1⟩ := hrel
     obtain ⟨wo, rfl⟩ : ∃ x, x = wr := ⟨_, rfl⟩
     have hBw := below_trans bW_h.out hB1 bW_h.out.size
     by_cases hlt : k < m
     · obtain ⟨ad, κ, vv, B1, b1, s1, C1, b2, t1, rfl, hn, ⟨d0, d1, d2, d3⟩, _⟩ := (hE_h.out.below hBw).at_ (j := k) (by rw [← hm_h.out]; exact hlt)
       have hr1 := (hE_h.out.2 _ (List.mem_of_getElem? hn)).1
       have hek : es[k]? = some (κ, vv, s1, t1) := by rw [a1_h.out, List.getElem?_map, hn]; rfl
       have hed : es.getD k eg0 = (κ, vv, s1, t1) := by rw [List.getD_eq_getElem?_getD, hek]; rfl
       obtain ⟨⟨l1, l2⟩, l3⟩ := egB_len (hegB_h.out _ (List.mem_of_getElem? hek))
       simp only at l1 l2 l3
       have hwk := hwr'_h.out k hlt
       rw [hed] at hwk
       have hwk' : ∀ x, x ∈ s1 → 0 ≤ x ∧ x < (n : Int) := hwk
       clear hwk
       obtain ⟨p1, hp1⟩ : ∃ p1, p1 = s1.length := ⟨_, rfl⟩
       obtain ⟨r1, hr1'⟩ : ∃ r1, r1 = t1.length := ⟨_, rfl⟩
       rw [← hp1] at d2 l1
       rw [← hr1'] at d3 l2
       obtain ⟨W6, hW6, bW6, k6⟩ := (⟨_, rfl, t_below_alloc _ _, heap_alloc_new _ _⟩ : ∃ W, W = wo.alloc (.cells #[.int .i64 κ, .int .i64 vv, .slice B1 p1 b1, .slice C1 r1 b2] tEd) ∧ Below wo.heap.size wo W ∧ W.heap[wo.heap.size]? = some (.cells #[.int .i64 κ, .int .i64 vv, .slice B1 p1 b1, .slice C1 r1 b2] tEd))
       have kr := t_box_below k0_h.out hB1
       have hB6 := below_trans hB1 bW6 hB1.size
       have hI6 := hIS.below bW6
       obtain ⟨⟨c0, c1, c2, c3⟩, f0, f1, f2, f3⟩ := t_box4 k6
       obtain ⟨⟨y0, y1, y2, y3⟩, g0, g1, g2, g3⟩ := t_box4 kr
       have hkI : (k : Int) < (m : Int) := by omega
       have hr1_h' := lH hr1'; clear hr1' hn kr l3; have hek_h := lH hek; have hed_h := lH hed; have hp1_h := lH hp1; have bW6_h := lH bW6; have k6_h := lH k6; have hIS_h := lH hIS; have hB1_h := lH hB1; have hBw_h := lH hBw; have hwk'_h := lH hwk'; have hB6_h := lH hB6; have hI6_h := lH hI6; have hr1_h := lH hr1; clear hek hed hp1 bW6 k6 hIS hB1 hBw hwk' hB6 hI6 hr1
       go_upto_region 10 with (fail)
       rw [← hW6]
       clear hW6 d0 d1 d2 d3 y0 y1 y2 y3 g0 g1 g2 g3
       go_wp2_with (fail)
       clear c0 c1 c2 c3 f0 f1 f2 f3
       go_loopw [32] (fun i wr => ∃ j : Nat, j ≤ p1 ∧ i = .int .i64 j ∧ IS wr (some G) n (tabJ inE es n k j) ∧ Below W.heap.size W wr) (fun i _ => p1 - (intOf i).toNat)
       case atStart => exact ⟨0, Nat.zero_le _, rfl, by rw [tabJ_zero]; exact hI6_h.out, hB6_h.out⟩
       case round =>
        clear hI6_h hB6_h
        obtain ⟨j, hj, rfl, hISj, hBj⟩ := hrel
        obtain ⟨wi, rfl⟩ : ∃ x, x = wr := ⟨_, rfl⟩
        by_cases hltj : j < p1
        · obtain ⟨x, hx⟩ : ∃ x, s1[j]? = some x := ⟨_, List.getElem?_eq_getElem (by rw [← hp1_h.out]; exact hltj)⟩
          have hxr := hwk'_h.out x (List.mem_of_getElem? hx)
          obtain ⟨bb, rfl⟩ : ∃ bb : Nat, x = (bb : Int) := ⟨x.toNat, by omega⟩
          obtain ⟨cd, rfl, yj⟩ := (hr1_h.out.below (below_trans bW_h.out hBj bW_h.out.size)) j _ hx
          have hstep : tabJ inE es n k (j + 1) = _ := tabJ_step (x := bb) (n := n) (by rw [hed_h.out]; exact hx)
          obtain ⟨zd, z0, ze, _, _, zc, zf⟩ := hISj.at_ (j := bb) (by rw [tabJ_length]; omega)
          obtain rfl := Option.some.inj ze
          have zfk := zf bb
          have hset := hISj.set (ad := G) rfl (j := bb) (k : Int) (by rw [tabJ_length]; omega)
          rw [← hstep] at hset
          have hBk := hBj.setCell (p := G.add bb) (by rw [block_of_add]; exact hfG) (.int .i64 (k : Int))
          have hjI : (j : Int) < (p1 : Int) := by omega
          have hbI : (bb : Int) < (n : Int) := by omega
          clear hISj hBj zf ze hstep hxr; have hset_h := lH hset; have hBk_h := lH hBk; have hx_h := lH hx; clear hset hBk hx
          go_wp2_with (fail)
          go_roundw
          case rel => exact ⟨j + 1, by omega, by go_num, hset_h.out, hBk_h.out⟩
          case measure => simp [intOf]; omega
        · obtain rfl : p1 = j := by omega
          have hI2 : IS wi (some G) n (tabK inE es n (k + 1)) := by
           rw [← tabJ_all (j := p1) (by rw [hed_h.out]; show s1.length ≤ _; rw [← hp1_h.out]; exact Nat.le_refl _)]
           exact hISj
          clear hISj; have hI2_h := lH hI2; have hBj_h := lH hBj; clear hI2 hBj
          go_wp2_with (fail)
          go_roundw
          case rel => exact ⟨k + 1, by omega, by go_num, hI2_h.out, hBj_h.out⟩
          case measure => simp [intOf]; omega
     · obtain rfl : m = k := by omega
       have hIS_h := lH hIS; have hBw_h := lH hBw; clear hIS hBw; clear hB1
       go_wp2_with (fail)
       go_ret
       exact ⟨G, rfl, hIS_h.out, hGw, hBw_h.out⟩
@[simp] theorem numsL_length (n : Nat) (o : List Int) : (numsL n o).length = n := by simp [numsL]
theorem numsL_get {n w : Nat} {o : List Int} (h : w < n) : (numsL n o)[w]? = some (if (w : Int) ∈ o then idx o (w : Int) else -1) := by simp [numsL, h]
theorem numsL_snoc {n w : Nat} {o : List Int} (hw : (w : Int) ∉ o) : numsL n (o ++ [(w : Int)]) = (numsL n o).set w (o.length : Int) := by
 apply List.ext_getElem?
 intro i
 rw [List.getElem?_set]
 by_cases hi : i < n
 · rw [numsL_get hi, numsL_get hi, numsL_length]
   by_cases e : w = i
   · subst e
     rw [if_pos rfl, if_pos hi, if_pos (by simp), idx_append, if_neg hw]
     simp [idx]
   · have hne : ¬ (i : Int) = (w : Int) := by omega
     rw [if_neg e]
     by_cases ho : (i : Int) ∈ o
     · rw [if_pos (by simp [ho]), if_pos ho, idx_append, if_pos ho]
     · rw [if_neg (by simp [ho, hne]), if_neg ho]
 · rw [List.getElem?_eq_none (by rw [numsL_length]; omega), List.getElem?_eq_none (by rw [numsL_length]; omega)]
   split
   · rw [if_neg (by rw [numsL_length]; omega)]
   · rfl
theorem giveL_step {o l : List Int} {k : Nat} {x : Int} (h : l[k]? = some x) : giveL o (l.take (k + 1)) = if x ∈ giveL o (l.take k) then giveL o (l.take k) else giveL o (l.take k) ++ [x] := by
 rw [List.take_add_one, h, giveL_append]
 show giveL _ [x] = _
 rw [giveL_one]
 by_cases hx : x ∈ giveL o (l.take k)
 · rw [if_pos hx, if_pos (by simpa using hx)]
 · rw [if_neg hx, if_neg (by simpa using hx)]
def RetGive (w : World) (N : Addr) (n : Nat) (A : Option Addr) (o : List Int) (w' : World) (A' : Option Addr) (cap' : Nat) : Prop :=
 IS w' (some N) n (numsL n o) ∧ IS w' A' cap' o ∧ (∀ b, b ∈ fpA A' → b ∈ fpA A ∨ w.heap.size ≤ b) ∧ Keeps (fun b => b = N.block ∨ b ∈ fpA A) w w'
set_option maxRecDepth 100000 in
set_option maxHeartbeats 8000000 in
theorem cnGive_any (N : Addr) (n : Nat) (A B : Option Addr) (cap b p q0 : Nat) (o L : List Int) (w : World) (hN : IS w (some N) n (numsL n o)) (hA : IS w A cap o) (hNA : ∀ b, b ∈ fpA A → b ≠ N.block) (hB : RdI w B L) (hBf : 0 < p → ∀ b, b ∈ fpA B → b ≠ N.block ∧ ¬ b ∈ fpA A)
  (hn : n ≤ 100) (ho : o.Nodup) (hor : ∀ x, x ∈ o → 0 ≤ x ∧ x < (n : Int)) (hL : ∀ x, x ∈ L → 0 ≤ x ∧ x < (n : Int)) (hp : L.length = p) (hq0 : o.length = q0) (hpb : p ≤ 1048576) :
  Calls Tryz.prog 59 #[.slice (some N) n n, .slice A q0 cap, .slice B p b] w fun e w' => ∃ (A' : Option Addr) (cap' : Nat), e = .returned (.slice A' (giveL o L).length cap') ∧ RetGive w N n A (giveL o L) w' A' cap' := by
 have hNl : N.block < w.heap.size := hN.lt N.block (by simp)
 have hR0 : RetGive w N n A (giveL o (L.take 0)) w A cap := ⟨hN, hA, fun b hb => .inl hb, Keeps.refl _ _⟩
 have hin : ∀ k, (giveL o (L.take k)).length ≤ n := fun k => nodup_le (giveL_nodup ho) fun x hx => by
  rcases mem_giveL.1 hx with hx | hx
  · exact hor x hx
  · exact hL x (List.mem_of_mem_take hx)
 clear hN hA; have hR0_h := lH hR0; have hNA_h := lH hNA; have hB_h := lH hB; have hBf_h := lH hBf; have ho_h := lH ho; have hor_h := lH hor; have hL_h := lH hL; have hp_h := lH hp; have hin_h := lH hin; have hq0_h := lH hq0; clear hR0 hNA hB hBf ho hor hL hp hin hq0
 go_enter Tryz.func59, Tryz.ntmps59
 go_wp2_with (fail)
 go_loopw [11, 1] (fun i v wr => ∃ (k q : Nat) (A' : Option Addr) (cap' : Nat), k ≤ p ∧ i = .int .i64 k ∧ v = .slice A' q cap' ∧ q = (giveL o (L.take k)).length ∧ RetGive w N n A (giveL o (L.take k)) wr A' cap') (fun i _ _ => p - (intOf i).toNat)
 case atStart => exact ⟨0, q0, A, cap, Nat.zero_le _, rfl, rfl, by rw [← hq0_h.out]; rfl, hR0_h.out⟩
 case round =>
  clear hR0_h
  obtain ⟨k, q, A', cap', hk, rfl, rfl, hq, hR⟩ := hrel
  obtain ⟨wo, rfl⟩ : ∃ x, x = wr := ⟨_, rfl⟩
  by_cases hlt : k < p
  · obtain ⟨hRN, hRA, hRf, hRk⟩ := hR
    obtain ⟨x, hx⟩ : ∃ x, L[k]? = some x := ⟨_, List.getElem?_eq_getElem (by rw [hp_h.out]; exact hlt)⟩
    have hxr := hL_h.out x (List.mem_of_getElem? hx)
    obtain ⟨bb, rfl⟩ : ∃ bb : Nat, x = (bb : Int) := ⟨x.toNat, by omega⟩
    have hBo : RdI wo B L := hB_h.out.keeps hRk fun b hb h => by
     have := hBf_h.out (by omega) b hb
     rcases h with h | h
     · exact this.1 h
     · exact this.2 h
    obtain ⟨bd, rfl, yb⟩ := hBo k _ hx
    have hbn : bb < n := by omega
    have hbI : (bb : Int) < (n : Int) := by omega
    have hkI : (k : Int) < (p : Int) := by omega
    have hst := giveL_step (o := o) hx
    have hqn := hin_h.out k
    rw [← hq] at hqn
    by_cases hm : (bb : Int) ∈ giveL o (L.take k)
    · rw [if_pos hm] at hst
      obtain ⟨d, hd⟩ : ∃ d, d = idx (giveL o (L.take k)) (bb : Int) := ⟨_, rfl⟩
      have hd0 : 0 ≤ d := by rw [hd]; exact (idx_lt hm).1
      obtain ⟨nd, ne, nc⟩ := hRN.rd bb d (by rw [numsL_get hbn, if_pos hm, hd])
      obtain rfl := Option.some.inj ne
      have hdI : ¬ d < 0 := by omega
      have hR' : RetGive w N n A (giveL o (L.take k)) wo A' cap' := ⟨hRN, hRA, hRf, hRk⟩
      rw [← hst] at hR' hq
      clear hRN hRA hRf hRk hBo hx hxr hst hm hd; have hR'_h := lH hR'; have hq_h := lH hq; clear hR' hq
      go_wp2_with (fail)
      go_roundw
      case rel => exact ⟨k + 1, q, A', cap', by omega, by go_num, rfl, hq_h.out, hR'_h.out⟩
      case measure => simp [intOf]; omega
    · rw [if_neg hm] at hst
      have hsn := numsL_snoc (n := n) hm
      rw [← hst, ← hq] at hsn
      obtain ⟨nd, ny, ne, ny', _, nc', nf⟩ := hRN.at_ (j := bb) (by rw [numsL_length]; omega)
      obtain rfl := Option.some.inj ne
      obtain rfl : ny = -1 := by
       rw [numsL_get hbn, if_neg hm] at ny'
       exact (Option.some.inj ny').symm
      have nfz := nf bb
      have hNA' : ∀ b, b ∈ fpA A' → b ≠ N.block := fun b hb => by
       rcases hRf b hb with h | h
       · exact hNA_h.out b h
       · omega
      have hset := hRN.set (ad := N) rfl (j := bb) (q : Int) (by rw [numsL_length]; omega)
      rw [← hsn] at hset
      have hks : Keeps (fun b => b = N.block) wo (wo.setCell (N.add bb) (.int .i64 (q : Int))) := Keeps.setCell (Keeps.refl _ wo) (p := N.add bb) (by rw [block_of_add]) _
      have hA1 := hRA.keeps hks fun b hb => hNA' b hb
      obtain ⟨w1, hw1⟩ : ∃ w1, w1 = wo.setCell (N.add bb) (.int .i64 (q : Int)) := ⟨_, rfl⟩
      rw [← hw1] at hset hks hA1
      have hsl : Sl (w1.alloc (.cells #[.int .i64 (bb : Int)] tInt)) tInt 1 A' q cap' (ints (giveL o (L.take k))) := by
       have := Sl.alloc hA1 (.cells #[.int .i64 (bb : Int)] tInt)
       rwa [← hq] at this
      clear hRN hRA hBo hxr hsn hm nf ne ny' hA1; have hset_h := lH hset; have hks_h := lH hks; have hst_h := lH hst; have hq_h := lH hq; have hRf_h := lH hRf; have hRk_h := lH hRk; have hNA'_h := lH hNA'; have hsl_h := lH hsl; have hx_h := lH hx; clear hset hks hst hq hRf hRk hNA' hsl hx
      go_upto_region 6 with (fail)
      rw [← hw1]
      clear nc' yb nfz hw1
      go_wp2_with (at_builtin; refine wpList_append_Sl _ rfl _ _ _ rfl 3 Tryz.underlying23 info_int rfl (by omega) rfl hsl_h.out rfl (news := [.int .i64 (bb : Int)]) rfl (Sl.rdc (Sl.laid w1 3 1 1 #[.int .i64 (bb : Int)] (by unfold maxLen; omega) rfl)) (by intro u hu; simp at hu; subst hu; rfl) (by unfold maxLen; omega) (by omega) ?_; intro A3 c3 w3 hs3 hA3 hk3)
      have hz1 := hks_h.out.size
      have hal : Keeps (fun b => b = N.block) w1 (w1.alloc (.cells #[.int .i64 (bb : Int)] tInt)) := (Keeps.refl _ w1).alloc _
      have hz2 := hal.size
      have hN3 : IS w3 (some N) n (numsL n (giveL o (L.take (k + 1)))) := (hset_h.out.below (t_below_alloc w1 _)).keeps hk3 fun b hb h => by
       simp at hb
       subst hb
       exact hNA'_h.out _ h rfl
      have hR' : RetGive w N n A (giveL o (L.take (k + 1))) w3 A3 c3 := by
       refine ⟨hN3, ?_, fun b hb => ?_, ?_⟩
       · rw [hst_h.out]
         unfold IS
         have : ints (giveL o (L.take k) ++ [(bb : Int)]) = ints (giveL o (L.take k)) ++ [.int .i64 (bb : Int)] := by simp [ints]
         rw [this, List.length_append, ← hq_h.out]; exact hs3
       · rcases hA3 b hb with h | h
         · exact hRf_h.out b h
         · have := hRk_h.out.size
           have h' : w1.heap.size ≤ b := Nat.le_trans hal.size h
           right; omega
       · have hT := (((hRk_h.out.mono (T := fun b => (b = N.block ∨ b ∈ fpA A) ∨ w.heap.size ≤ b) fun b _ h => .inl h).trans ((hks_h.out.trans hal).mono fun b _ h => .inl (.inl h))).trans (hk3.mono fun b _ h => (by
          rcases hRf_h.out b h with h | h
          · exact .inl (.inr h)
          · exact .inr h)))
         exact hT.mono fun b hb h => h.resolve_right (by omega)
      have hq' : q + 1 = (giveL o (L.take (k + 1))).length := by rw [hst_h.out, List.length_append, ← hq_h.out]; rfl
      clear hs3 hA3 hk3 hal hN3; have hR'_h := lH hR'; have hq'_h := lH hq'; clear hR' hq'
      go_roundw
      case rel => exact ⟨k + 1, q + 1, A3, c3, by omega, by go_num, rfl, hq'_h.out, hR'_h.out⟩
      case measure => simp [intOf]; omega
  · obtain rfl : p = k := by omega
    rw [List.take_of_length_le (by rw [hp_h.out]; exact Nat.le_refl _)] at hR hq
    have hR_h := lH hR; have hq_h := lH hq; clear hR hq
    go_wp2_with (fail)
    go_ret
    exact ⟨A', cap', by rw [← hq_h.out]; rfl, hR_h.out⟩
structure CnW (w0 : World) (n m : Nat) (N E : Addr) (w : World) (A : Option Addr) (cap : Nat) (s : WE) : Prop where
 num : IS w (some N) n (numsL n s.1)
 edg : IS w (some E) m (numsL m s.2)
 ord : IS w A cap s.1
 nf : w0.heap.size ≤ N.block
 ef : w0.heap.size ≤ E.block
 af : Fresh w0.heap.size A
 ne : N.block ≠ E.block
 an : ∀ b, b ∈ fpA A → b ≠ N.block ∧ b ≠ E.block
 bel : Below w0.heap.size w0 w
section
variable {w0 w w' : World} {n m : Nat} {N E : Addr} {A A' : Option Addr} {cap cap' : Nat} {s : WE}
theorem CnW.below (h : CnW w0 n m N E w A cap s) (hb : Below w.heap.size w w') : CnW w0 n m N E w' A cap s :=
 ⟨h.num.below hb, h.edg.below hb, h.ord.below hb, h.nf, h.ef, h.af, h.ne, h.an, below_trans h.bel hb h.bel.size⟩
theorem CnW.give (h : CnW w0 n m N E w A cap s) {o : List Int} (hr : RetGive w N n A o w' A' cap') : CnW w0 n m N E w' A' cap' (o, s.2) := by
 obtain ⟨h1, h2, h3, h4⟩ := hr
 have hNl := h.num.lt N.block (by simp)
 have hEl := h.edg.lt E.block (by simp)
 refine ⟨h1, h.edg.keeps h4 fun b hb hh => ?_, h2, h.nf, h.ef, fun b hb => ?_, h.ne, fun b hb => ?_, below_keeps h.bel h4 h.bel.size fun b hb => ?_⟩
 · have hbE : b = E.block := by simpa using hb
   subst hbE
   rcases hh with hh | hh
   · exact h.ne hh.symm
   · exact (h.an _ hh).2 rfl
 · rcases h3 b hb with hh | hh
   · exact h.af b hh
   · have := h.bel.size; omega
 · rcases h3 b hb with hh | hh
   · exact h.an b hh
   · exact ⟨by omega, by omega⟩
 · rcases hb with hb | hb
   · rw [hb]; exact h.nf
   · exact h.af b hb
theorem CnW.mark (h : CnW w0 n m N E w A cap s) {e : Nat} (he : e < m) (hne : (e : Int) ∉ s.2) : CnW w0 n m N E (w.setCell (E.add e) (.int .i64 (s.2.length : Int))) A cap (s.1, s.2 ++ [(e : Int)]) := by
 have hks : Keeps (fun b => b = E.block) w (w.setCell (E.add e) (.int .i64 (s.2.length : Int))) := Keeps.setCell (Keeps.refl _ w) (p := E.add e) (by rw [block_of_add]) _
 refine ⟨h.num.keeps hks fun b hb hh => ?_, ?_, h.ord.keeps hks fun b hb hh => (h.an b hb).2 hh, h.nf, h.ef, h.af, h.ne, h.an, below_keeps h.bel hks h.bel.size fun b hb => by rw [hb]; exact h.ef⟩
 · have hbN : b = N.block := by simpa using hb
   exact h.ne (hbN.symm.trans hh)
 · have := h.edg.set (ad := E) rfl (j := e) (s.2.length : Int) (by rw [numsL_length]; exact he)
   rw [← numsL_snoc hne] at this
   exact this
end
theorem numsL_of_not {n w : Nat} {o : List Int} (h : w < n) (ho : (w : Int) ∉ o) : (numsL n o)[w]? = some (-1) := by rw [numsL_get h, if_neg ho]
theorem numsL_of_mem {n w : Nat} {o : List Int} (h : w < n) (ho : (w : Int) ∈ o) : ∃ d, 0 ≤ d ∧ (numsL n o)[w]? = some d := by
 rw [numsL_get h, if_pos ho]
 exact ⟨_, (idx_lt ho).1, rfl⟩
def sJ (g : Gr) (s : WE) (x y : Int) : Nat → WE
 | 0 => s
 | 1 => stepE g s x
 | _ + 2 => stepE g (stepE g s x) y
theorem sJ_step {g : Gr} {s : WE} {x y e : Int} {j : Nat} (h : [x, y][j]? = some e) : sJ g s x y (j + 1) = stepE g (sJ g s x y j) e := by
 match j, h with
 | 0, h => obtain rfl := Option.some.inj h; rfl
 | 1, h => obtain rfl := Option.some.inj h; rfl
def Aside (w w2 : World) (A : Option Addr) : Prop := ∀ b, b ∈ fpA A → b < w.heap.size ∨ w2.heap.size ≤ b
def KeepM (w w2 w' : World) : Prop := Keeps (fun b => b < w.heap.size) w2 w'
theorem KeepM.below {w w2 w' w'' : World} (h : KeepM w w2 w') (hb : Below w'.heap.size w' w'') : KeepM w w2 w'' := h.trans (Keeps.of_below hb _)
theorem KeepM.keeps {w w2 w' w'' : World} (h : KeepM w w2 w') {S : Nat → Prop} (hk : Keeps S w' w'') (hS : ∀ b, S b → b < w.heap.size ∨ w2.heap.size ≤ b) : KeepM w w2 w'' :=
 ((Keeps.mono h (T := fun b => b < w.heap.size ∨ w2.heap.size ≤ b) fun b _ h => .inl h).trans (hk.mono fun b _ h => hS b h)).mono fun b hb h => h.resolve_right (by omega)
set_option maxRecDepth 100000 in
set_option maxHeartbeats 8000000 in
theorem cnWalk_any {v : Value} {g : Gr} (w0 w : World) (n m p q0 : Nat) (N E : Addr) (A0 : Option Addr) (cap0 : Nat) (s0 : WE) (h : RdGr w0 v g) (hMo : Mono g n) (hs : WInv g n s0) (hW : CnW w0 n m N E w A0 cap0 s0) (hm : g.2.1.length = m) (hq : s0.1.length = q0) (hp : s0.2.length = p) :
  Calls Tryz.prog 60 #[v, .slice (some N) n n, .slice (some E) m m, .slice A0 q0 cap0, .int .i64 (p : Int)] w fun e w' => ∃ (A' : Option Addr) (cap' : Nat), e = .returned (.tuple #[.int .i64 ((finW g s0).2.length : Int), .slice A' (finW g s0).1.length cap']) ∧ CnW w0 n m N E w' A' cap' (finW g s0) := by
 have hWk := fun k => hs.walk hMo k
 have hfin := fun k => finW_eq hMo (s := s0) (k := k)
 have hgr := fun (W' : World) (hb : Below w0.heap.size w0 W') => h.below hb
 have hto := toE_rng g
 have hfr := fromE_rng g
 have hcO := fun (W' : World) (hb : Below w0.heap.size w0 W') => mtOrigins_any W' n (hgr W' hb) hMo
 have hcE := fun (W' : World) (hb : Below w0.heap.size w0 W') => mtEnds_any W' n (hgr W' hb) hMo
 have hwi := fun (e : Int) (h0 : 0 ≤ e) (he : e < (g.2.1.length : Int)) => hMo.wires h0 he
 have hkind := hMo.kind
 have hn100 := hMo.n100
 have hm60 := hMo.m60
 have hgn := hMo.hn
 have hMo_h := lH hMo; clear hMo
 obtain ⟨A, c, hs', ⟨B, b, s⟩, ⟨C', d', t⟩, rfl, e1, e2, e3, hE, hRa, hRb⟩ := h
 obtain ⟨vv, hvv⟩ : ∃ x, x = Value.agg #[.int .i64 g.1, .slice A hs'.length c, .slice B s.length b, .slice C' t.length d'] := ⟨_, rfl⟩
 have hml : hs'.length = m := by rw [← hm, e1, List.length_map]
 simp only [hm] at hcO hcE hwi hm60 hto hfr
 rw [hml, hgn] at hvv hcO hcE ⊢
 obtain ⟨pp, hpp⟩ : ∃ p, p = s.length := ⟨_, rfl⟩
 obtain ⟨r, hr⟩ : ∃ r, r = t.length := ⟨_, rfl⟩
 rw [← hpp, ← hr] at hvv hcO hcE ⊢
 clear hvv hgr hRa hRb e2 e3
 obtain ⟨es, hes⟩ : ∃ es, es = g.2.1 := ⟨_, rfl⟩
 have a1 : es = hs'.map egOf := by rw [hes, e1]
 obtain ⟨W, hWe, bW, k0⟩ := (⟨_, rfl, t_below_alloc _ _, heap_alloc_new _ _⟩ : ∃ W, W = w.alloc (.cells #[.int .i64 (n : Int), .slice A m c, .slice B pp b, .slice C' r d'] tGr) ∧ Below w.heap.size w W ∧ W.heap[w.heap.size]? = some (.cells #[.int .i64 (n : Int), .slice A m c, .slice B pp b, .slice C' r d'] tGr))
 have hW1 := hW.below bW
 have hWsz : W.heap.size = w.heap.size + 1 := by rw [hWe]; simp
 have hlt3 : N.block < w.heap.size ∧ E.block < w.heap.size ∧ ∀ b, b ∈ fpA A0 → b < w.heap.size := ⟨hW.num.lt N.block (by simp), hW.edg.lt E.block (by simp), hW.ord.lt⟩
 have bWd : Below W.heap.size W W.drew := below_drewN (Below.refl _ _) 1
 have hb0 := below_trans hW1.bel bWd hW1.bel.size
 have hC1 := hcO W.drew hb0
 clear hcO; have hWk_h := lH hWk; have hfin_h := lH hfin; have hcE_h := lH hcE; have hto_h := lH hto; have hfr_h := lH hfr; have hwi_h := lH hwi; have hkind_h := lH hkind; have hs_h := lH hs; have hm_h := lH hm; have hq_h := lH hq; have hp_h := lH hp; have hml_h := lH hml; have hE_h := lH hE; have hpp_h := lH hpp; have hr_h := lH hr; have a1_h := lH a1; have bW_h := lH bW; have k0_h := lH k0; have hW1_h := lH hW1; have bWd_h := lH bWd; have hC1_h := lH hC1; have hes_h := lH hes; have hgn_h := lH hgn; clear hWk hfin hcE hto hfr hwi hkind hs hm hq hp hml hE hpp hr a1 bW k0 hW1 bWd hC1 hes hgn; clear hW e1
 go_enter Tryz.func60, Tryz.ntmps60
 go_upto_region 1 with (fail)
 rw [← hWe]
 clear hWe
 refine beginH (fun w' => w'.heap[w.heap.size]? = some (.cells #[.int .i64 (n : Int), .slice A m c, .slice B pp b, .slice C' r d'] tGr)) (by kernel_rfl) ?_
 have k1 := t_box_below k0_h.out bWd_h.out
 refine tkH 0 ?_ rfl k1 (fun W' hW' => ?_) ?_; rotate_left; · (obtain ⟨⟨y0, y1, y2, y3⟩, y4, y5, y6, y7⟩ := t_box4 hW'; clear hW'; go_simp; first | done | with_reducible rfl)
 simp only [Act.put, nS]
 refine tkH 2 ?_ rfl k1 (fun W' hW' => ?_) ?_; rotate_left; · (obtain ⟨⟨y0, y1, y2, y3⟩, y4, y5, y6, y7⟩ := t_box4 hW'; clear hW'; go_simp; first | done | with_reducible rfl)
 simp only [Act.put, nS]
 refine' callH 1 (f := _) (args := _) rfl (by kernel_rfl) (by rfl) ?_ ?_; rotate_left 2; · (go_simp; first | done | with_reducible rfl | (constructor <;> with_reducible rfl))
 refine (hC1_h.out).mono ?_
 rintro e w1 ⟨G1, rfl, hI1, hG1, hb1⟩
 have k2 := t_box_below k1 hb1
 have hbW1 := below_trans bWd_h.out hb1 bWd_h.out.size
 have hb01 := below_trans hb0 hb1 hb0.size
 have hC2 := hcE_h.out w1 hb01
 refine ⟨_, rfl, k2, ?_⟩
 simp only [Act.put, nS]
 refine' callH 3 (f := _) (args := _) rfl (by kernel_rfl) (by rfl) ?_ ?_; rotate_left 2; · (go_simp; first | done | with_reducible rfl | (constructor <;> with_reducible rfl))
 refine (hC2).mono ?_
 rintro e w2 ⟨G2, rfl, hI2, hG2, hb2⟩
 have k3 := t_box_below k2 hb2
 refine ⟨_, rfl, k3, ?_⟩
 simp only [Act.put, nS]
 refine tkH 4 ?_ rfl k3 (fun W' hW' => ?_) ?_; rotate_left; · (skip; clear hW'; go_simp; first | done | with_reducible rfl)
 simp only [Act.put, nS]
 refine tkH 5 ?_ rfl k3 (fun W' hW' => ?_) ?_; rotate_left; · (skip; clear hW'; go_simp; first | done | with_reducible rfl)
 simp only [Act.put, nS]
 refine doneH (by kernel_rfl) ?_
 have hI1' := hI1.below hb2
 have hW2 : CnW w0 n m N E w2 A0 cap0 s0 := ((hW1_h.out.below hbW1).below hb2)
 have hNw : N.block < w.heap.size ∧ E.block < w.heap.size ∧ ∀ b, b ∈ fpA A0 → b < w.heap.size := hlt3
 have hsz : w.heap.size < w1.heap.size ∧ w1.heap.size ≤ w2.heap.size ∧ W.heap.size = w.heap.size + 1 := ⟨by have := hbW1.size; have := bW_h.out.size; have := hWsz; omega, hb2.size, hWsz⟩
 have hG1r : w.heap.size < G1.block ∧ G1.block < w2.heap.size := ⟨by have : W.drew.heap.size = W.heap.size := rfl; omega, by have := hI1'.lt G1.block (by simp); exact this⟩
 have hG2r : w.heap.size < G2.block ∧ G2.block < w2.heap.size := ⟨by omega, hI2.lt G2.block (by simp)⟩
 have hA0 : Aside w w2 A0 := fun b hb => .inl (hNw.2.2 b hb)
 clear hb0 hC1_h k1 k2 hb1 hb2 hbW1 hC2 hI1 hcE_h k0_h bWd_h hb01 hW1_h; have hI1'_h := lH hI1'; have hI2_h := lH hI2; have k3_h := lH k3; have hW2_h := lH hW2; have hA0_h := lH hA0; clear hI1' hI2 k3 hW2 hA0
 go_wp2_with (fail)
 go_loopw [14, 3, 4] (fun i o cv wr => ∃ (k q pq : Nat) (A' : Option Addr) (cap' : Nat), k ≤ n ∧ i = .int .i64 k ∧ o = .slice A' q cap' ∧ cv = .int .i64 pq ∧ (walkTo g s0 k).1.length = q ∧ (walkTo g s0 k).2.length = pq ∧ CnW w0 n m N E wr A' cap' (walkTo g s0 k) ∧ Aside w w2 A' ∧ KeepM w w2 wr) (fun i _ _ _ => n - (intOf i).toNat)
 case atStart => exact ⟨0, q0, p, A0, cap0, Nat.zero_le _, rfl, rfl, rfl, hq_h.out, hp_h.out, hW2_h.out, hA0_h.out, Keeps.refl _ _⟩
 case round =>
  clear hW2_h hA0_h
  obtain ⟨k, q, pq, A', cap', hk, rfl, rfl, rfl, hq', hp', hC, hAs, hKe⟩ := hrel
  obtain ⟨wo, rfl⟩ : ∃ x, x = wr := ⟨_, rfl⟩
  have hle := (hWk_h.out k).le
  rw [hq', hp'] at hle
  by_cases hlt : k < q
  · obtain ⟨x, hx⟩ : ∃ x, (walkTo g s0 k).1[k]? = some x := ⟨_, List.getElem?_eq_getElem (by rw [hq']; exact hlt)⟩
    have hxr := (hWk_h.out k).rg1 x (List.mem_of_getElem? hx)
    obtain ⟨bb, rfl⟩ : ∃ bb : Nat, x = (bb : Int) := ⟨x.toNat, by omega⟩
    have hbn : bb < n := by omega
    have hgd : (walkTo g s0 k).1.getD k 0 = (bb : Int) := by rw [List.getD_eq_getElem?_getD, hx]; rfl
    have hrd : walkTo g s0 (k + 1) = stepE g (stepE g (walkTo g s0 k) (toE g (bb : Int))) (fromE g (bb : Int)) := by
     show roundW g (walkTo g s0 k) k = _
     unfold roundW
     rw [if_pos (by rw [hq']; exact hlt), hgd]
    obtain ⟨ad, rfl, ox⟩ := hC.ord.rd k _ hx
    have hT1 := hI1'_h.out.keeps hKe (fun b hb h => by simp at hb; omega)
    have hT2 := hI2_h.out.keeps hKe (fun b hb h => by simp at hb; omega)
    obtain ⟨fe, hfe⟩ : ∃ fe, fe = fromE g (bb : Int) := ⟨_, rfl⟩
    obtain ⟨te, hte⟩ : ∃ te, te = toE g (bb : Int) := ⟨_, rfl⟩
    obtain ⟨zd, ze, t1⟩ := hT1.rd bb fe (by rw [tabK_get hbn, hfe]; unfold fromE; rw [hm_h.out])
    obtain rfl := Option.some.inj ze
    obtain ⟨zd, ze, t2⟩ := hT2.rd bb te (by rw [tabK_get hbn, hte]; unfold toE; rw [hm_h.out])
    obtain rfl := Option.some.inj ze
    have hfr1 := hfr_h.out (bb : Int)
    have hto1 := hto_h.out (bb : Int)
    rw [← hfe] at hrd hfr1
    rw [← hte] at hrd hto1
    have hInv := hWk_h.out k
    obtain ⟨s, hs1⟩ : ∃ s, s = walkTo g s0 k := ⟨_, rfl⟩
    rw [← hs1] at hrd hInv hC hq' hp' hx
    have hkI : (k : Int) < (q : Int) := by omega
    have hbI : (bb : Int) < (n : Int) := by omega
    clear hT1 hT2 hxr ze hgd hx hfe hte hs1; have hrd_h := lH hrd; have hInv_h := lH hInv; have hC_h := lH hC; have hq'_h := lH hq'; have hp'_h := lH hp'; have hAs_h := lH hAs; have hKe_h := lH hKe; clear hrd hInv hC hq' hp' hAs hKe
    go_wp2_with (fail)
    refine beginB (by kernel_rfl) (fun W1 hW1 => ?_)
    have hbw : Below wo.heap.size wo W1 := by rw [hW1]; exact below_drew (Below.refl _ _)
    clear hW1
    have ox1 := (hbw.cell (World.block_lt_of_cell? _ _ ox)).trans ox
    have t11 := (hbw.cell (World.block_lt_of_cell? _ _ t1)).trans t1
    have t21 := (hbw.cell (World.block_lt_of_cell? _ _ t2)).trans t2
    have hC1 := hC_h.out.below hbw
    have hK1 := hKe_h.out.below hbw
    obtain ⟨W9, hW9, b9, i9⟩ : ∃ W9, W9 = W1.alloc (.cells #[.int .i64 te, .int .i64 fe] tInt) ∧ Below W1.heap.size W1 W9 ∧ IS W9 (some ⟨W1.heap.size, 0, none⟩) 2 [te, fe] := ⟨_, rfl, t_below_alloc _ _, by unfold IS; simpa [ints] using Sl.laid W1 tInt 1 2 #[.int .i64 te, .int .i64 fe] (by unfold maxLen; omega) rfl⟩
    have hbz := hbw.size
    clear ox t1 t2 hbw
    refine tkH 0 ?_ rfl (Below.refl _ _) (fun W' hW' => ?_) ?_; rotate_left; · (have z1 := (hW'.cell (World.block_lt_of_cell? _ _ ox1)).trans ox1; have z2 := (hW'.cell (World.block_lt_of_cell? _ _ t11)).trans t11; have z3 := (hW'.cell (World.block_lt_of_cell? _ _ t21)).trans t21; clear hW'; go_simp; first | done | with_reducible rfl)
    simp only [Act.put, nS]
    refine tkH 1 ?_ rfl (Below.refl _ _) (fun W' hW' => ?_) ?_; rotate_left; · (have z1 := (hW'.cell (World.block_lt_of_cell? _ _ ox1)).trans ox1; have z2 := (hW'.cell (World.block_lt_of_cell? _ _ t11)).trans t11; have z3 := (hW'.cell (World.block_lt_of_cell? _ _ t21)).trans t21; clear hW'; go_simp; first | done | with_reducible rfl)
    simp only [Act.put, nS]
    refine tkH 2 ?_ rfl (Below.refl _ _) (fun W' hW' => ?_) ?_; rotate_left; · (have z1 := (hW'.cell (World.block_lt_of_cell? _ _ ox1)).trans ox1; have z2 := (hW'.cell (World.block_lt_of_cell? _ _ t11)).trans t11; have z3 := (hW'.cell (World.block_lt_of_cell? _ _ t21)).trans t21; clear hW'; go_simp; first | done | with_reducible rfl)
    simp only [Act.put, nS]
    refine tkH 3 ?_ rfl (Below.refl _ _) (fun W' hW' => ?_) ?_; rotate_left; · (have z1 := (hW'.cell (World.block_lt_of_cell? _ _ ox1)).trans ox1; have z2 := (hW'.cell (World.block_lt_of_cell? _ _ t11)).trans t11; have z3 := (hW'.cell (World.block_lt_of_cell? _ _ t21)).trans t21; clear hW'; go_simp; first | done | with_reducible rfl)
    simp only [Act.put, nS]
    refine tkH 4 ?_ rfl (Below.refl _ _) (fun W' hW' => ?_) ?_; rotate_left; · (have z1 := (hW'.cell (World.block_lt_of_cell? _ _ ox1)).trans ox1; have z2 := (hW'.cell (World.block_lt_of_cell? _ _ t11)).trans t11; have z3 := (hW'.cell (World.block_lt_of_cell? _ _ t21)).trans t21; clear hW'; go_simp; first | done | with_reducible rfl)
    simp only [Act.put, nS]
    refine tkH 5 ?_ rfl (Below.refl _ _) (fun W' hW' => ?_) ?_; rotate_left; · (have z1 := (hW'.cell (World.block_lt_of_cell? _ _ ox1)).trans ox1; have z2 := (hW'.cell (World.block_lt_of_cell? _ _ t11)).trans t11; have z3 := (hW'.cell (World.block_lt_of_cell? _ _ t21)).trans t21; clear hW'; go_simp; first | done | with_reducible rfl)
    simp only [Act.put, nS]
    refine tkH 6 ?_ rfl (Below.refl _ _) (fun W' hW' => ?_) ?_; rotate_left; · (have z1 := (hW'.cell (World.block_lt_of_cell? _ _ ox1)).trans ox1; have z2 := (hW'.cell (World.block_lt_of_cell? _ _ t11)).trans t11; have z3 := (hW'.cell (World.block_lt_of_cell? _ _ t21)).trans t21; clear hW'; go_simp; first | done | with_reducible rfl)
    simp only [Act.put, nS]
    refine tkH 7 ?_ rfl (Below.refl _ _) (fun W' hW' => ?_) ?_; rotate_left; · (have z1 := (hW'.cell (World.block_lt_of_cell? _ _ ox1)).trans ox1; have z2 := (hW'.cell (World.block_lt_of_cell? _ _ t11)).trans t11; have z3 := (hW'.cell (World.block_lt_of_cell? _ _ t21)).trans t21; clear hW'; go_simp; first | done | with_reducible rfl)
    simp only [Act.put, nS]
    refine tkH 8 ?_ rfl (Below.refl _ _) (fun W' hW' => ?_) ?_; rotate_left; · (have z1 := (hW'.cell (World.block_lt_of_cell? _ _ ox1)).trans ox1; have z2 := (hW'.cell (World.block_lt_of_cell? _ _ t11)).trans t11; have z3 := (hW'.cell (World.block_lt_of_cell? _ _ t21)).trans t21; clear hW'; go_simp; first | done | with_reducible rfl)
    simp only [Act.put, nS]
    refine tkH 9 ?_ rfl (Below.refl _ _) (fun W' hW' => ?_) ?_; rotate_left; · (have z1 := (hW'.cell (World.block_lt_of_cell? _ _ ox1)).trans ox1; have z2 := (hW'.cell (World.block_lt_of_cell? _ _ t11)).trans t11; have z3 := (hW'.cell (World.block_lt_of_cell? _ _ t21)).trans t21; clear hW'; go_simp; first | done | with_reducible rfl)
    simp only [Act.put, nS]
    refine tkH 10 ?_ rfl (Below.refl _ _) (fun W' hW' => ?_) ?_; rotate_left; · (have z1 := (hW'.cell (World.block_lt_of_cell? _ _ ox1)).trans ox1; have z2 := (hW'.cell (World.block_lt_of_cell? _ _ t11)).trans t11; have z3 := (hW'.cell (World.block_lt_of_cell? _ _ t21)).trans t21; clear hW'; go_simp; first | done | with_reducible rfl)
    simp only [Act.put, nS]
    refine tkH 11 ?_ rfl (Below.refl _ _) (fun W' hW' => ?_) ?_; rotate_left; · (have z1 := (hW'.cell (World.block_lt_of_cell? _ _ ox1)).trans ox1; have z2 := (hW'.cell (World.block_lt_of_cell? _ _ t11)).trans t11; have z3 := (hW'.cell (World.block_lt_of_cell? _ _ t21)).trans t21; clear hW'; go_simp; first | done | with_reducible rfl)
    simp only [Act.put, nS]
    refine tkH 12 ?_ rfl (Below.refl _ _) (fun W' hW' => ?_) ?_; rotate_left; · (have z1 := (hW'.cell (World.block_lt_of_cell? _ _ ox1)).trans ox1; have z2 := (hW'.cell (World.block_lt_of_cell? _ _ t11)).trans t11; have z3 := (hW'.cell (World.block_lt_of_cell? _ _ t21)).trans t21; clear hW'; go_simp; first | done | with_reducible rfl)
    simp only [Act.put, nS]
    refine tkH 13 ?_ rfl (Below.refl _ _) (fun W' hW' => ?_) ?_; rotate_left; · (have z1 := (hW'.cell (World.block_lt_of_cell? _ _ ox1)).trans ox1; have z2 := (hW'.cell (World.block_lt_of_cell? _ _ t11)).trans t11; have z3 := (hW'.cell (World.block_lt_of_cell? _ _ t21)).trans t21; clear hW'; go_simp; first | done | with_reducible rfl)
    simp only [Act.put, nS]
    refine tkH 16 ?_ rfl (Below.refl _ _) (fun W' hW' => ?_) ?_; rotate_left; · (have z1 := (hW'.cell (World.block_lt_of_cell? _ _ ox1)).trans ox1; have z2 := (hW'.cell (World.block_lt_of_cell? _ _ t11)).trans t11; have z3 := (hW'.cell (World.block_lt_of_cell? _ _ t21)).trans t21; clear hW'; go_simp; first | done | with_reducible rfl)
    simp only [Act.put, nS]
    refine oneH 14 rfl (by kernel_rfl) (by rfl) (fun K hK => ?_)
    go_simp
    refine hK _ _ (t_below_alloc _ _) ?_
    clear hK K
    refine tkH 15 ?_ rfl (t_below_alloc _ _) (fun W' hW' => ?_) ?_; rotate_left; · (skip; clear hW'; go_simp; first | done | with_reducible rfl)
    simp only [Act.put, nS]
    refine doneH (by kernel_rfl) ?_
    rw [← hW9]
    obtain ⟨P, hP⟩ : ∃ P : Addr, P = ⟨W1.heap.size, 0, none⟩ := ⟨_, rfl⟩
    rw [← hP] at i9 ⊢
    have hPb : P.block = W1.heap.size := by rw [hP]
    have hW1s : wo.heap.size ≤ W1.heap.size ∧ w2.heap.size ≤ W1.heap.size := ⟨hbz, hK1.size⟩
    have hC9 := hC1.below b9
    have hK9 := hK1.below b9
    have hAP : ∀ b, b ∈ fpA (some ad) → b ≠ P.block := fun b hb => by
     have := hC1.ord.lt b hb
     omega
    have hsJ : ∀ j, WInv g n (sJ g s te fe j) := fun j => by
     match j with
     | 0 => exact hInv_h.out
     | 1 => exact hInv_h.out.step hMo_h.out (by rw [hm_h.out]; exact hto1.2)
     | j + 2 => exact (hInv_h.out.step hMo_h.out (by rw [hm_h.out]; exact hto1.2)).step hMo_h.out (by rw [hm_h.out]; exact hfr1.2)
    have her : ∀ e, e ∈ [te, fe] → -1 ≤ e ∧ e < (m : Int) := fun e he => by
     rcases List.mem_cons.1 he with rfl | he
     · exact hto1
     · obtain rfl := List.mem_singleton.1 he
       exact hfr1
    clear hC1 hK1 b9 hW9 hP ox1 t11 t21; have i9_h := lH i9; have hC9_h := lH hC9; have hK9_h := lH hK9; have hAP_h := lH hAP; have hsJ_h := lH hsJ; have her_h := lH her; have hto1_h := lH hto1; have hfr1_h := lH hfr1; clear i9 hC9 hK9 hAP hsJ her hto1 hfr1
    go_wp2_with (fail)
    go_loopw [43, 3, 4] (fun i o cv wr => ∃ (j q pq : Nat) (A' : Option Addr) (cap' : Nat), j ≤ 2 ∧ i = .int .i64 j ∧ o = .slice A' q cap' ∧ cv = .int .i64 pq ∧ (sJ g s te fe j).1.length = q ∧ (sJ g s te fe j).2.length = pq ∧ CnW w0 n m N E wr A' cap' (sJ g s te fe j) ∧ Aside w w2 A' ∧ KeepM w w2 wr ∧ IS wr (some P) 2 [te, fe] ∧ (∀ b, b ∈ fpA A' → b ≠ P.block)) (fun i _ _ _ => 2 - (intOf i).toNat)
    case atStart => exact ⟨0, q, pq, some ad, cap', Nat.zero_le _, rfl, rfl, rfl, hq'_h.out, hp'_h.out, hC9_h.out, hAs_h.out, hK9_h.out, i9_h.out, hAP_h.out⟩
    case round =>
     clear hC9_h hK9_h i9_h hAP_h hq'_h hp'_h hC_h hAs_h hKe_h
     obtain ⟨j, q, pq, A', cap', hj, rfl, rfl, rfl, hq', hp', hC, hAs, hKe, hIP, hAP⟩ := hrel
     obtain ⟨wi, rfl⟩ : ∃ x, x = wr := ⟨_, rfl⟩
     by_cases hltj : j < 2
     · obtain ⟨e, he⟩ : ∃ e, [te, fe][j]? = some e := ⟨_, List.getElem?_eq_getElem (by simpa using hltj)⟩
       have her' := her_h.out e (List.mem_of_getElem? he)
       have hst := sJ_step (g := g) (s := s) he
       obtain ⟨zd, ze, pe⟩ := hIP.rd j e he
       obtain rfl := Option.some.inj ze
       have hjI : (j : Int) < 2 := by omega
       by_cases h0 : e < 0
       · have hst' : sJ g s te fe (j + 1) = sJ g s te fe j := by rw [hst]; unfold stepE; rw [if_pos (.inl h0)]
         rw [← hst'] at hC hq' hp'
         clear hst hst' he; have hC_h := lH hC; have hq'_h := lH hq'; have hp'_h := lH hp'; have hAs_h := lH hAs; have hKe_h := lH hKe; have hIP_h := lH hIP; have hAP_h := lH hAP; clear hC hq' hp' hAs hKe hIP hAP
         go_wp2_with (fail)
         go_roundw
         case rel => exact ⟨j + 1, q, pq, A', cap', by omega, by go_num, rfl, rfl, hq'_h.out, hp'_h.out, hC_h.out, hAs_h.out, hKe_h.out, hIP_h.out, hAP_h.out⟩
         case measure => simp [intOf]; omega
       · obtain ⟨ee, rfl⟩ : ∃ ee : Nat, e = (ee : Int) := ⟨e.toNat, by omega⟩
         have hem : ee < m := by omega
         have heI : (ee : Int) < (m : Int) := by omega
         by_cases hmem : (ee : Int) ∈ (sJ g s te fe j).2
         · have hst' : sJ g s te fe (j + 1) = sJ g s te fe j := by rw [hst]; unfold stepE; rw [if_pos (.inr hmem)]
           obtain ⟨d, hd0, hd⟩ := numsL_of_mem hem hmem
           obtain ⟨zd, ze, pd⟩ := hC.edg.rd ee d hd
           obtain rfl := Option.some.inj ze
           rw [← hst'] at hC hq' hp'
           clear hst hst' he hmem hd ze; have hC_h := lH hC; have hq'_h := lH hq'; have hp'_h := lH hp'; have hAs_h := lH hAs; have hKe_h := lH hKe; have hIP_h := lH hIP; have hAP_h := lH hAP; clear hC hq' hp' hAs hKe hIP hAP
           go_wp2_with (fail)
           go_roundw
           case rel => exact ⟨j + 1, q, pq, A', cap', by omega, by go_num, rfl, rfl, hq'_h.out, hp'_h.out, hC_h.out, hAs_h.out, hKe_h.out, hIP_h.out, hAP_h.out⟩
           case measure => simp [intOf]; omega
         · obtain ⟨zd, zv, ze, zy, _, pd, zf⟩ := hC.edg.at_ (j := ee) (by rw [numsL_length]; exact hem)
           obtain rfl := Option.some.inj ze
           obtain rfl : zv = -1 := by
            rw [numsL_of_not (n := m) hem hmem] at zy
            exact (Option.some.inj zy).symm
           have zfe := zf ee
           have hC10 := hC.mark hem hmem
           rw [hp'] at hC10
           obtain ⟨w10, hw10⟩ : ∃ w10, w10 = wi.setCell (E.add ee) (.int .i64 (pq : Int)) := ⟨_, rfl⟩
           rw [← hw10] at hC10
           have hks : Keeps (fun b => b = E.block) wi w10 := by rw [hw10]; exact Keeps.setCell (Keeps.refl _ wi) (p := E.add ee) (by rw [block_of_add]) _
           have hK10 : KeepM w w2 w10 := hKe.keeps hks fun b hb => .inl (by rw [hb]; exact hlt3.2.1)
           have hIP10 := hIP.keeps hks fun b hb h => by simp at hb; omega
           obtain ⟨ad0, κ, vl, B1, b1, l1, C1, b2, l2, rfl, hn, ⟨d0, d1, d2, d3⟩, hr1, hr2⟩ := hE_h.out.at_ (j := ee) (by rw [hml_h.out]; exact hem)
           have hek : es[ee]? = some (κ, vl, l1, l2) := by rw [a1_h.out, List.getElem?_map, hn]; rfl
           have hed : edgeAt g (ee : Int) = (κ, vl, l1, l2) := by unfold edgeAt; rw [Int.toNat_natCast, ← hes_h.out, List.getD_eq_getElem?_getD, hek]; rfl
           obtain ⟨⟨g1, g2⟩, _⟩ := egB_len (hkind_h.out _ (by rw [← hes_h.out]; exact List.mem_of_getElem? hek))
           simp only at g1 g2
           have hwl := hwi_h.out (ee : Int) (by omega) heI
           rw [hed] at hwl
           have hwl1 : ∀ x, x ∈ l1 → 0 ≤ x ∧ x < (n : Int) := fun x hx => hwl x (List.mem_append_left _ hx)
           have hwl2 : ∀ x, x ∈ l2 → 0 ≤ x ∧ x < (n : Int) := fun x hx => hwl x (List.mem_append_right _ hx)
           have hsj := hsJ_h.out j
           have hsj1 := hsJ_h.out (j + 1)
           have hse : sJ g s te fe (j + 1) = (giveL (giveL (sJ g s te fe j).1 l1) l2, (sJ g s te fe j).2 ++ [(ee : Int)]) := by
            rw [hst]
            unfold stepE
            rw [if_neg (fun h => h.elim (fun h => by omega) hmem), hed]
            show (giveL _ (l1 ++ l2), _) = _
            rw [giveL_append]
           have hold : ∀ {B : Option Addr} {l : List Int}, RdI w0 B l → 0 < l.length → ∀ b, b ∈ fpA B → b < w0.heap.size := fun h h0 => h.block_lt (List.getElem?_eq_getElem h0)
           obtain ⟨o, ho⟩ : ∃ o, o = (sJ g s te fe j).1 := ⟨_, rfl⟩
           obtain ⟨o2, ho2⟩ : ∃ o2, o2 = (sJ g s te fe j).2 := ⟨_, rfl⟩
           have hpq60 : pq ≤ 60 := by have := hsj.le.2; rw [hp', hm_h.out] at this; omega
           have hon := hsj.nd1
           have hor := hsj.rg1
           have hO2 : o2.length = pq := by rw [ho2]; exact hp'
           rw [← ho, ← ho2] at hse hC10
           rw [← ho] at hon hor hq'
           have h1n := giveL_nodup (l := l1) hon
           have h1r : ∀ x, x ∈ giveL o l1 → 0 ≤ x ∧ x < (n : Int) := fun x hx => by
            rcases mem_giveL.1 hx with hx | hx
            · exact hor x hx
            · exact hwl1 x hx
           obtain ⟨p1, hp1⟩ : ∃ p1, l1.length = p1 := ⟨_, rfl⟩
           obtain ⟨p2, hp2⟩ : ∃ p2, l2.length = p2 := ⟨_, rfl⟩
           rw [hp1] at g1 d2
           rw [hp2] at g2 d3
           have c1 := cnGive_any N n A' B1 cap' b1 p1 q o l1 w10 hC10.num hC10.ord (fun b hb => (hC10.an b hb).1) (hr1.below hC10.bel) (fun h0 b hb => by
            have h1 := hold hr1 (by omega) b hb
            have h2 := hC10.nf
            exact ⟨by omega, fun h => by have := hC10.af b h; omega⟩) hn100 hon hor hwl1 hp1 hq' (by omega)
           obtain ⟨q1, hq1⟩ : ∃ q1, (giveL o l1).length = q1 := ⟨_, rfl⟩
           rw [hq1] at c1
           have k10 := t_box_keeps k3_h.out hK10 (by omega)
           have y2 := (hC10.bel.cell (World.block_lt_of_cell? _ _ d2)).trans d2
           have y3 := (hC10.bel.cell (World.block_lt_of_cell? _ _ d3)).trans d3
           obtain ⟨⟨u0, u1, u2, u3⟩, f0, f1, f2, f3⟩ := t_box4 k10
           have hlt3_h := lH hlt3
           have hpq : ((pq : Int) + 1) = ((pq + 1 : Nat) : Int) := by omega
           have hpq_h := lH hpq
           have hee : ¬ (ee : Int) < 0 := by omega
           clear hst he hmem zf ze zy hn hek hed hwl hsj hks hC hKe hIP hold ho ho2 k10 hq' hp' hpq; have hC10_h := lH hC10; have hK10_h := lH hK10; have hIP10_h := lH hIP10; have hAs_h := lH hAs; have hAP_h := lH hAP; have hse_h := lH hse; have c1_h := lH c1; have hsj1_h := lH hsj1; have h1n_h := lH h1n; have h1r_h := lH h1r; have hon_h := lH hon; have hor_h := lH hor; have hwl1_h := lH hwl1; have hwl2_h := lH hwl2; have hr1_h := lH hr1; have hr2_h := lH hr2; have hp1_h := lH hp1; have hp2_h := lH hp2; have hq1_h := lH hq1; have hO2_h := lH hO2; have d2_h := lH d2; have d3_h := lH d3; clear hC10 hK10 hIP10 hAs hAP hse c1 hsj1 h1n h1r hon hor hwl1 hwl2 hr1 hr2 hp1 hp2 hq1 hO2 d2 d3
           go_upto_region 11 with (fail)
           rw [← hw10]
           clear hw10 pd pe zfe
           go_wp2_with (fail)
           refine (c1_h.out).mono ?_
           rintro e w11 ⟨A1, cap1, rfl, hR1⟩
           have hC11 := hC10_h.out.give hR1
           have hPl : P.block < w10.heap.size := hIP10_h.out.lt P.block (by simp)
           have hAs10 : ∀ b, b = N.block ∨ b ∈ fpA A' → b < w.heap.size ∨ w2.heap.size ≤ b := fun b hb => by
            rcases hb with hb | hb
            · rw [hb]; exact .inl hlt3.1
            · exact hAs_h.out b hb
           have hK11 : KeepM w w2 w11 := hK10_h.out.keeps hR1.2.2.2 hAs10
           have hW10s := hK10_h.out.size
           have hAs11 : Aside w w2 A1 := fun b hb => by
            rcases hR1.2.2.1 b hb with h | h
            · exact hAs_h.out b h
            · right; omega
           have hNP : N.block ≠ P.block := by have := hC10_h.out.num.lt N.block (by simp); have := hlt3.1; have := hW1s; omega
           have hIP11 := hIP10_h.out.keeps hR1.2.2.2 fun b hb h => by
            simp at hb
            subst hb
            rcases h with h | h
            · exact hNP h.symm
            · exact hAP_h.out _ h rfl
           have hAP11 : ∀ b, b ∈ fpA A1 → b ≠ P.block := fun b hb => by
            rcases hR1.2.2.1 b hb with h | h
            · exact hAP_h.out b h
            · omega
           have hold : ∀ {B : Option Addr} {l : List Int}, RdI w0 B l → 0 < l.length → ∀ b, b ∈ fpA B → b < w0.heap.size := fun h h0 => h.block_lt (List.getElem?_eq_getElem h0)
           have c2 := cnGive_any N n A1 C1 cap1 b2 p2 q1 (giveL o l1) l2 w11 hC11.num hC11.ord (fun b hb => (hC11.an b hb).1) (hr2_h.out.below hC11.bel) (fun h0 b hb => by
            have h1 := hold hr2_h.out (by rw [hp2_h.out]; exact h0) b hb
            have h2 := hC11.nf
            exact ⟨by omega, fun h => by have := hC11.af b h; omega⟩) hn100 h1n_h.out h1r_h.out hwl2_h.out hp2_h.out hq1_h.out (by omega)
           obtain ⟨q2, hq2⟩ : ∃ q2, (giveL (giveL o l1) l2).length = q2 := ⟨_, rfl⟩
           rw [hq2] at c2
           have k11 := t_box_keeps k3_h.out hK11 (by omega)
           clear u0 u1 u2 u3 f0 f1 f2 f3 y2 y3
           have y3 := (hC11.bel.cell (World.block_lt_of_cell? _ _ d3_h.out)).trans d3_h.out
           obtain ⟨⟨u0, u1, u2, u3⟩, f0, f1, f2, f3⟩ := t_box4 k11
           clear hR1 hold k11 hAs10 c1_h hC10_h hK10_h hIP10_h hAs_h hAP_h; have hC11_h := lH hC11; have hK11_h := lH hK11; have hIP11_h := lH hIP11; have hAs11_h := lH hAs11; have hAP11_h := lH hAP11; have c2_h := lH c2; have hq2_h := lH hq2; clear hC11 hK11 hIP11 hAs11 hAP11 c2 hq2
           go_wp2_with (fail)
           refine (c2_h.out).mono ?_
           rintro e w12 ⟨A2, cap2, rfl, hR2⟩
           have hC12 := hC11_h.out.give hR2
           have hPl2 : P.block < w11.heap.size := hIP11_h.out.lt P.block (by simp)
           have hK12 : KeepM w w2 w12 := hK11_h.out.keeps hR2.2.2.2 fun b hb => by
            rcases hb with hb | hb
            · rw [hb]; exact .inl hlt3.1
            · exact hAs11_h.out b hb
           have hW11s := hK11_h.out.size
           have hAs12 : Aside w w2 A2 := fun b hb => by
            rcases hR2.2.2.1 b hb with h | h
            · exact hAs11_h.out b h
            · right; omega
           have hIP12 := hIP11_h.out.keeps hR2.2.2.2 fun b hb h => by
            simp at hb
            subst hb
            rcases h with h | h
            · exact hNP h.symm
            · exact hAP11_h.out _ h rfl
           have hAP12 : ∀ b, b ∈ fpA A2 → b ≠ P.block := fun b hb => by
            rcases hR2.2.2.1 b hb with h | h
            · exact hAP11_h.out b h
            · omega
           rw [← hse_h.out] at hC12
           have hq12 : (sJ g s te fe (j + 1)).1.length = q2 := by rw [hse_h.out]; exact hq2_h.out
           have hp12 : (sJ g s te fe (j + 1)).2.length = pq + 1 := by
            rw [hse_h.out]
            show (o2 ++ [(ee : Int)]).length = _
            rw [List.length_append, hO2_h.out]; rfl
           clear u0 u1 u2 u3 f0 f1 f2 f3 y3 hR2; have hC12_h := lH hC12; have hK12_h := lH hK12; have hIP12_h := lH hIP12; have hAs12_h := lH hAs12; have hAP12_h := lH hAP12; have hq12_h := lH hq12; have hp12_h := lH hp12; clear hC12 hK12 hIP12 hAs12 hAP12 hq12 hp12
           go_wp2_with (fail)
           go_roundw
           case rel => exact ⟨j + 1, q2, pq + 1, A2, cap2, by omega, by go_num, rfl, by go_num, hq12_h.out, hp12_h.out, hC12_h.out, hAs12_h.out, hK12_h.out, hIP12_h.out, hAP12_h.out⟩
           case measure => simp [intOf]; omega
     · obtain rfl : 2 = j := by omega
       have hse : sJ g s te fe 2 = walkTo g s0 (k + 1) := by rw [hrd_h.out]; rfl
       rw [hse] at hC hq' hp'
       clear hIP hAP; have hC_h := lH hC; have hq'_h := lH hq'; have hp'_h := lH hp'; have hAs_h := lH hAs; have hKe_h := lH hKe; clear hC hq' hp' hAs hKe
       go_wp2_with (fail)
       go_roundw
       case rel => exact ⟨k + 1, q, pq, A', cap', by omega, by go_num, rfl, rfl, hq'_h.out, hp'_h.out, hC_h.out, hAs_h.out, hKe_h.out⟩
       case measure => simp [intOf]; omega
  · have hf := hfin_h.out k hk (by rw [hq']; omega)
    have hkI : ¬ (k : Int) < (q : Int) := by omega
    rw [← hf] at hC hq' hp'
    clear hf hKe; have hC_h := lH hC; have hq'_h := lH hq'; have hp'_h := lH hp'; clear hC hq' hp'
    go_wp2_with (fail)
    go_ret2
    exact ⟨A', cap', by rw [← hq'_h.out, ← hp'_h.out]; rfl, hC_h.out⟩
theorem least_step {l : List Int} {k : Nat} {x : Int} (h : l[k]? = some x) : (l.take (k + 1)).foldl min (100 : Int) = min ((l.take k).foldl min 100) x := by
 rw [List.take_add_one, h, List.foldl_append]; rfl
theorem lexI_drop : ∀ {k : Nat} {l m : List Int}, l.take k = m.take k → k ≤ l.length → k ≤ m.length → lexI l m = lexI (l.drop k) (m.drop k)
 | 0, _, _, _, _, _ => rfl
 | k + 1, [], _, _, h, _ => by simp at h
 | k + 1, _ :: _, [], _, _, h => by simp at h
 | k + 1, a :: r, b :: s, h, h1, h2 => by
   have h' : a :: r.take k = b :: s.take k := h
   obtain ⟨e, e2⟩ := List.cons.inj h'
   show lexI (a :: r) (b :: s) = lexI (r.drop k) (s.drop k)
   rw [lexI, if_pos e]
   exact lexI_drop e2 (by simpa using h1) (by simpa using h2)
theorem lexI_at {k : Nat} {l m : List Int} {x y : Int} (h : l.take k = m.take k) (hx : l[k]? = some x) (hy : m[k]? = some y) (hne : ¬ x = y) : lexI l m = decide (x < y) := by
 have h1 := (List.getElem?_eq_some_iff.1 hx)
 have h2 := (List.getElem?_eq_some_iff.1 hy)
 obtain ⟨h1, rfl⟩ := h1
 obtain ⟨h2, rfl⟩ := h2
 rw [lexI_drop h (by omega) (by omega), List.drop_eq_getElem_cons h1, List.drop_eq_getElem_cons h2]
 unfold lexI
 rw [if_neg hne]
theorem lexI_end {k : Nat} {l m : List Int} (h : l.take k = m.take k) (h1 : k ≤ l.length) (h2 : k ≤ m.length) (hk : k = l.length ∨ k = m.length) : lexI l m = decide (l.length < m.length) := by
 rw [lexI_drop h h1 h2]
 by_cases e : k = m.length
 · rw [List.drop_of_length_le (l := m) (by omega), decide_eq_false (by omega)]
   cases l.drop k <;> rfl
 · rcases hk with hk | hk
   · rw [List.drop_of_length_le (l := l) (by omega), List.drop_eq_getElem_cons (l := m) (by omega), decide_eq_true (by omega)]
     rfl
   · exact absurd hk e
set_option maxRecDepth 100000 in
set_option maxHeartbeats 4000000 in
theorem cnLeast_any (A : Option Addr) (c p : Nat) (l : List Int) (w : World) (h : RdI w A l) (hp : l.length = p) (hpb : p ≤ 1048576) :
  Calls Tryz.prog 82 #[.slice A p c] w fun e w' => e = .returned (.int .i64 (leastW l)) ∧ w' = w := by
 have h_h := lH h; have hp_h := lH hp; clear h hp
 go_enter Tryz.func82, Tryz.ntmps82
 go_wp2_with (fail)
 go_loopw [8, 3] (fun i v wr => ∃ k : Nat, k ≤ p ∧ i = .int .i64 k ∧ v = .int .i64 ((l.take k).foldl min 100) ∧ wr = w) (fun i _ _ => p - (intOf i).toNat)
 case atStart => exact ⟨0, Nat.zero_le _, rfl, rfl, rfl⟩
 case round =>
  obtain ⟨k, hk, rfl, rfl, rfl⟩ := hrel
  by_cases hlt : k < p
  · obtain ⟨ad, x, rfl, hx, hc⟩ := h_h.out.at_ (j := k) (by rw [hp_h.out]; exact hlt)
    have hst := least_step hx
    have hkI : (k : Int) < (p : Int) := by omega
    obtain ⟨u, hu⟩ : ∃ u, u = (l.take k).foldl min (100 : Int) := ⟨_, rfl⟩
    rw [← hu] at hst ⊢
    have hL := fun (W : World) => l1Least_any u x W
    clear hx hu; have hst_h := lH hst; have hL_h := lH hL; clear hst hL
    go_wp2_with (fail)
    refine ((hL_h.out _)).mono ?_
    rintro e w' ⟨rfl, rfl⟩
    go_wp2_with (fail)
    go_roundw
    case rel => exact ⟨k + 1, by omega, by go_num, by rw [hst_h.out], by simp⟩
    case measure => simp [intOf]; omega
  · obtain rfl : p = k := by omega
    rw [List.take_of_length_le (by rw [hp_h.out]; exact Nat.le_refl _)]
    go_wp2_with (fail)
    go_ret
    exact ⟨rfl, rfl⟩
set_option maxRecDepth 100000 in
set_option maxHeartbeats 4000000 in
theorem cnBefore_any (A B : Option Addr) (a b p q : Nat) (l m : List Int) (w : World) (hA : RdI w A l) (hB : RdI w B m) (hp : l.length = p) (hq : m.length = q) (hpb : p ≤ 1048576) :
  Calls Tryz.prog 64 #[.slice A p a, .slice B q b] w fun e w' => e = .returned (.bool (lexI l m)) ∧ Below w.heap.size w w' := by
 have hA_h := lH hA; have hB_h := lH hB; have hp_h := lH hp; have hq_h := lH hq; clear hA hB hp hq
 go_enter Tryz.func64, Tryz.ntmps64
 go_wp2_with (fail)
 go_loopw [5] (fun i wr => ∃ k : Nat, (k ≤ p ∧ k ≤ q) ∧ i = .int .i64 k ∧ l.take k = m.take k ∧ Below w.heap.size w wr) (fun i _ => p - (intOf i).toNat)
 case atStart => exact ⟨0, ⟨Nat.zero_le _, Nat.zero_le _⟩, rfl, rfl, Below.refl _ _⟩
 case round =>
  obtain ⟨k, ⟨hk1, hk2⟩, rfl, hpre, hBe⟩ := hrel
  obtain ⟨wo, rfl⟩ : ∃ x, x = wr := ⟨_, rfl⟩
  by_cases hl1 : k < p
  · by_cases hl2 : k < q
    · obtain ⟨x, hx⟩ : ∃ x, l[k]? = some x := ⟨_, List.getElem?_eq_getElem (by rw [hp_h.out]; exact hl1)⟩
      obtain ⟨y, hy⟩ : ∃ y, m[k]? = some y := ⟨_, List.getElem?_eq_getElem (by rw [hq_h.out]; exact hl2)⟩
      obtain ⟨ad, rfl, xc⟩ := hA_h.out.below hBe k _ hx
      obtain ⟨bd, rfl, yc⟩ := hB_h.out.below hBe k _ hy
      have hkI : (k : Int) < (p : Int) := by omega
      have hkJ : (k : Int) < (q : Int) := by omega
      by_cases hxy : x = y
      · subst hxy
        have hpre' : l.take (k + 1) = m.take (k + 1) := by rw [List.take_add_one, List.take_add_one, hx, hy, hpre]
        clear hx hy hpre; have hBe_h := lH hBe; have hpre'_h := lH hpre'; clear hBe hpre'
        go_wp2_with (fail)
        refine beginB (by kernel_rfl) (fun W1 hW1 => ?_)
        have hbw : Below wo.heap.size wo W1 := by rw [hW1]; exact below_drew (Below.refl _ _)
        clear hW1
        have x1 := (hbw.cell (World.block_lt_of_cell? _ _ xc)).trans xc
        have y1 := (hbw.cell (World.block_lt_of_cell? _ _ yc)).trans yc
        have hB2 := below_trans hBe_h.out hbw hBe_h.out.size
        clear xc yc hbw; have hB2_h := lH hB2; clear hB2
        refine tkH 0 ?_ rfl (Below.refl _ _) (fun W' hW' => ?_) ?_; rotate_left; · (have z1 := (hW'.cell (World.block_lt_of_cell? _ _ x1)).trans x1; have z2 := (hW'.cell (World.block_lt_of_cell? _ _ y1)).trans y1; clear hW'; go_simp; first | done | with_reducible rfl)
        simp only [Act.put, nS]
        refine tkH 1 ?_ rfl (Below.refl _ _) (fun W' hW' => ?_) ?_; rotate_left; · (have z1 := (hW'.cell (World.block_lt_of_cell? _ _ x1)).trans x1; have z2 := (hW'.cell (World.block_lt_of_cell? _ _ y1)).trans y1; clear hW'; go_simp; first | done | with_reducible rfl)
        simp only [Act.put, nS]
        refine tkH 2 ?_ rfl (Below.refl _ _) (fun W' hW' => ?_) ?_; rotate_left; · (have z1 := (hW'.cell (World.block_lt_of_cell? _ _ x1)).trans x1; have z2 := (hW'.cell (World.block_lt_of_cell? _ _ y1)).trans y1; clear hW'; go_simp; first | done | with_reducible rfl)
        simp only [Act.put, nS]
        refine tkH 3 ?_ rfl (Below.refl _ _) (fun W' hW' => ?_) ?_; rotate_left; · (have z1 := (hW'.cell (World.block_lt_of_cell? _ _ x1)).trans x1; have z2 := (hW'.cell (World.block_lt_of_cell? _ _ y1)).trans y1; clear hW'; go_simp; first | done | with_reducible rfl)
        simp only [Act.put, nS]
        refine tkH 4 ?_ rfl (Below.refl _ _) (fun W' hW' => ?_) ?_; rotate_left; · (have z1 := (hW'.cell (World.block_lt_of_cell? _ _ x1)).trans x1; have z2 := (hW'.cell (World.block_lt_of_cell? _ _ y1)).trans y1; clear hW'; go_simp; first | done | with_reducible rfl)
        simp only [Act.put, nS]
        refine tkH 5 ?_ rfl (Below.refl _ _) (fun W' hW' => ?_) ?_; rotate_left; · (have z1 := (hW'.cell (World.block_lt_of_cell? _ _ x1)).trans x1; have z2 := (hW'.cell (World.block_lt_of_cell? _ _ y1)).trans y1; clear hW'; go_simp; first | done | with_reducible rfl)
        simp only [Act.put, nS]
        refine tkH 6 ?_ rfl (Below.refl _ _) (fun W' hW' => ?_) ?_; rotate_left; · (have z1 := (hW'.cell (World.block_lt_of_cell? _ _ x1)).trans x1; have z2 := (hW'.cell (World.block_lt_of_cell? _ _ y1)).trans y1; clear hW'; go_simp; first | done | with_reducible rfl)
        simp only [Act.put, nS]
        refine tkH 7 ?_ rfl (Below.refl _ _) (fun W' hW' => ?_) ?_; rotate_left; · (have z1 := (hW'.cell (World.block_lt_of_cell? _ _ x1)).trans x1; have z2 := (hW'.cell (World.block_lt_of_cell? _ _ y1)).trans y1; clear hW'; go_simp; first | done | with_reducible rfl)
        simp only [Act.put, nS]
        refine tkH 8 ?_ rfl (Below.refl _ _) (fun W' hW' => ?_) ?_; rotate_left; · (have z1 := (hW'.cell (World.block_lt_of_cell? _ _ x1)).trans x1; have z2 := (hW'.cell (World.block_lt_of_cell? _ _ y1)).trans y1; clear hW'; go_simp; first | done | with_reducible rfl)
        simp only [Act.put, nS]
        refine doneH (by kernel_rfl) ?_
        go_wp2_with (fail)
        go_roundw
        case rel => exact ⟨k + 1, ⟨by omega, by omega⟩, by go_num, hpre'_h.out, hB2_h.out⟩
        case measure => simp [intOf]; omega
      · have hlx := lexI_at hpre hx hy hxy
        clear hx hy hpre; have hBe_h := lH hBe; have hlx_h := lH hlx; clear hBe hlx
        go_wp2_with (fail)
        refine beginB (by kernel_rfl) (fun W1 hW1 => ?_)
        have hbw : Below wo.heap.size wo W1 := by rw [hW1]; exact below_drew (Below.refl _ _)
        clear hW1
        have x1 := (hbw.cell (World.block_lt_of_cell? _ _ xc)).trans xc
        have y1 := (hbw.cell (World.block_lt_of_cell? _ _ yc)).trans yc
        have hB2 := below_trans hBe_h.out hbw hBe_h.out.size
        clear xc yc hbw; have hB2_h := lH hB2; clear hB2
        refine tkH 0 ?_ rfl (Below.refl _ _) (fun W' hW' => ?_) ?_; rotate_left; · (have z1 := (hW'.cell (World.block_lt_of_cell? _ _ x1)).trans x1; have z2 := (hW'.cell (World.block_lt_of_cell? _ _ y1)).trans y1; clear hW'; go_simp; first | done | with_reducible rfl)
        simp only [Act.put, nS]
        refine tkH 1 ?_ rfl (Below.refl _ _) (fun W' hW' => ?_) ?_; rotate_left; · (have z1 := (hW'.cell (World.block_lt_of_cell? _ _ x1)).trans x1; have z2 := (hW'.cell (World.block_lt_of_cell? _ _ y1)).trans y1; clear hW'; go_simp; first | done | with_reducible rfl)
        simp only [Act.put, nS]
        refine tkH 2 ?_ rfl (Below.refl _ _) (fun W' hW' => ?_) ?_; rotate_left; · (have z1 := (hW'.cell (World.block_lt_of_cell? _ _ x1)).trans x1; have z2 := (hW'.cell (World.block_lt_of_cell? _ _ y1)).trans y1; clear hW'; go_simp; first | done | with_reducible rfl)
        simp only [Act.put, nS]
        refine tkH 3 ?_ rfl (Below.refl _ _) (fun W' hW' => ?_) ?_; rotate_left; · (have z1 := (hW'.cell (World.block_lt_of_cell? _ _ x1)).trans x1; have z2 := (hW'.cell (World.block_lt_of_cell? _ _ y1)).trans y1; clear hW'; go_simp; first | done | with_reducible rfl)
        simp only [Act.put, nS]
        refine tkH 4 ?_ rfl (Below.refl _ _) (fun W' hW' => ?_) ?_; rotate_left; · (have z1 := (hW'.cell (World.block_lt_of_cell? _ _ x1)).trans x1; have z2 := (hW'.cell (World.block_lt_of_cell? _ _ y1)).trans y1; clear hW'; go_simp; first | done | with_reducible rfl)
        simp only [Act.put, nS]
        refine tkH 5 ?_ rfl (Below.refl _ _) (fun W' hW' => ?_) ?_; rotate_left; · (have z1 := (hW'.cell (World.block_lt_of_cell? _ _ x1)).trans x1; have z2 := (hW'.cell (World.block_lt_of_cell? _ _ y1)).trans y1; clear hW'; go_simp; first | done | with_reducible rfl)
        simp only [Act.put, nS]
        refine tkH 6 ?_ rfl (Below.refl _ _) (fun W' hW' => ?_) ?_; rotate_left; · (have z1 := (hW'.cell (World.block_lt_of_cell? _ _ x1)).trans x1; have z2 := (hW'.cell (World.block_lt_of_cell? _ _ y1)).trans y1; clear hW'; go_simp; first | done | with_reducible rfl)
        simp only [Act.put, nS]
        refine tkH 7 ?_ rfl (Below.refl _ _) (fun W' hW' => ?_) ?_; rotate_left; · (have z1 := (hW'.cell (World.block_lt_of_cell? _ _ x1)).trans x1; have z2 := (hW'.cell (World.block_lt_of_cell? _ _ y1)).trans y1; clear hW'; go_simp; first | done | with_reducible rfl)
        simp only [Act.put, nS]
        refine tkH 8 ?_ rfl (Below.refl _ _) (fun W' hW' => ?_) ?_; rotate_left; · (have z1 := (hW'.cell (World.block_lt_of_cell? _ _ x1)).trans x1; have z2 := (hW'.cell (World.block_lt_of_cell? _ _ y1)).trans y1; clear hW'; go_simp; first | done | with_reducible rfl)
        simp only [Act.put, nS]
        refine doneH (by kernel_rfl) ?_
        go_wp2_with (fail)
        refine beginB (by kernel_rfl) (fun W2 hW2 => ?_)
        have hbw : Below W1.heap.size W1 W2 := by rw [hW2]; exact below_drew (Below.refl _ _)
        clear hW2
        have x2 := (hbw.cell (World.block_lt_of_cell? _ _ x1)).trans x1
        have y2 := (hbw.cell (World.block_lt_of_cell? _ _ y1)).trans y1
        have hB3 := below_trans hB2_h.out hbw hB2_h.out.size
        clear x1 y1 hbw; have hB3_h := lH hB3; clear hB3
        refine tkH 0 ?_ rfl (Below.refl _ _) (fun W' hW' => ?_) ?_; rotate_left; · (have z1 := (hW'.cell (World.block_lt_of_cell? _ _ x2)).trans x2; have z2 := (hW'.cell (World.block_lt_of_cell? _ _ y2)).trans y2; clear hW'; go_simp; first | done | with_reducible rfl)
        simp only [Act.put, nS]
        refine tkH 1 ?_ rfl (Below.refl _ _) (fun W' hW' => ?_) ?_; rotate_left; · (have z1 := (hW'.cell (World.block_lt_of_cell? _ _ x2)).trans x2; have z2 := (hW'.cell (World.block_lt_of_cell? _ _ y2)).trans y2; clear hW'; go_simp; first | done | with_reducible rfl)
        simp only [Act.put, nS]
        refine tkH 2 ?_ rfl (Below.refl _ _) (fun W' hW' => ?_) ?_; rotate_left; · (have z1 := (hW'.cell (World.block_lt_of_cell? _ _ x2)).trans x2; have z2 := (hW'.cell (World.block_lt_of_cell? _ _ y2)).trans y2; clear hW'; go_simp; first | done | with_reducible rfl)
        simp only [Act.put, nS]
        refine tkH 3 ?_ rfl (Below.refl _ _) (fun W' hW' => ?_) ?_; rotate_left; · (have z1 := (hW'.cell (World.block_lt_of_cell? _ _ x2)).trans x2; have z2 := (hW'.cell (World.block_lt_of_cell? _ _ y2)).trans y2; clear hW'; go_simp; first | done | with_reducible rfl)
        simp only [Act.put, nS]
        refine tkH 4 ?_ rfl (Below.refl _ _) (fun W' hW' => ?_) ?_; rotate_left; · (have z1 := (hW'.cell (World.block_lt_of_cell? _ _ x2)).trans x2; have z2 := (hW'.cell (World.block_lt_of_cell? _ _ y2)).trans y2; clear hW'; go_simp; first | done | with_reducible rfl)
        simp only [Act.put, nS]
        refine tkH 5 ?_ rfl (Below.refl _ _) (fun W' hW' => ?_) ?_; rotate_left; · (have z1 := (hW'.cell (World.block_lt_of_cell? _ _ x2)).trans x2; have z2 := (hW'.cell (World.block_lt_of_cell? _ _ y2)).trans y2; clear hW'; go_simp; first | done | with_reducible rfl)
        simp only [Act.put, nS]
        refine tkH 6 ?_ rfl (Below.refl _ _) (fun W' hW' => ?_) ?_; rotate_left; · (have z1 := (hW'.cell (World.block_lt_of_cell? _ _ x2)).trans x2; have z2 := (hW'.cell (World.block_lt_of_cell? _ _ y2)).trans y2; clear hW'; go_simp; first | done | with_reducible rfl)
        simp only [Act.put, nS]
        refine tkH 7 ?_ rfl (Below.refl _ _) (fun W' hW' => ?_) ?_; rotate_left; · (have z1 := (hW'.cell (World.block_lt_of_cell? _ _ x2)).trans x2; have z2 := (hW'.cell (World.block_lt_of_cell? _ _ y2)).trans y2; clear hW'; go_simp; first | done | with_reducible rfl)
        simp only [Act.put, nS]
        refine tkH 8 ?_ rfl (Below.refl _ _) (fun W' hW' => ?_) ?_; rotate_left; · (have z1 := (hW'.cell (World.block_lt_of_cell? _ _ x2)).trans x2; have z2 := (hW'.cell (World.block_lt_of_cell? _ _ y2)).trans y2; clear hW'; go_simp; first | done | with_reducible rfl)
        simp only [Act.put, nS]
        refine tkH 9 ?_ rfl (Below.refl _ _) (fun W' hW' => ?_) ?_; rotate_left; · (have z1 := (hW'.cell (World.block_lt_of_cell? _ _ x2)).trans x2; have z2 := (hW'.cell (World.block_lt_of_cell? _ _ y2)).trans y2; clear hW'; go_simp; first | done | with_reducible rfl)
        simp only [Act.put, nS]
        refine doneH (by kernel_rfl) ?_
        go_wp2_with (fail)
        go_ret
        exact ⟨by rw [hlx_h.out]; rfl, hB3_h.out⟩
    · obtain rfl : q = k := by omega
      have hlx := lexI_end hpre (by rw [hp_h.out]; exact hk1) (by rw [hq_h.out]; exact Nat.le_refl _) (.inr hq_h.out.symm)
      rw [hp_h.out, hq_h.out] at hlx
      have hkI : (q : Int) < (p : Int) := by omega
      clear hpre; have hBe_h := lH hBe; have hlx_h := lH hlx; clear hBe hlx
      go_wp2_with (fail)
      go_ret
      exact ⟨by rw [hlx_h.out]; rfl, hBe_h.out⟩
  · obtain rfl : p = k := by omega
    have hlx := lexI_end hpre (by rw [hp_h.out]; exact Nat.le_refl _) (by rw [hq_h.out]; exact hk2) (.inl hp_h.out.symm)
    rw [hp_h.out, hq_h.out] at hlx
    clear hpre; have hBe_h := lH hBe; have hlx_h := lH hlx; clear hBe hlx
    go_wp2_with (fail)
    go_ret
    exact ⟨by rw [hlx_h.out]; rfl, hBe_h.out⟩
theorem results_tmp4 {fn : Func} {t u v x : Tmp} (h : fn.results = #[.tmp t, .tmp u, .tmp v, .tmp x]) (tmps : Array Value) (P : Program) (w : World) :
  (results fn tmps).run P w = .ok (.tuple #[tmps.getD t undef, tmps.getD u undef, tmps.getD v undef, tmps.getD x undef]) w := by
 simp [results, h]
theorem CnW.base {w0 w W : World} {n m : Nat} {N E : Addr} {A : Option Addr} {cap : Nat} {s : WE} (h : CnW W n m N E w A cap s) (hb : Below w0.heap.size w0 W) : CnW w0 n m N E w A cap s :=
 ⟨h.num, h.edg, h.ord, by have := hb.size; have := h.nf; omega, by have := hb.size; have := h.ef; omega, h.af.mono hb.size, h.ne, h.an, below_trans hb h.bel hb.size⟩
theorem CnW.apart {w0 w : World} {n m : Nat} {N E : Addr} {A B : Option Addr} {cap p : Nat} {s : WE} {l : List Int} (h : CnW w0 n m N E w A cap s) (hB : RdI w0 B l) (hp : l.length = p) : 0 < p → ∀ b, b ∈ fpA B → b ≠ N.block ∧ ¬ b ∈ fpA A := fun h0 b hb => by
 have h1 := hB.block_lt (List.getElem?_eq_getElem (show 0 < l.length by omega)) b hb
 have h2 := h.nf
 exact ⟨by omega, fun hh => by have := h.af b hh; omega⟩
set_option maxRecDepth 100000 in
set_option maxHeartbeats 8000000 in
theorem cnOpen_any {v : Value} {g : Gr} (w : World) (n m : Nat) (h : RdGr w v g) (hMo : Mono g n) (hm : g.2.1.length = m) :
  Calls Tryz.prog 45 #[v] w fun e w' => ∃ (N E : Addr) (A' : Option Addr) (cap' : Nat), e = .returned (.tuple #[.slice (some N) n n, .slice (some E) m m, .slice A' (openM g).1.length cap', .int .i64 ((openM g).2.length : Int)]) ∧ CnW w n m N E w' A' cap' (openM g) := by
 have hn100 := hMo.n100
 have hm60 := hMo.m60
 have hi12 := hMo.i12
 have ho12 := hMo.o12
 have hgn := hMo.hn
 have hin := hMo.inn
 have hfin := startO_inv hMo
 have hW0 := h
 obtain ⟨A, c, hs, ⟨B, b, s⟩, ⟨C', d', t⟩, rfl, e1, e2, e3, hE, hRa, hRb⟩ := h
 have hml : hs.length = m := by rw [← hm, e1, List.length_map]
 have hs2 : s = g.2.2.1 := e2
 have ht2 : t = g.2.2.2 := e3
 have hins : ∀ x, x ∈ s → 0 ≤ x ∧ x < (n : Int) := fun x hx => hin x (by unfold t_allW; rw [hs2] at hx; exact List.mem_append_left _ hx)
 have hint : ∀ x, x ∈ t → 0 ≤ x ∧ x < (n : Int) := fun x hx => hin x (by unfold t_allW; rw [ht2] at hx; exact List.mem_append_right _ (List.mem_append_left _ hx))
 rw [← hs2] at hi12
 rw [← ht2] at ho12
 simp only [hml, hgn] at hW0 ⊢
 obtain ⟨pp, hpp⟩ : ∃ p, s.length = p := ⟨_, rfl⟩
 obtain ⟨r, hr⟩ : ∃ r, t.length = r := ⟨_, rfl⟩
 rw [hpp] at hW0 hi12 ⊢
 rw [hr] at hW0 ho12 ⊢
 obtain ⟨W, hWe, bW, k0⟩ := (⟨_, rfl, t_below_alloc _ _, heap_alloc_new _ _⟩ : ∃ W, W = w.alloc (.cells #[.int .i64 (n : Int), .slice A m c, .slice B pp b, .slice C' r d'] tGr) ∧ Below w.heap.size w W ∧ W.heap[w.heap.size]? = some (.cells #[.int .i64 (n : Int), .slice A m c, .slice B pp b, .slice C' r d'] tGr))
 have hWW := hW0.below bW
 have hsW := hRa.below bW
 have htW := hRb.below bW
 have bWd : Below W.heap.size W W.drew := below_drewN (Below.refl _ _) 1
 have hC1 := cnNone_any n W.drew (by omega)
 have hC2 := fun (W : World) => cnNone_any m W (by omega)
 clear e1 e2 e3 hE hRa hRb hW0 hin; have hMo_h := lH hMo; have hgn_h := lH hgn; have hm_h := lH hm; have hml_h := lH hml; have hs2_h := lH hs2; have ht2_h := lH ht2; have hins_h := lH hins; have hint_h := lH hint; have hpp_h := lH hpp; have hr_h := lH hr; have bW_h := lH bW; have k0_h := lH k0; have hWW_h := lH hWW; have hsW_h := lH hsW; have htW_h := lH htW; have bWd_h := lH bWd; have hC1_h := lH hC1; have hC2_h := lH hC2; have hfin_h := lH hfin; clear hMo hgn hm hml hs2 ht2 hins hint hpp hr bW k0 hWW hsW htW bWd hC1 hC2 hfin
 go_enter Tryz.func45, Tryz.ntmps45
 go_upto_region 1 with (fail)
 rw [← hWe]
 clear hWe
 refine beginH (fun w' => w'.heap[w.heap.size]? = some (.cells #[.int .i64 (n : Int), .slice A m c, .slice B pp b, .slice C' r d'] tGr)) (by kernel_rfl) ?_
 have k1 := t_box_below k0_h.out bWd_h.out
 refine tkH 0 ?_ rfl k1 (fun W' hW' => ?_) ?_; rotate_left; · (obtain ⟨⟨y0, y1, y2, y3⟩, y4, y5, y6, y7⟩ := t_box4 hW'; clear hW'; go_simp; first | done | with_reducible rfl)
 simp only [Act.put, nS]
 refine tkH 1 ?_ rfl k1 (fun W' hW' => ?_) ?_; rotate_left; · (obtain ⟨⟨y0, y1, y2, y3⟩, y4, y5, y6, y7⟩ := t_box4 hW'; clear hW'; go_simp; first | done | with_reducible rfl)
 simp only [Act.put, nS]
 refine tkH 3 ?_ rfl k1 (fun W' hW' => ?_) ?_; rotate_left; · (obtain ⟨⟨y0, y1, y2, y3⟩, y4, y5, y6, y7⟩ := t_box4 hW'; clear hW'; go_simp; first | done | with_reducible rfl)
 simp only [Act.put, nS]
 refine tkH 4 ?_ rfl k1 (fun W' hW' => ?_) ?_; rotate_left; · (obtain ⟨⟨y0, y1, y2, y3⟩, y4, y5, y6, y7⟩ := t_box4 hW'; clear hW'; go_simp; first | done | with_reducible rfl)
 simp only [Act.put, nS]
 refine tkH 5 ?_ rfl k1 (fun W' hW' => ?_) ?_; rotate_left; · (obtain ⟨⟨y0, y1, y2, y3⟩, y4, y5, y6, y7⟩ := t_box4 hW'; clear hW'; go_simp; first | done | with_reducible rfl)
 simp only [Act.put, nS]
 refine' callH 2 (f := _) (args := _) rfl (by kernel_rfl) (by rfl) ?_ ?_; rotate_left 2; · (go_simp; first | done | with_reducible rfl | (constructor <;> with_reducible rfl))
 refine (hC1_h.out).mono ?_
 rintro e w1 ⟨N, rfl, hI1, hG1, hb1⟩
 have k2 := t_box_below k1 hb1
 have hbW1 := below_trans bWd_h.out hb1 bWd_h.out.size
 refine ⟨_, rfl, k2, ?_⟩
 simp only [Act.put, nS]
 refine' callH 6 (f := _) (args := _) rfl (by kernel_rfl) (by rfl) ?_ ?_; rotate_left 2; · (go_simp; first | done | with_reducible rfl | (constructor <;> with_reducible rfl))
 refine ((hC2_h.out _)).mono ?_
 rintro e w2 ⟨E, rfl, hI2, hG2, hb2⟩
 have k3 := t_box_below k2 hb2
 refine ⟨_, rfl, k3, ?_⟩
 simp only [Act.put, nS]
 refine tkH 7 ?_ rfl k3 (fun W' hW' => ?_) ?_; rotate_left; · (skip; clear hW'; go_simp; first | done | with_reducible rfl)
 simp only [Act.put, nS]
 refine tkH 8 ?_ rfl k3 (fun W' hW' => ?_) ?_; rotate_left; · (skip; clear hW'; go_simp; first | done | with_reducible rfl)
 simp only [Act.put, nS]
 refine doneH (by kernel_rfl) ?_
 have hI1' := hI1.below hb2
 have hN2 : N.block < w1.heap.size := hI1.lt N.block (by simp)
 have hdz : W.drew.heap.size = W.heap.size := rfl
 have hz1 := hb1.size
 have hBW2 := below_trans hbW1 hb2 hbW1.size
 have hC0 : CnW W n m N E w2 none 0 ([], []) := ⟨by show IS w2 (some N) n (numsL n []); rw [numsL_zero]; exact hI1', by show IS w2 (some E) m (numsL m []); rw [numsL_zero]; exact hI2, Sl.nil _ _ _, by omega, by omega, Fresh.none_ _, by omega, fun b hb => by simp at hb, hBW2⟩
 have c1 := cnGive_any N n none B 0 b pp 0 [] s w2 hC0.num hC0.ord (fun b hb => (hC0.an b hb).1) (hsW_h.out.below hBW2) (hC0.apart hsW_h.out hpp_h.out) hn100 List.nodup_nil (fun x hx => by cases hx) hins_h.out hpp_h.out rfl (by omega)
 obtain ⟨q1, hq1⟩ : ∃ q1, (giveL [] s).length = q1 := ⟨_, rfl⟩
 rw [hq1] at c1
 obtain ⟨⟨y0, y1, y2, y3⟩, y4, y5, y6, y7⟩ := t_box4 k3
 clear hI1 hI2 hI1' hb1 hb2 hbW1 hC1_h hC2_h k1 k2 k3; have hC0_h := lH hC0; have c1_h := lH c1; have hq1_h := lH hq1; have hBW2_h := lH hBW2; clear hC0 c1 hq1 hBW2
 go_wp2_with (fail)
 refine (c1_h.out).mono ?_
 rintro e w3 ⟨A1, cap1, rfl, hR1⟩
 have hC1 : CnW W n m N E w3 A1 cap1 (giveL [] s, []) := hC0_h.out.give hR1
 have h1n := giveL_nodup (l := s) (o := []) List.nodup_nil
 have h1r : ∀ x, x ∈ giveL [] s → 0 ≤ x ∧ x < (n : Int) := fun x hx => by
  rcases mem_giveL.1 hx with hx | hx
  · cases hx
  · exact hins_h.out x hx
 have c2 := cnGive_any N n A1 C' cap1 d' r q1 (giveL [] s) t w3 hC1.num hC1.ord (fun b hb => (hC1.an b hb).1) (htW_h.out.below hC1.bel) (hC1.apart htW_h.out hr_h.out) hn100 h1n h1r hint_h.out hr_h.out hq1_h.out (by omega)
 have hst : giveL (giveL [] s) t = (startO g).1 := by
  rw [← giveL_append, hs2_h.out, ht2_h.out]; rfl
 rw [hst] at c2
 obtain ⟨q2, hq2⟩ : ∃ q2, (startO g).1.length = q2 := ⟨_, rfl⟩
 rw [hq2] at c2
 have k4 := t_box_below k0_h.out hC1.bel
 clear y0 y1 y2 y3 y4 y5 y6 y7 hC0_h c1_h hR1
 obtain ⟨⟨y0, y1, y2, y3⟩, y4, y5, y6, y7⟩ := t_box4 k4
 clear k4; have hC1_h := lH hC1; have c2_h := lH c2; have hq2_h := lH hq2; have h1n_h := lH h1n; have h1r_h := lH h1r; have hst_h := lH hst; clear hC1 c2 hq2 h1n h1r hst
 go_wp2_with (fail)
 refine (c2_h.out).mono ?_
 rintro e w4 ⟨A2, cap2, rfl, hR2⟩
 have hC2 : CnW W n m N E w4 A2 cap2 (startO g) := hC1_h.out.give hR2
 have cw := cnWalk_any W w4 n m 0 q2 N E A2 cap2 (startO g) hWW_h.out hMo_h.out hfin_h.out hC2 hm_h.out hq2_h.out rfl
 rw [show finW g (startO g) = openM g from rfl, show ((0 : Nat) : Int) = 0 from rfl] at cw
 obtain ⟨q3, hq3⟩ : ∃ q3, (openM g).1.length = q3 := ⟨_, rfl⟩
 obtain ⟨p3, hp3⟩ : ∃ p3, (openM g).2.length = p3 := ⟨_, rfl⟩
 rw [hq3, hp3] at cw
 have k4 := t_box_below k0_h.out hC2.bel
 clear y0 y1 y2 y3 y4 y5 y6 y7 hC1_h c2_h hR2
 obtain ⟨⟨y0, y1, y2, y3⟩, y4, y5, y6, y7⟩ := t_box4 k4
 clear k4 hC2; have cw_h := lH cw; have hq3_h := lH hq3; have hp3_h := lH hp3; clear cw hq3 hp3
 go_wp2_with (fail)
 refine (cw_h.out).mono ?_
 rintro e w5 ⟨A3, cap3, rfl, hC3⟩
 have hC4 := hC3.base bW_h.out
 clear hC3 y0 y1 y2 y3 y4 y5 y6 y7 cw_h; have hC4_h := lH hC4; clear hC4
 go_wp2_with (fail)
 try simp only [Exit.inBlock, Exit.then]
 refine bodyPost_ret (results_tmp4 rfl _ _ _) rfl ?_
 exact ⟨N, E, A3, cap3, by rw [hq3_h.out, hp3_h.out]; rfl, hC4_h.out⟩
end Go.Proofs.YtpkmjenoniedjaaGreat
namespace Go.Proofs.YtpkmjenoniedjaaGreat
def invL (o : List Int) (k : Nat) : List Int := (List.range o.length).map fun i => if o.getD i 0 < (k : Int) then o.getD i 0 else 0
@[simp] theorem invL_length (o : List Int) (k : Nat) : (invL o k).length = o.length := by simp [invL]
theorem invL_get {o : List Int} {k i : Nat} (h : i < o.length) : (invL o k)[i]? = some (if o.getD i 0 < (k : Int) then o.getD i 0 else 0) := by simp [invL, h]
theorem invL_zero {o : List Int} (h : ∀ x, x ∈ o → 0 ≤ x) : invL o 0 = List.replicate o.length 0 := by
 unfold invL
 rw [List.eq_replicate_iff]
 refine ⟨by simp, fun x hx => ?_⟩
 obtain ⟨i, hi, rfl⟩ := List.mem_map.1 hx
 have hi' := List.mem_range.1 hi
 have hm : o.getD i 0 ∈ o := by
  rw [List.getD_eq_getElem?_getD, List.getElem?_eq_getElem hi']
  exact List.getElem_mem hi'
 have := h _ hm
 rw [if_neg (by omega)]
theorem invL_end {o : List Int} {m : Nat} (h : ∀ x, x ∈ o → x < (m : Int)) : invL o m = o := by
 apply List.ext_getElem?
 intro i
 by_cases hi : i < o.length
 · rw [invL_get hi]
   have hm : o.getD i 0 = o[i] := by rw [List.getD_eq_getElem?_getD, List.getElem?_eq_getElem hi]; rfl
   rw [hm, if_pos (h _ (List.getElem_mem hi)), List.getElem?_eq_getElem hi]
 · rw [List.getElem?_eq_none (by rw [invL_length]; omega), List.getElem?_eq_none (by omega)]
theorem invL_skip {o : List Int} {k : Nat} (h : (k : Int) ∉ o) : invL o (k + 1) = invL o k := by
 unfold invL
 refine List.map_congr_left fun i hi => ?_
 have hi' := List.mem_range.1 hi
 have hne : o.getD i 0 ≠ (k : Int) := fun e => h (by
  rw [← e, List.getD_eq_getElem?_getD, List.getElem?_eq_getElem hi']
  exact List.getElem_mem hi')
 by_cases hlt : o.getD i 0 < (k : Int)
 · rw [if_pos hlt, if_pos (by omega)]
 · rw [if_neg hlt, if_neg (by omega)]
theorem invL_set {o : List Int} {k : Nat} (hn : o.Nodup) (h : (k : Int) ∈ o) : invL o (k + 1) = (invL o k).set (idx o (k : Int)).toNat (k : Int) := by
 have hr := idx_lt h
 have hg := idx_get h
 apply List.ext_getElem?
 intro i
 rw [List.getElem?_set]
 by_cases hi : i < o.length
 · rw [invL_get hi, invL_get hi, invL_length]
   by_cases e : (idx o (k : Int)).toNat = i
   · have ho : o.getD i 0 = (k : Int) := by rw [List.getD_eq_getElem?_getD, ← e, hg]; rfl
     rw [if_pos e, if_pos (by omega), ho, if_pos (by omega)]
   · rw [if_neg e]
     have hne : o.getD i 0 ≠ (k : Int) := fun e2 => e (by
      have h1 : o[i]? = some (k : Int) := by rw [List.getElem?_eq_getElem hi]; rw [List.getD_eq_getElem?_getD, List.getElem?_eq_getElem hi] at e2; exact congrArg some e2
      have := idx_at hn h1
      omega)
     by_cases hlt : o.getD i 0 < (k : Int)
     · rw [if_pos hlt, if_pos (by omega)]
     · rw [if_neg hlt, if_neg (by omega)]
 · rw [List.getElem?_eq_none (by rw [invL_length]; omega), List.getElem?_eq_none (by rw [invL_length]; omega)]
   split
   · rw [if_neg (by rw [invL_length]; omega)]
   · rfl
theorem mapL_nums {n : Nat} {o l : List Int} (hl : ∀ x, x ∈ l → (0 ≤ x ∧ x < (n : Int)) ∧ x ∈ o) : mapL (numsL n o) l = l.map (idx o) := by
 unfold mapL
 refine List.map_congr_left fun x hx => ?_
 obtain ⟨h1, h2⟩ := hl x hx
 rw [List.getD_eq_getElem?_getD, numsL_get (by omega), show ((x.toNat : Nat) : Int) = x by omega, if_pos h2]
 rfl
def codeTo (g : Gr) (s : WE) (k : Nat) : List Int := (s.2.take k).flatMap fun e => codeE s.1 (edgeAt g e)
theorem codeTo_step {g : Gr} {s : WE} {k : Nat} {e : Int} (h : s.2[k]? = some e) : codeTo g s (k + 1) = codeTo g s k ++ codeE s.1 (edgeAt g e) := by
 unfold codeTo
 rw [List.take_add_one, h, List.flatMap_append]
 simp
theorem codeTo_all (g : Gr) (s : WE) {k : Nat} (h : s.2.length ≤ k) : codeTo g s k = codeM g s := by
 unfold codeTo codeM
 rw [List.take_of_length_le h]
theorem codeE_mem {g : Gr} {n : Nat} {s : WE} (hs : WInv g n s) {e : Int} (he : e ∈ s.2) {k v : Int} {l1 l2 : List Int} (hed : edgeAt g e = (k, v, l1, l2)) : codeE s.1 (edgeAt g e) = ([k, v] ++ mapL (numsL n s.1) l1) ++ mapL (numsL n s.1) l2 := by
 have hc := hs.clo e he
 rw [hed] at hc ⊢
 have h1 : ∀ x, x ∈ l1 → (0 ≤ x ∧ x < (n : Int)) ∧ x ∈ s.1 := fun x hx => by
  have := hc x (List.mem_append_left _ hx)
  exact ⟨hs.rg1 x this, this⟩
 have h2 : ∀ x, x ∈ l2 → (0 ≤ x ∧ x < (n : Int)) ∧ x ∈ s.1 := fun x hx => by
  have := hc x (List.mem_append_right _ hx)
  exact ⟨hs.rg1 x this, this⟩
 rw [mapL_nums h1, mapL_nums h2]
 show [k, v] ++ (l1 ++ l2).map (idx s.1) = _
 rw [List.map_append, List.append_assoc]
theorem codeTo_len {g : Gr} {s : WE} (h : ∀ e, e ∈ s.2 → (wiresE (edgeAt g e)).length ≤ 4) : ∀ k, (codeTo g s k).length ≤ 6 * k
 | 0 => by simp [codeTo]
 | k + 1 => by
   have ih := codeTo_len h k
   cases hx : s.2[k]? with
   | none =>
     have : codeTo g s (k + 1) = codeTo g s k := by
      unfold codeTo
      rw [List.take_add_one, hx]; simp
     rw [this]; omega
   | some e =>
     rw [codeTo_step hx, List.length_append]
     have h1 := h e (List.mem_of_getElem? hx)
     have h2 : (codeE s.1 (edgeAt g e)).length = 2 + (wiresE (edgeAt g e)).length := by simp [codeE]; omega
     omega
open Go.RowKit
def RetLp (w : World) (p : Prt) (e : Ending) (w' : World) : Prop :=
 ∃ (D : Option Addr) (dc : Nat) (A : Option Addr) (ac : Nat) (G : Option Addr) (gc : Nat), e = .returned (.agg #[.slice D p.1.length dc, .slice A p.2.1.1.length ac, .slice G p.2.1.2.length gc, .int .i64 p.2.2]) ∧ IS w' D dc p.1 ∧ IS w' A ac p.2.1.1 ∧ IS w' G gc p.2.1.2 ∧ Fresh w.heap.size D ∧ Fresh w.heap.size A ∧ Fresh w.heap.size G ∧ Below w.heap.size w w'
theorem twoBoxesC (w : World) (o1 o2 : Obj) : ∃ W, W = (w.alloc o1).alloc o2 ∧ Below w.heap.size w W ∧ W.heap[w.heap.size]? = some o1 ∧ W.heap[w.heap.size + 1]? = some o2 := by
 refine ⟨_, rfl, below_trans (t_below_alloc _ _) (t_below_alloc _ _) (by simp), t_box_below (heap_alloc_new _ _) (t_below_alloc _ _), ?_⟩
 have := heap_alloc_new (w.alloc o1) o2
 simpa using this
theorem set4_0 {w : World} {B : Nat} {t : TypeId} {x y z u b : Value} (h : w.heap[B]? = some (.cells #[x, y, z, u] t)) : (w.setCell ⟨B, 0, none⟩ b).heap[B]? = some (.cells #[b, y, z, u] t) ∧ Keeps (· = B) w (w.setCell ⟨B, 0, none⟩ b) := by
 refine ⟨?_, Keeps.setCell (S := (· = B)) (Keeps.refl _ w) (p := ⟨B, 0, none⟩) rfl b⟩
 simp [World.setCell, Array.getElem?_modify, h]
theorem Keeps.free {S T : Nat → Prop} {a w w' : World} (h : Keeps S a w) (hk : Keeps T w w') (hT : ∀ b, b < a.heap.size → T b → S b) : Keeps S a w' :=
 ⟨hk.os.trans h.os, hk.tape.trans h.tape, hk.output.trans h.output, Nat.le_trans h.size hk.size, fun k h1 h2 => (hk.block k (Nat.lt_of_lt_of_le h1 h.size) fun ht => h2 (hT k h1 ht)).trans (h.block k h1 h2)⟩
theorem mapL_len (t l : List Int) : (mapL t l).length = l.length := by simp [mapL]
structure CdS (wo wi : World) (lb : Nat) (y z u : Value) (eb : Obj) (A : Option Addr) (c ln : Nat) (L : List Int) (wx : World) : Prop where
 box : wx.heap[lb]? = some (.cells #[.slice A ln c, y, z, u] 77)
 edge : wx.heap[wi.heap.size]? = some eb
 is : IS wx A c L
 len : L.length = ln
 fresh : Fresh wo.heap.size A
 keep : Keeps (fun b => b = lb) wo wx
 off : ∀ b, b ∈ fpA A → b ≠ wi.heap.size
 base : lb < wo.heap.size ∧ wo.heap.size ≤ wi.heap.size
section
variable {wo wi wx w' : World} {lb c ln : Nat} {y z u : Value} {eb : Obj} {A : Option Addr} {L : List Int}
theorem CdS.below (h : CdS wo wi lb y z u eb A c ln L wx) (hb : Below wx.heap.size wx w') : CdS wo wi lb y z u eb A c ln L w' :=
 ⟨t_box_below h.box hb, t_box_below h.edge hb, h.is.below hb, h.len, h.fresh, h.keep.free (Keeps.of_below hb (fun _ => False)) (fun _ _ h => h.elim), h.off, h.base⟩
theorem CdS.sl (h : CdS wo wi lb y z u eb A c ln L wx) : Sl wx tInt 1 A ln c (ints L) := by
 have := h.is
 unfold IS at this
 rwa [h.len] at this
theorem CdS.app (h : CdS wo wi lb y z u eb A c ln L wx) {A' : Option Addr} {c' m : Nat} {M : List Int} (hm : M.length = m) (hs : Sl w' tInt 1 A' (ln + m) c' (ints L ++ ints M)) (hA : ∀ b, b ∈ fpA A' → b ∈ fpA A ∨ wx.heap.size ≤ b) (hk : Keeps (· ∈ fpA A) wx w') :
  (w'.heap[lb]? = some (.cells #[.slice A ln c, y, z, u] 77) ∧ w'.heap[wi.heap.size]? = some eb) ∧ CdS wo wi lb y z u eb A' c' (ln + m) (L ++ M) (w'.setCell ⟨lb, 0, none⟩ (.slice A' (ln + m) c')) := by
 have hb1 := t_box_keeps h.box hk (fun x => by have := h.fresh _ x; have := h.base; omega)
 have hb2 := t_box_keeps h.edge hk (fun x => h.off _ x rfl)
 have hf : Fresh wo.heap.size A' := fun b hb => by
  rcases hA b hb with h1 | h1
  · exact h.fresh b h1
  · have := h.keep.size; omega
 obtain ⟨s1, s2⟩ := set4_0 (b := .slice A' (ln + m) c') hb1
 have hI : IS w' A' c' (L ++ M) := by
  unfold IS
  rw [List.length_append, h.len, hm, show ints (L ++ M) = ints L ++ ints M by simp [ints]]
  exact hs
 exact ⟨⟨hb1, hb2⟩, s1, t_box_keeps hb2 s2 (fun e => by have := h.base; omega), hI.keeps s2 fun b hb e => by have := hf b hb; have := h.base; omega, by rw [List.length_append, h.len, hm], hf,
  (h.keep.free hk fun b h1 h2 => by have := h.fresh b h2; omega).free s2 fun b _ e => e, fun b hb e => by
   rcases hA b hb with h1 | h1
   · exact h.off b h1 e
   · have := t_box_lt h.edge; omega, h.base⟩
end
set_option maxRecDepth 100000 in
set_option maxHeartbeats 8000000 in
theorem cnFrom_any {v : Value} {g : Gr} (w : World) (n m ee : Nat) (h : RdGr w v g) (hMo : Mono g n) (hm : g.2.1.length = m) (hee : ee < m) :
  Calls Tryz.prog 61 #[v, .int .i64 (ee : Int)] w (RetLp w (prtOf g (ee : Int))) := by
 have hn100 := hMo.n100
 have hm60 := hMo.m60
 have hgn := hMo.hn
 have hwi := fun (h0 : (0 : Int) ≤ (ee : Int)) (he : (ee : Int) < (g.2.1.length : Int)) => hMo.wires h0 he
 have hstart := startE_inv hMo (e := (ee : Int)) (by omega)
 have hsteq := startE_eq (g := g) (e := (ee : Int)) (by omega)
 have hkind := hMo.kind
 have hW0 := h
 obtain ⟨A, c, hs, ⟨B, b, s⟩, ⟨C', d', t⟩, rfl, e1, e2, e3, hE, hRa, hRb⟩ := h
 have hml : hs.length = m := by rw [← hm, e1, List.length_map]
 simp only [hml, hgn] at hW0 ⊢
 obtain ⟨pp, hpp⟩ : ∃ p, s.length = p := ⟨_, rfl⟩
 obtain ⟨r, hr⟩ : ∃ r, t.length = r := ⟨_, rfl⟩
 rw [hpp, hr] at hW0 ⊢
 obtain ⟨W, hWe, bW, k0, kr⟩ := twoBoxesC w (.cells #[.int .i64 (n : Int), .slice A m c, .slice B pp b, .slice C' r d'] tGr) (.cells #[.slice none 0 0, .slice none 0 0, .slice none 0 0, .int .i64 0] 77)
 have hWW := hW0.below bW
 have hEW := hE.below bW
 have bWd : Below W.heap.size W W.drew := below_drewN (Below.refl _ _) 1
 have hC1 := cnNone_any n W.drew (by omega)
 have hC2 := fun (W : World) => cnNone_any m W (by omega)
 obtain ⟨ad0, κ, vl, B1, b1, l1, C1, b2, l2, rfl, hn, ⟨d0, d1, d2, d3⟩, hr1, hr2⟩ := hEW.at_ (j := ee) (by rw [hml]; exact hee)
 have hed : edgeAt g (ee : Int) = (κ, vl, l1, l2) := by
  unfold edgeAt
  rw [Int.toNat_natCast, List.getD_eq_getElem?_getD, e1, List.getElem?_map, hn]
  rfl
 have hwl := hwi (by omega) (by omega)
 rw [hed] at hwl hsteq
 have hwl1 : ∀ x, x ∈ l1 → 0 ≤ x ∧ x < (n : Int) := fun x hx => hwl x (List.mem_append_left _ hx)
 have hwl2 : ∀ x, x ∈ l2 → 0 ≤ x ∧ x < (n : Int) := fun x hx => hwl x (List.mem_append_right _ hx)
 obtain ⟨⟨g1, g2⟩, _⟩ := egB_len (hkind (κ, vl, l1, l2) (by rw [e1]; exact List.mem_map.2 ⟨_, List.mem_of_getElem? hn, rfl⟩))
 simp only at g1 g2
 obtain ⟨p1, hp1⟩ : ∃ p1, l1.length = p1 := ⟨_, rfl⟩
 obtain ⟨p2, hp2⟩ : ∃ p2, l2.length = p2 := ⟨_, rfl⟩
 rw [hp1] at g1 d2
 rw [hp2] at g2 d3
 have heI : (ee : Int) < (m : Int) := by omega
 clear e2 e3 hE hRa hRb hW0 hwi hwl; have e1_h := lH e1; have hMo_h := lH hMo; have hgn_h := lH hgn; have hm_h := lH hm; have hml_h := lH hml; have hpp_h := lH hpp; have hr_h := lH hr; have bW_h := lH bW; have k0_h := lH k0; have kr_h := lH kr; have hWW_h := lH hWW; have hEW_h := lH hEW; have bWd_h := lH bWd; have hC1_h := lH hC1; have hC2_h := lH hC2; have hstart_h := lH hstart; have hsteq_h := lH hsteq; have hkind_h := lH hkind; have hn_h := lH hn; have hed_h := lH hed; have hwl1_h := lH hwl1; have hwl2_h := lH hwl2; have hp1_h := lH hp1; have hp2_h := lH hp2; have hr1_h := lH hr1; have hr2_h := lH hr2; have d0_h := lH d0; have d1_h := lH d1; have d2_h := lH d2; have d3_h := lH d3; clear e1 hMo hgn hm hml hpp hr bW k0 kr hWW hEW bWd hC1 hC2 hstart hsteq hkind hn hed hwl1 hwl2 hp1 hp2 hr1 hr2 d0 d1 d2 d3
 go_enter Tryz.func61, Tryz.ntmps61
 go_upto_region 1 with (fail)
 rw [← hWe]
 clear hWe
 refine beginH (fun w' => w'.heap[w.heap.size]? = some (.cells #[.int .i64 (n : Int), .slice (some ad0) m c, .slice B pp b, .slice C' r d'] tGr)) (by kernel_rfl) ?_
 have k1 := t_box_below k0_h.out bWd_h.out
 refine tkH 0 ?_ rfl k1 (fun W' hW' => ?_) ?_; rotate_left; · (obtain ⟨⟨y0, y1, y2, y3⟩, y4, y5, y6, y7⟩ := t_box4 hW'; clear hW'; go_simp; first | done | with_reducible rfl)
 simp only [Act.put, nS]
 refine tkH 1 ?_ rfl k1 (fun W' hW' => ?_) ?_; rotate_left; · (obtain ⟨⟨y0, y1, y2, y3⟩, y4, y5, y6, y7⟩ := t_box4 hW'; clear hW'; go_simp; first | done | with_reducible rfl)
 simp only [Act.put, nS]
 refine tkH 3 ?_ rfl k1 (fun W' hW' => ?_) ?_; rotate_left; · (obtain ⟨⟨y0, y1, y2, y3⟩, y4, y5, y6, y7⟩ := t_box4 hW'; clear hW'; go_simp; first | done | with_reducible rfl)
 simp only [Act.put, nS]
 refine tkH 4 ?_ rfl k1 (fun W' hW' => ?_) ?_; rotate_left; · (obtain ⟨⟨y0, y1, y2, y3⟩, y4, y5, y6, y7⟩ := t_box4 hW'; clear hW'; go_simp; first | done | with_reducible rfl)
 simp only [Act.put, nS]
 refine tkH 5 ?_ rfl k1 (fun W' hW' => ?_) ?_; rotate_left; · (obtain ⟨⟨y0, y1, y2, y3⟩, y4, y5, y6, y7⟩ := t_box4 hW'; clear hW'; go_simp; first | done | with_reducible rfl)
 simp only [Act.put, nS]
 refine' callH 2 (f := _) (args := _) rfl (by kernel_rfl) (by rfl) ?_ ?_; rotate_left 2; · (go_simp; first | done | with_reducible rfl | (constructor <;> with_reducible rfl))
 refine (hC1_h.out).mono ?_
 rintro e w1 ⟨N, rfl, hI1, hG1, hb1⟩
 have k2 := t_box_below k1 hb1
 have hbW1 := below_trans bWd_h.out hb1 bWd_h.out.size
 refine ⟨_, rfl, k2, ?_⟩
 simp only [Act.put, nS]
 refine' callH 6 (f := _) (args := _) rfl (by kernel_rfl) (by rfl) ?_ ?_; rotate_left 2; · (go_simp; first | done | with_reducible rfl | (constructor <;> with_reducible rfl))
 refine ((hC2_h.out _)).mono ?_
 rintro e w2 ⟨E, rfl, hI2, hG2, hb2⟩
 have k3 := t_box_below k2 hb2
 refine ⟨_, rfl, k3, ?_⟩
 simp only [Act.put, nS]
 refine tkH 7 ?_ rfl k3 (fun W' hW' => ?_) ?_; rotate_left; · (skip; clear hW'; go_simp; first | done | with_reducible rfl)
 simp only [Act.put, nS]
 refine tkH 8 ?_ rfl k3 (fun W' hW' => ?_) ?_; rotate_left; · (skip; clear hW'; go_simp; first | done | with_reducible rfl)
 simp only [Act.put, nS]
 refine doneH (by kernel_rfl) ?_
 have hI1' := hI1.below hb2
 have hN2 : N.block < w1.heap.size := hI1.lt N.block (by simp)
 have hdz : W.drew.heap.size = W.heap.size := rfl
 have hz1 := hb1.size
 have hBW2 := below_trans hbW1 hb2 hbW1.size
 have hC0 : CnW W n m N E w2 none 0 ([], []) := ⟨by show IS w2 (some N) n (numsL n []); rw [numsL_zero]; exact hI1', by show IS w2 (some E) m (numsL m []); rw [numsL_zero]; exact hI2, Sl.nil _ _ _, by omega, by omega, Fresh.none_ _, by omega, fun b hb => by simp at hb, hBW2⟩
 obtain ⟨zd, zv, ze, zy, _, pd, zf⟩ := hC0.edg.at_ (j := ee) (by rw [numsL_length]; exact hee)
 obtain rfl := Option.some.inj ze
 have zfe := zf ee
 have hC3 := hC0.mark (e := ee) hee (by simp)
 obtain ⟨w3, hw3⟩ : ∃ w3, w3 = w2.setCell (E.add ee) (.int .i64 0) := ⟨_, rfl⟩
 have hC3' : CnW W n m N E w3 none 0 ([], [(ee : Int)]) := by rw [hw3]; exact hC3
 have hB3 := hC3'.bel
 have c1 := cnGive_any N n none B1 0 b1 p1 0 [] l1 w3 hC3'.num hC3'.ord (fun b hb => (hC3'.an b hb).1) (hr1_h.out.below hB3) (hC3'.apart hr1_h.out hp1_h.out) hn100 List.nodup_nil (fun x hx => by cases hx) hwl1_h.out hp1_h.out rfl (by omega)
 obtain ⟨q1, hq1⟩ : ∃ q1, (giveL [] l1).length = q1 := ⟨_, rfl⟩
 rw [hq1] at c1
 have k4 := t_box_below k0_h.out hB3
 have y2' := (hB3.cell (World.block_lt_of_cell? _ _ d2_h.out)).trans d2_h.out
 obtain ⟨⟨y0, y1, y2, y3⟩, y4, y5, y6, y7⟩ := t_box4 k4
 clear hI1 hI2 hI1' hb1 hb2 hbW1 hC1_h hC2_h k1 k2 k3 k4 hC0 hC3 zf ze zy; have hC3'_h := lH hC3'; have c1_h := lH c1; have hq1_h := lH hq1; have hBW2_h := lH hBW2; have hB3_h := lH hB3; clear hC3' c1 hq1 hBW2 hB3
 go_upto_region 3 with (fail)
 rw [← hw3]
 clear hw3 pd zfe
 go_wp2_with (fail)
 refine (c1_h.out).mono ?_
 rintro e w4 ⟨A1, cap1, rfl, hR1⟩
 have hC4 : CnW W n m N E w4 A1 cap1 (giveL [] l1, [(ee : Int)]) := hC3'_h.out.give hR1
 have h1n := giveL_nodup (l := l1) (o := []) List.nodup_nil
 have h1r : ∀ x, x ∈ giveL [] l1 → 0 ≤ x ∧ x < (n : Int) := fun x hx => by
  rcases mem_giveL.1 hx with hx | hx
  · cases hx
  · exact hwl1_h.out x hx
 have c2 := cnGive_any N n A1 C1 cap1 b2 p2 q1 (giveL [] l1) l2 w4 hC4.num hC4.ord (fun b hb => (hC4.an b hb).1) (hr2_h.out.below hC4.bel) (hC4.apart hr2_h.out hp2_h.out) hn100 h1n h1r hwl2_h.out hp2_h.out hq1_h.out (by omega)
 have hst : giveL (giveL [] l1) l2 = (startE g (ee : Int)).1 := by rw [hsteq_h.out, ← giveL_append]; rfl
 have hst2 : (startE g (ee : Int)).2 = [(ee : Int)] := by rw [hsteq_h.out]
 rw [hst] at c2
 obtain ⟨q2, hq2⟩ : ∃ q2, (startE g (ee : Int)).1.length = q2 := ⟨_, rfl⟩
 rw [hq2] at c2
 have k4 := t_box_below k0_h.out hC4.bel
 have y3' := (hC4.bel.cell (World.block_lt_of_cell? _ _ d3_h.out)).trans d3_h.out
 clear y0 y1 y2 y3 y4 y5 y6 y7 y2' hC3'_h c1_h hR1
 obtain ⟨⟨y0, y1, y2, y3⟩, y4, y5, y6, y7⟩ := t_box4 k4
 clear k4; have hC4_h := lH hC4; have c2_h := lH c2; have hq2_h := lH hq2; have h1n_h := lH h1n; have h1r_h := lH h1r; have hst_h := lH hst; have hst2_h := lH hst2; clear hC4 c2 hq2 h1n h1r hst hst2
 go_wp2_with (fail)
 refine (c2_h.out).mono ?_
 rintro e w5 ⟨A2, cap2, rfl, hR2⟩
 have hC5 : CnW W n m N E w5 A2 cap2 (startE g (ee : Int)) := by
  have := hC4_h.out.give hR2
  rw [show startE g (ee : Int) = ((startE g (ee : Int)).1, (startE g (ee : Int)).2) from rfl, hst2_h.out]
  exact this
 have cw := cnWalk_any W w5 n m 1 q2 N E A2 cap2 (startE g (ee : Int)) hWW_h.out hMo_h.out hstart_h.out hC5 hm_h.out hq2_h.out (by rw [hst2_h.out]; rfl)
 rw [show finW g (startE g (ee : Int)) = fromM g (ee : Int) from rfl, show ((1 : Nat) : Int) = 1 from rfl] at cw
 have hinv := fromM_inv hMo_h.out (e := (ee : Int)) (by rw [hm_h.out]; exact heI)
 obtain ⟨sv, hsv⟩ : ∃ sv, sv = fromM g (ee : Int) := ⟨_, rfl⟩
 rw [← hsv] at cw hinv
 obtain ⟨q3, hq3⟩ : ∃ q3, sv.1.length = q3 := ⟨_, rfl⟩
 obtain ⟨p3, hp3⟩ : ∃ p3, sv.2.length = p3 := ⟨_, rfl⟩
 have hle := hinv.le
 rw [hq3, hp3, hm_h.out] at hle
 rw [hm_h.out] at hm60
 rw [hq3, hp3] at cw
 have k4 := t_box_below k0_h.out hC5.bel
 clear y0 y1 y2 y3 y4 y5 y6 y7 y3' hC4_h c2_h hR2
 obtain ⟨⟨y0, y1, y2, y3⟩, y4, y5, y6, y7⟩ := t_box4 k4
 clear k4 hC5; have cw_h := lH cw; have hq3_h := lH hq3; have hp3_h := lH hp3; have hinv_h := lH hinv; have hsv_h := lH hsv; clear cw hq3 hp3 hinv hsv
 go_wp2_with (fail)
 refine (cw_h.out).mono ?_
 rintro e w6 ⟨A3, cap3, rfl, hC6⟩
 clear y0 y1 y2 y3 y4 y5 y6 y7 cw_h; have hC6_h := lH hC6; clear hC6
 go_wp2_with (at_make; refine wpList_make_Sl _ rfl _ _ _ rfl tInt Tryz.underlying23 info_int p3 p3 rfl rfl rfl rfl (Nat.le_refl _) (by omega) (by unfold maxLen; omega) ?_; intro G w7 hs7 hG hb7)
 have hI7 : IS w7 (some G) p3 (List.replicate p3 0) := IS.of_made hs7
 obtain ⟨W8, hW8, b8, k8⟩ : ∃ W8, W8 = w7.alloc (.cells #[.slice none 0 0, .slice A3 q3 cap3, .slice (some G) p3 p3, .int .i64 1] 77) ∧ Below w7.heap.size w7 W8 ∧ W8.heap[w7.heap.size]? = some (.cells #[.slice none 0 0, .slice A3 q3 cap3, .slice (some G) p3 p3, .int .i64 1] 77) := ⟨_, rfl, t_below_alloc _ _, heap_alloc_new _ _⟩
 rw [← hW8]
 have hC8 := (hC6_h.out.below hb7).below b8
 have hI8 := hI7.below b8
 have hGl : G.block < w7.heap.size := hI7.lt G.block (by simp)
 have hGE : E.block < w6.heap.size := hC6_h.out.edg.lt E.block (by simp)
 rw [← hp3_h.out, ← invL_zero (fun x hx => (hinv_h.out.rg2 x hx).1)] at hI8
 rw [hp3_h.out] at hI8
 have hC6l := fun b (hb : b ∈ fpA A3) => Nat.lt_of_lt_of_le (hC6_h.out.ord.lt b hb) hb7.size
 have hG6 : w6.heap.size ≤ G.block := hG
 have hN6 := hC6_h.out.num.lt N.block (by simp)
 have hA6 := hC6_h.out.ord.lt
 have hW6 := hC6_h.out.bel.size
 clear hs7 hI7 hW8 hC6_h; have hC8_h := lH hC8; have hI8_h := lH hI8; have k8_h := lH k8; have b8_h := lH b8; clear hC8 hI8 k8 b8
 go_loopw [56] (fun i wr => ∃ k : Nat, k ≤ m ∧ i = .int .i64 k ∧ IS wr (some G) p3 (invL sv.2 k) ∧ Keeps (fun b => b = G.block) W8 wr) (fun i _ => m - (intOf i).toNat)
 case atStart => exact ⟨0, Nat.zero_le _, rfl, hI8_h.out, Keeps.refl _ _⟩
 case round =>
  clear hI8_h
  obtain ⟨k, hk, rfl, hIS, hKe⟩ := hrel
  obtain ⟨wo, rfl⟩ : ∃ x, x = wr := ⟨_, rfl⟩
  have hEo := hC8_h.out.edg.keeps hKe (fun b hb h => by simp at hb; omega)
  have k8o := t_box_keeps k8_h.out hKe (by omega)
  obtain ⟨⟨y0, y1, y2, y3⟩, y4, y5, y6, y7⟩ := t_box4 k8o
  by_cases hlt : k < m
  · have hkI : (k : Int) < (m : Int) := by omega
    by_cases hmem : (k : Int) ∈ sv.2
    · have hst' := invL_set hinv_h.out.nd2 hmem
      have hir := idx_lt hmem
      obtain ⟨dd, hdd⟩ : ∃ dd : Nat, idx sv.2 (k : Int) = (dd : Int) := ⟨(idx sv.2 (k : Int)).toNat, by omega⟩
      rw [hdd, Int.toNat_natCast] at hst'
      rw [hdd, hp3_h.out] at hir
      obtain ⟨zd, ze, pk⟩ := hEo.rd k (dd : Int) (by rw [numsL_get hlt, if_pos hmem, hdd])
      obtain rfl := Option.some.inj ze
      obtain ⟨zd, zv, ze, zy, _, pd, zf⟩ := hIS.at_ (j := dd) (by rw [invL_length, hp3_h.out]; omega)
      obtain rfl := Option.some.inj ze
      have zfe := zf dd
      have hset := hIS.set (ad := G) rfl (j := dd) (k : Int) (by rw [invL_length, hp3_h.out]; omega)
      rw [← hst'] at hset
      have hK2 := hKe.setCell (p := G.add dd) (by rw [block_of_add]) (.int .i64 (k : Int))
      have hdI : (dd : Int) < (p3 : Int) := by omega
      clear hIS hKe hEo zf ze zy hst' hdd hmem k8o hir; have hset_h := lH hset; have hK2_h := lH hK2; clear hset hK2
      go_wp2_with (fail)
      go_roundw
      case rel => exact ⟨k + 1, by omega, by go_num, hset_h.out, hK2_h.out⟩
      case measure => simp [intOf]; omega
    · obtain ⟨zd, ze, pk⟩ := hEo.rd k (-1) (numsL_of_not hlt hmem)
      obtain rfl := Option.some.inj ze
      rw [← invL_skip hmem] at hIS
      clear hEo ze hmem k8o; have hIS_h := lH hIS; have hKe_h := lH hKe; clear hIS hKe
      go_wp2_with (fail)
      go_roundw
      case rel => exact ⟨k + 1, by omega, by go_num, hIS_h.out, hKe_h.out⟩
      case measure => simp [intOf]; omega
  · obtain rfl : m = k := by omega
    rw [invL_end (fun x hx => by have := (hinv_h.out.rg2 x hx).2; rw [hm_h.out] at this; exact this)] at hIS
    have hC9 : CnW W n m N E wo A3 cap3 sv := by
     have h := hC8_h.out
     have hne : ∀ b, b ∈ fpA A3 → b ≠ G.block := fun b hb => by
      have := hA6 b hb
      omega
     exact ⟨h.num.keeps hKe fun b hb hh => by simp at hb; omega, hEo, h.ord.keeps hKe fun b hb hh => hne b hb hh, h.nf, h.ef, h.af, h.ne, h.an, below_keeps h.bel hKe h.bel.size fun b hb => by omega⟩
    have hL := t_box_lt k8o
    have hcl := codeTo_len (g := g) (s := sv) (fun x hx => by
     have hr := hinv_h.out.rg2 x hx
     have he := hkind_h.out _ (edge_mem (g := g) (i := x.toNat) (by omega))
     obtain ⟨⟨l1, l2⟩, _⟩ := egB_len he
     unfold edgeAt wiresE
     rw [List.length_append]
     omega)
    have hcl_h := lH hcl; clear hcl; clear k8_h hC8_h hKe hEo; have hIS_h := lH hIS; have hC9_h := lH hC9; have k8o_h := lH k8o; clear hIS hC9 k8o
    go_wp2_with (fail)
    clear y0 y1 y2 y3 y4 y5 y6 y7
    go_loopw [72] (fun i wr => ∃ (k : Nat) (D : Option Addr) (dc dl : Nat), k ≤ p3 ∧ i = .int .i64 k ∧ dl = (codeTo g sv k).length ∧ wr.heap[w7.heap.size]? = some (.cells #[.slice D dl dc, .slice A3 q3 cap3, .slice (some G) p3 p3, .int .i64 1] 77) ∧ IS wr D dc (codeTo g sv k) ∧ Fresh wo.heap.size D ∧ Keeps (fun b => b = w7.heap.size) wo wr) (fun i _ => p3 - (intOf i).toNat)
    case atStart => exact ⟨0, none, 0, 0, Nat.zero_le _, rfl, rfl, k8o_h.out, Sl.nil _ _ _, Fresh.none_ _, Keeps.refl _ _⟩
    case round =>
     clear k8o_h
     obtain ⟨k, D, dc, dl, hk, rfl, hdl, kL, hD, hDf, hKe⟩ := hrel
     obtain ⟨wi, rfl⟩ : ∃ x, x = wr := ⟨_, rfl⟩
     obtain ⟨⟨y0, y1, y2, y3⟩, y4, y5, y6, y7⟩ := t_box4 kL
     by_cases hlt : k < p3
     · obtain ⟨x, hx⟩ : ∃ x, sv.2[k]? = some x := ⟨_, List.getElem?_eq_getElem (by rw [hp3_h.out]; exact hlt)⟩
       have hxm := List.mem_of_getElem? hx
       have hxr := hinv_h.out.rg2 x hxm
       rw [hm_h.out] at hxr
       obtain ⟨ff, rfl⟩ : ∃ ff : Nat, x = (ff : Int) := ⟨x.toNat, by omega⟩
       have hGi := hIS_h.out.keeps hKe (fun b hb h => by simp at hb; omega)
       have hNi := hC9_h.out.num.keeps hKe (fun b hb h => by simp at hb; omega)
       have hBi := below_keeps hC9_h.out.bel hKe hC9_h.out.bel.size fun b hb => by omega
       obtain ⟨zd, ze, pg⟩ := hGi.rd k _ hx
       obtain rfl := Option.some.inj ze
       obtain ⟨ad1, κ1, vl1, B2, bb1, m1, C2, bb2, m2, hae, hn1, ⟨d0, d1, d2, d3⟩, hr3, hr4⟩ := (hEW_h.out.below hBi).at_ (j := ff) (by rw [hml_h.out]; omega)
       obtain rfl := Option.some.inj hae
       have hffI : (ff : Int) < (m : Int) := by omega
       have hkI : (k : Int) < (p3 : Int) := by omega
       obtain ⟨r1, hr1'⟩ : ∃ r1, m1.length = r1 := ⟨_, rfl⟩
       obtain ⟨r2, hr2'⟩ : ∃ r2, m2.length = r2 := ⟨_, rfl⟩
       rw [hr1'] at d2
       rw [hr2'] at d3
       have hdl360 : dl ≤ 360 := by have := hcl_h.out k; omega
       have hnLD : ¬ w7.heap.size ∈ fpA D := fun h => by have := hDf _ h; omega
       have hg := t_box_below k0_h.out hBi
       obtain ⟨⟨u0, u1, u2, u3⟩, f0, f1, f2, f3⟩ := t_box4 hg
       obtain ⟨W10, hW10, b10, k10⟩ : ∃ W10, W10 = wi.alloc (.cells #[.int .i64 κ1, .int .i64 vl1, .slice B2 r1 bb1, .slice C2 r2 bb2] tEd) ∧ Below wi.heap.size wi W10 ∧ W10.heap[wi.heap.size]? = some (.cells #[.int .i64 κ1, .int .i64 vl1, .slice B2 r1 bb1, .slice C2 r2 bb2] tEd) := ⟨_, rfl, t_below_alloc _ _, heap_alloc_new _ _⟩
       have hD10 := (hD.below b10).alloc (.cells #[.int .i64 κ1, .int .i64 vl1] tInt)
       rw [← hdl] at hD10
       have kL10 := t_box_below kL b10
       obtain ⟨⟨i0, i1, i2, i3⟩, j0, j1, j2, j3⟩ := t_box4 k10
       obtain ⟨⟨x0, x1, x2, x3⟩, z0, z1, z2, z3⟩ := t_box4 kL10
       clear hg ze hxr; have hGi_h := lH hGi; have hNi_h := lH hNi; have hBi_h := lH hBi; have hx_h := lH hx; have hxm_h := lH hxm; have hr1'_h := lH hr1'; have hr2'_h := lH hr2'; have hr3_h := lH hr3; have hr4_h := lH hr4; have hn1_h := lH hn1; have hD_h := lH hD; have hDf_h := lH hDf; have hKe_h := lH hKe; have hdl_h := lH hdl; have kL_h := lH kL; have b10_h := lH b10; have k10_h := lH k10; have hD10_h := lH hD10; have kL10_h := lH kL10; clear hGi hNi hBi hx hxm hr1' hr2' hr3 hr4 hn1 hD hDf hKe hdl kL b10 k10 hD10 kL10
       go_upto_region 17 with (fail)
       rw [← hW10]
       clear hW10 pg d0 d1 d2 d3 u0 u1 u2 u3 f0 f1 f2 f3 y0 y1 y2 y3 y4 y5 y6 y7
       go_wp2_with (at_builtin; refine wpList_append_Sl _ rfl _ _ _ rfl 3 Tryz.underlying23 info_int rfl (by omega) rfl hD10_h.out rfl (news := [.int .i64 κ1, .int .i64 vl1]) rfl (Sl.rdc (Sl.laid W10 3 1 2 #[.int .i64 κ1, .int .i64 vl1] (by unfold maxLen; omega) rfl)) (by intro u hu; simp at hu; rcases hu with rfl | rfl <;> rfl) (by unfold maxLen; omega) (by omega) ?_; intro A5 c5 w11 hs11 hA11 hk11; have kL11 := t_box_keeps (t_box_below kL10_h.out (t_below_alloc W10 (.cells #[.int .i64 κ1, .int .i64 vl1] tInt))) hk11 hnLD; obtain ⟨⟨v0, v1, v2, v3⟩, t0, t1, t2, t3⟩ := t_box4 kL11)
       have hed1 : edgeAt g (ff : Int) = (κ1, vl1, m1, m2) := by
        unfold edgeAt
        rw [Int.toNat_natCast, List.getD_eq_getElem?_getD, e1_h.out, List.getElem?_map, hn1_h.out]
        rfl
       have hcode := codeE_mem hinv_h.out hxm_h.out hed1
       have hwl' := hMo_h.out.wires (e := (ff : Int)) (by omega) (by rw [hm_h.out]; exact hffI)
       rw [hed1] at hwl'
       have hwm1 : ∀ x, x ∈ m1 → 0 ≤ x ∧ x < (n : Int) := fun x hx => hwl' x (List.mem_append_left _ hx)
       have hwm2 : ∀ x, x ∈ m2 → 0 ≤ x ∧ x < (n : Int) := fun x hx => hwl' x (List.mem_append_right _ hx)
       obtain ⟨⟨g3, g4⟩, _⟩ := egB_len (hkind_h.out (κ1, vl1, m1, m2) (by rw [e1_h.out]; exact List.mem_map.2 ⟨_, List.mem_of_getElem? hn1_h.out, rfl⟩))
       simp only at g3 g4
       rw [hr1'_h.out] at g3
       rw [hr2'_h.out] at g4
       have hnl : (numsL n sv.1).length = n := numsL_length _ _
       have hnW : W10.heap[w7.heap.size]? = some (.cells #[.slice D dl dc, .slice A3 q3 cap3, .slice (some G) p3 p3, .int .i64 1] 77) := t_box_below kL_h.out b10_h.out
       have hS10 : CdS wo wi w7.heap.size (.slice A3 q3 cap3) (.slice (some G) p3 p3) (.int .i64 1) (.cells #[.int .i64 κ1, .int .i64 vl1, .slice B2 r1 bb1, .slice C2 r2 bb2] tEd) D dc dl (codeTo g sv k) W10 :=
        ⟨hnW, k10_h.out, hD_h.out.below b10_h.out, hdl_h.out.symm, hDf_h.out, hKe_h.out.free (Keeps.of_below b10_h.out (fun _ => False)) (fun _ _ h => h.elim), fun b hb e => by have := hD_h.out.lt b hb; omega, hL, hKe_h.out.size⟩
       have hS12 := ((hS10.below (t_below_alloc W10 (.cells #[.int .i64 κ1, .int .i64 vl1] tInt))).app (M := [κ1, vl1]) (m := 2) rfl hs11 hA11 hk11).2
       generalize (w11.setCell ⟨w7.heap.size, 0, none⟩ (.slice A5 (dl + 2) c5)) = w12 at hS12 ⊢
       clear hs11 hA11 hk11 kL11 v0 v1 v2 v3 t0 t1 t2 t3 hwl' x0 x1 x2 x3 z0 z1 z2 z3 i0 i1 i2 i3 j0 j1 j2 j3 hnW hS10; clear hGi_h hNi_h hBi_h hD10_h kL10_h kL_h hD_h hDf_h hKe_h b10_h k10_h
       have hl1 := mapL_len (numsL n sv.1) m1
       have hl2 := mapL_len (numsL n sv.1) m2
       rw [hr1'_h.out] at hl1
       rw [hr2'_h.out] at hl2
       have hed1_h := lH hed1; have hcode_h := lH hcode; have hwm1_h := lH hwm1; have hwm2_h := lH hwm2; have hS12_h := lH hS12; have hl1_h := lH hl1; have hl2_h := lH hl2; have hnl_h := lH hnl; clear hed1 hcode hwm1 hwm2 hS12 hl1 hl2 hnl
       go_wp2_with (fail)
       refine beginZw 8 (fun w' => w'.heap[w7.heap.size]? = some (.cells #[.slice A5 (dl + 2) c5, .slice A3 q3 cap3, .slice (some G) p3 p3, .int .i64 1] 77) ∧ w'.heap[wi.heap.size]? = some (.cells #[.int .i64 κ1, .int .i64 vl1, .slice B2 r1 bb1, .slice C2 r2 bb2] tEd)) (by kernel_rfl) (fun W1 hW1 => ?_)
       have hSd := hS12_h.out.below (w' := W1) (by rw [hW1]; exact below_drewN (Below.refl _ _) 1)
       have hBd := below_keeps hC9_h.out.bel hSd.keep hC9_h.out.bel.size fun b hb => by omega
       have hrd := ((hEW_h.out.below hBd).2 _ (List.mem_of_getElem? hn1_h.out)).1
       have hrn := (hC9_h.out.num.keeps hSd.keep (fun b hb h => by simp at hb; omega)).rd
       have cH := hgList_any B2 (some N) bb1 n r1 n m1 (numsL n sv.1) W1 hrd hrn hr1'_h.out hnl_h.out hwm1_h.out (by omega)
       clear hW1 hrd hrn hBd hS12_h; have hSd_h := lH hSd; have cH_h := lH cH; clear hSd cH
       refine tkC 0 ?_ rfl (⟨hSd_h.out.box, hSd_h.out.edge⟩ : _ ∧ _) (fun W' hW' => ?_) ?_; rotate_left; · (obtain ⟨⟨⟨y0, y1, y2, y3⟩, y4, y5, y6, y7⟩, ⟨i0, i1, i2, i3⟩, i4, i5, i6, i7⟩ := (⟨t_box4 hW'.1, t_box4 hW'.2⟩ : _ ∧ _); clear hW'; go_simp; first | done | with_reducible rfl)
       simp only [Act.put, nS]
       refine tkC 1 ?_ rfl (⟨hSd_h.out.box, hSd_h.out.edge⟩ : _ ∧ _) (fun W' hW' => ?_) ?_; rotate_left; · (obtain ⟨⟨⟨y0, y1, y2, y3⟩, y4, y5, y6, y7⟩, ⟨i0, i1, i2, i3⟩, i4, i5, i6, i7⟩ := (⟨t_box4 hW'.1, t_box4 hW'.2⟩ : _ ∧ _); clear hW'; go_simp; first | done | with_reducible rfl)
       simp only [Act.put, nS]
       refine tkC 2 ?_ rfl (⟨hSd_h.out.box, hSd_h.out.edge⟩ : _ ∧ _) (fun W' hW' => ?_) ?_; rotate_left; · (obtain ⟨⟨⟨y0, y1, y2, y3⟩, y4, y5, y6, y7⟩, ⟨i0, i1, i2, i3⟩, i4, i5, i6, i7⟩ := (⟨t_box4 hW'.1, t_box4 hW'.2⟩ : _ ∧ _); clear hW'; go_simp; first | done | with_reducible rfl)
       simp only [Act.put, nS]
       refine tkC 3 ?_ rfl (⟨hSd_h.out.box, hSd_h.out.edge⟩ : _ ∧ _) (fun W' hW' => ?_) ?_; rotate_left; · (obtain ⟨⟨⟨y0, y1, y2, y3⟩, y4, y5, y6, y7⟩, ⟨i0, i1, i2, i3⟩, i4, i5, i6, i7⟩ := (⟨t_box4 hW'.1, t_box4 hW'.2⟩ : _ ∧ _); clear hW'; go_simp; first | done | with_reducible rfl)
       simp only [Act.put, nS]
       refine tkC 4 ?_ rfl (⟨hSd_h.out.box, hSd_h.out.edge⟩ : _ ∧ _) (fun W' hW' => ?_) ?_; rotate_left; · (obtain ⟨⟨⟨y0, y1, y2, y3⟩, y4, y5, y6, y7⟩, ⟨i0, i1, i2, i3⟩, i4, i5, i6, i7⟩ := (⟨t_box4 hW'.1, t_box4 hW'.2⟩ : _ ∧ _); clear hW'; go_simp; first | done | with_reducible rfl)
       simp only [Act.put, nS]
       refine callZ 5 (f := ?f1) (args := ?args1) rfl (by kernel_rfl) (by rfl) ?hrun1 ?hcall1
       case hrun1 => (go_simp; first | done | with_reducible rfl | (constructor <;> with_reducible rfl))
       case hcall1 =>
        refine (cH_h.out).mono ?_
        rintro e w13 ⟨A9, c9, rfl, hO9⟩
        have hI9 := hO9.is
        have hb9 := hO9.below_
        have hS13 := hSd_h.out.below hb9
        refine ⟨_, rfl, fun _ => ⟨hS13.box, hS13.edge⟩, ?_⟩
        simp only [Act.put, nS]
        have hr9 := hI9.rd.rdc
        have hl9 : (ints (mapL (numsL n sv.1) m1)).length = r1 * 1 := by rw [ints_length, hl1_h.out, Nat.mul_one]
        clear hI9 cH_h hSd_h hO9 hb9; have hS13_h := lH hS13; have hr9_h := lH hr9; have hl9_h := lH hl9; clear hS13 hr9 hl9
        refine appZ 6 rfl (by kernel_rfl) (by rfl) _ _ _ rfl tInt Tryz.underlying23 info_int rfl (by omega) rfl hS13_h.out.sl rfl hl9_h.out hr9_h.out (ints_one (mapL (numsL n sv.1) m1)) (by unfold maxLen; omega) (by omega) ?_
        intro A6 c6 w14 hsA6 hA6 hkA6 hrdA6
        clear hrdA6
        obtain ⟨hF4, hS18⟩ := hS13_h.out.app hl1_h.out hsA6 hA6 hkA6
        refine ⟨fun _ => hF4, ?_⟩
        simp only [Act.put, nS]
        obtain ⟨⟨y0, y1, y2, y3⟩, y4, y5, y6, y7⟩ := t_box4 hF4.1
        clear hsA6 hA6 hkA6 hS13_h hr9_h hl9_h; have hS18_h := lH hS18; have hF4_h := lH hF4; clear hS18 hF4
        refine tkC 7 ?_ rfl hF4_h.out (fun W' hW' => ?_) ?_; rotate_left; · (skip; clear hW'; go_simp; first | done | with_reducible rfl)
        simp only [Act.put, nS]
        clear hF4_h
        refine oneZ 8 rfl (by kernel_rfl) (by rfl) (fun K hK => ?_)
        go_simp
        refine hK _ _ (fun h => by cases h) ?_
        clear hK K
        refine doneZ (by kernel_rfl) ?_
        clear y0 y1 y2 y3 y4 y5 y6 y7
        generalize (w14.setCell ⟨w7.heap.size, 0, none⟩ (.slice A6 (dl + 2 + r1) c6)) = w18 at hS18_h ⊢
        obtain ⟨A7, rfl⟩ : ∃ x, x = A6 := ⟨_, rfl⟩
        obtain ⟨c7, rfl⟩ : ∃ x, x = c6 := ⟨_, rfl⟩
        go_wp2_with (fail)
        refine beginZw 8 (fun w' => w'.heap[w7.heap.size]? = some (.cells #[.slice A7 (dl + 2 + r1) c7, .slice A3 q3 cap3, .slice (some G) p3 p3, .int .i64 1] 77) ∧ w'.heap[wi.heap.size]? = some (.cells #[.int .i64 κ1, .int .i64 vl1, .slice B2 r1 bb1, .slice C2 r2 bb2] tEd)) (by kernel_rfl) (fun W1 hW1 => ?_)
        have hSd := hS18_h.out.below (w' := W1) (by rw [hW1]; exact below_drewN (Below.refl _ _) 1)
        have hBd := below_keeps hC9_h.out.bel hSd.keep hC9_h.out.bel.size fun b hb => by omega
        have hrd := ((hEW_h.out.below hBd).2 _ (List.mem_of_getElem? hn1_h.out)).2
        have hrn := (hC9_h.out.num.keeps hSd.keep (fun b hb h => by simp at hb; omega)).rd
        have cH := hgList_any C2 (some N) bb2 n r2 n m2 (numsL n sv.1) W1 hrd hrn hr2'_h.out hnl_h.out hwm2_h.out (by omega)
        clear hW1 hrd hrn hBd hS18_h; have hSd_h := lH hSd; have cH_h := lH cH; clear hSd cH
        refine tkC 0 ?_ rfl (⟨hSd_h.out.box, hSd_h.out.edge⟩ : _ ∧ _) (fun W' hW' => ?_) ?_; rotate_left; · (obtain ⟨⟨⟨y0, y1, y2, y3⟩, y4, y5, y6, y7⟩, ⟨i0, i1, i2, i3⟩, i4, i5, i6, i7⟩ := (⟨t_box4 hW'.1, t_box4 hW'.2⟩ : _ ∧ _); clear hW'; go_simp; first | done | with_reducible rfl)
        simp only [Act.put, nS]
        refine tkC 1 ?_ rfl (⟨hSd_h.out.box, hSd_h.out.edge⟩ : _ ∧ _) (fun W' hW' => ?_) ?_; rotate_left; · (obtain ⟨⟨⟨y0, y1, y2, y3⟩, y4, y5, y6, y7⟩, ⟨i0, i1, i2, i3⟩, i4, i5, i6, i7⟩ := (⟨t_box4 hW'.1, t_box4 hW'.2⟩ : _ ∧ _); clear hW'; go_simp; first | done | with_reducible rfl)
        simp only [Act.put, nS]
        refine tkC 2 ?_ rfl (⟨hSd_h.out.box, hSd_h.out.edge⟩ : _ ∧ _) (fun W' hW' => ?_) ?_; rotate_left; · (obtain ⟨⟨⟨y0, y1, y2, y3⟩, y4, y5, y6, y7⟩, ⟨i0, i1, i2, i3⟩, i4, i5, i6, i7⟩ := (⟨t_box4 hW'.1, t_box4 hW'.2⟩ : _ ∧ _); clear hW'; go_simp; first | done | with_reducible rfl)
        simp only [Act.put, nS]
        refine tkC 3 ?_ rfl (⟨hSd_h.out.box, hSd_h.out.edge⟩ : _ ∧ _) (fun W' hW' => ?_) ?_; rotate_left; · (obtain ⟨⟨⟨y0, y1, y2, y3⟩, y4, y5, y6, y7⟩, ⟨i0, i1, i2, i3⟩, i4, i5, i6, i7⟩ := (⟨t_box4 hW'.1, t_box4 hW'.2⟩ : _ ∧ _); clear hW'; go_simp; first | done | with_reducible rfl)
        simp only [Act.put, nS]
        refine tkC 4 ?_ rfl (⟨hSd_h.out.box, hSd_h.out.edge⟩ : _ ∧ _) (fun W' hW' => ?_) ?_; rotate_left; · (obtain ⟨⟨⟨y0, y1, y2, y3⟩, y4, y5, y6, y7⟩, ⟨i0, i1, i2, i3⟩, i4, i5, i6, i7⟩ := (⟨t_box4 hW'.1, t_box4 hW'.2⟩ : _ ∧ _); clear hW'; go_simp; first | done | with_reducible rfl)
        simp only [Act.put, nS]
        refine callZ 5 (f := ?f2) (args := ?args2) rfl (by kernel_rfl) (by rfl) ?hrun2 ?hcall2
        case hrun2 => (go_simp; first | done | with_reducible rfl | (constructor <;> with_reducible rfl))
        case hcall2 =>
         refine (cH_h.out).mono ?_
         rintro e w13 ⟨A9, c9, rfl, hO9⟩
         have hI9 := hO9.is
         have hb9 := hO9.below_
         have hS13 := hSd_h.out.below hb9
         refine ⟨_, rfl, fun _ => ⟨hS13.box, hS13.edge⟩, ?_⟩
         simp only [Act.put, nS]
         have hr9 := hI9.rd.rdc
         have hl9 : (ints (mapL (numsL n sv.1) m2)).length = r2 * 1 := by rw [ints_length, hl2_h.out, Nat.mul_one]
         clear hI9 cH_h hSd_h hO9 hb9; have hS13_h := lH hS13; have hr9_h := lH hr9; have hl9_h := lH hl9; clear hS13 hr9 hl9
         refine appZ 6 rfl (by kernel_rfl) (by rfl) _ _ _ rfl tInt Tryz.underlying23 info_int rfl (by omega) rfl hS13_h.out.sl rfl hl9_h.out hr9_h.out (ints_one (mapL (numsL n sv.1) m2)) (by unfold maxLen; omega) (by omega) ?_
         intro A6 c6 w14 hsA6 hA6 hkA6 hrdA6
         clear hrdA6
         obtain ⟨hF4, hS24⟩ := hS13_h.out.app hl2_h.out hsA6 hA6 hkA6
         refine ⟨fun _ => hF4, ?_⟩
         simp only [Act.put, nS]
         obtain ⟨⟨y0, y1, y2, y3⟩, y4, y5, y6, y7⟩ := t_box4 hF4.1
         clear hsA6 hA6 hkA6 hS13_h hr9_h hl9_h; have hS24_h := lH hS24; have hF4_h := lH hF4; clear hS24 hF4
         refine tkC 7 ?_ rfl hF4_h.out (fun W' hW' => ?_) ?_; rotate_left; · (skip; clear hW'; go_simp; first | done | with_reducible rfl)
         simp only [Act.put, nS]
         clear hF4_h
         refine oneZ 8 rfl (by kernel_rfl) (by rfl) (fun K hK => ?_)
         go_simp
         refine hK _ _ (fun h => by cases h) ?_
         clear hK K
         refine doneZ (by kernel_rfl) ?_
         clear y0 y1 y2 y3 y4 y5 y6 y7
         generalize (w14.setCell ⟨w7.heap.size, 0, none⟩ (.slice A6 (dl + 2 + r1 + r2) c6)) = w24 at hS24_h ⊢
         obtain ⟨A8, rfl⟩ : ∃ x, x = A6 := ⟨_, rfl⟩
         obtain ⟨c8, rfl⟩ : ∃ x, x = c6 := ⟨_, rfl⟩
         have hlen := hS24_h.out.len
         have hfin := hS24_h.out
         have hcs := codeTo_step (g := g) hx_h.out
         rw [hcode_h.out, ← List.append_assoc, ← List.append_assoc] at hcs
         rw [← hcs] at hfin hlen
         have hfin_h := lH hfin; have hlen_h := lH hlen; clear hfin hlen
         go_wp2_with (fail)
         go_roundw
         case rel => exact ⟨k + 1, _, _, _, by omega, by go_num, hlen_h.out.symm, hfin_h.out.box, hfin_h.out.is, hfin_h.out.fresh, hfin_h.out.keep⟩
         case measure => simp [intOf]; omega
     · obtain rfl : p3 = k := by omega
       rw [codeTo_all g sv (by rw [hp3_h.out]; exact Nat.le_refl _)] at hD hdl
       have hGi := hIS_h.out.keeps hKe (fun b hb h => by simp at hb; omega)
       have hAi := hC9_h.out.ord.keeps hKe (fun b hb h => by have := hC6l b hb; omega)
       have hBi := below_keeps hC9_h.out.bel hKe hC9_h.out.bel.size fun b hb => by omega
       have kR := t_box_below kr_h.out hBi
       obtain ⟨⟨u0, u1, u2, u3⟩, f0, f1, f2, f3⟩ := t_box4 kR
       have hWl := t_box_lt kr_h.out
       obtain ⟨s1, s2⟩ := set4 (a := .slice D dl dc) (b := .slice A3 q3 cap3) (c := .slice (some G) p3 p3) (d := .int .i64 1) kR
       have hD2 := hD.keeps s2 fun b hb e => by have := hDf b hb; have := hC9_h.out.bel.size; omega
       have hG2 := hGi.keeps s2 fun b hb e => by simp at hb; omega
       have hA2 := hAi.keeps s2 fun b hb e => by have := hC9_h.out.af b hb; omega
       have hB2 := below_keeps (below_trans bW_h.out hBi bW_h.out.size) s2 (by have := bW_h.out.size; have := hBi.size; omega) fun b hb => by omega
       have hDf2 : Fresh w.heap.size D := hDf.mono (by have := hC9_h.out.bel.size; omega)
       have hAf2 : Fresh w.heap.size A3 := hC9_h.out.af.mono bW_h.out.size
       have hGf2 : Fresh w.heap.size (some G) := fun b hb => by simp at hb; omega
       clear hD hGi hAi hBi hKe kR kL s2 hDf; have s1_h := lH s1; have hD2_h := lH hD2; have hG2_h := lH hG2; have hA2_h := lH hA2; have hB2_h := lH hB2; have hDf2_h := lH hDf2; have hAf2_h := lH hAf2; have hGf2_h := lH hGf2; have hdl_h := lH hdl; clear s1 hD2 hG2 hA2 hB2 hDf2 hAf2 hGf2 hdl
       go_wp2_with (fail)
       refine bodyPost_ret (results_cell_row rfl _ _ (w.heap.size + 1) _ _ (0, 0) _ rfl s1_h.out Tryz.underlying77 rfl (by kernel_rfl)) rfl ?_
       refine ⟨D, dc, A3, cap3, some G, p3, ?_, ?_⟩
       · unfold prtOf
         rw [← hsv_h.out]
         show _ = Ending.returned (.agg #[.slice D (codeM g sv).length dc, .slice A3 sv.1.length cap3, .slice (some G) sv.2.length p3, .int .i64 1])
         rw [← hdl_h.out, hq3_h.out, hp3_h.out]
       · unfold prtOf
         rw [← hsv_h.out]
         exact ⟨hD2_h.out, hA2_h.out, hG2_h.out, hDf2_h.out, hAf2_h.out, hGf2_h.out, hB2_h.out⟩
section
variable {P : Program} {ops : Array Oper} {Q : Exit → Act → World → Prop} {md : Region.Mode} {S : World → Prop}
def putZ (a : Act) (Z : List (Nat × Tmp)) (xs : Tmp → Value) : Act := Z.foldl (fun a z => a.put (some z.2) (xs z.2)) a
def updZ (xs : Tmp → Value) (d : Tmp) (v : Value) : Tmp → Value := fun t => if t = d then v else xs t
theorem put_put (a : Act) (d : Tmp) (x v : Value) : (a.put (some d) x).put (some d) v = a.put (some d) v := by
 simp [Act.put, Array.setIfInBounds_setIfInBounds]
theorem putZ_put (Z : List (Nat × Tmp)) (xs : Tmp → Value) (d : Tmp) (v : Value) : ∀ (a : Act), (∀ z ∈ Z, z.2 ≠ d) → (putZ a Z xs).put (some d) v = putZ (a.put (some d) v) Z xs := by
 induction Z with
 | nil => intro a _; rfl
 | cons z r ih =>
   intro a h
   show (putZ (a.put _ _) r xs).put _ _ = putZ ((a.put _ _).put _ _) r xs
   rw [ih _ (fun y hy => h y (List.mem_cons_of_mem _ hy)), Act.put_comm a _ _ (fun e he => by obtain rfl := Option.some.inj he; intro h2; exact h z (by simp) (Option.some.inj h2).symm)]
theorem putZ_congr (Z : List (Nat × Tmp)) {xs ys : Tmp → Value} : ∀ (a : Act), (∀ z ∈ Z, xs z.2 = ys z.2) → putZ a Z xs = putZ a Z ys := by
 induction Z with
 | nil => intro a _; rfl
 | cons z r ih =>
   intro a h
   show putZ (a.put _ _) r xs = putZ (a.put _ _) r ys
   rw [h z (by simp)]
   exact ih _ fun y hy => h y (List.mem_cons_of_mem _ hy)
theorem putZ_upd (Z : List (Nat × Tmp)) (xs : Tmp → Value) (d : Tmp) (v : Value) : ∀ (a : Act), (Z.map (·.2)).Nodup → d ∈ Z.map (·.2) → putZ a Z (updZ xs d v) = (putZ a Z xs).put (some d) v := by
 induction Z with
 | nil => intro a _ h; cases h
 | cons z r ih =>
   intro a hn h
   simp only [List.map_cons, List.nodup_cons, List.mem_map, not_exists, not_and] at hn
   show putZ (a.put _ _) r _ = (putZ (a.put _ _) r xs).put _ _
   by_cases e : z.2 = d
   · have hne : ∀ y ∈ r, y.2 ≠ d := fun y hy h2 => hn.1 y hy (h2.trans e.symm)
     rw [putZ_put r xs d v _ hne, putZ_congr r _ (ys := xs) (fun y hy => by unfold updZ; rw [if_neg (hne y hy)]), e]
     have : updZ xs d v d = v := by unfold updZ; rw [if_pos rfl]
     rw [this, put_put]
   · have : updZ xs d v z.2 = xs z.2 := by unfold updZ; rw [if_neg e]
     rw [this]
     refine ih _ hn.2 ?_
     rcases List.mem_cons.1 h with h | h
     · exact absurd h.symm e
     · exact h
theorem wp_callZ {o : Oper} {a : Act} {w : World} {f : FuncId} {args : Array Value} {K : Act → World → Prop} (hr : (execOp a.eval o).run P w = .ok (.enter f args) w) (h : Calls P f args w fun e w' => ∃ v, e = .returned v ∧ K (a.put o.dst v) w') : o.wp P a w K Q := by
 unfold Oper.wp
 rw [hr]
 exact Calls.mono h fun e w' ⟨v, he, hK⟩ => by subst he; exact hK
theorem putZ_self (Z : List (Nat × Tmp)) : ∀ (a : Act), putZ a Z (fun t => a.tmps.getD t undef) = a := by
 have h1 : ∀ (a : Act) (d : Tmp), a.put (some d) (a.tmps.getD d undef) = a := fun a d => by
  unfold Act.put
  have : a.tmps.setIfInBounds d (a.tmps.getD d undef) = a.tmps := by
   refine Array.ext_getElem? fun i => ?_
   rw [Array.getElem?_setIfInBounds]
   by_cases e : d = i
   · subst e
     rw [if_pos rfl]
     by_cases h : d < a.tmps.size
     · rw [if_pos h, Array.getElem?_eq_getElem h, Array.getD_eq_getD_getElem?, Array.getElem?_eq_getElem h]; rfl
     · rw [if_neg h, Array.getElem?_eq_none (Nat.le_of_not_lt h)]
   · rw [if_neg e]
  simp only [this]
 induction Z with
 | nil => intro a; rfl
 | cons z r ih =>
   intro a
   show putZ (a.put (some z.2) (a.tmps.getD z.2 undef)) r (fun t => a.tmps.getD t undef) = a
   rw [h1]; exact ih a
def Stb (p : Value → World → Prop) : Prop := ∀ v w w', p v w → Below w.heap.size w w' → p v w'
theorem Stb.ite {c : Prop} [Decidable c] {p q : Value → World → Prop} (hp : Stb p) (hq : Stb q) : Stb fun v w => if c then p v w else q v w := by
 intro v w w' h hb
 by_cases e : c
 · simp only [if_pos e] at h ⊢; exact hp v w w' h hb
 · simp only [if_neg e] at h ⊢; exact hq v w w' h hb
theorem Stb.true : Stb fun _ _ => True := fun _ _ _ h _ => h
end
section
variable {P : Program} {ops : Array Oper} {Q : Exit → Act → World → Prop} {md : Region.Mode} {S : World → Prop}
theorem strike_one {α : Type} [DecidableEq α] : ∀ {l : List α} {z : α}, l.Nodup → z ∈ l → (l.filter fun y => !decide (y = z)).length + 1 = l.length
 | [], _, _, h => by cases h
 | a :: r, z, hn, h => by
   obtain ⟨h1, h2⟩ := List.nodup_cons.1 hn
   by_cases e : a = z
   · subst e
     rw [List.filter_cons, if_neg (by simp), List.filter_eq_self.2 (fun y hy => by
      have : y ≠ a := fun e => h1 (e ▸ hy)
      simpa using this)]
     rfl
   · have hm : z ∈ r := by
      rcases List.mem_cons.1 h with h | h
      · exact absurd h.symm e
      · exact h
     rw [List.filter_cons, if_pos (by simpa using e), List.length_cons, strike_one h2 hm]
     rfl
def mkZ (L0 : Array Bool) (S : List (Nat × Tmp)) : Array Bool := S.foldl (fun L z => L.setIfInBounds z.1 true) L0
theorem mkZ_size : ∀ (S : List (Nat × Tmp)) (L0 : Array Bool), (mkZ L0 S).size = L0.size
 | [], _ => rfl
 | z :: r, L0 => by
   show (mkZ (L0.setIfInBounds z.1 true) r).size = _
   rw [mkZ_size r]; simp
theorem mkZ_get (i : Nat) : ∀ (S : List (Nat × Tmp)) (L0 : Array Bool), (mkZ L0 S)[i]? = if i < L0.size ∧ (S.any fun z => z.1 == i) = true then some true else L0[i]?
 | [], L0 => by simp [mkZ]
 | z :: r, L0 => by
   show (mkZ (L0.setIfInBounds z.1 true) r)[i]? = _
   rw [mkZ_get i r, Array.size_setIfInBounds, List.any_cons, Array.getElem?_setIfInBounds]
   by_cases h : i < L0.size
   · by_cases e : z.1 = i
     · subst e
       simp [h]
     · have e' : (z.1 == i) = false := by simpa using e
       rw [e', Bool.false_or, if_neg e]
   · have h1 : L0[i]? = none := Array.getElem?_eq_none (Nat.le_of_not_lt h)
     rw [h1]
     simp [h]
     intro e
     omega
def subsL {α : Type} : List α → List (List α)
 | [] => [[]]
 | a :: r => subsL r ++ (subsL r).map (a :: ·)
theorem mem_subs {α : Type} (p : α → Bool) : ∀ Z : List α, Z.filter p ∈ subsL Z
 | [] => by simp [subsL]
 | a :: r => by
   have ih := mem_subs p r
   unfold subsL
   rw [List.filter_cons]
   split
   · exact List.mem_append_right _ (List.mem_map.2 ⟨_, ih, rfl⟩)
   · exact List.mem_append_left _ ih
def closedZ (md : Region.Mode) (ops : Array Oper) (L0 : Array Bool) (S : List (Nat × Tmp)) : Bool :=
 S.all fun z => ((ops[z.1]?).map fun o => o.after.all fun e => !(Region.binds md e) || (mkZ L0 S).getD e.on false).getD true
def chkT (md : Region.Mode) (ops : Array Oper) (L0 : Array Bool) (Z : List (Nat × Tmp)) (deps : Nat → List Tmp) : Bool :=
 ((subsL Z).all fun S => decide (S.length = Z.length) || (!(closedZ md ops L0 S) || (!(Region.ready md ops (mkZ L0 S)).isEmpty && (Region.ready md ops (mkZ L0 S)).all fun j => Z.any fun z => z.1 == j))) &&
 (Z.all fun z => (decide (z.1 < L0.size) && !L0.getD z.1 true) && ((ops[z.1]?).map fun o => (o.dst == some z.2) && o.guard.isNone && (deps z.1).all fun d => Z.any fun y => y.2 == d && o.after.any fun e => Region.binds md e && e.on == y.1).getD false) &&
 decide ((Z.map (·.1)).Nodup) && decide ((Z.map (·.2)).Nodup)
theorem getD_mk {L0 : Array Bool} {S : List (Nat × Tmp)} {i : Nat} {b : Bool} (h : i < L0.size) : (mkZ L0 S).getD i b = ((S.any fun z => z.1 == i) || L0.getD i b) := by
 rw [Array.getD_eq_getD_getElem?, mkZ_get, Array.getD_eq_getD_getElem?]
 cases hb : S.any fun z => z.1 == i
 · simp
 · simp [h]
theorem wpAnyH_relT {Z : List (Nat × Tmp)} {L0 : Array Bool} {deps : Nat → List Tmp} {a0 : Act} {w0 : World} (f : Nat) (R : Tmp → (Tmp → Value) → Value → World → Prop) (own : Tmp → Value → List Nat) (hz : chkT md ops L0 Z deps = true)
  (hstab : ∀ d xs v w w', R d xs v w → Below w.heap.size w w' → R d xs v w') (hcong : ∀ z ∈ Z, ∀ xs ys v w, (∀ d ∈ deps z.1, xs d = ys d) → R z.2 xs v w → R z.2 ys v w) (hS : ∀ w', Below w0.heap.size w0 w' → S w')
  (hstep : ∀ z ∈ Z, ∀ o, ops[z.1]? = some o → ∀ xs w, Below w0.heap.size w0 w → (∀ d ∈ deps z.1, R d xs (xs d) w) → ∀ K, (∀ v w', Below w.heap.size w w' → R z.2 xs v w' → (∀ b, b ∈ own z.2 v → w.heap.size ≤ b ∧ b < w'.heap.size) → K ((putZ a0 Z xs).put (some z.2) v) w') → o.wp P (putZ a0 Z xs) w K Q)
  (hend : ∀ xs w, Below w0.heap.size w0 w → (∀ z ∈ Z, R z.2 xs (xs z.2) w) → (∀ z ∈ Z, ∀ b, b ∈ own z.2 (xs z.2) → w0.heap.size ≤ b ∧ b < w.heap.size) → (∀ z ∈ Z, ∀ y ∈ Z, z.2 ≠ y.2 → ∀ b, b ∈ own z.2 (xs z.2) → ¬ b ∈ own y.2 (xs y.2)) → wpAnyH P md ops Q S f (mkZ L0 Z) (putZ a0 Z xs) w) :
  ∀ (k : Nat) (p : Nat × Tmp → Bool) (xs : Tmp → Value) (w : World), (Z.filter fun z => !p z).length = k → closedZ md ops L0 (Z.filter p) = true → Below w0.heap.size w0 w →
    (∀ z ∈ Z, p z = true → R z.2 xs (xs z.2) w) → (∀ z ∈ Z, p z = true → ∀ b, b ∈ own z.2 (xs z.2) → w0.heap.size ≤ b ∧ b < w.heap.size) → (∀ z ∈ Z, ∀ y ∈ Z, p z = true → p y = true → z.2 ≠ y.2 → ∀ b, b ∈ own z.2 (xs z.2) → ¬ b ∈ own y.2 (xs y.2)) → wpAnyH P md ops Q S (k + f) (mkZ L0 (Z.filter p)) (putZ a0 Z xs) w := by
 unfold chkT at hz
 simp only [Bool.and_eq_true, List.all_eq_true, decide_eq_true_eq] at hz
 obtain ⟨⟨⟨hsub, hops⟩, hnd1⟩, hnd2⟩ := hz
 have huniq : ∀ z ∈ Z, ∀ y ∈ Z, z.1 = y.1 → z = y := fun z hz y hy h => by
  obtain ⟨i, hi, rfl⟩ := List.getElem_of_mem hz
  obtain ⟨k, hk, rfl⟩ := List.getElem_of_mem hy
  have hpw := List.pairwise_iff_getElem.1 hnd1
  rcases Nat.lt_trichotomy i k with h1 | h1 | h1
  · exact absurd (by rw [List.getElem_map, List.getElem_map]; exact h) (hpw i k (by simpa using hi) (by simpa using hk) h1)
  · subst h1; rfl
  · exact absurd (by rw [List.getElem_map, List.getElem_map]; exact h.symm) (hpw k i (by simpa using hk) (by simpa using hi) h1)
 have hdl : ∀ (p : Nat × Tmp → Bool), ∀ y ∈ Z, ∀ o, ops[y.1]? = some o → (∀ e ∈ o.after, Region.binds md e = true → (mkZ L0 (Z.filter p)).getD e.on false = true) → ∀ d ∈ deps y.1, ∃ y' ∈ Z, y'.2 = d ∧ p y' = true := fun p z hz oj hoj hdeps d hd => by
  have hopz := hops z hz
  rw [hoj] at hopz
  simp only [Option.map_some, Option.getD_some, beq_iff_eq, Option.isNone_iff_eq_none, List.all_eq_true, List.any_eq_true, Bool.and_eq_true] at hopz
  obtain ⟨_, _, hdp⟩ := hopz
  obtain ⟨y, hy, rfl, he⟩ := hdp d hd
  obtain ⟨i, hi, he⟩ := Array.any_eq_true.1 he
  simp only [Bool.and_eq_true, beq_iff_eq] at he
  obtain ⟨hbi, hon⟩ := he
  obtain ⟨e, hee⟩ : ∃ e, e = oj.after[i] := ⟨_, rfl⟩
  have he : e ∈ oj.after := by rw [hee]; exact Array.getElem_mem hi
  rw [← hee] at hbi hon
  have h2 := hdeps e he hbi
  rw [hon] at h2
  have hopy := (hops y hy).1
  have hyl : y.1 < L0.size := hopy.1
  have hy0 : L0.getD y.1 true = false := by simpa using hopy.2
  rw [getD_mk hyl] at h2
  have hy1 : L0.getD y.1 false = false := by
   rw [Array.getD_eq_getD_getElem?, Array.getElem?_eq_getElem hyl] at hy0 ⊢
   exact hy0
  rw [hy1, Bool.or_false] at h2
  obtain ⟨y', hy', e2⟩ := List.any_eq_true.1 h2
  obtain ⟨h3, h4⟩ := List.mem_filter.1 hy'
  obtain rfl := huniq y' h3 y hy (by simpa using e2)
  exact ⟨y', hy, rfl, h4⟩
 intro k
 induction k with
 | zero =>
   intro p xs w hc hcl hb hR hO hP
   have hall : ∀ z ∈ Z, p z = true := fun z hz => by
    cases hx : p z with
    | true => rfl
    | false =>
      exfalso
      have : z ∈ Z.filter fun z => !p z := List.mem_filter.2 ⟨hz, by rw [hx]; rfl⟩
      have := List.length_pos_of_mem this
      omega
   rw [List.filter_eq_self.2 hall, Nat.zero_add]
   exact hend xs w hb (fun z hz => hR z hz (hall z hz)) (fun z hz => hO z hz (hall z hz)) fun z hz y hy => hP z hz y hy (hall z hz) (hall y hy)
 | succ k ih =>
   intro p xs w hc hcl hb hR hO hP
   obtain ⟨x, hx⟩ : ∃ x, x ∈ Z.filter fun z => !p z := List.exists_mem_of_ne_nil _ (fun h => by rw [h] at hc; simp at hc)
   obtain ⟨hxZ, hxp⟩ := List.mem_filter.1 hx
   have hne : ¬ (Z.filter p).length = Z.length := fun h => by
    have := List.length_filter_eq_length_iff.1 h x hxZ
    rw [this] at hxp; cases hxp
   have h1 := hsub _ (mem_subs p Z)
   rw [Bool.or_eq_true, Bool.or_eq_true, hcl] at h1
   have h2 := (h1.resolve_left (fun h => hne (of_decide_eq_true h))).resolve_left (by simp)
   rw [Bool.and_eq_true] at h2
   obtain ⟨hne0, hin⟩ := h2
   rw [show k + 1 + f = (k + f) + 1 by omega]
   refine ⟨fun hr => (by rw [hr] at hne0; simp at hne0), fun j hj => ?_⟩
   obtain ⟨z, hz, hzj⟩ := List.any_eq_true.1 (List.all_eq_true.1 hin j hj)
   obtain rfl : z.1 = j := by simpa using hzj
   obtain ⟨hjun, oj, hoj, hdeps⟩ := mem_ready.1 hj
   have hopz := hops z hz
   rw [hoj] at hopz
   simp only [Option.map_some, Option.getD_some, beq_iff_eq, Option.isNone_iff_eq_none, List.all_eq_true, List.any_eq_true, Bool.and_eq_true] at hopz
   obtain ⟨⟨hzl, hz0⟩, ⟨hdst, hg⟩, hdp⟩ := hopz
   have hzl : z.1 < L0.size := hzl
   have hpz : p z = false := by
    cases hpz : p z with
    | false => rfl
    | true =>
      rw [getD_mk hzl] at hjun
      have : (List.any (Z.filter p) fun y => y.1 == z.1) = true := List.any_eq_true.2 ⟨z, List.mem_filter.2 ⟨hz, hpz⟩, by simp⟩
      rw [this] at hjun; cases hjun
   have hw : Region.wanted oj (yielded ops (putZ a0 Z xs).tmps) = true := by unfold Region.wanted; rw [hg]
   unfold wpOp
   simp only [hoj, hw, if_true]
   refine .inl ?_
   refine hstep z hz oj hoj xs w hb (fun d hd => ?_) _ fun v w' hb' hRv hOv => ?_
   · obtain ⟨y, hy, rfl, h4⟩ := hdl p z hz oj hoj hdeps d hd
     exact hR y hy h4
   · have hb2 := below_trans hb hb' hb.size
     refine ⟨hS _ hb2, ?_⟩
     rw [← putZ_upd Z xs z.2 v a0 hnd2 (List.mem_map.2 ⟨z, hz, rfl⟩)]
     have hmk : (mkZ L0 (Z.filter p)).setIfInBounds z.1 true = mkZ L0 (Z.filter fun y => p y || decide (y = z)) := by
      apply Array.ext_getElem?
      intro i
      rw [Array.getElem?_setIfInBounds, mkZ_get, mkZ_get, mkZ_size]
      by_cases e : z.1 = i
      · subst e
        have : (List.any (Z.filter fun y => p y || decide (y = z)) fun y => y.1 == z.1) = true := List.any_eq_true.2 ⟨z, List.mem_filter.2 ⟨hz, by simp⟩, by simp⟩
        rw [if_pos rfl, if_pos hzl, this, if_pos ⟨hzl, rfl⟩]
      · rw [if_neg e]
        have : (List.any (Z.filter p) fun y => y.1 == i) = (List.any (Z.filter fun y => p y || decide (y = z)) fun y => y.1 == i) := by
         rw [Bool.eq_iff_iff, List.any_eq_true, List.any_eq_true]
         constructor
         · rintro ⟨y, hy, h⟩
           obtain ⟨h3, h4⟩ := List.mem_filter.1 hy
           exact ⟨y, List.mem_filter.2 ⟨h3, by simp [h4]⟩, h⟩
         · rintro ⟨y, hy, h⟩
           obtain ⟨h3, h4⟩ := List.mem_filter.1 hy
           rcases (Bool.or_eq_true _ _).mp h4 with h5 | h5
           · exact ⟨y, List.mem_filter.2 ⟨h3, h5⟩, h⟩
           · have : y = z := of_decide_eq_true h5
             subst this
             exact absurd (by simpa using h) e
        rw [this]
     have hmono : ∀ i, (mkZ L0 (Z.filter p)).getD i false = true → (mkZ L0 (Z.filter fun y => p y || decide (y = z))).getD i false = true := fun i hi => by
      rw [← hmk]
      rw [Array.getD_eq_getD_getElem?] at hi ⊢
      rw [Array.getElem?_setIfInBounds]
      split
      · split
        · rfl
        · rename_i e h; subst e; rw [mkZ_size] at h; exact absurd hzl h
      · exact hi
     rw [hmk]
     have hcz : ∀ d ∈ deps z.1, xs d = updZ xs z.2 v d := fun d hd => by
      obtain ⟨y, hy, rfl, h4⟩ := hdl p z hz oj hoj hdeps d hd
      unfold updZ
      rw [if_neg fun e => ?_]
      have : y = z := by
       obtain ⟨i, hi, rfl⟩ := List.getElem_of_mem hy
       obtain ⟨k, hk, rfl⟩ := List.getElem_of_mem hz
       have hpw := List.pairwise_iff_getElem.1 hnd2
       rcases Nat.lt_trichotomy i k with h1 | h1 | h1
       · exact absurd (by rw [List.getElem_map, List.getElem_map]; exact e) (hpw i k (by simpa using hi) (by simpa using hk) h1)
       · subst h1; rfl
       · exact absurd (by rw [List.getElem_map, List.getElem_map]; exact e.symm) (hpw k i (by simpa using hk) (by simpa using hi) h1)
      rw [this, hpz] at h4
      cases h4
     have hcy : ∀ y ∈ Z, p y = true → ∀ d ∈ deps y.1, xs d = updZ xs z.2 v d := fun y hy hp d hd => by
      unfold closedZ at hcl
      have h6 := List.all_eq_true.1 hcl y (List.mem_filter.2 ⟨hy, hp⟩)
      cases ho : ops[y.1]? with
      | none =>
        have := (hops y hy).2
        rw [ho] at this
        cases this
      | some o =>
        rw [ho] at h6
        simp only [Option.map_some, Option.getD_some, Array.all_eq_true_iff_forall_mem, Bool.or_eq_true, Bool.not_eq_true'] at h6
        obtain ⟨x, hx, rfl, h4⟩ := hdl p y hy o ho (fun e he hb => (h6 e he).resolve_left (by rw [hb]; simp)) d hd
        unfold updZ
        rw [if_neg fun e => ?_]
        have : x = z := by
         obtain ⟨i, hi, rfl⟩ := List.getElem_of_mem hx
         obtain ⟨k, hk, rfl⟩ := List.getElem_of_mem hz
         have hpw := List.pairwise_iff_getElem.1 hnd2
         rcases Nat.lt_trichotomy i k with h1 | h1 | h1
         · exact absurd (by rw [List.getElem_map, List.getElem_map]; exact e) (hpw i k (by simpa using hi) (by simpa using hk) h1)
         · subst h1; rfl
         · exact absurd (by rw [List.getElem_map, List.getElem_map]; exact e.symm) (hpw k i (by simpa using hk) (by simpa using hi) h1)
        rw [this, hpz] at h4
        cases h4
     have hpy : ∀ y ∈ Z, (p y || decide (y = z)) = true → ¬ y.2 = z.2 → p y = true := fun y hy h e => by
      rcases (Bool.or_eq_true _ _).mp h with h | h
      · exact h
      · exact absurd (by rw [of_decide_eq_true h]) e
     refine ih _ _ w' ?_ ?_ hb2 (fun y hy hl => ?_) (fun y hy hl b hbo => ?_) fun y hy x hx hl hl' hne b hb1 hb2' => ?_
     · have hsub : (Z.filter fun y => !(p y || decide (y = z))) = (Z.filter fun y => !p y).filter fun y => !decide (y = z) := by
        rw [List.filter_filter]
        refine List.filter_congr fun y _ => ?_
        cases p y <;> simp
       have hndZ : (Z.filter fun y => !p y).Nodup := by
        have : Z.Nodup := by
         unfold List.Nodup at hnd1 ⊢
         rw [List.pairwise_map] at hnd1
         exact hnd1.imp fun h e => h (by rw [e])
        exact this.filter _
       have hzf : z ∈ Z.filter fun y => !p y := List.mem_filter.2 ⟨hz, by rw [hpz]; rfl⟩
       rw [hsub]
       have h7 := strike_one hndZ hzf
       omega
     · unfold closedZ at hcl ⊢
       rw [List.all_eq_true] at hcl ⊢
       intro y hy
       obtain ⟨h3, h4⟩ := List.mem_filter.1 hy
       rcases (Bool.or_eq_true _ _).mp h4 with h5 | h5
       · have h6 := hcl y (List.mem_filter.2 ⟨h3, h5⟩)
         cases ho : ops[y.1]? with
         | none => rfl
         | some o =>
           rw [ho] at h6
           simp only [Option.map_some, Option.getD_some, Array.all_eq_true_iff_forall_mem, Bool.or_eq_true, Bool.not_eq_true'] at h6 ⊢
           exact fun e he => (h6 e he).imp id (hmono e.on)
       · have : y = z := of_decide_eq_true h5
         subst this
         rw [hoj]
         simp only [Option.map_some, Option.getD_some, Array.all_eq_true_iff_forall_mem, Bool.or_eq_true, Bool.not_eq_true']
         intro e he
         cases hbe : Region.binds md e with
         | false => exact .inl rfl
         | true => exact .inr (hmono e.on (hdeps e he hbe))
     · by_cases e : y.2 = z.2
       · have h8 : updZ xs z.2 v y.2 = v := by unfold updZ; rw [if_pos e]
         rw [h8, e]
         exact hcong z hz _ _ _ _ hcz hRv
       · have h8 : updZ xs z.2 v y.2 = xs y.2 := by unfold updZ; rw [if_neg e]
         rw [h8]
         exact hcong y hy _ _ _ _ (hcy y hy (hpy y hy hl e)) (hstab _ _ _ _ _ (hR y hy (hpy y hy hl e)) hb')
     · unfold updZ at hbo
       by_cases e : y.2 = z.2
       · rw [if_pos e, e] at hbo
         have := hOv b hbo
         have := hb.size
         omega
       · rw [if_neg e] at hbo
         have := hO y hy (hpy y hy hl e) b hbo
         have := hb'.size
         omega
     · unfold updZ at hb1 hb2'
       by_cases e : y.2 = z.2
       · have e2 : ¬ x.2 = z.2 := fun h => hne (e.trans h.symm)
         rw [if_pos e, e] at hb1
         rw [if_neg e2] at hb2'
         have h1 := hOv b hb1
         have h2 := hO x hx (hpy x hx hl' e2) b hb2'
         omega
       · rw [if_neg e] at hb1
         by_cases e2 : x.2 = z.2
         · rw [if_pos e2, e2] at hb2'
           have h1 := hOv b hb2'
           have h2 := hO y hy (hpy y hy hl e) b hb1
           omega
         · rw [if_neg e2] at hb2'
           exact hP y hy x hx (hpy y hy hl e) (hpy x hx hl' e2) hne b hb1 hb2'
def stepsT (P : Program) (ops : Array Oper) (Q : Exit → Act → World → Prop) (a0 : Act) (w0 : World) (Z : List (Nat × Tmp)) (deps : Nat → List Tmp) (R : Tmp → (Tmp → Value) → Value → World → Prop) (own : Tmp → Value → List Nat) : List (Nat × Tmp) → Prop
 | [] => True
 | z :: r => (∃ o, ops[z.1]? = some o ∧ ∀ xs w, Below w0.heap.size w0 w → (∀ d ∈ deps z.1, R d xs (xs d) w) → ∀ K : Act → World → Prop, (∀ v w', Below w.heap.size w w' → R z.2 xs v w' → (∀ b, b ∈ own z.2 v → w.heap.size ≤ b ∧ b < w'.heap.size) → K ((putZ a0 Z xs).put (some z.2) v) w') → o.wp P (putZ a0 Z xs) w K Q) ∧ stepsT P ops Q a0 w0 Z deps R own r
theorem stepsT_get {a0 : Act} {w0 : World} {Z : List (Nat × Tmp)} {deps : Nat → List Tmp} {R : Tmp → (Tmp → Value) → Value → World → Prop} {own : Tmp → Value → List Nat} : ∀ {Y : List (Nat × Tmp)}, stepsT P ops Q a0 w0 Z deps R own Y → ∀ z ∈ Y, ∀ o, ops[z.1]? = some o → ∀ xs w, Below w0.heap.size w0 w → (∀ d ∈ deps z.1, R d xs (xs d) w) → ∀ K : Act → World → Prop, (∀ v w', Below w.heap.size w w' → R z.2 xs v w' → (∀ b, b ∈ own z.2 v → w.heap.size ≤ b ∧ b < w'.heap.size) → K ((putZ a0 Z xs).put (some z.2) v) w') → o.wp P (putZ a0 Z xs) w K Q
 | y :: r, h, z, hz, o, ho => by
   rcases List.mem_cons.1 hz with rfl | hz
   · obtain ⟨o', ho', hh⟩ := h.1
     rw [ho] at ho'
     obtain rfl := Option.some.inj ho'
     exact hh
   · exact stepsT_get h.2 z hz o ho
theorem relT (Z : List (Nat × Tmp)) (deps : Nat → List Tmp) (R : Tmp → (Tmp → Value) → Value → World → Prop) (own : Tmp → Value → List Nat) (f : Nat) {L : Array Bool} {a : Act} {w : World} {fuel : Nat} (hf : fuel = Z.length + f) (hz : chkT md ops L Z deps = true)
  (hstab : ∀ d xs, Stb (R d xs)) (hcong : ∀ z ∈ Z, ∀ xs ys v w, (∀ d ∈ deps z.1, xs d = ys d) → R z.2 xs v w → R z.2 ys v w) (hS : ∀ w', Below w.heap.size w w' → S w') (hstep : stepsT P ops Q a w Z deps R own Z)
  (hend : ∀ xs w', Below w.heap.size w w' → (∀ z ∈ Z, R z.2 xs (xs z.2) w') → (∀ z ∈ Z, ∀ b, b ∈ own z.2 (xs z.2) → w.heap.size ≤ b ∧ b < w'.heap.size) → (∀ z ∈ Z, ∀ y ∈ Z, z.2 ≠ y.2 → ∀ b, b ∈ own z.2 (xs z.2) → ¬ b ∈ own y.2 (xs y.2)) → wpAnyH P md ops Q S f (mkZ L Z) (putZ a Z xs) w') : wpAnyH P md ops Q S fuel L a w := by
 have h := wpAnyH_relT (P := P) (Q := Q) (S := S) (a0 := a) (w0 := w) f R own hz (fun d xs v w w' => hstab d xs v w w') hcong hS (fun z hz o ho xs w hb hd K hK => stepsT_get hstep z hz o ho xs w hb hd K hK) hend Z.length (fun _ => false) (fun t => a.tmps.getD t undef) w (by rw [List.filter_eq_self.2 (by simp)]) (by rw [List.filter_eq_nil_iff.2 (by simp)]; rfl) (Below.refl _ _) (fun z _ h => by cases h) (fun z _ h => by cases h) (fun z _ y _ h => by cases h)
 rw [putZ_self, List.filter_eq_nil_iff.2 (by simp)] at h
 rw [hf]
 exact h
end
set_option maxHeartbeats 400000 in
theorem repeated_any (a : Int) (n : Nat) (w : World) (hn : n ≤ 1048576) :
  Calls Tryz.prog 55 #[.int .i64 a, .int .i64 n] w fun e w' => ∃ G, e = .returned (.slice (some G) n n) ∧ IS w' (some G) n (List.replicate n a) ∧ w.heap.size ≤ G.block ∧ Below w.heap.size w w' := by
 have hC := t_zeros_any n w hn
 go_enter Tryz.func55, Tryz.ntmps55
 go_wp2_with (fail)
 refine (hC).mono ?_
 rintro e w1 ⟨G, rfl, his0, hfG, hb1⟩
 clear hC
 go_wp2_with (fail)
 go_loopw [11] (fun i wr => ∃ k : Nat, k ≤ n ∧ i = .int .i64 k ∧ IS wr (some G) n ((List.replicate n a).take k ++ (List.replicate n (0 : Int)).drop k) ∧ Below w.heap.size w wr) (fun i _ => n - (intOf i).toNat)
 case atStart => exact ⟨0, Nat.zero_le _, rfl, by simpa using his0, hb1⟩
 case round =>
  clear his0 hb1
  obtain ⟨k, hk, rfl, his, hb⟩ := hrel
  have hlen : ((List.replicate n a).take k ++ (List.replicate n (0 : Int)).drop k).length = n := by simp; omega
  by_cases hlt : k < n
  · obtain ⟨ad, y, hA, hy, _, hc', hf'⟩ := his.at_ (j := k) (by rw [hlen]; exact hlt)
    obtain rfl := Option.some.inj hA
    have hfz := hf' k
    have his' := his.set (ad := G) rfl (j := k) a (by rw [hlen]; exact hlt)
    rw [take_append_step (x := a) (by simp) (by simp [hlt])] at his'
    have HI := lH his'
    have hb' := lH (hb.setCell (p := G.add k) (by rw [block_of_add]; exact hfG) (.int .i64 a))
    have hkI : (k : Int) < (n : Int) := by omega
    clear his' hf' his hy hlen hb
    go_wp2_with (fail)
    go_roundw
    case rel => exact ⟨k + 1, by omega, by go_num, HI.out, hb'.out⟩
    case measure => simp [intOf]; omega
  · obtain rfl : n = k := by omega
    have his2 : IS wr (some G) n (List.replicate n a) := by
     have := his
     rwa [List.take_of_length_le (by simp), List.drop_of_length_le (by simp), List.append_nil] at this
    clear his hlen
    go_wp2_with (fail)
    go_ret
    exact ⟨G, rfl, his2, hfG, hb⟩
abbrev tEnds : TypeId := 88
structure EdS (W : World) (lb : Nat) (Bf Bh : Addr) (n : Nat) (t1 t2 : List Int) (w : World) : Prop where
 box : w.heap[lb]? = some (.cells #[.slice (some Bf) n n, .slice (some Bh) n n] tEnds)
 bef : IS w (some Bf) n t1
 beh : IS w (some Bh) n t2
 lbn : W.heap.size ≤ lb
 bfn : W.heap.size ≤ Bf.block
 bhn : W.heap.size ≤ Bh.block
 ne : Bf.block ≠ Bh.block
 bel : Below W.heap.size W w
section
variable {W w w' : World} {lb n : Nat} {Bf Bh : Addr} {t1 t2 : List Int}
theorem EdS.below (h : EdS W lb Bf Bh n t1 t2 w) (hb : Below w.heap.size w w') : EdS W lb Bf Bh n t1 t2 w' :=
 ⟨t_box_below h.box hb, h.bef.below hb, h.beh.below hb, h.lbn, h.bfn, h.bhn, h.ne, below_trans h.bel hb h.bel.size⟩
theorem is_ne_box {w : World} {A : Addr} {c b : Nat} {l : List Int} {cs : Array Value} {t : TypeId} (h : IS w (some A) c l) (hb : w.heap[b]? = some (.cells cs t)) (ht : tInt ≠ t) : A.block ≠ b := fun e => by
 rcases h.2.2.2 with ⟨h0, _⟩ | ⟨g, off, cur, hA, hg, _⟩
 · cases h0
 · obtain rfl := Option.some.inj hA
   simp only at e
   subst e
   rw [hg] at hb
   injection hb with hb
   injection hb with _ h1
   exact ht h1
theorem EdS.set1 (h : EdS W lb Bf Bh n t1 t2 w) {j : Nat} (x : Int) (hj : j < t1.length) : EdS W lb Bf Bh n (t1.set j x) t2 (w.setCell (Bf.add j) (.int .i64 x)) := by
 have hk : Keeps (fun b => b = Bf.block) w (w.setCell (Bf.add j) (.int .i64 x)) := Keeps.setCell (S := fun b => b = Bf.block) (Keeps.refl _ w) (p := Bf.add j) (by rw [block_of_add]) _
 refine ⟨t_box_keeps h.box hk fun e => is_ne_box h.bef h.box (by decide) e.symm, h.bef.set rfl x hj, h.beh.keeps hk fun b hb e => ?_, h.lbn, h.bfn, h.bhn, h.ne, below_keeps h.bel hk h.bel.size fun b e => by rw [e]; exact h.bfn⟩
 have : b = Bh.block := by simpa using hb
 exact h.ne (e.symm.trans this)
theorem EdS.set2 (h : EdS W lb Bf Bh n t1 t2 w) {j : Nat} (x : Int) (hj : j < t2.length) : EdS W lb Bf Bh n t1 (t2.set j x) (w.setCell (Bh.add j) (.int .i64 x)) := by
 have hk : Keeps (fun b => b = Bh.block) w (w.setCell (Bh.add j) (.int .i64 x)) := Keeps.setCell (S := fun b => b = Bh.block) (Keeps.refl _ w) (p := Bh.add j) (by rw [block_of_add]) _
 refine ⟨t_box_keeps h.box hk fun e => is_ne_box h.beh h.box (by decide) e.symm, h.bef.keeps hk fun b hb e => ?_, h.beh.set rfl x hj, h.lbn, h.bfn, h.bhn, h.ne, below_keeps h.bel hk h.bel.size fun b e => by rw [e]; exact h.bhn⟩
 have : b = Bf.block := by simpa using hb
 exact h.ne (this.symm.trans e)
end
def RepV (n : Nat) (a : Int) (v : Value) (w : World) : Prop := ∃ G, v = .slice (some G) n n ∧ IS w (some G) n (List.replicate n a)
def blkV : Value → List Nat
 | .slice (some a) _ _ => [a.block]
 | .pointer (some a) => [a.block]
 | .map (some b) => [b]
 | _ => []
theorem RepV.stb (n : Nat) (a : Int) : Stb (RepV n a) := fun _ _ _ ⟨G, e, h⟩ hb => ⟨G, e, h.below hb⟩
set_option maxRecDepth 100000 in
set_option maxHeartbeats 8000000 in
theorem ends_any {v : Value} {g : Gr} (w : World) (n : Nat) (h : RdGr w v g) (hm : Mono g n) :
  Calls Tryz.prog 85 #[v] w fun e w' => ∃ (Bf Bh : Addr), e = .returned (.agg #[.slice (some Bf) n n, .slice (some Bh) n n]) ∧ IS w' (some Bf) n (tabK outE g.2.1 n g.2.1.length) ∧ IS w' (some Bh) n (tabK inE g.2.1 n g.2.1.length) ∧ w.heap.size ≤ Bf.block ∧ w.heap.size ≤ Bh.block ∧ Bf.block ≠ Bh.block ∧ Below w.heap.size w w' := by
 obtain ⟨A, c, hs, ⟨B, b, s⟩, ⟨C', d', t⟩, rfl, e1, e2, e3, hE, hRa, hRb⟩ := h
 have hwr : ∀ i : Nat, i < g.2.1.length → ∀ x, x ∈ wiresE (g.2.1.getD i eg0) → 0 ≤ x ∧ x < (n : Int) := fun i hi x hx => hm.wires (e := (i : Int)) (by omega) (by omega) x (by unfold edgeAt; rw [Int.toNat_natCast]; exact hx)
 have hk' := hm.kind
 have hn100 := hm.n100
 have hm60 := hm.m60
 have hgn := hm.hn
 clear hm
 obtain ⟨z, es, s0, t0⟩ := g
 have a1 : es = hs.map egOf := e1
 have a4 : z = (n : Int) := hgn
 subst a4
 have hegB : ∀ e, e ∈ es → egB e = true := hk'
 have hwr' : ∀ i : Nat, i < es.length → ∀ x, x ∈ wiresE (es.getD i eg0) → 0 ≤ x ∧ x < (n : Int) := hwr
 obtain ⟨m, hm⟩ : ∃ m, m = hs.length := ⟨_, rfl⟩
 have hLm : es.length = m := by rw [a1, List.length_map, hm]
 have hm60' : es.length ≤ 60 := hm60
 show Calls Tryz.prog _ #[.agg #[.int .i64 (n : Int), .slice A hs.length c, .slice B s.length b, .slice C' t.length d']] w fun e w' => ∃ (Bf Bh : Addr), e = .returned (.agg #[.slice (some Bf) n n, .slice (some Bh) n n]) ∧ IS w' (some Bf) n (tabK outE es n es.length) ∧ IS w' (some Bh) n (tabK inE es n es.length) ∧ w.heap.size ≤ Bf.block ∧ w.heap.size ≤ Bh.block ∧ Bf.block ≠ Bh.block ∧ Below w.heap.size w w'
 rw [hLm] at hwr' hm60' ⊢
 rw [← hm]
 obtain ⟨p, hp⟩ : ∃ p, p = s.length := ⟨_, rfl⟩
 obtain ⟨r, hr⟩ : ∃ r, r = t.length := ⟨_, rfl⟩
 rw [← hp, ← hr]
 obtain ⟨W, hW, bW, k0, kr⟩ := twoBoxesC w (.cells #[.int .i64 (n : Int), .slice A m c, .slice B p b, .slice C' r d'] tGr) (.cells #[.slice none 0 0, .slice none 0 0] tEnds)
 have hC := fun W => repeated_any (-1) n W (by omega)
 clear hRa hRb e1 e2 e3 hgn hwr hk' hm60; have hE_h := lH hE; have hegB_h := lH hegB; have hwr'_h := lH hwr'; have hm_h := lH hm; have hLm_h := lH hLm; have a1_h := lH a1; have hp_h := lH hp; have hr_h := lH hr; have bW_h := lH bW; have k0_h := lH k0; have kr_h := lH kr; have hC_h := lH hC; clear hE hegB hwr' hm hLm a1 hp hr bW k0 kr hC
 go_enter Tryz.func85, Tryz.ntmps85
 go_upto_region 1 with (fail)
 rw [← hW]
 clear hW
 go_cut [3] (fun s3 wx => ∃ (lb : Nat) (Bf Bh : Addr), s3 = .pointer (some ⟨lb, 0, none⟩) ∧ EdS W lb Bf Bh n (tabK outE es n 0) (tabK inE es n 0) wx)
 case first =>
  refine beginH (fun w' => Below W.heap.size W w' ) (by kernel_rfl) ?_
  have hbd : Below W.heap.size W W.drew := below_drewN (Below.refl _ _) 1
  generalize W.drew = W1 at hbd ⊢
  have k1 := t_box_below k0_h.out hbd
  have k1_h := lH k1; clear k1
  refine tkH 0 ?_ rfl hbd (fun W' hW' => ?_) ?_; rotate_left; · (obtain ⟨⟨y0, y1, y2, y3⟩, y4, y5, y6, y7⟩ := t_box4 (t_box_below k0_h.out hW'); clear hW'; go_simp; first | done | with_reducible rfl)
  simp only [Act.put, nS]
  refine tkH 1 ?_ rfl hbd (fun W' hW' => ?_) ?_; rotate_left; · (obtain ⟨⟨y0, y1, y2, y3⟩, y4, y5, y6, y7⟩ := t_box4 (t_box_below k0_h.out hW'); clear hW'; go_simp; first | done | with_reducible rfl)
  simp only [Act.put, nS]
  refine tkH 3 ?_ rfl hbd (fun W' hW' => ?_) ?_; rotate_left; · (obtain ⟨⟨y0, y1, y2, y3⟩, y4, y5, y6, y7⟩ := t_box4 (t_box_below k0_h.out hW'); clear hW'; go_simp; first | done | with_reducible rfl)
  simp only [Act.put, nS]
  refine tkH 4 ?_ rfl hbd (fun W' hW' => ?_) ?_; rotate_left; · (obtain ⟨⟨y0, y1, y2, y3⟩, y4, y5, y6, y7⟩ := t_box4 (t_box_below k0_h.out hW'); clear hW'; go_simp; first | done | with_reducible rfl)
  simp only [Act.put, nS]
  refine relT [(2, 12), (5, 15), (6, 16), (7, 3)] (fun i => if i = 6 then [12, 15] else []) (fun d xs v w => if d = 12 then RepV n (-1) v w else if d = 15 then RepV n (-1) v w else if d = 16 then v = .agg #[xs 12, xs 15] else ∃ lb, v = .pointer (some ⟨lb, 0, none⟩) ∧ w.heap[lb]? = some (.cells #[.slice none 0 0, .slice none 0 0] tEnds)) (fun _ => blkV) 1 rfl (by kernel_rfl) ?st1 ?co1 (fun w' hw' => below_trans hbd hw' hbd.size) ?sp1 ?fi1
  case st1 => exact fun d xs => (RepV.stb n (-1)).ite ((RepV.stb n (-1)).ite (Stb.ite (fun _ _ _ h _ => h) fun v w w' ⟨lb, e, h⟩ hb => ⟨lb, e, t_box_below h hb⟩))
  case co1 =>
   intro z hz xs ys v w hd h
   simp only [List.mem_cons, List.not_mem_nil, or_false] at hz
   rcases hz with rfl | rfl | rfl | rfl
   · exact h
   · exact h
   · have h1 := hd 12 (by decide)
     have h2 := hd 15 (by decide)
     show v = .agg #[ys 12, ys 15]
     rw [← h1, ← h2]
     exact h
   · exact h
  case sp1 =>
   refine ⟨⟨_, rfl, fun xs w5 hb5 hd K hK => ?_⟩, ⟨_, rfl, fun xs w5 hb5 hd K hK => ?_⟩, ⟨_, rfl, fun xs w5 hb5 hd K hK => ?_⟩, ⟨_, rfl, fun xs w5 hb5 hd K hK => ?_⟩, trivial⟩
   · simp only [putZ, List.foldl_cons, List.foldl_nil, Act.put, nS] at hK ⊢
     refine wp_callZ (f := ?f_1) (args := ?args_1) ?hr_1 ?hc_1
     case hr_1 => (go_simp; first | done | with_reducible rfl | (constructor <;> with_reducible rfl))
     case hc_1 =>
      refine (hC_h.out w5).mono ?_
      rintro e w6 ⟨G, rfl, hI, hG, hb6⟩
      exact ⟨_, rfl, hK _ _ hb6 ⟨G, rfl, hI⟩ fun b hb => by
       obtain rfl : b = G.block := by simpa [blkV] using hb
       exact ⟨hG, hI.lt G.block (by simp)⟩⟩
   · simp only [putZ, List.foldl_cons, List.foldl_nil, Act.put, nS] at hK ⊢
     refine wp_callZ (f := ?f_2) (args := ?args_2) ?hr_2 ?hc_2
     case hr_2 => (go_simp; first | done | with_reducible rfl | (constructor <;> with_reducible rfl))
     case hc_2 =>
      refine (hC_h.out w5).mono ?_
      rintro e w6 ⟨G, rfl, hI, hG, hb6⟩
      exact ⟨_, rfl, hK _ _ hb6 ⟨G, rfl, hI⟩ fun b hb => by
       obtain rfl : b = G.block := by simpa [blkV] using hb
       exact ⟨hG, hI.lt G.block (by simp)⟩⟩
   · obtain ⟨G1, h1, _⟩ := (hd 12 (by decide) : RepV n (-1) (xs 12) w5)
     obtain ⟨G2, h2, _⟩ := (hd 15 (by decide) : RepV n (-1) (xs 15) w5)
     simp only [putZ, List.foldl_cons, List.foldl_nil, Act.put, nS] at hK ⊢
     simp only [h1, h2] at hK ⊢
     go_simp
     exact hK _ _ (Below.refl _ _) (by simp) fun b hb => by cases hb
   · simp only [putZ, List.foldl_cons, List.foldl_nil, Act.put, nS] at hK ⊢
     go_simp
     exact hK _ _ (t_below_alloc _ _) ⟨_, rfl, heap_alloc_new _ _⟩ fun b hb => by
      obtain rfl : b = w5.heap.size := by simpa [blkV] using hb
      simp
  case fi1 =>
   intro xs w6 hb6 hR hO hD
   obtain ⟨G1, h1, hI1⟩ := (hR (2, 12) (by simp) : RepV n (-1) (xs 12) w6)
   obtain ⟨G2, h2, hI2⟩ := (hR (5, 15) (by simp) : RepV n (-1) (xs 15) w6)
   have h3 := (hR (6, 16) (by simp) : xs 16 = .agg #[xs 12, xs 15])
   obtain ⟨lb, h4, hbx⟩ := (hR (7, 3) (by simp) : ∃ lb, xs 3 = .pointer (some ⟨lb, 0, none⟩) ∧ w6.heap[lb]? = some (.cells #[.slice none 0 0, .slice none 0 0] tEnds))
   have o1 := hO (2, 12) (by simp) G1.block (by show _ ∈ blkV (xs 12); rw [h1]; simp [blkV])
   have o2 := hO (5, 15) (by simp) G2.block (by show _ ∈ blkV (xs 15); rw [h2]; simp [blkV])
   have o4 := hO (7, 3) (by simp) lb (by show _ ∈ blkV (xs 3); rw [h4]; simp [blkV])
   have d12 := hD (2, 12) (by simp) (5, 15) (by simp) (by decide) G1.block (by show _ ∈ blkV (xs 12); rw [h1]; simp [blkV])
   have d12' : G1.block ≠ G2.block := fun e => d12 (by show _ ∈ blkV (xs 15); rw [h2, e]; simp [blkV])
   rw [h1, h2] at h3
   have hbW := below_trans hbd hb6 hbd.size
   have hz1 := hbd.size
   obtain ⟨s1, s2⟩ := t_set2 (a := .slice (some G1) n n) (b := .slice (some G2) n n) hbx
   have hE0 : EdS W lb G1 G2 n (tabK outE es n 0) (tabK inE es n 0) ((w6.setCell ⟨lb, 0, none⟩ (.slice (some G1) n n)).setCell ⟨lb, 1, none⟩ (.slice (some G2) n n)) := by
    rw [tabK_zero, tabK_zero]
    refine ⟨s1, hI1.keeps s2 fun b hb e => ?_, hI2.keeps s2 fun b hb e => ?_, by omega, by omega, by omega, d12', below_keeps hbW s2 hbW.size fun b e => by omega⟩
    · have hb' : b = G1.block := by simpa using hb
      exact is_ne_box hI1 hbx (by decide) (hb'.symm.trans e)
    · have hb' : b = G2.block := by simpa using hb
      exact is_ne_box hI2 hbx (by decide) (hb'.symm.trans e)
   obtain ⟨⟨x0, x1⟩, x2, x3⟩ := t_box2 hbx
   clear hR hO hD hI1 hI2 hbx s1 s2 d12 o1 o2 o4; have hE0_h := lH hE0; clear hE0
   simp only [putZ, List.foldl_cons, List.foldl_nil, Act.put, nS, h1, h2, h4, mkZ]
   rw [h3]
   refine oneH 8 rfl (by kernel_rfl) (by rfl) (fun K hK => ?_)
   go_simp
   refine hK _ _ (hE0_h.out.bel) ?_
   clear hK K
   refine doneH (by kernel_rfl) ?_
   go_wp2_with (fail)
   go_meet
   exact ⟨lb, G1, G2, rfl, hE0_h.out⟩
 case rest =>
  obtain ⟨lb, Bf, Bh, rfl, hE0⟩ := hcut
  have k1 := t_box_below k0_h.out hE0.bel
  obtain ⟨⟨c0, c1, c2, c3⟩, f0, f1, f2, f3⟩ := t_box4 k1
  clear k1; have hE0_h := lH hE0; clear hE0
  go_wp2_with (fail)
  clear c0 c1 c2 c3 f0 f1 f2 f3
  go_loopw [20] (fun i wr => ∃ k : Nat, k ≤ m ∧ i = .int .i64 k ∧ EdS W lb Bf Bh n (tabK outE es n k) (tabK inE es n k) wr) (fun i _ => m - (intOf i).toNat)
  case atStart => exact ⟨0, Nat.zero_le _, rfl, hE0_h.out⟩
  case round =>
   clear hE0_h
   obtain ⟨k, hk, rfl, hEd⟩ := hrel
   obtain ⟨wo, rfl⟩ : ∃ x, x = wr := ⟨_, rfl⟩
   have hBw := below_trans bW_h.out hEd.bel bW_h.out.size
   by_cases hlt : k < m
   · obtain ⟨ad, κ, vv, B1, b1, s1, C1, b2, t1, rfl, hn, ⟨d0, d1, d2, d3⟩, _⟩ := (hE_h.out.below hBw).at_ (j := k) (by rw [← hm_h.out]; exact hlt)
     have hr1 := hE_h.out.2 _ (List.mem_of_getElem? hn)
     have hek : es[k]? = some (κ, vv, s1, t1) := by rw [a1_h.out, List.getElem?_map, hn]; rfl
     have hed : es.getD k eg0 = (κ, vv, s1, t1) := by rw [List.getD_eq_getElem?_getD, hek]; rfl
     obtain ⟨⟨l1, l2⟩, l3⟩ := egB_len (hegB_h.out _ (List.mem_of_getElem? hek))
     simp only at l1 l2 l3
     have hwk := hwr'_h.out k hlt
     rw [hed] at hwk
     have hwt : ∀ x, x ∈ t1 → 0 ≤ x ∧ x < (n : Int) := fun x hx => hwk x (List.mem_append_right _ hx)
     have hws : ∀ x, x ∈ s1 → 0 ≤ x ∧ x < (n : Int) := fun x hx => hwk x (List.mem_append_left _ hx)
     clear hwk
     obtain ⟨p1, hp1⟩ : ∃ p1, p1 = s1.length := ⟨_, rfl⟩
     obtain ⟨r1, hr1'⟩ : ∃ r1, r1 = t1.length := ⟨_, rfl⟩
     rw [← hp1] at d2 l1
     rw [← hr1'] at d3 l2
     obtain ⟨W6, hW6, bW6, k6⟩ := (⟨_, rfl, t_below_alloc _ _, heap_alloc_new _ _⟩ : ∃ W, W = wo.alloc (.cells #[.int .i64 κ, .int .i64 vv, .slice B1 p1 b1, .slice C1 r1 b2] tEd) ∧ Below wo.heap.size wo W ∧ W.heap[wo.heap.size]? = some (.cells #[.int .i64 κ, .int .i64 vv, .slice B1 p1 b1, .slice C1 r1 b2] tEd))
     have kr := t_box_below k0_h.out hEd.bel
     have hE6 := hEd.below bW6
     obtain ⟨⟨c0, c1, c2, c3⟩, f0, f1, f2, f3⟩ := t_box4 k6
     obtain ⟨⟨y0, y1, y2, y3⟩, g0, g1, g2, g3⟩ := t_box4 kr
     have hkI : (k : Int) < (m : Int) := by omega
     have hr1_h' := lH hr1'; clear hr1' hn kr l3 hEd; have hek_h := lH hek; have hed_h := lH hed; have hp1_h := lH hp1; have bW6_h := lH bW6; have k6_h := lH k6; have hBw_h := lH hBw; have hwt_h := lH hwt; have hws_h := lH hws; have hE6_h := lH hE6; have hr1_h := lH hr1; clear hek hed hp1 bW6 k6 hBw hwt hws hE6 hr1
     go_upto_region 5 with (fail)
     rw [← hW6]
     clear hW6 d0 d1 d2 d3 y0 y1 y2 y3 g0 g1 g2 g3
     go_wp2_with (fail)
     clear c0 c1 c2 c3 f0 f1 f2 f3
     go_loopw [28] (fun i wr => ∃ j : Nat, j ≤ r1 ∧ i = .int .i64 j ∧ EdS W lb Bf Bh n (tabJ outE es n k j) (tabK inE es n k) wr ∧ wr.heap[wo.heap.size]? = some (.cells #[.int .i64 κ, .int .i64 vv, .slice B1 p1 b1, .slice C1 r1 b2] tEd)) (fun i _ => r1 - (intOf i).toNat)
     case atStart => exact ⟨0, Nat.zero_le _, rfl, by rw [tabJ_zero]; exact hE6_h.out, k6_h.out⟩
     case round =>
      clear hE6_h k6_h
      obtain ⟨j, hj, rfl, hEj, kj⟩ := hrel
      obtain ⟨wi, rfl⟩ : ∃ x, x = wr := ⟨_, rfl⟩
      obtain ⟨⟨x0, x1⟩, x2, x3⟩ := t_box2 hEj.box
      by_cases hltj : j < r1
      · obtain ⟨x, hx⟩ : ∃ x, t1[j]? = some x := ⟨_, List.getElem?_eq_getElem (by rw [← hr1_h'.out]; exact hltj)⟩
        have hxr := hwt_h.out x (List.mem_of_getElem? hx)
        obtain ⟨bb, rfl⟩ : ∃ bb : Nat, x = (bb : Int) := ⟨x.toNat, by omega⟩
        obtain ⟨cd, rfl, yj⟩ := (hr1_h.out.2.below (below_trans bW_h.out hEj.bel bW_h.out.size)) j _ hx
        have hstep : tabJ outE es n k (j + 1) = _ := tabJ_step (x := bb) (n := n) (by rw [hed_h.out]; exact hx)
        obtain ⟨zd, z0, ze, _, _, zc, zf⟩ := hEj.bef.at_ (j := bb) (by rw [tabJ_length]; omega)
        obtain rfl := Option.some.inj ze
        have zfk := zf bb
        have hset := hEj.set1 (j := bb) (k : Int) (by rw [tabJ_length]; omega)
        rw [← hstep] at hset
        have kk := t_box_keeps kj (Keeps.setCell (S := fun b => b = Bf.block) (Keeps.refl _ wi) (p := Bf.add bb) (by rw [block_of_add]) (.int .i64 (k : Int))) (fun e => is_ne_box hEj.bef kj (by decide) e.symm)
        have hjI : (j : Int) < (r1 : Int) := by omega
        have hbI : (bb : Int) < (n : Int) := by omega
        clear hEj zf ze hstep hxr kj; have hset_h := lH hset; have hx_h := lH hx; have kk_h := lH kk; clear hset hx kk
        go_wp2_with (fail)
        go_roundw
        case rel => exact ⟨j + 1, by omega, by go_num, hset_h.out, kk_h.out⟩
        case measure => simp [intOf]; omega
      · obtain rfl : r1 = j := by omega
        have hE2 : EdS W lb Bf Bh n (tabK outE es n (k + 1)) (tabK inE es n k) wi := by
         rw [← tabJ_all (j := r1) (by rw [hed_h.out]; show t1.length ≤ _; rw [← hr1_h'.out]; exact Nat.le_refl _)]
         exact hEj
        obtain ⟨⟨c0, c1, c2, c3⟩, f0, f1, f2, f3⟩ := t_box4 kj
        clear hEj kj x0 x1 x2 x3; have hE2_h := lH hE2; clear hE2
        go_wp2_with (fail)
        clear c0 c1 c2 c3 f0 f1 f2 f3
        go_loopw [41] (fun i wr => ∃ j : Nat, j ≤ p1 ∧ i = .int .i64 j ∧ EdS W lb Bf Bh n (tabK outE es n (k + 1)) (tabJ inE es n k j) wr) (fun i _ => p1 - (intOf i).toNat)
        case atStart => exact ⟨0, Nat.zero_le _, rfl, by rw [tabJ_zero]; exact hE2_h.out⟩
        case round =>
         clear hE2_h
         obtain ⟨j, hj, rfl, hEj⟩ := hrel
         obtain ⟨wu, rfl⟩ : ∃ x, x = wr := ⟨_, rfl⟩
         obtain ⟨⟨x0, x1⟩, x2, x3⟩ := t_box2 hEj.box
         by_cases hltj : j < p1
         · obtain ⟨x, hx⟩ : ∃ x, s1[j]? = some x := ⟨_, List.getElem?_eq_getElem (by rw [← hp1_h.out]; exact hltj)⟩
           have hxr := hws_h.out x (List.mem_of_getElem? hx)
           obtain ⟨bb, rfl⟩ : ∃ bb : Nat, x = (bb : Int) := ⟨x.toNat, by omega⟩
           obtain ⟨cd, rfl, yj⟩ := (hr1_h.out.1.below (below_trans bW_h.out hEj.bel bW_h.out.size)) j _ hx
           have hstep : tabJ inE es n k (j + 1) = _ := tabJ_step (x := bb) (n := n) (by rw [hed_h.out]; exact hx)
           obtain ⟨zd, z0, ze, _, _, zc, zf⟩ := hEj.beh.at_ (j := bb) (by rw [tabJ_length]; omega)
           obtain rfl := Option.some.inj ze
           have zfk := zf bb
           have hset := hEj.set2 (j := bb) (k : Int) (by rw [tabJ_length]; omega)
           rw [← hstep] at hset
           have hjI : (j : Int) < (p1 : Int) := by omega
           have hbI : (bb : Int) < (n : Int) := by omega
           clear hEj zf ze hstep hxr; have hset_h := lH hset; have hx_h := lH hx; clear hset hx
           go_wp2_with (fail)
           go_roundw
           case rel => exact ⟨j + 1, by omega, by go_num, hset_h.out⟩
           case measure => simp [intOf]; omega
         · obtain rfl : p1 = j := by omega
           have hE3 : EdS W lb Bf Bh n (tabK outE es n (k + 1)) (tabK inE es n (k + 1)) wu := by
            rw [← tabJ_all (f := inE) (j := p1) (by rw [hed_h.out]; show s1.length ≤ _; rw [← hp1_h.out]; exact Nat.le_refl _)]
            exact hEj
           clear hEj x0 x1 x2 x3; have hE3_h := lH hE3; clear hE3
           go_wp2_with (fail)
           go_roundw
           case rel => exact ⟨k + 1, by omega, by go_num, hE3_h.out⟩
           case measure => simp [intOf]; omega
   · obtain rfl : m = k := by omega
     have kR := t_box_below kr_h.out hEd.bel
     obtain ⟨⟨u0, u1⟩, u2, u3⟩ := t_box2 kR
     obtain ⟨⟨x0, x1⟩, x2, x3⟩ := t_box2 hEd.box
     obtain ⟨q1, q2⟩ := t_set2 (a := .slice (some Bf) n n) (b := .slice (some Bh) n n) kR
     have hlbn := hEd.lbn
     have g1 := hEd.bef.keeps q2 fun b hb e => is_ne_box hEd.bef kR (by decide) ((by simpa using hb : b = Bf.block).symm.trans e)
     have g2 := hEd.beh.keeps q2 fun b hb e => is_ne_box hEd.beh kR (by decide) ((by simpa using hb : b = Bh.block).symm.trans e)
     have hB2 := below_keeps hBw q2 (by have := hBw.size; omega) (fun b hb => by omega)
     have hn1 := hEd.bfn
     have hn2 := hEd.bhn
     have hne := hEd.ne
     have hbz := bW_h.out.size
     clear kR q2 hEd hBw; have q1_h := lH q1; have g1_h := lH g1; have g2_h := lH g2; have hB2_h := lH hB2; have hne_h := lH hne; clear q1 g1 g2 hB2 hne
     go_wp2_with (fail)
     refine bodyPost_ret (results_cell_row rfl _ _ (w.heap.size + 1) _ _ (0, 0) _ rfl q1_h.out Tryz.underlying88 rfl (by kernel_rfl)) rfl ?_
     exact ⟨Bf, Bh, rfl, g1_h.out, g2_h.out, by omega, by omega, hne_h.out, hB2_h.out⟩
abbrev tMI : TypeId := 89
theorem lawI : Maps.Keyed Tryz.prog tInt := Maps.int_keyed Tryz.underlying3
theorem zeroI (w : World) : (zeroValue tInt).run Tryz.prog w = .ok (.int .i64 0) w := by kernel_rfl
def kI (x : Int) : Lit := .int .i64 x
def vI (x : Int) : DataW Unit := .lit (.int .i64 x)
theorem kI_key (x : Int) : WideAt.IsKeyLit (kI x) := True.intro
theorem kI_inj {x y : Int} (h : kI x = kI y) : x = y := by cases h; rfl
def revD : List Int → DataW Unit
 | [] => .map []
 | w :: r => (revD r).put (kI w) (vI r.length)
def numD (l : List Int) : DataW Unit := revD l.reverse
theorem numD_snoc (l : List Int) (w : Int) : numD (l ++ [w]) = (numD l).put (kI w) (vI l.length) := by simp [numD, revD]
theorem revD_tidy : ∀ r, Maps.Tidy (revD r)
 | [] => Maps.tidy_empty
 | w :: r => (revD_tidy r).put (kI_key w) _
theorem revD_has (x : Int) : ∀ r : List Int, Maps.has (revD r) (kI x) = decide (x ∈ r)
 | [] => rfl
 | w :: r => by
   show Maps.has ((revD r).put _ _) _ = _
   by_cases e : x = w
   · subst e
     rw [Maps.has_put_same (revD_tidy r).isMap (kI_key x)]
     simp
   · rw [Maps.has_put_other (fun h => e (kI_inj h)), revD_has x r]
     simp [e]
theorem revD_size : ∀ r : List Int, r.Nodup → Maps.size (revD r) = r.length
 | [], _ => rfl
 | w :: r, h => by
   obtain ⟨h1, h2⟩ := List.nodup_cons.1 h
   show Maps.size ((revD r).put _ _) = _
   rw [Maps.size_put (revD_tidy r), revD_has, revD_size r h2]
   simp [h1]
theorem revD_at (x : Int) (z : DataW Unit) : ∀ r : List Int, r.Nodup → x ∈ r → (revD r).atKey (kI x) z = vI (idx r.reverse x)
 | [], _, h => by cases h
 | w :: r, hn, h => by
   obtain ⟨h1, h2⟩ := List.nodup_cons.1 hn
   show ((revD r).put _ _).atKey _ _ = _
   rw [List.reverse_cons, idx_append]
   by_cases e : x = w
   · subst e
     rw [Maps.atKey_put_same (revD_tidy r).isMap (kI_key x), if_neg (by simpa using h1)]
     simp [idx]
   · have hm : x ∈ r := by
      rcases List.mem_cons.1 h with h | h
      · exact absurd h e
      · exact h
     rw [Maps.atKey_put_other (fun h => e (kI_inj h)), revD_at x z r h2 hm, if_pos (by simpa using hm)]
theorem numD_has (l : List Int) (x : Int) : Maps.has (numD l) (kI x) = decide (x ∈ l) := by
 unfold numD
 rw [revD_has]
 simp
theorem numD_size {l : List Int} (h : l.Nodup) : Maps.size (numD l) = l.length := by
 unfold numD
 rw [revD_size _ (by rw [List.nodup_iff_pairwise_ne] at h ⊢; exact List.pairwise_reverse.2 (h.imp Ne.symm)), List.length_reverse]
theorem nodup_rev {l : List Int} (h : l.Nodup) : l.reverse.Nodup := by
 unfold List.Nodup at h ⊢
 exact List.pairwise_reverse.2 (h.imp Ne.symm)
theorem numD_at {l : List Int} (h : l.Nodup) {x : Int} (hx : x ∈ l) (z : DataW Unit) : (numD l).atKey (kI x) z = vI (idx l x) := by
 unfold numD
 rw [revD_at x z _ (nodup_rev h) (by simpa using hx), List.reverse_reverse]
def look (l : List Int) (x : Int) : Int := if x ∈ l then idx l x else 0
theorem look_mem {l : List Int} {x : Int} (h : x ∈ l) : look l x = idx l x := if_pos h
theorem numD_look {l : List Int} (h : l.Nodup) (x : Int) : (numD l).atKey (kI x) (vI 0) = vI (look l x) := by
 unfold look
 split
 · rename_i hx
   exact numD_at h hx _
 · rename_i hx
   exact Maps.atKey_of_not_has (by rw [numD_has]; simpa using hx) _
def MI (w : World) (b : Nat) (l : List Int) : Prop := w.ownsMap (H := Unit) Tryz.prog tInt (plainElem Tryz.prog tInt) b l.length (numD l)
def MR (w : World) (b r : Nat) (l : List Int) (L : Int → Bool) (cnt : Nat) : Prop := ∃ left : Lit → Bool, w.ranges (H := Unit) Tryz.prog tInt (plainElem Tryz.prog tInt) b r l.length (numD l) left cnt ∧ ∀ x, left (kI x) = L x
theorem keeps_of_grown {w w' : World} {row : Option Nat} (h : w.grownBy w' row) : Keeps (fun b => some b = row) w w' := ⟨h.os, h.tape, h.output, h.size, fun k hk hs => h.block k hk hs⟩
section
variable {w w' : World} {b r cnt : Nat} {l : List Int} {L : Int → Bool}
theorem MI.lt (h : MI w b l) : b < w.heap.size := World.ownsMap.lt h
theorem MI.frame (h : MI w b l) (hs : w'.heap[b]? = w.heap[b]?) : MI w' b l := by
 obtain ⟨es, clock, hb, q⟩ := h
 exact ⟨es, clock, hs.trans hb, q⟩
theorem MI.below (h : MI w b l) (hb : Below w.heap.size w w') : MI w' b l := h.frame (hb.block b h.lt)
theorem MI.keeps (h : MI w b l) {S : Nat → Prop} (hk : Keeps S w w') (hS : ¬ S b) : MI w' b l := h.frame (hk.block b h.lt hS)
theorem MI.made (w : World) : MI (w.alloc (.map #[] 0)) w.heap.size [] := World.ownsMap_made w _ _ _
theorem MR.owns (h : MR w b r l L cnt) : MI w b l := h.choose_spec.1.owns
theorem MR.frame (h : MR w b r l L cnt) (hs : w'.heap[b]? = w.heap[b]?) (hr : w'.heap[r]? = w.heap[r]?) : MR w' b r l L cnt := by
 obtain ⟨left, ⟨es, clock, since, seen, c0, h1, h2, h3, h4, h5, q⟩, hL⟩ := h
 exact ⟨left, ⟨es, clock, since, seen, c0, hs.trans h1, h2, h3, h4, hr.trans h5, q⟩, hL⟩
theorem MR.lt (h : MR w b r l L cnt) : r < w.heap.size := h.choose_spec.1.lt
theorem MR.keeps (h : MR w b r l L cnt) {S : Nat → Prop} (hk : Keeps S w w') (hS : ¬ S b) (hr : ¬ S r) : MR w' b r l L cnt := h.frame (hk.block b h.owns.lt hS) (hk.block r h.lt hr)
theorem MR.below (h : MR w b r l L cnt) (hb : Below w.heap.size w w') : MR w' b r l L cnt := h.frame (hb.block b h.owns.lt) (hb.block r h.lt)
theorem MR.ne (h : MR w b r l L cnt) : r ≠ b := h.choose_spec.1.ne
theorem MR.left_eq (h : MR w b r l L cnt) : w.rangeLeft b r = cnt := h.choose_spec.1.left_eq
end
theorem MI.len {w : World} {b : Nat} {l : List Int} (h : MI w b l) (hn : l.Nodup) (ty : TypeId) : (Builtin.len_ #[tMI] ty #[.map (some b)]).run Tryz.prog w = .ok (.int .i64 (l.length : Int)) w := by
 have := World.ownsMap.len h Tryz.underlying89 ty
 rw [numD_size hn] at this
 exact this
theorem MI.put {w : World} {b : Nat} {l : List Int} (h : MI w b l) (hl : l.length < maxLen) {y : Int} (hw : (Lit.int .i64 y).wf = true) {q : Int} (hq : q = (l.length : Int)) :
  ∃ w', (Instr.mapUpdate tMI (.map (some b)) (.int .i64 y) (.int .i64 q)).run Tryz.prog w = .ok () w' ∧ MI w' b (l ++ [y]) ∧ Keeps (fun k => k = b) w w' := by
 subst hq
 obtain ⟨w', h1, h2, h3⟩ := World.ownsMap.update h lawI Tryz.underlying89 hl (Maps.keyOf_int_mk Tryz.underlying3 hw) (d := vI l.length) (ps := []) (plainElem_int Tryz.underlying3 (WalkArith.wf_i64 (by unfold maxLen at hl; omega)))
 refine ⟨w', h1, ?_, (keeps_of_grown h3).mono fun k _ e => Option.some.inj e⟩
 unfold MI
 rw [numD_snoc, List.length_append]
 exact h2
theorem MI.ne_cells {w : World} {b g : Nat} {l : List Int} {cs : Array Value} {t : TypeId} {fr : Nat × Nat} (h : MI w b l) (hg : w.heap[g]? = some (.cells cs t fr)) : b ≠ g := fun e => by
 obtain ⟨es, clock, hb, _⟩ := h
 rw [e, hg] at hb
 cases hb
theorem MI.ne_sl {w : World} {b x : Nat} {l : List Int} {e : TypeId} {sz n cap : Nat} {A : Option Addr} {xs : List Value} (h : MI w b l) (hs : Sl w e sz A n cap xs) (hx : x ∈ fpA A) : b ≠ x := by
 rcases hs.2.2.2 with ⟨rfl, _⟩ | ⟨g, off, cur, rfl, hg, _⟩
 · simp at hx
 · obtain rfl : x = g := by simpa using hx
   exact h.ne_cells hg
section
variable {w : World} {ops : Array Oper} {rest : List Oper} {o : Oper} {a : Act} {Q : Exit → Act → World → Prop} {b : Nat} {l : List Int}
theorem wp_mi_ok (hg : o.guard = none) (m x : Operand) (hop : o.op = Op.lookup tMI m x true) (hm : a.eval m = .map (some b)) (h : MI w b l) (hn : l.Nodup) (y : Int) (hx : a.eval x = .int .i64 y) (hw : (Lit.int .i64 y).wf = true)
  (B : Bool) (hB : decide (y ∈ l) = B) (hK : wpList Tryz.prog ops Q rest (a.put o.dst (.tuple #[.int .i64 (look l y), .bool B])) w) : wpList Tryz.prog ops Q (o :: rest) a w := by
 subst hB
 refine wpList_lookup_own_ok_int w hg m x tMI hop tInt tInt .i64 lawI Tryz.underlying89 Tryz.underlying3 (zeroI w) b l.length (numD l) hm h _ (kI y) hx (Maps.keyOf_int_mk Tryz.underlying3 hw) fun c hat _ => ?_
 have e := numD_look hn y
 rw [show (DataW.lit (Lit.int .i64 0) : DataW Unit) = vI 0 from rfl, e] at hat
 obtain rfl : look l y = c := by
  have := hat
  unfold vI at this
  injection this with this
  injection this
 rw [numD_has]
 exact hK
theorem wp_mi_get (hg : o.guard = none) (m x : Operand) (hop : o.op = Op.lookup tMI m x false) (hm : a.eval m = .map (some b)) (h : MI w b l) (hn : l.Nodup) (y : Int) (hx : a.eval x = .int .i64 y) (hw : (Lit.int .i64 y).wf = true)
  (q : Int) (hq : look l y = q) (hK : wpList Tryz.prog ops Q rest (a.put o.dst (.int .i64 q)) w) : wpList Tryz.prog ops Q (o :: rest) a w := by
 subst hq
 refine wpList_lookup_own_int w hg m x tMI hop tInt tInt .i64 lawI Tryz.underlying89 Tryz.underlying3 (zeroI w) b l.length (numD l) hm h _ (kI y) hx (Maps.keyOf_int_mk Tryz.underlying3 hw) fun c hat _ => ?_
 have e := numD_look hn y
 rw [show (DataW.lit (Lit.int .i64 0) : DataW Unit) = vI 0 from rfl, e] at hat
 obtain rfl : look l y = c := by
  have := hat
  unfold vI at this
  injection this with this
  injection this
 exact hK
theorem wp_mi_range (hg : o.guard = none) (m : Operand) (hop : o.op = Op.range tMI m) (hm : a.eval m = .map (some b)) (h : MI w b l) (hn : l.Nodup)
  (hK : ∀ w', MR w' b w.heap.size l (fun x => decide (x ∈ l)) l.length → Below w.heap.size w w' → w'.heap.size = w.heap.size + 1 → wpList Tryz.prog ops Q rest (a.put o.dst (.pointer (some ⟨w.heap.size, 0, none⟩))) w') : wpList Tryz.prog ops Q (o :: rest) a w := by
 refine wpList_range_own w hg m tMI hop tInt tInt lawI Tryz.underlying89 (plainElem Tryz.prog tInt) b l.length (numD l) hm h fun w' h1 h2 h3 => ?_
 rw [numD_size hn] at h1
 exact hK w' ⟨_, h1, fun x => numD_has l x⟩ ⟨h2.os, h2.tape, h2.output, h2.size, fun k hk => h2.block k hk (by simp)⟩ h3
theorem wp_mr_next (hg : o.guard = none) (it : Operand) (hop : o.op = Op.next it false) {r cnt : Nat} {L : Int → Bool} (hit : a.eval it = .pointer (some ⟨r, 0, none⟩)) (h : MR w b r l L cnt) (hn : l.Nodup)
  (hDone : cnt = 0 → (∀ x, L x = false) → wpList Tryz.prog ops Q rest (a.put o.dst (.tuple #[.bool false])) w)
  (hMore : ∀ (x : Int) (w' : World) (cnt' : Nat), x ∈ l → L x = true → (Lit.int .i64 x).wf = true → MR w' b r l (fun z => L z && !decide (z = x)) cnt' → cnt' < cnt → Keeps (fun k => k = r) w w' → w'.heap.size = w.heap.size →
   (Instr.entry (.pointer (some ⟨r, 0, none⟩))).run Tryz.prog w' = .ok (.tuple #[.int .i64 x, .int .i64 (idx l x)]) w' → wpList Tryz.prog ops Q rest (a.put o.dst (.tuple #[.bool true, .int .i64 x, .int .i64 (idx l x)])) w') :
  wpList Tryz.prog ops Q (o :: rest) a w := by
 obtain ⟨left, hr, hL⟩ := h
 refine wpList_next_ranges_ii w hg it hop tInt tInt .i64 .i64 lawI Tryz.underlying3 Tryz.underlying3 b r l.length (numD l) left cnt hit hr (fun h0 h1 => hDone h0 fun x => by rw [← hL]; exact h1 _) fun x c w' cnt' hwx _ hl hat h1 h2 h3 h4 h5 => ?_
 have hx : x ∈ l := by
  have := Maps.has_true_of_atKey (k := kI x) hat
  rw [numD_has] at this
  simpa using this
 obtain rfl : idx l x = c := by
  have e := hat (vI 0)
  rw [show (Lit.int .i64 x : Lit) = kI x from rfl, numD_at hn hx] at e
  unfold vI at e
  injection e with e
  injection e
 refine hMore x w' cnt' hx (by rw [← hL]; exact hl) hwx ⟨_, h1, fun z => ?_⟩ h2 ((keeps_of_grown h3).mono fun k _ e => Option.some.inj e) h4 h5
 rw [hL]
 congr 2
 by_cases e : z = x
 · subst e
   rw [show (kI z).sameKey (.int .i64 z) = true from WideAt.sameKey_self (a := kI z) (kI_key z)]
   simp
 · rw [show (Lit.int .i64 x : Lit) = kI x from rfl, Maps.sameKey_ne (fun h => e (kI_inj h))]
   simp [e]
end
abbrev tWk : TypeId := 91
theorem box10 {w : World} {B : Nat} {t : TypeId} {a b c d e f g h i j : Value} (hb : w.heap[B]? = some (.cells #[a, b, c, d, e, f, g, h, i, j] t)) :
  (w.cell? ⟨B, 0, none⟩ = some a ∧ w.cell? ⟨B, 1, none⟩ = some b ∧ w.cell? ⟨B, 2, none⟩ = some c ∧ w.cell? ⟨B, 3, none⟩ = some d ∧ w.cell? ⟨B, 4, none⟩ = some e ∧ w.cell? ⟨B, 5, none⟩ = some f ∧ w.cell? ⟨B, 6, none⟩ = some g ∧ w.cell? ⟨B, 7, none⟩ = some h ∧ w.cell? ⟨B, 8, none⟩ = some i ∧ w.cell? ⟨B, 9, none⟩ = some j) ∧
  w.frozen? ⟨B, 8, none⟩ = false ∧ w.frozen? ⟨B, 9, none⟩ = false := by
 refine ⟨⟨?_, ?_, ?_, ?_, ?_, ?_, ?_, ?_, ?_, ?_⟩, ?_, ?_⟩ <;> simp [World.cell?, World.frozen?, hb]
theorem set10_8 {w : World} {B : Nat} {t : TypeId} {a b c d e f g h i j x : Value} (hb : w.heap[B]? = some (.cells #[a, b, c, d, e, f, g, h, i, j] t)) :
  (w.setCell ⟨B, 8, none⟩ x).heap[B]? = some (.cells #[a, b, c, d, e, f, g, h, x, j] t) ∧ Keeps (· = B) w (w.setCell ⟨B, 8, none⟩ x) := by
 refine ⟨by simp [World.setCell, Array.getElem?_modify, hb], ?_⟩
 exact (Keeps.refl (fun x => x = B) w).setCell (p := ⟨B, 8, none⟩) rfl _
theorem set10_9 {w : World} {B : Nat} {t : TypeId} {a b c d e f g h i j x : Value} (hb : w.heap[B]? = some (.cells #[a, b, c, d, e, f, g, h, i, j] t)) :
  (w.setCell ⟨B, 9, none⟩ x).heap[B]? = some (.cells #[a, b, c, d, e, f, g, h, i, x] t) ∧ Keeps (· = B) w (w.setCell ⟨B, 9, none⟩ x) := by
 refine ⟨by simp [World.setCell, Array.getElem?_modify, hb], ?_⟩
 exact (Keeps.refl (fun x => x = B) w).setCell (p := ⟨B, 9, none⟩) rfl _
def OwnK (b mw me : Nat) (Q O : Option Addr) (x : Nat) : Prop := x = b ∨ x = mw ∨ x = me ∨ x ∈ fpA Q ∨ x ∈ fpA O
def StepK (b mw me : Nat) (w : World) (Q O : Option Addr) (w' : World) (Q' O' : Option Addr) : Prop :=
 Keeps (OwnK b mw me Q O) w w' ∧ ∀ x, OwnK b mw me Q' O' x → OwnK b mw me Q O x ∨ w.heap.size ≤ x
theorem StepK.refl (b mw me : Nat) (w : World) (Q O : Option Addr) : StepK b mw me w Q O w Q O := ⟨Keeps.refl _ _, fun _ h => .inl h⟩
theorem StepK.trans {b mw me : Nat} {w w' w'' : World} {Q O Q' O' Q'' O'' : Option Addr} (h : StepK b mw me w Q O w' Q' O') (k : StepK b mw me w' Q' O' w'' Q'' O'') : StepK b mw me w Q O w'' Q'' O'' :=
 ⟨h.1.free k.1 fun x hx hT => (h.2 x hT).resolve_right (by omega), fun x hx => by
  rcases k.2 x hx with h1 | h1
  · exact h.2 x h1
  · exact .inr (Nat.le_trans h.1.size h1)⟩
theorem StepK.below {b mw me : Nat} {w w' w'' : World} {Q O Q' O' : Option Addr} (h : StepK b mw me w Q O w' Q' O') (k : Below w'.heap.size w' w'') : StepK b mw me w Q O w'' Q' O' :=
 ⟨h.1.free (Keeps.of_below k (fun _ => False)) fun _ _ h => h.elim, h.2⟩
structure KW (W : World) (n : Nat) (es : List Eg) (x1 x2 x3 : Value) (b : Nat) (Bf Bh : Addr) (mw me : Nat) (s : WE) (qd : Nat) (w : World) (Q : Option Addr) (qn qc : Nat) (O : Option Addr) (on oc : Nat) : Prop where
 box : w.heap[b]? = some (.cells #[.int .i64 (n : Int), x1, x2, x3, .slice (some Bf) n n, .slice (some Bh) n n, .map (some mw), .map (some me), .slice Q qn qc, .slice O on oc] tWk)
 bef : IS w (some Bf) n (tabK outE es n es.length)
 beh : IS w (some Bh) n (tabK inE es n es.length)
 wir : MI w mw s.1
 edg : MI w me s.2
 que : IS w Q qc (s.1.drop qd)
 ord : IS w O oc s.2
 qln : (s.1.drop qd).length = qn
 oln : s.2.length = on
 qle : qd ≤ s.1.length
 new : ∀ x, OwnK b mw me Q O x → W.heap.size ≤ x
 bfn : W.heap.size ≤ Bf.block ∧ W.heap.size ≤ Bh.block
 off : ¬ OwnK b mw me Q O Bf.block ∧ ¬ OwnK b mw me Q O Bh.block
 qo : ∀ x, x ∈ fpA Q → ¬ x ∈ fpA O
 mne : mw ≠ me
 bel : Below W.heap.size W w
section
variable {W w w' : World} {n : Nat} {es : List Eg} {x1 x2 x3 : Value} {b : Nat} {Bf Bh : Addr} {mw me : Nat} {s : WE} {qd : Nat} {Q O : Option Addr} {qn qc on oc : Nat}
theorem KW.below (h : KW W n es x1 x2 x3 b Bf Bh mw me s qd w Q qn qc O on oc) (hb : Below w.heap.size w w') : KW W n es x1 x2 x3 b Bf Bh mw me s qd w' Q qn qc O on oc :=
 ⟨t_box_below h.box hb, h.bef.below hb, h.beh.below hb, h.wir.below hb, h.edg.below hb, h.que.below hb, h.ord.below hb, h.qln, h.oln, h.qle, h.new, h.bfn, h.off, h.qo, h.mne, below_trans h.bel hb h.bel.size⟩
theorem KW.sep (h : KW W n es x1 x2 x3 b Bf Bh mw me s qd w Q qn qc O on oc) : mw ≠ b ∧ me ≠ b ∧ (∀ x, x ∈ fpA Q → x ≠ b ∧ x ≠ mw ∧ x ≠ me) ∧ ∀ x, x ∈ fpA O → x ≠ b ∧ x ≠ mw ∧ x ≠ me := by
 have key : ∀ {A : Option Addr} {c : Nat} {l : List Int}, IS w A c l → ∀ x, x ∈ fpA A → x ≠ b ∧ x ≠ mw ∧ x ≠ me := fun hI x hx => by
  refine ⟨fun e => ?_, fun e => (h.wir.ne_sl hI hx) e.symm, fun e => (h.edg.ne_sl hI hx) e.symm⟩
  obtain ⟨a, rfl, rfl⟩ := mem_fpA.1 hx
  exact is_ne_box hI h.box (by decide) e
 exact ⟨h.wir.ne_cells h.box, h.edg.ne_cells h.box, key h.que, key h.ord⟩
theorem KW.own_lt (h : KW W n es x1 x2 x3 b Bf Bh mw me s qd w Q qn qc O on oc) {x : Nat} (hx : OwnK b mw me Q O x) : x < w.heap.size := by
 rcases hx with rfl | rfl | rfl | hx | hx
 · exact t_box_lt h.box
 · exact h.wir.lt
 · exact h.edg.lt
 · exact h.que.lt x hx
 · exact h.ord.lt x hx
theorem KW.put (h : KW W n es x1 x2 x3 b Bf Bh mw me s qd w Q qn qc O on oc) {x : Int} (hM : MI w' mw (s.1 ++ [x])) (hk : Keeps (fun k => k = mw) w w') :
  w'.heap[b]? = some (.cells #[.int .i64 (n : Int), x1, x2, x3, .slice (some Bf) n n, .slice (some Bh) n n, .map (some mw), .map (some me), .slice Q qn qc, .slice O on oc] tWk) ∧ IS w' Q qc (s.1.drop qd) ∧
  ∀ (w1 : World) (Q' : Option Addr) (c' : Nat), IS w1 Q' c' (s.1.drop qd ++ [x]) → (∀ b, b ∈ fpA Q' → b ∈ fpA Q ∨ w'.heap.size ≤ b) → Keeps (· ∈ fpA Q) w' w1 →
    w1.heap[b]? = some (.cells #[.int .i64 (n : Int), x1, x2, x3, .slice (some Bf) n n, .slice (some Bh) n n, .map (some mw), .map (some me), .slice Q qn qc, .slice O on oc] tWk) ∧
    KW W n es x1 x2 x3 b Bf Bh mw me (s.1 ++ [x], s.2) qd (w1.setCell ⟨b, 8, none⟩ (.slice Q' (qn + 1) c')) Q' (qn + 1) c' O on oc ∧ StepK b mw me w Q O (w1.setCell ⟨b, 8, none⟩ (.slice Q' (qn + 1) c')) Q' O := by
 obtain ⟨s1, s2, s3, s4⟩ := h.sep
 have hb1 := t_box_keeps h.box hk (fun e => s1 e.symm)
 have hq1 := h.que.keeps hk fun x hx e => (s3 x hx).2.1 e
 have ho1 := h.ord.keeps hk fun x hx e => (s4 x hx).2.1 e
 have hf1 := h.bef.keeps hk fun x hx e => h.off.1 (.inr (.inl ((by simpa using hx : x = Bf.block).symm.trans e)))
 have hh1 := h.beh.keeps hk fun x hx e => h.off.2 (.inr (.inl ((by simpa using hx : x = Bh.block).symm.trans e)))
 have he1 := h.edg.keeps hk (fun e => h.mne e.symm)
 refine ⟨hb1, hq1, fun w1 Q' c' hI hQ hk1 => ?_⟩
 have hz := hk.size
 have hb2 := t_box_keeps hb1 hk1 (fun hx => (s3 _ hx).1 rfl)
 obtain ⟨t1, t2⟩ := set10_8 (x := .slice Q' (qn + 1) c') hb2
 have hQn : ∀ x, x ∈ fpA Q' → x ∈ fpA Q ∨ w.heap.size ≤ x := fun x hx => (hQ x hx).imp id fun h1 => Nat.le_trans hz h1
 have hltO : ∀ x, x ∈ fpA O → x < w.heap.size := fun x hx => h.ord.lt x hx
 have hown : ∀ x, OwnK b mw me Q' O x → OwnK b mw me Q O x ∨ w.heap.size ≤ x := fun x hx => by
  rcases hx with hx | hx | hx | hx | hx
  · exact .inl (.inl hx)
  · exact .inl (.inr (.inl hx))
  · exact .inl (.inr (.inr (.inl hx)))
  · exact (hQn x hx).imp (fun h1 => .inr (.inr (.inr (.inl h1)))) id
  · exact .inl (.inr (.inr (.inr (.inr hx))))
 have hK : Keeps (OwnK b mw me Q O) w (w1.setCell ⟨b, 8, none⟩ (.slice Q' (qn + 1) c')) := ((hk.mono (T := OwnK b mw me Q O) fun x _ e => .inr (.inl e)).trans (hk1.mono fun x _ e => .inr (.inr (.inr (.inl e))))).trans (t2.mono fun x _ e => .inl e)
 have hbf := h.bef.lt Bf.block (by simp)
 have hbh := h.beh.lt Bh.block (by simp)
 have hQ0 : ∀ x, x ∈ fpA Q' → x ≠ b := fun x hx e => by
  rcases hQn x hx with h1 | h1
  · exact (s3 x h1).1 e
  · have := t_box_lt h.box; omega
 have hnotQ : ∀ x, ¬ OwnK b mw me Q O x → ¬ x ∈ fpA Q ∧ ¬ x = b := fun x hx => ⟨fun e => hx (.inr (.inr (.inr (.inl e)))), fun e => hx (.inl e)⟩
 have hbfe : ∀ x, x ∈ fpA (some Bf) → x = Bf.block := fun x hx => by simpa using hx
 have hbhe : ∀ x, x ∈ fpA (some Bh) → x = Bh.block := fun x hx => by simpa using hx
 have hMl := hM.lt
 have hMk := (hM.keeps hk1 fun hx => (s3 _ hx).2.1 rfl).keeps t2 s1
 refine ⟨hb2, ⟨t1, (hf1.keeps hk1 fun x hx e => ?_).keeps t2 fun x hx e => ?_, (hh1.keeps hk1 fun x hx e => ?_).keeps t2 fun x hx e => ?_, hMk, (he1.keeps hk1 fun hx => (s3 _ hx).2.2 rfl).keeps t2 s2, ?_, (ho1.keeps hk1 fun x hx e => h.qo x e hx).keeps t2 fun x hx e => (s4 x hx).1 e, ?_, h.oln, ?_, fun x hx => ?_, h.bfn, ⟨fun hx => ?_, fun hx => ?_⟩, fun x hx hO => ?_, h.mne, ?_⟩, hK, hown⟩
 · rw [hbfe x hx] at e; exact (hnotQ _ h.off.1).1 e
 · rw [hbfe x hx] at e; exact (hnotQ _ h.off.1).2 e
 · rw [hbhe x hx] at e; exact (hnotQ _ h.off.2).1 e
 · rw [hbhe x hx] at e; exact (hnotQ _ h.off.2).2 e
 · show IS _ Q' c' ((s.1 ++ [x]).drop qd)
   rw [List.drop_append_of_le_length h.qle]
   exact hI.keeps t2 fun x hx e => hQ0 x hx e
 · show ((s.1 ++ [x]).drop qd).length = _
   rw [List.drop_append_of_le_length h.qle, List.length_append, h.qln]
   rfl
 · show qd ≤ (s.1 ++ [x]).length
   rw [List.length_append]
   have := h.qle
   omega
 · rcases hown x hx with h1 | h1
   · exact h.new x h1
   · have := h.bel.size; omega
 · rcases hown _ hx with h1 | h1
   · exact h.off.1 h1
   · omega
 · rcases hown _ hx with h1 | h1
   · exact h.off.2 h1
   · omega
 · rcases hQn x hx with h1 | h1
   · exact h.qo x h1 hO
   · have := hltO x hO; omega
 · exact below_keeps h.bel hK h.bel.size h.new
end
set_option maxRecDepth 100000 in
set_option maxHeartbeats 8000000 in
theorem wire_any {W : World} {n : Nat} {es : List Eg} {x1 x2 x3 : Value} {b : Nat} {Bf Bh : Addr} {mw me : Nat} {s : WE} {qd : Nat} {Q O : Option Addr} {qn qc on oc : Nat} (x : Int) (w : World)
  (h : KW W n es x1 x2 x3 b Bf Bh mw me s qd w Q qn qc O on oc) (hn : n ≤ 100) (hnd : s.1.Nodup) (hr : ∀ y, y ∈ s.1 → 0 ≤ y ∧ y < (n : Int)) (hx : 0 ≤ x ∧ x < (n : Int)) :
  Calls Tryz.prog 72 #[.pointer (some ⟨b, 0, none⟩), .int .i64 x] w fun e w' => e = .returned (.tuple #[]) ∧ ∃ (Q' : Option Addr) (qn' qc' : Nat), KW W n es x1 x2 x3 b Bf Bh mw me (giveL s.1 [x], s.2) qd w' Q' qn' qc' O on oc ∧ StepK b mw me w Q O w' Q' O := by
 have hwf : (Lit.int .i64 x).wf = true := WalkArith.wf_i64 (by omega)
 have hle : s.1.length ≤ n := nodup_le hnd hr
 have hqn : qn ≤ n := by rw [← h.qln, List.length_drop]; omega
 obtain ⟨⟨c0, c1, c2, c3, c4, c5, c6, c7, c8, c9⟩, f8, f9⟩ := box10 h.box
 have hMI := h.wir
 by_cases hm : x ∈ s.1
 · have hg : giveL s.1 [x] = s.1 := by rw [giveL_one, if_pos (by simpa using hm)]
   rw [hg]
   have h_h := lH h; have hMI_h := lH hMI; have hnd_h := lH hnd; have hm_h := lH hm; have hg_h := lH hg; have hr_h := lH hr; clear h hMI hnd hm hg hr
   go_enter Tryz.func72, Tryz.ntmps72
   go_wp2_with (at_lookup; refine wp_mi_ok rfl _ _ rfl rfl hMI_h.out hnd_h.out x rfl hwf true (decide_eq_true hm_h.out) ?_)
   go_end0
   exact ⟨rfl, Q, qn, qc, h_h.out, StepK.refl _ _ _ _ _ _⟩
 · have hg : giveL s.1 [x] = s.1 ++ [x] := by rw [giveL_one, if_neg (by simpa using hm)]
   rw [hg]
   obtain ⟨q, hq⟩ : ∃ q, s.1.length = q := ⟨_, rfl⟩
   rw [hq] at hle
   have h_h := lH h; have hMI_h := lH hMI; have hnd_h := lH hnd; have hm_h := lH hm; have hg_h := lH hg; have hr_h := lH hr; have hq_h := lH hq; clear h hMI hnd hm hg hr hq
   go_enter Tryz.func72, Tryz.ntmps72
   go_wp2_with (at_lookup; refine wp_mi_ok rfl _ _ rfl rfl hMI_h.out hnd_h.out x rfl hwf false (decide_eq_false hm_h.out) ?_)
   refine beginZw 10 (fun w' => w'.heap[b]? = some (.cells #[.int .i64 (n : Int), x1, x2, x3, .slice (some Bf) n n, .slice (some Bh) n n, .map (some mw), .map (some me), .slice Q qn qc, .slice O on oc] tWk) ∧ MI w' mw s.1) (by kernel_rfl) (fun W1 hW1 => ?_)
   have hbd : Below w.heap.size w W1 := by rw [hW1]; exact below_drewN (Below.refl _ _) 1
   have h1 := h_h.out.below hbd
   clear hW1 c0 c1 c2 c3 c4 c5 c6 c7 c8 c9 f8 f9; have h1_h := lH h1; have hbd_h := lH hbd; clear h1 hbd
   refine tkC 0 ?_ rfl (⟨h1_h.out.box, h1_h.out.wir⟩ : _ ∧ _) (fun W' hW' => ?_) ?_; rotate_left; · (obtain ⟨⟨c0, c1, c2, c3, c4, c5, c6, c7, c8, c9⟩, f8, f9⟩ := box10 hW'.1; have hlen := fun ty => hW'.2.len hnd_h.out ty; rw [hq_h.out] at hlen; clear hW'; go_simp; first | done | with_reducible rfl)
   simp only [Act.put, nS]
   refine tkC 1 ?_ rfl (⟨h1_h.out.box, h1_h.out.wir⟩ : _ ∧ _) (fun W' hW' => ?_) ?_; rotate_left; · (obtain ⟨⟨c0, c1, c2, c3, c4, c5, c6, c7, c8, c9⟩, f8, f9⟩ := box10 hW'.1; have hlen := fun ty => hW'.2.len hnd_h.out ty; rw [hq_h.out] at hlen; clear hW'; go_simp; first | done | with_reducible rfl)
   simp only [Act.put, nS]
   refine tkC 2 ?_ rfl (⟨h1_h.out.box, h1_h.out.wir⟩ : _ ∧ _) (fun W' hW' => ?_) ?_; rotate_left; · (obtain ⟨⟨c0, c1, c2, c3, c4, c5, c6, c7, c8, c9⟩, f8, f9⟩ := box10 hW'.1; have hlen := fun ty => hW'.2.len hnd_h.out ty; rw [hq_h.out] at hlen; clear hW'; go_simp; first | done | with_reducible rfl)
   simp only [Act.put, nS]
   refine tkC 3 ?_ rfl (⟨h1_h.out.box, h1_h.out.wir⟩ : _ ∧ _) (fun W' hW' => ?_) ?_; rotate_left; · (obtain ⟨⟨c0, c1, c2, c3, c4, c5, c6, c7, c8, c9⟩, f8, f9⟩ := box10 hW'.1; have hlen := fun ty => hW'.2.len hnd_h.out ty; rw [hq_h.out] at hlen; clear hW'; go_simp; first | done | with_reducible rfl)
   simp only [Act.put, nS]
   refine tkC 4 ?_ rfl (⟨h1_h.out.box, h1_h.out.wir⟩ : _ ∧ _) (fun W' hW' => ?_) ?_; rotate_left; · (obtain ⟨⟨c0, c1, c2, c3, c4, c5, c6, c7, c8, c9⟩, f8, f9⟩ := box10 hW'.1; have hlen := fun ty => hW'.2.len hnd_h.out ty; rw [hq_h.out] at hlen; clear hW'; go_simp; first | done | with_reducible rfl)
   simp only [Act.put, nS]
   refine tkC 5 ?_ rfl (⟨h1_h.out.box, h1_h.out.wir⟩ : _ ∧ _) (fun W' hW' => ?_) ?_; rotate_left; · (obtain ⟨⟨c0, c1, c2, c3, c4, c5, c6, c7, c8, c9⟩, f8, f9⟩ := box10 hW'.1; have hlen := fun ty => hW'.2.len hnd_h.out ty; rw [hq_h.out] at hlen; clear hW'; go_simp; first | done | with_reducible rfl)
   simp only [Act.put, nS]
   refine tkC 6 ?_ rfl (⟨h1_h.out.box, h1_h.out.wir⟩ : _ ∧ _) (fun W' hW' => ?_) ?_; rotate_left; · (obtain ⟨⟨c0, c1, c2, c3, c4, c5, c6, c7, c8, c9⟩, f8, f9⟩ := box10 hW'.1; have hlen := fun ty => hW'.2.len hnd_h.out ty; rw [hq_h.out] at hlen; clear hW'; go_simp; first | done | with_reducible rfl)
   simp only [Act.put, nS]
   refine tkC 7 ?_ rfl (⟨h1_h.out.box, h1_h.out.wir⟩ : _ ∧ _) (fun W' hW' => ?_) ?_; rotate_left; · (obtain ⟨⟨c0, c1, c2, c3, c4, c5, c6, c7, c8, c9⟩, f8, f9⟩ := box10 hW'.1; have hlen := fun ty => hW'.2.len hnd_h.out ty; rw [hq_h.out] at hlen; clear hW'; go_simp; first | done | with_reducible rfl)
   simp only [Act.put, nS]
   refine tkC 8 ?_ rfl (⟨h1_h.out.box, h1_h.out.wir⟩ : _ ∧ _) (fun W' hW' => ?_) ?_; rotate_left; · (obtain ⟨⟨c0, c1, c2, c3, c4, c5, c6, c7, c8, c9⟩, f8, f9⟩ := box10 hW'.1; have hlen := fun ty => hW'.2.len hnd_h.out ty; rw [hq_h.out] at hlen; clear hW'; go_simp; first | done | with_reducible rfl)
   simp only [Act.put, nS]
   refine tkC 9 ?_ rfl (⟨h1_h.out.box, h1_h.out.wir⟩ : _ ∧ _) (fun W' hW' => ?_) ?_; rotate_left; · (obtain ⟨⟨c0, c1, c2, c3, c4, c5, c6, c7, c8, c9⟩, f8, f9⟩ := box10 hW'.1; have hlen := fun ty => hW'.2.len hnd_h.out ty; rw [hq_h.out] at hlen; clear hW'; go_simp; first | done | with_reducible rfl)
   simp only [Act.put, nS]
   obtain ⟨w2, hrun, hM2, hk2⟩ := h1_h.out.wir.put (y := x) (q := (q : Int)) (by rw [hq_h.out]; unfold maxLen; omega) hwf (by rw [hq_h.out])
   obtain ⟨hb2, hq2, hfin⟩ := h1_h.out.put hM2 hk2
   have hsl : Sl (w2.alloc (.cells #[.int .i64 x] tInt)) tInt 1 Q qn qc (ints (s.1.drop qd)) := by
    have := hq2
    unfold IS at this
    rw [h1_h.out.qln] at this
    exact this.alloc _
   have hbel1 := hbd_h.out
   have hbx3 := t_box_below hb2 (t_below_alloc w2 (.cells #[.int .i64 x] tInt))
   clear hM2 hq2; have hk2_h := lH hk2; have hb2_h := lH hb2; have hfin_h := lH hfin; have hsl_h := lH hsl; have hbx3_h := lH hbx3; clear hk2 hb2 hfin hsl hbx3
   refine oneZ 10 rfl (by kernel_rfl) (by rfl) (fun K hK => ?_)
   go_simp
   refine hK _ _ (fun h => by cases h) ?_
   clear hK K hrun
   refine doneZ (by kernel_rfl) ?_
   obtain ⟨⟨c0, c1, c2, c3, c4, c5, c6, c7, c8, c9⟩, f8, f9⟩ := box10 hb2_h.out
   obtain ⟨⟨y0, y1, y2, y3, y4, y5, y6, y7, y8, y9⟩, g8, g9⟩ := box10 hbx3_h.out
   go_wp2_with (at_builtin; refine wpList_append_Sl _ rfl _ _ _ rfl 3 Tryz.underlying23 info_int rfl (by omega) rfl hsl_h.out rfl (news := [.int .i64 x]) rfl (Sl.rdc (Sl.laid w2 3 1 1 #[.int .i64 x] (by unfold maxLen; omega) rfl)) (by intro u hu; simp at hu; subst hu; rfl) (by unfold maxLen; omega) (by omega) ?_; intro A5 cap5 w3 hs3 hA3 hk3; have hI3 : IS w3 A5 cap5 (s.1.drop qd ++ [x]) := (by unfold IS; rw [List.length_append, h_h.out.qln, show ints (s.1.drop qd ++ [x]) = ints (s.1.drop qd) ++ [.int .i64 x] by simp [ints]]; exact hs3); obtain ⟨hb3, hKW, hSt⟩ := hfin_h.out _ _ _ hI3 (fun b hb => (hA3 b hb).imp id fun h => Nat.le_trans (t_below_alloc w2 (.cells #[.int .i64 x] tInt)).size h) (((Keeps.refl _ w2).alloc _).trans hk3); clear hs3 hA3 hk3 hI3 c0 c1 c2 c3 c4 c5 c6 c7 c8 c9 f8 f9 y0 y1 y2 y3 y4 y5 y6 y7 y8 y9 g8 g9; obtain ⟨⟨z0, z1, z2, z3, z4, z5, z6, z7, z8, z9⟩, e8, e9⟩ := box10 hb3; have hKW_h := lH hKW; have hSt_h := lH hSt; clear hKW hSt hb3)
   go_end0
   exact ⟨rfl, A5, qn + 1, _, hKW_h.out, ⟨(Keeps.of_below hbd_h.out _).trans hSt_h.out.1, fun x hx => (hSt_h.out.2 x hx).imp id fun h => Nat.le_trans hbd_h.out.size h⟩⟩
theorem rd2 {w : World} {B C : Option Addr} {b c : Nat} {s t : List Int} (hB : RdI w B s) (hC : RdI w C t) : RdR (w.alloc (.cells #[.slice B s.length b, .slice C t.length c] 23)) (some ⟨w.heap.size, 0, none⟩) [(B, b, s), (C, c, t)] := by
 have hx := heap_alloc_new w (.cells #[.slice B s.length b, .slice C t.length c] 23)
 obtain ⟨⟨h0, h1⟩, _⟩ := t_box2 hx
 refine ⟨fun i h hi => ?_, fun h hh => ?_⟩
 · refine ⟨_, rfl, ?_⟩
   match i with
   | 0 => obtain rfl := Option.some.inj hi; exact h0
   | 1 => obtain rfl := Option.some.inj hi; exact h1
   | i + 2 => simp at hi
 · simp at hh
   rcases hh with rfl | rfl
   · exact hB.below (t_below_alloc _ _)
   · exact hC.below (t_below_alloc _ _)
set_option maxRecDepth 100000 in
set_option maxHeartbeats 8000000 in
theorem components_any {v : Value} {g : Gr} (w : World) (n : Nat) (h : RdGr w v g) (hgn : g.1 = (n : Int)) (hv : grB g = true) :
  Calls Tryz.prog 75 #[v] w fun e w' => ∃ A c, e = .returned (.tuple #[.slice A n c, .int .i64 (nrM (clsG g) n : Int)]) ∧ IS w' A c (numM (clsG g)) ∧ Fresh w.heap.size A ∧ Below w.heap.size w w' := by
 obtain ⟨n', e1', hn1, hm60, _, _, hin⟩ := grB_parts hv
 obtain rfl : n' = n := by omega
 have hegB : ∀ e, e ∈ g.2.1 → egB e = true := by
  unfold grB at hv
  simp only [Bool.and_eq_true] at hv
  exact List.all_eq_true.1 hv.2.1
 obtain ⟨C, hC⟩ : ∃ C, C = clsG g := ⟨_, rfl⟩
 rw [← hC]
 have hCK := clsK_all g n' hgn
 rw [← hC] at hCK
 obtain ⟨A, c, hs, ⟨B, b, s⟩, ⟨C', d', t⟩, rfl, e1, e2, e3, hE, hRa, hRb⟩ := h
 obtain ⟨z, es, s0, t0⟩ := g
 have a1 : es = hs.map egOf := e1
 have a4 : z = (n' : Int) := hgn
 subst a4
 have hin2 : inW (n' : Int) (edW es) = true := by
  have : inW (n' : Int) (t_allW ((n' : Int), es, s0, t0)) = true := hin
  unfold t_allW at this
  exact inW_app_right (inW_app_right this)
 have hCls := fun k (hk : k ≤ es.length) => Cls.clsK hin2 k hk
 have hLr : ∀ {k : Nat} {e : Eg} {L : List Int}, es[k]? = some e → L = e.2.2.1 ++ e.2.2.2 → ∀ x, x ∈ L → 0 ≤ x ∧ x < (n' : Int) := fun {k e L} hk hL x hx => by
  have hm := mem_edW_of (List.mem_of_getElem? hk)
  rw [hL] at hx
  rcases List.mem_append.1 hx with hx | hx
  · exact inW_iff.1 hin2 x (hm.1 x hx)
  · exact inW_iff.1 hin2 x (hm.2 x hx)
 have hegB' : ∀ e, e ∈ es → egB e = true := hegB
 obtain ⟨m, hm⟩ : ∃ m, m = hs.length := ⟨_, rfl⟩
 have hLm : es.length = m := by rw [a1, List.length_map, hm]
 have hm60' : es.length ≤ 60 := hm60
 change clsK n' es es.length = C at hCK
 rw [hLm] at hCK hCls hm60'
 obtain ⟨p, hp⟩ : ∃ p, p = s.length := ⟨_, rfl⟩
 obtain ⟨r, hr⟩ : ∃ r, r = t.length := ⟨_, rfl⟩
 show Calls Tryz.prog _ #[.agg #[.int .i64 (n' : Int), .slice A hs.length c, .slice B s.length b, .slice C' t.length d']] w _
 rw [← hm, ← hp, ← hr]
 obtain ⟨n, rfl⟩ : ∃ x, x = n' := ⟨_, rfl⟩
 obtain ⟨W, hW, bW, k0⟩ := (⟨_, rfl, t_below_alloc _ _, heap_alloc_new _ _⟩ : ∃ W, W = w.alloc (.cells #[.int .i64 (n : Int), .slice A m c, .slice B p b, .slice C' r d'] tGr) ∧ Below w.heap.size w W ∧ W.heap[w.heap.size]? = some (.cells #[.int .i64 (n : Int), .slice A m c, .slice B p b, .slice C' r d'] tGr))
 have hU := upTo_any n W (by omega)
 have hZ := fun (W' : World) => t_zeros_any n W' (by omega)
 have hCm := hCls m (Nat.le_refl _)
 rw [hCK] at hCm
 obtain ⟨⟨c0, c1, c2, c3⟩, f0, f1, f2, f3⟩ := t_box4 k0
 clear hRa hRb e1 e2 e3 hgn hv e1' hin hin2 hegB hC; have hE_h := lH hE; have hCK_h := lH hCK; have hCls_h := lH hCls; have hegB'_h := lH hegB'; have hm_h := lH hm; have hLm_h := lH hLm; have a1_h := lH a1; have hp_h := lH hp; have hr_h := lH hr; have bW_h := lH bW; have k0_h := lH k0; have hU_h := lH hU; have hZ_h := lH hZ; have hCm_h := lH hCm; clear hE hCK hCls hegB' hm hLm a1 hp hr bW k0 hU hZ hCm
 go_enter Tryz.func75, Tryz.ntmps75
 go_upto_region 1 with (fail)
 rw [← hW]
 clear hW
 go_wp2_with (fail)
 refine (hU_h.out).mono ?_
 rintro e w1 ⟨G, rfl, hG1, hGb, hb1⟩
 have k1 := t_box_below k0_h.out hb1
 clear c0 c1 c2 c3 f0 f1 f2 f3
 obtain ⟨⟨c0, c1, c2, c3⟩, f0, f1, f2, f3⟩ := t_box4 k1
 have hG1_h := lH hG1; have hb1_h := lH hb1; have k1_h := lH k1; clear hG1 hb1 k1
 go_wp2_with (fail)
 clear c0 c1 c2 c3 f0 f1 f2 f3
 go_loopw [20] (fun i wr => ∃ (k : Nat) (P : List Int), k ≤ m ∧ i = .int .i64 k ∧ IS wr (some G) n P ∧ Par n P (clsK n es k) ∧ Below W.heap.size W wr) (fun i _ => m - (intOf i).toNat)
 case atStart => exact ⟨0, _, Nat.zero_le _, rfl, hG1_h.out, by rw [clsK_zero]; exact Par.id n, hb1_h.out⟩
 case round =>
  clear hG1_h hb1_h k1_h
  obtain ⟨k, Pk, hk, rfl, hIS, hPar, hB1⟩ := hrel
  obtain ⟨wo, rfl⟩ : ∃ x, x = wr := ⟨_, rfl⟩
  have kr := t_box_below k0_h.out hB1
  have hBw := below_trans bW_h.out hB1 bW_h.out.size
  by_cases hlt : k < m
  · obtain ⟨ad, κ, vv, B1, b1, s1, C1, b2, t1, rfl, hn, ⟨d0, d1, d2, d3⟩, hr1, hr2⟩ := (hE_h.out.below hBw).at_ (j := k) (by rw [← hm_h.out]; exact hlt)
    have hek : es[k]? = some (κ, vv, s1, t1) := by rw [a1_h.out, List.getElem?_map, hn]; rfl
    obtain ⟨⟨l1, l2⟩, l3⟩ := egB_len (hegB'_h.out _ (List.mem_of_getElem? hek))
    simp only at l1 l2 l3
    have hClk := hCls_h.out k hk
    have hClk1 := hCls_h.out (k + 1) (by omega)
    rw [clsK_step hek] at hClk1
    obtain ⟨p1, hp1⟩ : ∃ p1, p1 = s1.length := ⟨_, rfl⟩
    obtain ⟨r1, hr1'⟩ : ∃ r1, r1 = t1.length := ⟨_, rfl⟩
    obtain ⟨L, hL⟩ : ∃ L, L = s1 ++ t1 := ⟨_, rfl⟩
    obtain ⟨q, hq⟩ : ∃ q, q = L.length := ⟨_, rfl⟩
    have hqp : q = p1 + r1 := by rw [hq, hL, List.length_append, hp1, hr1']
    have hq1 : 1 ≤ q := by rw [hqp, hp1, hr1']; exact l3
    have hq4 : q ≤ 4 := by rw [hqp, hp1, hr1']; omega
    have hstep := clsK_step (n := n) hek
    simp only [← hL, ← hp1, ← hr1', ← hqp] at hstep hClk1
    have hqp_h := lH hqp; clear hqp
    have hLin : ∀ x, x ∈ L → 0 ≤ x ∧ x < (n : Int) := hLr hek hL
    obtain ⟨a, ha0, han, haL⟩ := getD0_in hLin (by rw [← hq]; omega)
    obtain ⟨W6, hW6, bW6, k6⟩ := (⟨_, rfl, t_below_alloc _ _, heap_alloc_new _ _⟩ : ∃ W, W = wo.alloc (.cells #[.int .i64 κ, .int .i64 vv, .slice B1 p1 b1, .slice C1 r1 b2] tEd) ∧ Below wo.heap.size wo W ∧ W.heap[wo.heap.size]? = some (.cells #[.int .i64 κ, .int .i64 vv, .slice B1 p1 b1, .slice C1 r1 b2] tEd))
    have hJ0 := joined_any (some ⟨W6.heap.size, 0, none⟩) 2 [(B1, b1, s1), (C1, b2, t1)] (W6.alloc (.cells #[.slice B1 s1.length b1, .slice C1 t1.length b2] 23)) (rd2 (hr1.below bW6) (hr2.below bW6)) (by simp) (by simp; omega)
    rw [show (([(B1, b1, s1), (C1, b2, t1)] : List Hd).map fun h : Hd => h.2.2).flatten = L by rw [hL]; simp, ← hp1, ← hr1'] at hJ0
    have hJ : Calls Tryz.prog 52 #[.slice (some ⟨W6.heap.size, 0, none⟩) 2 2] (W6.alloc (.cells #[.slice B1 p1 b1, .slice C1 r1 b2] 23)) (RetI (W6.alloc (.cells #[.slice B1 p1 b1, .slice C1 r1 b2] 23)) L) := hJ0
    unfold RetI at hJ
    have bW7 := t_below_alloc W6 (.cells #[.slice B1 p1 b1, .slice C1 r1 b2] 23)
    rw [← hp1] at d2
    rw [← hr1'] at d3
    obtain ⟨⟨c0, c1, c2, c3⟩, f0, f1, f2, f3⟩ := t_box4 k6
    obtain ⟨⟨y0, y1, y2, y3⟩, g0, g1, g2, g3⟩ := t_box4 kr
    have hr1_h := lH hr1'
    have hkI : (k : Int) < (m : Int) := by omega
    clear hr1' hr1 hr2 hn hJ0 kr; have hJ_h := lH hJ; have hek_h := lH hek; have hp1_h := lH hp1; have bW6_h := lH bW6; have k6_h := lH k6; have hIS_h := lH hIS; have hPar_h := lH hPar; have hB1_h := lH hB1; have hBw_h := lH hBw; have hClk_h := lH hClk; have hClk1_h := lH hClk1; have hL_h := lH hL; have hq_h := lH hq; have hstep_h := lH hstep; have hLin_h := lH hLin; have ha0_h := lH ha0; have haL_h := lH haL; have bW7_h := lH bW7; clear hJ hek hp1 bW6 k6 hIS hPar hB1 hBw hClk hClk1 hL hq hstep hLin ha0 haL bW7
    go_upto_region 5 with (fail)
    rw [← hW6]
    clear hW6 d0 d1 d2 d3 y0 y1 y2 y3 g0 g1 g2 g3
    go_wp2_with (fail)
    refine (hJ_h.out).mono ?_
    rintro e w7 ⟨A7, c7, rfl, hI7, hF7, hb7⟩
    rw [← hq_h.out]
    have hb8 := below_trans bW6_h.out (below_trans bW7_h.out hb7 bW7_h.out.size) bW6_h.out.size
    have hB7 := below_trans hB1_h.out hb8 hB1_h.out.size
    have hG7 := hIS_h.out.below hb8
    have hGl := hIS_h.out.lt G.block (by simp)
    have hA7 : ∀ b, b ∈ fpA A7 → ¬ b ∈ fpA (some G) := fun b hb hb' => by
     have h1 := hF7 b hb
     have h2 := bW6_h.out.size
     have h3 := bW7_h.out.size
     simp at hb'; omega
    obtain ⟨gd, y0', rfl, _⟩ := hI7.at_ (j := 0) (by rw [← hq_h.out]; omega)
    clear c0 c1 c2 c3 f0 f1 f2 f3 hF7 hb7 hb8; have hI7_h := lH hI7; have hB7_h := lH hB7; have hG7_h := lH hG7; have hA7_h := lH hA7; clear hI7 hB7 hG7 hA7
    go_wp2_with (fail)
    go_loopw [32] (fun i wr => ∃ (j : Nat) (P : List Int), j ≤ q ∧ i = .int .i64 j ∧ IS wr (some G) n P ∧ Par n P (clsJ (clsK n es k) L j) ∧ IS wr (some gd) c7 L ∧ Below W.heap.size W wr) (fun i _ => q - (intOf i).toNat)
    case atStart => exact ⟨0, Pk, Nat.zero_le _, rfl, hG7_h.out, by rw [clsJ_zero]; exact hPar_h.out, hI7_h.out, hB7_h.out⟩
    case round =>
     clear hG7_h hI7_h hB7_h
     obtain ⟨j, Pj, hj, rfl, hISj, hParj, hIj, hBj⟩ := hrel
     obtain ⟨wi, rfl⟩ : ∃ x, x = wr := ⟨_, rfl⟩
     by_cases hltj : j < q
     · obtain ⟨x, hx⟩ : ∃ x, L[j]? = some x := ⟨_, List.getElem?_eq_getElem (by rw [← hq_h.out]; exact hltj)⟩
       have hxr := hLin_h.out x (List.mem_of_getElem? hx)
       obtain ⟨bb, rfl⟩ : ∃ bb : Nat, x = (bb : Int) := ⟨x.toNat, by omega⟩
       have hjn := join_any G n a bb Pj _ wi hISj hParj (hClk_h.out.clsJ hLin_h.out j) han (by omega)
       rw [← clsJ_step ha0_h.out hx] at hjn
       obtain ⟨gd0, g0e, y0⟩ := hIj.rd 0 _ haL_h.out
       obtain rfl := Option.some.inj g0e
       have y00 : wi.cell? gd = some (.int .i64 (a : Int)) := y0
       obtain ⟨gd1, g1e, y1⟩ := hIj.rd j _ hx
       obtain rfl := Option.some.inj g1e
       have hjI : (j : Int) < (q : Int) := by omega
       have hq0 : (0 : Int) < (q : Int) := by omega
       clear hISj hParj g0e g1e hxr; have hjn_h := lH hjn; have hx_h := lH hx; have hIj_h := lH hIj; have hBj_h := lH hBj; clear hjn hx hIj hBj
       go_wp2_with (fail)
       refine (hjn_h.out).mono ?_
       rintro e w9 ⟨rfl, P9, hI9, hP9, hk9⟩
       have hI9' := hIj_h.out.keeps hk9 hA7_h.out
       have hB9 := below_keeps hBj_h.out hk9 hBj_h.out.size (fun b hb => by simp at hb; omega)
       clear y0 y00 y1 hk9; have hI9_h := lH hI9; have hP9_h := lH hP9; have hI9'_h := lH hI9'; have hB9_h := lH hB9; clear hI9 hP9 hI9' hB9
       go_wp2_with (fail)
       go_roundw
       case rel => exact ⟨j + 1, P9, by omega, by go_num, hI9_h.out, hP9_h.out, hI9'_h.out, hB9_h.out⟩
       case measure => simp [intOf]; omega
     · obtain rfl : q = j := by omega
       rw [← hstep_h.out] at hParj
       clear hIj; have hISj_h := lH hISj; have hParj_h := lH hParj; have hBj_h := lH hBj; clear hISj hParj hBj
       go_wp2_with (fail)
       go_roundw
       case rel => exact ⟨k + 1, Pj, by omega, by go_num, hISj_h.out, hParj_h.out, hBj_h.out⟩
       case measure => simp [intOf]; omega
  · obtain rfl : m = k := by omega
    rw [hCK_h.out] at hPar
    obtain ⟨⟨y0, y1, y2, y3⟩, g0, g1, g2, g3⟩ := t_box4 kr
    have hZw := hZ_h.out wo
    clear kr; have hIS_h := lH hIS; have hPar_h := lH hPar; have hB1_h := lH hB1; have hBw_h := lH hBw; have hZw_h := lH hZw; clear hIS hPar hB1 hBw hZw
    go_wp2_with (fail)
    refine (hZw_h.out).mono ?_
    rintro e w2 ⟨Z, rfl, hZ0, hZb, hb2⟩
    have hIS2 := hIS_h.out.below hb2
    have hB2 := below_trans hB1_h.out hb2 hB1_h.out.size
    have hGZ : ∀ b, b ∈ fpA (some G) → ¬ b ∈ fpA (some Z) := fun b hb hb' => by
     have := hIS_h.out.lt G.block (by simp)
     simp at hb hb'; omega
    have hWo := hB1_h.out.size
    clear y0 y1 y2 y3 g0 g1 g2 g3 hb2; have hZ0_h := lH hZ0; have hIS2_h := lH hIS2; have hB2_h := lH hB2; have hGZ_h := lH hGZ; clear hZ0 hIS2 hB2 hGZ
    go_wp2_with (fail)
    go_loopw [49, 11] (fun i u wr => ∃ k : Nat, k ≤ n ∧ i = .int .i64 k ∧ u = .int .i64 (nrM C k : Int) ∧ IS wr (some Z) n ((numM C).take k ++ List.replicate (n - k) 0) ∧ IS wr (some G) n Pk ∧ Below W.heap.size W wr) (fun i _ _ => n - (intOf i).toNat)
    case atStart => exact ⟨0, Nat.zero_le _, rfl, rfl, by simpa using hZ0_h.out, hIS2_h.out, hB2_h.out⟩
    case round =>
     clear hZ0_h hIS2_h hB2_h
     obtain ⟨k, hk, rfl, rfl, hIZ, hIG, hBk⟩ := hrel
     obtain ⟨wi, rfl⟩ : ∃ x, x = wr := ⟨_, rfl⟩
     have hnl : (numM C).length = n := by rw [numM_length, hCm_h.out.len]
     by_cases hlt : k < n
     · have hroot := root_any G n k Pk C wi hIG.rd hPar_h.out hlt
       obtain ⟨hr0, hrk⟩ := hCm_h.out.le k hlt
       obtain ⟨u, hu⟩ : ∃ u : Nat, C.getD k 0 = (u : Int) := ⟨(C.getD k 0).toNat, by omega⟩
       have hfu := hCm_h.out.fix k hlt
       rw [hu] at hroot hr0 hrk hfu
       rw [Int.toNat_natCast] at hfu
       have hnk := numM_at hCm_h.out hlt hu
       have htk := numM_take hnk
       have hlenZ : ((numM C).take k ++ List.replicate (n - k) (0 : Int)).length = n := by rw [List.length_append, List.length_take, List.length_replicate, hnl]; omega
       have hstep : ((numM C).take k ++ List.replicate (n - k) (0 : Int)).set k (nrM C u : Int) = (numM C).take (k + 1) ++ List.replicate (n - (k + 1)) 0 := by
        rw [htk]; exact set_rep_step _ _ _ (by rw [List.length_take, hnl]; omega) hlt
       have hset := hIZ.set (ad := Z) rfl (j := k) (nrM C u : Int) (by rw [hlenZ]; exact hlt)
       rw [hstep] at hset
       have hks : Keeps (· ∈ fpA (some Z)) wi (wi.setCell (Z.add k) (.int .i64 (nrM C u : Int))) := Keeps.setCell (S := (· ∈ fpA (some Z))) (Keeps.refl _ wi) (p := Z.add k) (by rw [block_of_add]; simp) _
       have hIG2 := hIG.keeps hks hGZ_h.out
       have hBk2 := below_keeps hBk hks hBk.size (fun b hb => by simp at hb; omega)
       obtain ⟨zd, z0, ze, _, _, zc, zf⟩ := hIZ.at_ (j := k) (by rw [hlenZ]; exact hlt)
       obtain rfl := Option.some.inj ze
       have zfk := zf k
       have hkI : (k : Int) < (n : Int) := by omega
       have hle := nrM_le C k
       by_cases huk : u < k
       · have huI : (u : Int) < (k : Int) := by omega
         have hsk : nrM C (k + 1) = nrM C k := nrM_skip (by rw [hu]; omega)
         have hnu := numM_at hCm_h.out (k := u) (r := u) (by omega) hfu
         have hzu : ((numM C).take k ++ List.replicate (n - k) (0 : Int))[u]? = some (nrM C u : Int) := by
          rw [List.getElem?_append_left (by rw [List.length_take, hnl]; omega), List.getElem?_take_of_lt huk]; exact hnu
         obtain ⟨zd2, ze2, zcu⟩ := hIZ.rd u _ hzu
         obtain rfl := Option.some.inj ze2
         have huI2 : (u : Int) < (n : Int) := by omega
         clear zf hnk htk hstep hnl hlenZ hIZ hIG hks ze ze2 hfu hr0 hrk; have hroot_h := lH hroot; have hset_h := lH hset; have hIG2_h := lH hIG2; have hBk2_h := lH hBk2; have hsk_h := lH hsk; have hu_h := lH hu; have hnu_h := lH hnu; have hzu_h := lH hzu; clear hroot hset hIG2 hBk2 hsk hu hnu hzu
         go_wp2_with (fail)
         refine (hroot_h.out).mono ?_
         rintro e w' ⟨rfl, rfl⟩
         go_wp2_with (fail)
         go_roundw
         case rel => exact ⟨k + 1, by omega, by go_num, by rw [hsk_h.out], hset_h.out, hIG2_h.out, hBk2_h.out⟩
         case measure => simp [intOf]; omega
       · obtain rfl : u = k := by omega
         have hsk : nrM C (u + 1) = nrM C u + 1 := nrM_new hu
         have huI : ¬ (u : Int) < (u : Int) := by omega
         clear zf hnk htk hstep hnl hlenZ hIZ hIG hks ze hfu hr0 hrk; have hroot_h := lH hroot; have hset_h := lH hset; have hIG2_h := lH hIG2; have hBk2_h := lH hBk2; have hsk_h := lH hsk; have hu_h := lH hu; clear hroot hset hIG2 hBk2 hsk hu
         go_wp2_with (fail)
         refine (hroot_h.out).mono ?_
         rintro e w' ⟨rfl, rfl⟩
         go_wp2_with (fail)
         go_roundw
         case rel => exact ⟨u + 1, by omega, by go_num, by rw [hsk_h.out]; go_num, hset_h.out, hIG2_h.out, hBk2_h.out⟩
         case measure => simp [intOf]; omega
     · obtain rfl : n = k := by omega
       rw [List.take_of_length_le (by omega), Nat.sub_self, List.replicate_zero, List.append_nil] at hIZ
       have hBz := below_trans bW_h.out hBk bW_h.out.size
       have hFz : Fresh w.heap.size (some Z) := fun b hb => by
        have := bW_h.out.size
        simp at hb; omega
       clear hIG hBk hnl; have hIZ_h := lH hIZ; have hBz_h := lH hBz; have hFz_h := lH hFz; clear hIZ hBz hFz
       go_wp2_with (fail)
       go_ret2
       exact ⟨some Z, n, rfl, hIZ_h.out, hFz_h.out, hBz_h.out⟩
end Go.Proofs.YtpkmjenoniedjaaGreat
