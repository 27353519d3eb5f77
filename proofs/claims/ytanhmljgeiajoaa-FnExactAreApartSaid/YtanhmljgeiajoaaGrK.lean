/-
  THE WALK: impl.Graph.isGraph.
-/
import Derived.Test.YtanhmljgeiajoaaGrJ
namespace Go.Proofs.Ytanhmljgeiajoaa
open Go.RowKit

theorem egH_eg (k v : Int) (l m : List Int) : egH k v l.length m.length = egB (k, v, l, m) := rfl
theorem madeSeen (n : Nat) : bls (List.replicate n false) = bls (seenM n []) := by rw [seenM_nil]
set_option maxRecDepth 100000 in
set_option maxHeartbeats 8000000 in
theorem isGraph_any {v : Value} {g : Gr} (w : World) (h : RdGr w v g) (ok : OkG g) :
    Calls Try.prog 48 #[v] w fun e w' => e = .returned (.bool (grB g)) ∧ Below w.heap.size w w' := by
  have hG0 := h
  obtain ⟨A, c, hs, ⟨B, b, s⟩, ⟨C, d, t⟩, rfl, e1, e2, e3, hE, hRa, hRb⟩ := h
  obtain ⟨z, es, s0, t0⟩ := g
  have a1 : es = hs.map egOf := e1
  have a2 : s = s0 := e2
  have a3 : t = t0 := e3
  subst a2 a3
  have hok := ok
  have hlen1 : es.length ≤ 1048576 := ok.1.1
  have hlen2 : s.length ≤ 1048576 := ok.1.2.1
  have hlen3 : t.length ≤ 1048576 := ok.1.2.2
  have hlE : ∀ x, x ∈ hs → x.2.2.1.2.2.length ≤ 1048576 ∧ x.2.2.2.2.2.length ≤ 1048576 := fun x hx => ok.2.1 _ (by show egOf x ∈ es; rw [a1]; exact List.mem_map_of_mem hx)
  obtain ⟨D, hD⟩ : ∃ D, D = grB (z, es, s, t) := ⟨_, rfl⟩
  have hDD := hD
  unfold grB at hDD
  simp only [Bool.and_assoc] at hDD
  rw [← hD]
  obtain ⟨m, hm⟩ : ∃ m, m = hs.length := ⟨_, rfl⟩
  obtain ⟨p, hp⟩ : ∃ p, p = s.length := ⟨_, rfl⟩
  obtain ⟨r, hr⟩ : ∃ r, r = t.length := ⟨_, rfl⟩
  have hmes : es.length = m := by rw [a1, List.length_map, hm]
  have hRa0 : RdI w B s := hRa
  have hRb0 : RdI w C t := hRb
  rw [hmes, ← hp, ← hr] at hDD
  change RdGr w (.agg #[.int .i64 z, .slice A hs.length c, .slice B s.length b, .slice C t.length d]) (z, es, s, t) at hG0
  rw [← hm, ← hp, ← hr] at hG0
  show Calls Try.prog _ #[.agg #[.int .i64 z, .slice A hs.length c, .slice B s.length b, .slice C t.length d]] w _
  rw [← hm, ← hp, ← hr]
  obtain ⟨W, hW, bW, k0⟩ := (⟨_, rfl, below_alloc _ _, heap_alloc_new _ _⟩ : ∃ W, W = w.alloc (.cells #[.int .i64 z, .slice A m c, .slice B p b, .slice C r d] tGr) ∧ Below w.heap.size w W ∧ W.heap[w.heap.size]? = some (.cells #[.int .i64 z, .slice A m c, .slice B p b, .slice C r d] tGr))
  obtain ⟨⟨c0, c1, c2, c3⟩, f0, f1, f2, f3⟩ := box4 k0
  have hI := fun (W : World) => within_any z 0 100 W
  clear hRa hRb ok e1 e2 e3 hRa0 hRb0
  by_cases h0 : inB z 0 100 = true
  case neg =>
    have h0' : inB z 0 100 = false := by simpa using h0
    obtain rfl : D = false := by rw [hDD, h0']; rfl
    simp only [h0'] at hI
    clear h0 h0'
    have hI_h := Lib.hid hI
    have k0_h := Lib.hid k0
    have bW_h := Lib.hid bW
    have hm_h := Lib.hid hm
    have hp_h := Lib.hid hp
    have hr_h := Lib.hid hr
    have hD_h := Lib.hid hD
    have hDD_h := Lib.hid hDD
    have hmes_h := Lib.hid hmes
    have hlE_h := Lib.hid hlE
    have hok_h := Lib.hid hok
    have a1_h := Lib.hid a1
    have hE_h := Lib.hid hE
    have hG0_h := Lib.hid hG0
    clear hI k0 bW hm hp hr hD hDD hmes hlE hok a1 hE hG0
    go_enter Try.func48, Try.ntmps48
    go_upto_region 1 with (fail)
    rw [← hW]
    clear hW
    go_wp2_with (fail)
    refine (hI_h.out _).mono ?_
    rintro e w1 ⟨rfl, rfl⟩
    go_wp2_with (fail)
    go_ret
    exact ⟨rfl, bW_h.out⟩
  have hz : 0 ≤ z ∧ z ≤ 100 := of_decide_eq_true h0
  simp only [h0] at hI
  rw [h0, Bool.true_and] at hDD
  clear h0
  have wz : IntKind.i64.wrap (z - 1) = z - 1 := IntWalk.i64_in _ (by omega)
  by_cases h1 : m ≤ 60
  case neg =>
    obtain rfl : D = false := by rw [hDD, decide_eq_false h1]; rfl
    have h1' : ¬ ((m : Int) ≤ 60) := by omega
    have hI_h := Lib.hid hI
    have k0_h := Lib.hid k0
    have bW_h := Lib.hid bW
    have hm_h := Lib.hid hm
    have hp_h := Lib.hid hp
    have hr_h := Lib.hid hr
    have hD_h := Lib.hid hD
    have hDD_h := Lib.hid hDD
    have hmes_h := Lib.hid hmes
    have hlE_h := Lib.hid hlE
    have hok_h := Lib.hid hok
    have a1_h := Lib.hid a1
    have hE_h := Lib.hid hE
    have hG0_h := Lib.hid hG0
    clear hI k0 bW hm hp hr hD hDD hmes hlE hok a1 hE hG0
    go_enter Try.func48, Try.ntmps48
    go_upto_region 1 with (fail)
    rw [← hW]
    clear hW
    go_wp2_with (fail)
    refine (hI_h.out _).mono ?_
    rintro e w1 ⟨rfl, rfl⟩
    go_wp2_with (fail)
    go_ret
    exact ⟨rfl, bW_h.out⟩
  rw [decide_eq_true h1, Bool.true_and] at hDD
  have h1' : (m : Int) ≤ 60 := by omega
  by_cases h2 : p ≤ 12
  case neg =>
    obtain rfl : D = false := by rw [hDD, decide_eq_false h2]; rfl
    have h2' : ¬ ((p : Int) ≤ 12) := by omega
    have hI_h := Lib.hid hI
    have k0_h := Lib.hid k0
    have bW_h := Lib.hid bW
    have hm_h := Lib.hid hm
    have hp_h := Lib.hid hp
    have hr_h := Lib.hid hr
    have hD_h := Lib.hid hD
    have hDD_h := Lib.hid hDD
    have hmes_h := Lib.hid hmes
    have hlE_h := Lib.hid hlE
    have hok_h := Lib.hid hok
    have a1_h := Lib.hid a1
    have hE_h := Lib.hid hE
    have hG0_h := Lib.hid hG0
    clear hI k0 bW hm hp hr hD hDD hmes hlE hok a1 hE hG0
    go_enter Try.func48, Try.ntmps48
    go_upto_region 1 with (fail)
    rw [← hW]
    clear hW
    go_wp2_with (fail)
    refine (hI_h.out _).mono ?_
    rintro e w1 ⟨rfl, rfl⟩
    go_wp2_with (fail)
    go_ret
    exact ⟨rfl, bW_h.out⟩
  rw [decide_eq_true h2, Bool.true_and] at hDD
  have h2' : (p : Int) ≤ 12 := by omega
  by_cases h3 : r ≤ 12
  case neg =>
    obtain rfl : D = false := by rw [hDD, decide_eq_false h3]; rfl
    have h3' : ¬ ((r : Int) ≤ 12) := by omega
    have hI_h := Lib.hid hI
    have k0_h := Lib.hid k0
    have bW_h := Lib.hid bW
    have hm_h := Lib.hid hm
    have hp_h := Lib.hid hp
    have hr_h := Lib.hid hr
    have hD_h := Lib.hid hD
    have hDD_h := Lib.hid hDD
    have hmes_h := Lib.hid hmes
    have hlE_h := Lib.hid hlE
    have hok_h := Lib.hid hok
    have a1_h := Lib.hid a1
    have hE_h := Lib.hid hE
    have hG0_h := Lib.hid hG0
    clear hI k0 bW hm hp hr hD hDD hmes hlE hok a1 hE hG0
    go_enter Try.func48, Try.ntmps48
    go_upto_region 1 with (fail)
    rw [← hW]
    clear hW
    go_wp2_with (fail)
    refine (hI_h.out _).mono ?_
    rintro e w1 ⟨rfl, rfl⟩
    go_wp2_with (fail)
    go_ret
    exact ⟨rfl, bW_h.out⟩
  rw [decide_eq_true h3, Bool.true_and] at hDD
  have h3' : (r : Int) ≤ 12 := by omega
  have hI_h := Lib.hid hI
  have k0_h := Lib.hid k0
  have bW_h := Lib.hid bW
  have hm_h := Lib.hid hm
  have hp_h := Lib.hid hp
  have hr_h := Lib.hid hr
  have hD_h := Lib.hid hD
  have hDD_h := Lib.hid hDD
  have hmes_h := Lib.hid hmes
  have hlE_h := Lib.hid hlE
  have hok_h := Lib.hid hok
  have a1_h := Lib.hid a1
  have hE_h := Lib.hid hE
  have hG0_h := Lib.hid hG0
  clear hI k0 bW hm hp hr hD hDD hmes hlE hok a1 hE hG0
  go_enter Try.func48, Try.ntmps48
  go_upto_region 1 with (fail)
  rw [← hW]
  clear hW
  go_wp2_with (fail)
  refine (hI_h.out _).mono ?_
  rintro e w1 ⟨rfl, rfl⟩
  obtain ⟨W, rfl⟩ : ∃ x, x = w1 := ⟨_, rfl⟩
  go_wp2_with (fail)
  clear c0 c1 c2 c3 f0 f1 f2 f3
  go_loopw [33] (fun i wr => ∃ k : Nat, k ≤ m ∧ i = .int .i64 k ∧ (es.take k).all egB = true ∧ Below W.heap.size W wr) (fun i _ => m - (intOf i).toNat)
  case atStart => exact ⟨0, Nat.zero_le _, rfl, by simp, Below.refl _ _⟩
  case round =>
    obtain ⟨k, hk, rfl, hall, hB1⟩ := hrel
    have kr := box_below k0_h.out hB1
    have hBw := below_trans bW_h.out hB1 bW_h.out.size
    by_cases hlt : k < m
    · obtain ⟨ad, κ, vv, B1, b1, s1, C1, b2, t1, rfl, hn, ⟨d0, d1, d2, d3⟩, hr1, hr2⟩ := (hE_h.out.below hBw).at_ (j := k) (by rw [← hm_h.out]; exact hlt)
      have hek : es[k]? = some (κ, vv, s1, t1) := by rw [a1_h.out, List.getElem?_map, hn]; rfl
      have hln := hlE_h.out _ (List.mem_of_getElem? hn)
      obtain ⟨wo, rfl⟩ : ∃ x, x = wr := ⟨_, rfl⟩
      have hC := fun (W' : World) (_ : Below wo.heap.size wo W') => isEdge_any κ vv B1 C1 b1 b2 s1.length t1.length W'
      obtain ⟨p1, hp1⟩ : ∃ p1, p1 = s1.length := ⟨_, rfl⟩
      obtain ⟨r1, hr1'⟩ : ∃ r1, r1 = t1.length := ⟨_, rfl⟩
      simp only [egH_eg] at hC
      simp only [← hp1, ← hr1'] at hC
      rw [← hp1] at d2
      rw [← hr1'] at d3
      obtain ⟨W6, hW6, bW6, k6⟩ := (⟨_, rfl, below_alloc _ _, heap_alloc_new _ _⟩ : ∃ W, W = wo.alloc (.cells #[.int .i64 κ, .int .i64 vv, .slice B1 p1 b1, .slice C1 r1 b2] tEd) ∧ Below wo.heap.size wo W ∧ W.heap[wo.heap.size]? = some (.cells #[.int .i64 κ, .int .i64 vv, .slice B1 p1 b1, .slice C1 r1 b2] tEd))
      have hCW := hC W6 bW6
      have hkI : (k : Int) < (m : Int) := by omega
      have kr6 := box_below kr bW6
      have hBW6 := below_trans hB1 bW6 hB1.size
      obtain ⟨⟨c0, c1, c2, c3⟩, f0, f1, f2, f3⟩ := box4 k6
      obtain ⟨⟨y0, y1, y2, y3⟩, g0, g1, g2, g3⟩ := box4 kr6
      obtain ⟨H, hH⟩ : ∃ H, H = egB (κ, vv, s1, t1) := ⟨_, rfl⟩
      rw [← hH] at hCW
      have hr1_h := Lib.hid hr1'
      clear hr1' hr1 hr2 hn hln hC kr hB1 kr6
      have hCW_h := Lib.hid hCW
      have hek_h := Lib.hid hek
      have hall_h := Lib.hid hall
      have hp1_h := Lib.hid hp1
      have bW6_h := Lib.hid bW6
      have k6_h := Lib.hid k6
      have hBW6_h := Lib.hid hBW6
      have hBw_h := Lib.hid hBw
      have hH_h := Lib.hid hH
      clear hCW hek hall hp1 bW6 k6 hBW6 hBw hH
      go_upto_region 6 with (fail)
      rw [← hW6]
      clear hW6
      go_wp2_with (fail)
      refine (hCW_h.out).mono ?_
      rintro e w7 ⟨rfl, hb7⟩
      have hB8 := below_trans hBW6_h.out hb7 hBW6_h.out.size
      clear hb7 c0 c1 c2 c3 f0 f1 f2 f3 y0 y1 y2 y3 g0 g1 g2 g3 d0 d1 d2 d3
      cases H
      · have hf : D = false := by
          rw [hDD_h.out, show es.all egB = false from ?_]; rfl
          rw [Bool.eq_false_iff]
          intro hh
          have := List.all_eq_true.1 hh _ (List.mem_of_getElem? hek_h.out)
          rw [← hH_h.out] at this; cases this
        subst hf
        have hBz := below_trans bW_h.out hB8 bW_h.out.size
        have hB8_h := Lib.hid hB8
        have hBz_h := Lib.hid hBz
        clear hB8 hBz
        go_wp2_with (fail)
        go_ret
        exact ⟨rfl, hBz_h.out⟩
      · have hall2 : (es.take (k + 1)).all egB = true := by rw [List.take_add_one, hek_h.out, List.all_append, hall_h.out]; simp [← hH_h.out]
        have hB8_h := Lib.hid hB8
        have hall2_h := Lib.hid hall2
        clear hB8 hall2
        go_wp2_with (fail)
        go_roundw
        case rel => exact ⟨k + 1, by omega, by go_num, hall2_h.out, hB8_h.out⟩
        case measure => simp [intOf]; omega
    · obtain rfl : m = k := by omega
      rw [List.take_of_length_le (by rw [hmes_h.out]; exact Nat.le_refl _)] at hall
      have hD3 := hDD_h.out
      rw [hall, Bool.true_and] at hD3
      obtain ⟨n, rfl⟩ : ∃ n : Nat, z = (n : Int) := ⟨z.toNat, by omega⟩
      obtain ⟨⟨y0, y1, y2, y3⟩, g0, g1, g2, g3⟩ := box4 kr
      have hn100 : n ≤ 100 := by omega
      clear hall hDD_h hB1
      have hD3_h := Lib.hid hD3
      have kr_h := Lib.hid kr
      have hBw_h := Lib.hid hBw
      clear hD3 kr hBw
      go_upto_region 10 with (at_make; refine wpList_make_Sl _ rfl _ _ _ rfl tBool Try.underlying106 info_bool n n rfl rfl rfl rfl (Nat.le_refl _) (by omega) (by unfold maxLen; omega) ?_; intro Gs w2 hs2 hG2 hb2)
      have hsn : Sl w2 tBool 1 (some Gs) n n (bls (seenM n [])) := by rw [← madeSeen, ← madeBls]; exact hs2
      have hB2 := below_trans hBw_h.out hb2 hBw_h.out.size
      have kr2 := box_below kr_h.out hb2
      have hGl : Gs.block < w2.heap.size := hsn.lt Gs.block (by simp)
      obtain ⟨W3, hW3, bW3, j0, j1, j2⟩ := allocs3 w2 (.cells #[.slice (some Gs) n n] tBools) (.cells #[.bool true] tBool) (.cells #[.int .i64 0] tInt)
      have hB3 := below_trans hB2 bW3 hB2.size
      have hws := hBw_h.out.size
      have hw1 := box_lt kr_h.out
      have hI0 : GI n w.heap.size (w2.heap.size + 1) w2.heap.size (w2.heap.size + 1 + 1) Gs (.slice A m c) (.slice B p b) (.slice C r d) [] W3 :=
        ⟨box_below kr2 bW3, j1, j0, by
          have e : seenC n [] = 0 := by unfold seenC; rw [seenM_nil]; simp [List.count_replicate]
          rw [e]; exact j2, hsn.below bW3⟩
      have hLI := lists_any w hG0_h.out hok_h.out 92 #[.pointer (some ⟨w.heap.size, 0, none⟩), .pointer (some ⟨w2.heap.size + 1, 0, none⟩), .pointer (some ⟨w2.heap.size, 0, none⟩), .pointer (some ⟨w2.heap.size + 1 + 1, 0, none⟩)] (fun _ _ => rfl)
        (fun l W => GI n w.heap.size (w2.heap.size + 1) w2.heap.size (w2.heap.size + 1 + 1) Gs (.slice A m c) (.slice B p b) (.slice C r d) l W) [w2.heap.size + 1, w2.heap.size + 1 + 1, Gs.block]
        (fun x hx => by simp at hx; omega) (fun l W W' h hb => h.below hb)
        (fun l B' c' m' W' hI hm' _ hml => isGraphC_any n w.heap.size (w2.heap.size + 1) w2.heap.size (w2.heap.size + 1 + 1) Gs (.slice A m c) (.slice B p b) (.slice C r d) l B' c' m' W' hn100 hml (by omega) (by omega) (by omega) ⟨by omega, by omega, by omega⟩ ⟨by omega, by omega, by omega⟩ hI hm')
        W3 hI0 hB3 (fun x hx => by have := box_lt j2; simp at hx; omega)
      have hmf : ∀ (fn : Fn) (first cap : Array Value) (w : World), (Instr.makeFunc fn first cap).run Try.prog w = .ok (.func fn first cap) w := fun _ _ _ _ => rfl
      have kr3 := box_below kr2 bW3
      obtain ⟨L, hL⟩ : ∃ L, L = allW ((n : Int), es, s, t) := ⟨_, rfl⟩
      have hsf := seenC_full n L
      have hD5 : D = (inW (n : Int) L && decide (seenC n L = n)) := by rw [hD3_h.out, hsf, hL]; rfl
      rw [← hL] at hLI
      have hSge : ∀ x, x ∈ [w2.heap.size + 1, w2.heap.size + 1 + 1, Gs.block] → w.heap.size ≤ x := fun x hx => by simp at hx; omega
      clear hs2 hsn hB2 kr2 hI0 hsf y0 y1 y2 y3 g0 g1 g2 g3 j0 j1 j2
      obtain ⟨⟨y0, y1, y2, y3⟩, g0, g1, g2, g3⟩ := box4 kr3
      have hB3_h := Lib.hid hB3
      have kr3_h := Lib.hid kr3
      have hLI_h := Lib.hid hLI
      have hL_h := Lib.hid hL
      have hD5_h := Lib.hid hD5
      have bW3_h := Lib.hid bW3
      have hSge_h := Lib.hid hSge
      clear hB3 kr3 hLI hL hD5 bW3 hSge
      rw [← hW3]
      clear hW3
      go_wp2_with (fail)
      refine (hLI_h.out).mono ?_
      rintro e w9 ⟨rfl, hI9, hk9⟩
      have hB9 := below_keeps hB3_h.out hk9 hB3_h.out.size hSge_h.out
      clear y0 y1 y2 y3 g0 g1 g2 g3 hmf
      obtain ⟨⟨y0, y1, y2, y3⟩, g0, g1, g2, g3⟩ := box4 hI9.hg
      obtain ⟨z0, z1⟩ := box1 hI9.hgd
      obtain ⟨z2, z3⟩ := box1 hI9.hct
      have hD6 := hD5_h.out
      clear hI9 hk9
      cases hiw : inW (n : Int) L
      · rw [hiw] at hD6 z0
        obtain rfl : D = false := hD6
        have hB9_h := Lib.hid hB9
        have hiw_h := Lib.hid hiw
        clear hB9 hiw
        go_wp2_with (fail)
        go_ret
        exact ⟨rfl, hB9_h.out⟩
      · rw [hiw, Bool.true_and] at hD6
        rw [hiw] at z0
        obtain ⟨x, hx⟩ : ∃ x, x = seenC n L := ⟨_, rfl⟩
        rw [← hx] at z2 hD6
        by_cases hxn : x = n
        · subst hxn
          obtain rfl : D = true := by rw [hD6]; exact decide_eq_true rfl
          have hbe : ((x : Int) == (x : Int)) = true := by simp
          clear hD6
          have hB9_h := Lib.hid hB9
          have hiw_h := Lib.hid hiw
          have hx_h := Lib.hid hx
          clear hB9 hiw hx
          go_wp2_with (fail)
          go_ret
          exact ⟨rfl, hB9_h.out⟩
        · obtain rfl : D = false := by rw [hD6]; exact decide_eq_false hxn
          have hbe : ((x : Int) == (n : Int)) = false := by rw [beq_eq_false_iff_ne]; omega
          clear hD6
          have hB9_h := Lib.hid hB9
          have hiw_h := Lib.hid hiw
          have hx_h := Lib.hid hx
          clear hB9 hiw hx
          go_wp2_with (fail)
          go_ret
          exact ⟨rfl, hB9_h.out⟩
end Go.Proofs.Ytanhmljgeiajoaa
