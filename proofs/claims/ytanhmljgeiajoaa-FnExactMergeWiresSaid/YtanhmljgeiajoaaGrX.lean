/-
  THE WALK: spec.hgValid.
-/
import Derived.Test.YtanhmljgeiajoaaGrW
namespace Go.Proofs.Ytanhmljgeiajoaa
open Go.RowKit

theorem grB_eq (g : Gr) : grB g = (inB g.1 0 100 && (decide (g.2.1.length ≤ 60) && (decide (g.2.2.1.length ≤ 12) && (decide (g.2.2.2.length ≤ 12) && (inW g.1 g.2.2.1 && (inW g.1 g.2.2.2 && (g.2.1.all (hgB g.1) && fullW g.1 (allW g)))))))) := by
  unfold grB
  rw [hgB_all]
  have e : inW g.1 (allW g) = (inW g.1 g.2.2.1 && (inW g.1 g.2.2.2 && inW g.1 (edW g.2.1))) := by unfold allW; rw [inW_append, inW_append]
  rw [e]
  cases inB g.1 0 100 <;> cases decide (g.2.1.length ≤ 60) <;> cases decide (g.2.2.1.length ≤ 12) <;> cases decide (g.2.2.2.length ≤ 12) <;> cases inW g.1 g.2.2.1 <;> cases inW g.1 g.2.2.2 <;> cases g.2.1.all egB <;> cases inW g.1 (edW g.2.1) <;> cases fullW g.1 (allW g) <;> rfl
theorem count_zero {g : Gr} {k : Nat} : ((orgW g).count (k : Int) = 0 ∧ (dstW g).count (k : Int) = 0) ↔ (allW g).contains (k : Int) = false := by
  rw [List.count_eq_zero, List.count_eq_zero, Bool.eq_false_iff, ne_eq, List.contains_iff_mem, mem_allW]
  exact ⟨fun h hm => hm.elim h.1 h.2, fun h => ⟨fun a => h (.inl a), fun a => h (.inr a)⟩⟩
set_option maxRecDepth 100000 in
set_option maxHeartbeats 8000000 in
theorem hgValid_any {v : Value} {g : Gr} (w : World) (h : RdGr w v g) (ok : OkG g) :
    Calls Try.prog 45 #[v] w fun e w' => e = .returned (.bool (grB g)) ∧ Below w.heap.size w w' := by
  have hG0 := h
  obtain ⟨A, c, hs, ⟨B, b, s⟩, ⟨C, d, t⟩, rfl, e1, e2, e3, hE, hRa, hRb⟩ := h
  obtain ⟨z, es, s0, t0⟩ := g
  have a1 : es = hs.map egOf := e1
  have a2 : s = s0 := e2
  have a3 : t = t0 := e3
  subst a2 a3
  have hok := ok
  have hlen1 : es.length ≤ 1048576 := ok.1.1
  have hlen2 : s.length ≤ 1048576 := ok.1.2.1
  have hlen3 : t.length ≤ 1048576 := ok.1.2.2
  have hlE : ∀ x, x ∈ hs → x.2.2.1.2.2.length ≤ 1048576 ∧ x.2.2.2.2.2.length ≤ 1048576 := fun x hx => ok.2.1 _ (by show egOf x ∈ es; rw [a1]; exact List.mem_map_of_mem hx)
  obtain ⟨D, hD⟩ : ∃ D, D = grB (z, es, s, t) := ⟨_, rfl⟩
  have hDD := hD
  rw [grB_eq] at hDD
  simp only at hDD
  rw [← hD]
  obtain ⟨m, hm⟩ : ∃ m, m = hs.length := ⟨_, rfl⟩
  obtain ⟨p, hp⟩ : ∃ p, p = s.length := ⟨_, rfl⟩
  obtain ⟨r, hr⟩ : ∃ r, r = t.length := ⟨_, rfl⟩
  have hmes : es.length = m := by rw [a1, List.length_map, hm]
  have hRa0 : RdI w B s := hRa
  have hRb0 : RdI w C t := hRb
  rw [hmes, ← hp, ← hr] at hDD
  change RdGr w (.agg #[.int .i64 z, .slice A hs.length c, .slice B s.length b, .slice C t.length d]) (z, es, s, t) at hG0
  rw [← hm, ← hp, ← hr] at hG0
  show Calls Try.prog _ #[.agg #[.int .i64 z, .slice A hs.length c, .slice B s.length b, .slice C t.length d]] w _
  rw [← hm, ← hp, ← hr]
  obtain ⟨W, hW, bW, k0⟩ := (⟨_, rfl, below_alloc _ _, heap_alloc_new _ _⟩ : ∃ W, W = w.alloc (.cells #[.int .i64 z, .slice A m c, .slice B p b, .slice C r d] tGr) ∧ Below w.heap.size w W ∧ W.heap[w.heap.size]? = some (.cells #[.int .i64 z, .slice A m c, .slice B p b, .slice C r d] tGr))
  obtain ⟨⟨c0, c1, c2, c3⟩, f0, f1, f2, f3⟩ := box4 k0
  have hI := fun (W : World) => l1In_any z 0 100 W
  have hA1 := fun (W : World) (hb : Below w.heap.size w W) => l1All_any B b p s 0 (z - 1) W (RdI.below hRa0 hb) hp.symm (by omega)
  have hA2 := fun (W : World) (hb : Below w.heap.size w W) => l1All_any C d r t 0 (z - 1) W (RdI.below hRb0 hb) hr.symm (by omega)
  obtain ⟨D1, hD1⟩ : ∃ D, D = inW z s := ⟨_, rfl⟩
  obtain ⟨D2, hD2⟩ : ∃ D, D = inW z t := ⟨_, rfl⟩
  have hD1' : (s.all fun x => inB x 0 (z - 1)) = D1 := hD1.symm
  have hD2' : (t.all fun x => inB x 0 (z - 1)) = D2 := hD2.symm
  simp only [hD1'] at hA1
  simp only [hD2'] at hA2
  rw [← hD1, ← hD2] at hDD
  clear hRa hRb ok e1 e2 e3 hD1' hD2' hRa0 hRb0
  by_cases h0 : inB z 0 100 = true
  case neg =>
    have h0' : inB z 0 100 = false := by simpa using h0
    obtain rfl : D = false := by rw [hDD, h0']; rfl
    simp only [h0'] at hI
    clear h0 h0'
    have hI_h := Lib.hid hI
    have hA1_h := Lib.hid hA1
    have hA2_h := Lib.hid hA2
    have k0_h := Lib.hid k0
    have bW_h := Lib.hid bW
    have hm_h := Lib.hid hm
    have hp_h := Lib.hid hp
    have hr_h := Lib.hid hr
    have hD_h := Lib.hid hD
    have hDD_h := Lib.hid hDD
    have hmes_h := Lib.hid hmes
    have hlE_h := Lib.hid hlE
    have hok_h := Lib.hid hok
    have a1_h := Lib.hid a1
    have hE_h := Lib.hid hE
    have hG0_h := Lib.hid hG0
    have hD1_h := Lib.hid hD1
    have hD2_h := Lib.hid hD2
    clear hI hA1 hA2 k0 bW hm hp hr hD hDD hmes hlE hok a1 hE hG0 hD1 hD2
    go_enter Try.func45, Try.ntmps45
    go_upto_region 1 with (fail)
    rw [← hW]
    clear hW
    go_wp2_with (fail)
    refine (hI_h.out _).mono ?_
    rintro e w1 ⟨rfl, rfl⟩
    go_wp2_with (fail)
    go_ret
    exact ⟨rfl, bW_h.out⟩
  have hz : 0 ≤ z ∧ z ≤ 100 := of_decide_eq_true h0
  simp only [h0] at hI
  rw [h0, Bool.true_and] at hDD
  clear h0
  have wz : IntKind.i64.wrap (z - 1) = z - 1 := IntWalk.i64_in _ (by omega)
  by_cases h1 : m ≤ 60
  case neg =>
    obtain rfl : D = false := by rw [hDD, decide_eq_false h1]; rfl
    have h1' : ¬ ((m : Int) ≤ 60) := by omega
    have hI_h := Lib.hid hI
    have hA1_h := Lib.hid hA1
    have hA2_h := Lib.hid hA2
    have k0_h := Lib.hid k0
    have bW_h := Lib.hid bW
    have hm_h := Lib.hid hm
    have hp_h := Lib.hid hp
    have hr_h := Lib.hid hr
    have hD_h := Lib.hid hD
    have hDD_h := Lib.hid hDD
    have hmes_h := Lib.hid hmes
    have hlE_h := Lib.hid hlE
    have hok_h := Lib.hid hok
    have a1_h := Lib.hid a1
    have hE_h := Lib.hid hE
    have hG0_h := Lib.hid hG0
    have hD1_h := Lib.hid hD1
    have hD2_h := Lib.hid hD2
    clear hI hA1 hA2 k0 bW hm hp hr hD hDD hmes hlE hok a1 hE hG0 hD1 hD2
    go_enter Try.func45, Try.ntmps45
    go_upto_region 1 with (fail)
    rw [← hW]
    clear hW
    go_wp2_with (fail)
    refine (hI_h.out _).mono ?_
    rintro e w1 ⟨rfl, rfl⟩
    go_wp2_with (fail)
    go_ret
    exact ⟨rfl, bW_h.out⟩
  rw [decide_eq_true h1, Bool.true_and] at hDD
  have h1' : (m : Int) ≤ 60 := by omega
  by_cases h2 : p ≤ 12
  case neg =>
    obtain rfl : D = false := by rw [hDD, decide_eq_false h2]; rfl
    have h2' : ¬ ((p : Int) ≤ 12) := by omega
    have hI_h := Lib.hid hI
    have hA1_h := Lib.hid hA1
    have hA2_h := Lib.hid hA2
    have k0_h := Lib.hid k0
    have bW_h := Lib.hid bW
    have hm_h := Lib.hid hm
    have hp_h := Lib.hid hp
    have hr_h := Lib.hid hr
    have hD_h := Lib.hid hD
    have hDD_h := Lib.hid hDD
    have hmes_h := Lib.hid hmes
    have hlE_h := Lib.hid hlE
    have hok_h := Lib.hid hok
    have a1_h := Lib.hid a1
    have hE_h := Lib.hid hE
    have hG0_h := Lib.hid hG0
    have hD1_h := Lib.hid hD1
    have hD2_h := Lib.hid hD2
    clear hI hA1 hA2 k0 bW hm hp hr hD hDD hmes hlE hok a1 hE hG0 hD1 hD2
    go_enter Try.func45, Try.ntmps45
    go_upto_region 1 with (fail)
    rw [← hW]
    clear hW
    go_wp2_with (fail)
    refine (hI_h.out _).mono ?_
    rintro e w1 ⟨rfl, rfl⟩
    go_wp2_with (fail)
    go_ret
    exact ⟨rfl, bW_h.out⟩
  rw [decide_eq_true h2, Bool.true_and] at hDD
  have h2' : (p : Int) ≤ 12 := by omega
  by_cases h3 : r ≤ 12
  case neg =>
    obtain rfl : D = false := by rw [hDD, decide_eq_false h3]; rfl
    have h3' : ¬ ((r : Int) ≤ 12) := by omega
    have hI_h := Lib.hid hI
    have hA1_h := Lib.hid hA1
    have hA2_h := Lib.hid hA2
    have k0_h := Lib.hid k0
    have bW_h := Lib.hid bW
    have hm_h := Lib.hid hm
    have hp_h := Lib.hid hp
    have hr_h := Lib.hid hr
    have hD_h := Lib.hid hD
    have hDD_h := Lib.hid hDD
    have hmes_h := Lib.hid hmes
    have hlE_h := Lib.hid hlE
    have hok_h := Lib.hid hok
    have a1_h := Lib.hid a1
    have hE_h := Lib.hid hE
    have hG0_h := Lib.hid hG0
    have hD1_h := Lib.hid hD1
    have hD2_h := Lib.hid hD2
    clear hI hA1 hA2 k0 bW hm hp hr hD hDD hmes hlE hok a1 hE hG0 hD1 hD2
    go_enter Try.func45, Try.ntmps45
    go_upto_region 1 with (fail)
    rw [← hW]
    clear hW
    go_wp2_with (fail)
    refine (hI_h.out _).mono ?_
    rintro e w1 ⟨rfl, rfl⟩
    go_wp2_with (fail)
    go_ret
    exact ⟨rfl, bW_h.out⟩
  rw [decide_eq_true h3, Bool.true_and] at hDD
  have h3' : (r : Int) ≤ 12 := by omega
  cases D1
  case false =>
    obtain rfl : D = false := by rw [hDD]; rfl
    have hI_h := Lib.hid hI
    have hA1_h := Lib.hid hA1
    have hA2_h := Lib.hid hA2
    have k0_h := Lib.hid k0
    have bW_h := Lib.hid bW
    have hm_h := Lib.hid hm
    have hp_h := Lib.hid hp
    have hr_h := Lib.hid hr
    have hD_h := Lib.hid hD
    have hDD_h := Lib.hid hDD
    have hmes_h := Lib.hid hmes
    have hlE_h := Lib.hid hlE
    have hok_h := Lib.hid hok
    have a1_h := Lib.hid a1
    have hE_h := Lib.hid hE
    have hG0_h := Lib.hid hG0
    have hD1_h := Lib.hid hD1
    have hD2_h := Lib.hid hD2
    clear hI hA1 hA2 k0 bW hm hp hr hD hDD hmes hlE hok a1 hE hG0 hD1 hD2
    go_enter Try.func45, Try.ntmps45
    go_upto_region 1 with (fail)
    rw [← hW]
    clear hW
    go_wp2_with (fail)
    refine (hI_h.out _).mono ?_
    rintro e w1 ⟨rfl, rfl⟩
    go_wp2_with (fail)
    refine (hA1_h.out _ bW_h.out).mono ?_
    rintro e w1 ⟨rfl, rfl⟩
    go_wp2_with (fail)
    go_ret
    exact ⟨rfl, bW_h.out⟩
  rw [Bool.true_and] at hDD
  cases D2
  case false =>
    obtain rfl : D = false := by rw [hDD]; rfl
    have hI_h := Lib.hid hI
    have hA1_h := Lib.hid hA1
    have hA2_h := Lib.hid hA2
    have k0_h := Lib.hid k0
    have bW_h := Lib.hid bW
    have hm_h := Lib.hid hm
    have hp_h := Lib.hid hp
    have hr_h := Lib.hid hr
    have hD_h := Lib.hid hD
    have hDD_h := Lib.hid hDD
    have hmes_h := Lib.hid hmes
    have hlE_h := Lib.hid hlE
    have hok_h := Lib.hid hok
    have a1_h := Lib.hid a1
    have hE_h := Lib.hid hE
    have hG0_h := Lib.hid hG0
    have hD1_h := Lib.hid hD1
    have hD2_h := Lib.hid hD2
    clear hI hA1 hA2 k0 bW hm hp hr hD hDD hmes hlE hok a1 hE hG0 hD1 hD2
    go_enter Try.func45, Try.ntmps45
    go_upto_region 1 with (fail)
    rw [← hW]
    clear hW
    go_wp2_with (fail)
    refine (hI_h.out _).mono ?_
    rintro e w1 ⟨rfl, rfl⟩
    go_wp2_with (fail)
    refine (hA1_h.out _ bW_h.out).mono ?_
    rintro e w1 ⟨rfl, rfl⟩
    go_wp2_with (fail)
    refine (hA2_h.out _ bW_h.out).mono ?_
    rintro e w1 ⟨rfl, rfl⟩
    go_wp2_with (fail)
    go_ret
    exact ⟨rfl, bW_h.out⟩
  rw [Bool.true_and] at hDD
  have hI_h := Lib.hid hI
  have hA1_h := Lib.hid hA1
  have hA2_h := Lib.hid hA2
  have k0_h := Lib.hid k0
  have bW_h := Lib.hid bW
  have hm_h := Lib.hid hm
  have hp_h := Lib.hid hp
  have hr_h := Lib.hid hr
  have hD_h := Lib.hid hD
  have hDD_h := Lib.hid hDD
  have hmes_h := Lib.hid hmes
  have hlE_h := Lib.hid hlE
  have hok_h := Lib.hid hok
  have a1_h := Lib.hid a1
  have hE_h := Lib.hid hE
  have hG0_h := Lib.hid hG0
  have hD1_h := Lib.hid hD1
  have hD2_h := Lib.hid hD2
  clear hI hA1 hA2 k0 bW hm hp hr hD hDD hmes hlE hok a1 hE hG0 hD1 hD2
  go_enter Try.func45, Try.ntmps45
  go_upto_region 1 with (fail)
  rw [← hW]
  clear hW
  go_wp2_with (fail)
  refine (hI_h.out _).mono ?_
  rintro e w1 ⟨rfl, rfl⟩
  go_wp2_with (fail)
  refine (hA1_h.out _ bW_h.out).mono ?_
  rintro e w1 ⟨rfl, rfl⟩
  go_wp2_with (fail)
  refine (hA2_h.out _ bW_h.out).mono ?_
  rintro e w1 ⟨rfl, rfl⟩
  obtain ⟨W, rfl⟩ : ∃ x, x = w1 := ⟨_, rfl⟩
  go_wp2_with (fail)
  clear c0 c1 c2 c3 f0 f1 f2 f3
  go_loopw [51] (fun i wr => ∃ k : Nat, k ≤ m ∧ i = .int .i64 k ∧ (es.take k).all (hgB z) = true ∧ Below W.heap.size W wr) (fun i _ => m - (intOf i).toNat)
  case atStart => exact ⟨0, Nat.zero_le _, rfl, by simp, Below.refl _ _⟩
  case round =>
    obtain ⟨k, hk, rfl, hall, hB1⟩ := hrel
    have kr := box_below k0_h.out hB1
    have hBw := below_trans bW_h.out hB1 bW_h.out.size
    by_cases hlt : k < m
    · obtain ⟨ad, κ, vv, B1, b1, s1, C1, b2, t1, rfl, hn, ⟨d0, d1, d2, d3⟩, hr1, hr2⟩ := (hE_h.out.below hBw).at_ (j := k) (by rw [← hm_h.out]; exact hlt)
      have hek : es[k]? = some (κ, vv, s1, t1) := by rw [a1_h.out, List.getElem?_map, hn]; rfl
      have hln := hlE_h.out _ (List.mem_of_getElem? hn)
      obtain ⟨wo, rfl⟩ : ∃ x, x = wr := ⟨_, rfl⟩
      have hC := fun (W' : World) (hb : Below wo.heap.size wo W') => hgEdge_any κ vv B1 C1 b1 b2 s1 t1 z W' (hr1.below hb) (hr2.below hb) hln.1 hln.2 (by omega) (by omega)
      obtain ⟨p1, hp1⟩ : ∃ p1, p1 = s1.length := ⟨_, rfl⟩
      obtain ⟨r1, hr1'⟩ : ∃ r1, r1 = t1.length := ⟨_, rfl⟩
      simp only [← hp1, ← hr1'] at hC
      rw [← hp1] at d2
      rw [← hr1'] at d3
      obtain ⟨W6, hW6, bW6, k6⟩ := (⟨_, rfl, below_alloc _ _, heap_alloc_new _ _⟩ : ∃ W, W = wo.alloc (.cells #[.int .i64 κ, .int .i64 vv, .slice B1 p1 b1, .slice C1 r1 b2] tEd) ∧ Below wo.heap.size wo W ∧ W.heap[wo.heap.size]? = some (.cells #[.int .i64 κ, .int .i64 vv, .slice B1 p1 b1, .slice C1 r1 b2] tEd))
      have hCW := hC W6 bW6
      have hkI : (k : Int) < (m : Int) := by omega
      have kr6 := box_below kr bW6
      have hBW6 := below_trans hB1 bW6 hB1.size
      obtain ⟨⟨c0, c1, c2, c3⟩, f0, f1, f2, f3⟩ := box4 k6
      obtain ⟨⟨y0, y1, y2, y3⟩, g0, g1, g2, g3⟩ := box4 kr6
      obtain ⟨H, hH⟩ : ∃ H, H = hgB z (κ, vv, s1, t1) := ⟨_, rfl⟩
      rw [← hH] at hCW
      have hr1_h := Lib.hid hr1'
      clear hr1' hr1 hr2 hn hln hC kr hB1 kr6
      have hCW_h := Lib.hid hCW
      have hek_h := Lib.hid hek
      have hall_h := Lib.hid hall
      have hp1_h := Lib.hid hp1
      have bW6_h := Lib.hid bW6
      have k6_h := Lib.hid k6
      have hBW6_h := Lib.hid hBW6
      have hBw_h := Lib.hid hBw
      have hH_h := Lib.hid hH
      clear hCW hek hall hp1 bW6 k6 hBW6 hBw hH
      go_upto_region 6 with (fail)
      rw [← hW6]
      clear hW6
      go_wp2_with (fail)
      refine (hCW_h.out).mono ?_
      rintro e w7 ⟨rfl, hb7⟩
      have hB8 := below_trans hBW6_h.out hb7 hBW6_h.out.size
      clear hb7 c0 c1 c2 c3 f0 f1 f2 f3 y0 y1 y2 y3 g0 g1 g2 g3 d0 d1 d2 d3
      cases H
      · have hf : D = false := by
          rw [hDD_h.out, show es.all (hgB z) = false from ?_]; rfl
          rw [Bool.eq_false_iff]
          intro hh
          have := List.all_eq_true.1 hh _ (List.mem_of_getElem? hek_h.out)
          rw [← hH_h.out] at this; cases this
        subst hf
        have hBz := below_trans bW_h.out hB8 bW_h.out.size
        have hB8_h := Lib.hid hB8
        have hBz_h := Lib.hid hBz
        clear hB8 hBz
        go_wp2_with (fail)
        go_ret
        exact ⟨rfl, hBz_h.out⟩
      · have hall2 : (es.take (k + 1)).all (hgB z) = true := by rw [List.take_add_one, hek_h.out, List.all_append, hall_h.out]; simp [← hH_h.out]
        have hB8_h := Lib.hid hB8
        have hall2_h := Lib.hid hall2
        clear hB8 hall2
        go_wp2_with (fail)
        go_roundw
        case rel => exact ⟨k + 1, by omega, by go_num, hall2_h.out, hB8_h.out⟩
        case measure => simp [intOf]; omega
    · obtain rfl : m = k := by omega
      rw [List.take_of_length_le (by rw [hmes_h.out]; exact Nat.le_refl _)] at hall
      have hD3 := hDD_h.out
      rw [hall, Bool.true_and] at hD3
      obtain ⟨n, rfl⟩ : ∃ n : Nat, z = (n : Int) := ⟨z.toNat, by omega⟩
      have hD4 : D = (List.range n).all fun w : Nat => (allW ((n : Int), es, s, t)).contains (w : Int) := by rw [hD3]; rfl
      have hinW : inW (n : Int) (allW ((n : Int), es, s, t)) = true := by
        have h3 : inW (n : Int) (edW es) = true := by have := hgB_all (n : Int) es; rw [hall] at this; simp at this; exact this.2
        show inW (n : Int) (s ++ (t ++ edW es)) = true
        rw [inW_append, inW_append, ← hD1_h.out, ← hD2_h.out, h3]; rfl
      have hC := hgCounts_any wr n (hG0_h.out.below hBw) hok_h.out rfl (by omega) hinW
      obtain ⟨O, hO⟩ : ∃ O, O = orgW ((n : Int), es, s, t) := ⟨_, rfl⟩
      obtain ⟨T, hT⟩ : ∃ T, T = dstW ((n : Int), es, s, t) := ⟨_, rfl⟩
      obtain ⟨L, hL⟩ : ∃ L, L = allW ((n : Int), es, s, t) := ⟨_, rfl⟩
      have hcz := fun k : Nat => count_zero (g := ((n : Int), es, s, t)) (k := k)
      have hOl : O.length + T.length ≤ 20000000 := by
        have h1 := out_len es
        have h2 : cntE es + s.length + t.length ≤ 8388608 := hok_h.out.2.2
        have h3 : O.length = s.length + (outW es).length := by rw [hO]; show (s ++ outW es).length = _; rw [List.length_append]
        have h4 : T.length = t.length + (inpW es).length := by rw [hT]; show (t ++ inpW es).length = _; rw [List.length_append]
        omega
      rw [← hO, ← hT] at hC
      simp only [← hO, ← hT, ← hL] at hcz
      rw [← hL] at hD4
      obtain ⟨⟨y0, y1, y2, y3⟩, g0, g1, g2, g3⟩ := box4 kr
      clear hall hD3 kr hB1 hinW hD_h hD1_h hD2_h hDD_h
      have hC_h := Lib.hid hC
      have hO_h := Lib.hid hO
      have hT_h := Lib.hid hT
      have hL_h := Lib.hid hL
      have hcz_h := Lib.hid hcz
      have hD4_h := Lib.hid hD4
      have hBw_h := Lib.hid hBw
      have hOl_h := Lib.hid hOl
      clear hC hO hT hL hcz hD4 hBw hOl
      go_wp2_with (fail)
      refine (hC_h.out).mono ?_
      rintro e w8 ⟨A8, B8, a8, b8, rfl, hI8, hJ8, -, -, hb8⟩
      have hB9 := below_trans hBw_h.out hb8 hBw_h.out.size
      clear y0 y1 y2 y3 g0 g1 g2 g3 hb8
      have hB9_h := Lib.hid hB9
      clear hB9
      go_wp2_with (fail)
      go_loopw [68] (fun i wr => ∃ (k nq : Nat), k ≤ n ∧ i = .int .i64 k ∧ (∀ q : Nat, q < k → L.contains (q : Int) = true) ∧ wr = w8.drewN nq) (fun i _ => n - (intOf i).toNat)
      case atStart => exact ⟨0, 0, Nat.zero_le _, rfl, fun q hq => by omega, rfl⟩
      case round =>
        obtain ⟨k, nq, hk, rfl, hall, hwr⟩ := hrel
        by_cases hlt : k < n
        · obtain ⟨gd, rfl, hgb, hgc, -⟩ := hI8.getc hlt
          obtain ⟨jd, rfl, hjb, hjc, -⟩ := hJ8.getc hlt
          have e1 : wr.cell? (gd.add k) = some (.int .i64 (O.count (k : Int) : Int)) := by rw [hwr]; exact hgc
          have e2 : wr.cell? (jd.add k) = some (.int .i64 (T.count (k : Int) : Int)) := by rw [hwr]; exact hjc
          have l1 := count_le O (k : Int)
          have l2 := count_le T (k : Int)
          obtain ⟨x, hx⟩ : ∃ x, x = O.count (k : Int) := ⟨_, rfl⟩
          obtain ⟨y, hy⟩ : ∃ y, y = T.count (k : Int) := ⟨_, rfl⟩
          rw [← hx] at e1 l1
          rw [← hy] at e2 l2
          have hcz1 := hcz_h.out k
          rw [← hx, ← hy] at hcz1
          have hkI : (k : Int) < (n : Int) := by omega
          have hxb : x ≤ 20000000 := by have := hOl_h.out; omega
          have hyb : y ≤ 20000000 := by have := hOl_h.out; omega
          clear hgc hjc hx hy l1 l2
          by_cases hc : L.contains (k : Int) = true
          · have hne : ¬ (x = 0 ∧ y = 0) := fun h => by rw [hcz1.1 h] at hc; cases hc
            have hb0 : ((x : Int) + (y : Int) == 0) = false := by rw [beq_eq_false_iff_ne]; omega
            have hall2 : ∀ q : Nat, q < k + 1 → L.contains (q : Int) = true := fun q hq => by
              by_cases h : q < k
              · exact hall q h
              · obtain rfl : q = k := by omega
                exact hc
            clear hne hcz1 hc hall
            have hall2_h := Lib.hid hall2
            have hwr_h := Lib.hid hwr
            have hI8_h := Lib.hid hI8
            have hJ8_h := Lib.hid hJ8
            clear hall2 hwr hI8 hJ8
            go_wp2_with (fail)
            go_quiet (fail)
            go_wp2_with (fail)
            go_roundw
            case rel => exact ⟨k + 1, _, by omega, by go_num, hall2_h.out, by rw [hwr_h.out]; exact World.drewN_drewN _ _ _⟩
            case measure => simp [intOf]; omega
          · have hc' : L.contains (k : Int) = false := by simpa using hc
            obtain ⟨rfl, rfl⟩ := hcz1.2 hc'
            have hf : D = false := by
              rw [hD4_h.out, Bool.eq_false_iff]
              intro hh
              have := List.all_eq_true.1 hh k (List.mem_range.2 hlt)
              rw [hc'] at this; cases this
            subst hf
            have hBf : Below w.heap.size w wr := by rw [hwr]; exact below_drewN hB9_h.out nq
            clear hcz1 hc hc' hall
            have hwr_h := Lib.hid hwr
            have hI8_h := Lib.hid hI8
            have hJ8_h := Lib.hid hJ8
            have hBf_h := Lib.hid hBf
            clear hwr hI8 hJ8 hBf
            go_wp2_with (fail)
            go_quiet (fail)
            go_wp2_with (fail)
            go_ret
            exact ⟨rfl, below_drewN hBf_h.out _⟩
        · obtain rfl : n = k := by omega
          have ht : D = true := by
            rw [hD4_h.out]
            exact List.all_eq_true.2 fun q hq => hall q (List.mem_range.1 hq)
          subst ht
          have hBf : Below w.heap.size w wr := by rw [hwr]; exact below_drewN hB9_h.out nq
          clear hall
          have hwr_h := Lib.hid hwr
          have hI8_h := Lib.hid hI8
          have hJ8_h := Lib.hid hJ8
          have hBf_h := Lib.hid hBf
          clear hwr hI8 hJ8 hBf
          go_wp2_with (fail)
          go_ret
          exact ⟨rfl, hBf_h.out⟩
end Go.Proofs.Ytanhmljgeiajoaa
