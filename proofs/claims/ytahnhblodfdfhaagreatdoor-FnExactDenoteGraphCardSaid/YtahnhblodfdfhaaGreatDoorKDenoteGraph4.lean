/-
  What the texts above it need, part 4.
-/
import Derived.Test.YtahnhblodfdfhaaGreatDoorKDenoteGraph3
import Derived.StillTail
import Derived.Deep.DeepCutAuto
import Derived.LoopN
import Derived.Deep.QuietTactic
import Derived.BigQuiet
import Derived.RangeFuncNested
import Derived.RangeFuncBound
import Derived.RangeFuncCalls
import Derived.RangeFuncLeaves
import Derived.RangeFuncBox
import Derived.Shelf.Abstract
import Derived.Shelf.RegionOpen
import Derived.OwnWalkIn
import Derived.TacticsInMore
import Derived.LoopNIn
import Derived.LoopIn
namespace Go.Proofs.YtahnhblodfdfhaaGreatDoor
open Go.RowKit
def gOverB (p : Int) (g : Gr) : Bool := fieldB p && (grB g && g.2.1.all fun e => decide (e.2.1 < p))
def dnAskB (p : Int) (g : Gr) : Bool := gOverB p g && g.2.1.all fun e => noDl e.1
def dnEqs (p : Int) (g : Gr) : List (List Int) := g.2.1.flatMap (dnRowsM p g.1.toNat)
def dnV (p : Int) (g : Gr) : Sys := ((g.2.2.1.length : Int), (g.2.2.2.length : Int), redM p (g.2.2.1.length + g.2.2.2.length) ((nullM p g.1.toNat (dnEqs p g)).map fun v => mapL v (g.2.2.1 ++ g.2.2.2)))
def dnGM (p : Int) (g : Gr) : Sys × Bool := if dnAskB p g then (dnV p g, true) else ((0, 0, []), false)
theorem allE_no {f : Eg → Bool} {l : List Eg} {k : Nat} {e : Eg} (h : l[k]? = some e) (hn : f e = false) : l.all f = false := by
 rw [List.all_eq_false]
 exact ⟨e, List.mem_of_getElem? h, by simp [hn]⟩
theorem allE_yes {f : Eg → Bool} {l : List Eg} (h : ∀ j e, l[j]? = some e → j < l.length → f e = true) : l.all f = true := by
 rw [List.all_eq_true]
 intro n hn
 obtain ⟨j, hj⟩ := List.mem_iff_getElem?.1 hn
 exact h j n hj (List.getElem?_eq_some_iff.1 hj).1
set_option maxRecDepth 100000 in
set_option maxHeartbeats 2000000 in
theorem hgGood_any (p : Int) {v : Value} {g : Gr} (w : World) (h : RdGr w v g) (ok : OkG g) :
  Calls Tryz.prog 72 #[.int .i64 p, v] w fun e w' => e = .returned (.bool (gOverB p g)) ∧ Below w.heap.size w w' := by
 obtain ⟨A, c, hs, ⟨B, b, s⟩, ⟨C, d, t⟩, rfl, e1, e2, e3, hE, hRa, hRb⟩ := id h
 obtain ⟨z, es, s0, t0⟩ := g
 have a1 : es = hs.map egOf := e1
 have a2 : s = s0 := e2
 have a3 : t = t0 := e3
 subst a2 a3
 clear e1 e2 e3
 obtain ⟨m, hm⟩ : ∃ m, m = hs.length := ⟨_, rfl⟩
 have hmes : es.length = m := by rw [a1, List.length_map, hm]
 have hm20 : m ≤ 1048576 := by rw [← hmes]; exact ok.1.1
 change RdGr w (.agg #[.int .i64 z, .slice A hs.length c, .slice B s.length b, .slice C t.length d]) (z, es, s, t) at h
 show Calls Tryz.prog _ #[.int .i64 p, .agg #[.int .i64 z, .slice A hs.length c, .slice B s.length b, .slice C t.length d]] w _
 rw [← hm] at h ⊢
 obtain ⟨W, hW, bW, k0⟩ := (⟨_, rfl, below_alloc _ _, heap_alloc_new _ _⟩ : ∃ W, W = w.alloc (.cells #[.int .i64 z, .slice A m c, .slice B s.length b, .slice C t.length d] tGr) ∧ Below w.heap.size w W ∧ W.heap[w.heap.size]? = some (.cells #[.int .i64 z, .slice A m c, .slice B s.length b, .slice C t.length d] tGr))
 obtain ⟨⟨c0, c1, c2, c3⟩, f0, f1, f2, f3⟩ := box4 k0
 have hV := fun W' (hb : Below w.heap.size w W') => hgValid_any W' (h.below hb) ok
 have hG := fun W' => fdGood_any p W'
 obtain ⟨D, hD⟩ : ∃ D, D = gOverB p (z, es, s, t) := ⟨_, rfl⟩
 rw [← hD]
 unfold gOverB at hD
 clear h
 by_cases hf : fieldB p = true
 · simp only [hf] at hG
   rw [hf, Bool.true_and] at hD
   by_cases hg : grB (z, es, s, t) = true
   · simp only [hg] at hV
     rw [hg, Bool.true_and] at hD
     have hDD : (es.all (fun e : Eg => decide (e.2.1 < p)) = true) → D = true := fun h => by rw [hD]; exact h
     have hDN : (es.all (fun e : Eg => decide (e.2.1 < p)) = false) → D = false := fun h => by rw [hD]; exact h
     clear hf hg hD ok; have hV_h := lH hV; have hG_h := lH hG; have hm_h := lH hm; have hmes_h := lH hmes; have a1_h := lH a1; have hE_h := lH hE; have k0_h := lH k0; have bW_h := lH bW; have hDD_h := lH hDD; have hDN_h := lH hDN; clear hV hG hm hmes a1 hE k0 bW hDD hDN
     go_enter Tryz.func72, Tryz.ntmps72
     go_upto_region 1 with (fail)
     rw [← hW]
     clear hW
     go_wp2_with (fail)
     refine (hG_h.out _).mono ?_
     rintro e w' ⟨rfl, rfl⟩
     go_wp2_with (fail)
     refine (hV_h.out _ bW_h.out).mono ?_
     rintro e wq ⟨rfl, hb1⟩
     clear c0 c1 c2 c3 f0 f1 f2 f3
     have hbq := below_trans bW_h.out hb1 bW_h.out.size
     have hE := hE_h.out.below hbq
     replace k0_h := lH (box_below k0_h.out hb1)
     clear hb1; have hbq_h := lH hbq; have hE_h := lH hE; clear hbq hE
     obtain ⟨⟨c0, c1, c2, c3⟩, f0, f1, f2, f3⟩ := box4 k0_h.out
     go_wp2_with (fail)
     clear c0 c1 c2 c3 f0 f1 f2 f3
     go_loopw [18] (fun i wr => ∃ k : Nat, k ≤ m ∧ i = .int .i64 k ∧ Below wq.heap.size wq wr ∧ ∀ (j : Nat) (e : Eg), es[j]? = some e → j < k → (fun e : Eg => decide (e.2.1 < p)) e = true) (fun i _ => m - (intOf i).toNat)
     case atStart => exact ⟨0, Nat.zero_le _, rfl, Below.refl _ _, fun j e _ h => absurd h (Nat.not_lt_zero j)⟩
     case round =>
      obtain ⟨k, hk, rfl, hbr, hall⟩ := hrel
      obtain ⟨wo, rfl⟩ : ∃ x, x = wr := ⟨_, rfl⟩
      by_cases hlt : k < m
      · obtain ⟨ad, κ, v, B', b', l, C', c', mm, rfl, hx, ⟨d0, d1, d2, d3⟩, _, _⟩ := (hE_h.out.below hbr).at_ (j := k) (by rw [← hm_h.out]; exact hlt)
        have hxe : es[k]? = some (κ, v, l, mm) := by rw [a1_h.out, List.getElem?_map, hx]; rfl
        have hkI : (k : Int) < (m : Int) := by omega
        have hbo := below_trans hbq_h.out hbr hbq_h.out.size
        have hba := below_trans hbo (below_alloc wo (.cells #[.int .i64 κ, .int .i64 v, .slice B' l.length b', .slice C' mm.length c'] tEd)) hbo.size
        have hbr2 := below_trans hbr (below_alloc wo (.cells #[.int .i64 κ, .int .i64 v, .slice B' l.length b', .slice C' mm.length c'] tEd)) hbr.size
        have hnx : ∀ (e : Eg), (fun e : Eg => decide (e.2.1 < p)) (κ, v, l, mm) = true → es[k]? = some e → (fun e : Eg => decide (e.2.1 < p)) e = true := fun e he h2 => by rw [hxe] at h2; obtain rfl := Option.some.inj h2; exact he
        have hall2 : (fun e : Eg => decide (e.2.1 < p)) (κ, v, l, mm) = true → ∀ (j : Nat) (e : Eg), es[j]? = some e → j < k + 1 → (fun e : Eg => decide (e.2.1 < p)) e = true := fun he j e h2 h3 => by
         rcases Nat.lt_or_ge j k with h4 | h4
         · exact hall j e h2 h4
         · obtain rfl : j = k := by omega
           exact hnx e he h2
        clear hx hall hnx
        by_cases hv : v < p
        · have hvn : ¬ v ≥ p := by omega
          have hall3 := hall2 (decide_eq_true hv)
          clear hall2 hv; have hall3_h := lH hall3; have hbr2_h := lH hbr2; have hbr_h := lH hbr; have hba_h := lH hba; have hbo_h := lH hbo; have hxe_h := lH hxe; clear hall3 hbr2 hbr hba hbo hxe
          go_wp2_with (fail)
          go_roundw
          case rel => exact ⟨k + 1, by omega, by go_num, hbr2_h.out, hall3_h.out⟩
          case measure => simp [intOf]; omega
        · have hvn : v ≥ p := by omega
          have hfin := hDN_h.out (allE_no hxe (decide_eq_false hv))
          subst hfin
          clear hall2 hv; have hbr2_h := lH hbr2; have hbr_h := lH hbr; have hba_h := lH hba; have hbo_h := lH hbo; have hxe_h := lH hxe; clear hbr2 hbr hba hbo hxe
          go_wp2_with (fail)
          go_ret
          exact ⟨rfl, hba_h.out⟩
      · obtain rfl : m = k := by omega
        have hyes := allE_yes (f := (fun e : Eg => decide (e.2.1 < p))) (l := es) fun j e h1 h2 => hall j e h1 (by rw [← hmes_h.out]; exact h2)
        have hbo := below_trans hbq_h.out hbr hbq_h.out.size
        have hfin := hDD_h.out hyes
        subst hfin
        clear hall; have hbo_h := lH hbo; clear hbo
        go_wp2_with (fail)
        go_ret
        exact ⟨rfl, hbo_h.out⟩
   · have hg' : grB (z, es, s, t) = false := by simpa using hg
     simp only [hg'] at hV
     rw [hg', Bool.false_and] at hD
     subst hD
     clear hf hg hg' ok; have hV_h := lH hV; have hG_h := lH hG; have k0_h := lH k0; have bW_h := lH bW; have hm_h := lH hm; have hmes_h := lH hmes; have a1_h := lH a1; have hE_h := lH hE; clear hV hG k0 bW hm hmes a1 hE
     go_enter Tryz.func72, Tryz.ntmps72
     go_upto_region 1 with (fail)
     rw [← hW]
     clear hW
     go_wp2_with (fail)
     refine (hG_h.out _).mono ?_
     rintro e w' ⟨rfl, rfl⟩
     go_wp2_with (fail)
     refine (hV_h.out _ bW_h.out).mono ?_
     rintro e wq ⟨rfl, hb1⟩
     go_wp2_with (fail)
     go_ret
     exact ⟨rfl, below_trans bW_h.out hb1 bW_h.out.size⟩
 · have hf' : fieldB p = false := by simpa using hf
   simp only [hf'] at hG
   rw [hf', Bool.false_and] at hD
   subst hD
   clear hf hf' ok hV; have hG_h := lH hG; have k0_h := lH k0; have bW_h := lH bW; have hm_h := lH hm; have hmes_h := lH hmes; have a1_h := lH a1; have hE_h := lH hE; clear hG k0 bW hm hmes a1 hE
   go_enter Tryz.func72, Tryz.ntmps72
   go_upto_region 1 with (fail)
   rw [← hW]
   clear hW
   go_wp2_with (fail)
   refine (hG_h.out _).mono ?_
   rintro e w' ⟨rfl, rfl⟩
   go_wp2_with (fail)
   go_ret
   exact ⟨rfl, bW_h.out⟩
set_option maxRecDepth 100000 in
set_option maxHeartbeats 2000000 in
theorem dnAsked_any (p : Int) {v : Value} {g : Gr} (w : World) (h : RdGr w v g) (ok : OkG g) :
  Calls Tryz.prog 44 #[.int .i64 p, v] w fun e w' => e = .returned (.bool (dnAskB p g)) ∧ Below w.heap.size w w' := by
 obtain ⟨A, c, hs, ⟨B, b, s⟩, ⟨C, d, t⟩, rfl, e1, e2, e3, hE, hRa, hRb⟩ := id h
 obtain ⟨z, es, s0, t0⟩ := g
 have a1 : es = hs.map egOf := e1
 have a2 : s = s0 := e2
 have a3 : t = t0 := e3
 subst a2 a3
 clear e1 e2 e3
 obtain ⟨m, hm⟩ : ∃ m, m = hs.length := ⟨_, rfl⟩
 have hmes : es.length = m := by rw [a1, List.length_map, hm]
 have hm20 : m ≤ 1048576 := by rw [← hmes]; exact ok.1.1
 change RdGr w (.agg #[.int .i64 z, .slice A hs.length c, .slice B s.length b, .slice C t.length d]) (z, es, s, t) at h
 show Calls Tryz.prog _ #[.int .i64 p, .agg #[.int .i64 z, .slice A hs.length c, .slice B s.length b, .slice C t.length d]] w _
 rw [← hm] at h ⊢
 obtain ⟨W, hW, bW, k0⟩ := (⟨_, rfl, below_alloc _ _, heap_alloc_new _ _⟩ : ∃ W, W = w.alloc (.cells #[.int .i64 z, .slice A m c, .slice B s.length b, .slice C t.length d] tGr) ∧ Below w.heap.size w W ∧ W.heap[w.heap.size]? = some (.cells #[.int .i64 z, .slice A m c, .slice B s.length b, .slice C t.length d] tGr))
 obtain ⟨⟨c0, c1, c2, c3⟩, f0, f1, f2, f3⟩ := box4 k0
 have hV := fun W' (hb : Below w.heap.size w W') => hgGood_any p W' (h.below hb) ok
 obtain ⟨D, hD⟩ : ∃ D, D = dnAskB p (z, es, s, t) := ⟨_, rfl⟩
 rw [← hD]
 unfold dnAskB at hD
 clear h
 by_cases hg : gOverB p (z, es, s, t) = true
 · simp only [hg] at hV
   rw [hg, Bool.true_and] at hD
   have hDD : (es.all (fun e : Eg => noDl e.1) = true) → D = true := fun h => by rw [hD]; exact h
   have hDN : (es.all (fun e : Eg => noDl e.1) = false) → D = false := fun h => by rw [hD]; exact h
   clear hg hD ok; have hV_h := lH hV; have hm_h := lH hm; have hmes_h := lH hmes; have a1_h := lH a1; have hE_h := lH hE; have k0_h := lH k0; have bW_h := lH bW; have hDD_h := lH hDD; have hDN_h := lH hDN; clear hV hm hmes a1 hE k0 bW hDD hDN
   go_enter Tryz.func44, Tryz.ntmps44
   go_upto_region 1 with (fail)
   rw [← hW]
   clear hW
   go_wp2_with (fail)
   refine (hV_h.out _ bW_h.out).mono ?_
   rintro e wq ⟨rfl, hb1⟩
   clear c0 c1 c2 c3 f0 f1 f2 f3
   have hbq := below_trans bW_h.out hb1 bW_h.out.size
   have hE := hE_h.out.below hbq
   replace k0_h := lH (box_below k0_h.out hb1)
   clear hb1; have hbq_h := lH hbq; have hE_h := lH hE; clear hbq hE
   obtain ⟨⟨c0, c1, c2, c3⟩, f0, f1, f2, f3⟩ := box4 k0_h.out
   go_wp2_with (fail)
   clear c0 c1 c2 c3 f0 f1 f2 f3
   go_loopw [14] (fun i wr => ∃ k : Nat, k ≤ m ∧ i = .int .i64 k ∧ Below wq.heap.size wq wr ∧ ∀ (j : Nat) (e : Eg), es[j]? = some e → j < k → (fun e : Eg => noDl e.1) e = true) (fun i _ => m - (intOf i).toNat)
   case atStart => exact ⟨0, Nat.zero_le _, rfl, Below.refl _ _, fun j e _ h => absurd h (Nat.not_lt_zero j)⟩
   case round =>
    obtain ⟨k, hk, rfl, hbr, hall⟩ := hrel
    obtain ⟨wo, rfl⟩ : ∃ x, x = wr := ⟨_, rfl⟩
    by_cases hlt : k < m
    · obtain ⟨ad, κ, v, B', b', l, C', c', mm, rfl, hx, ⟨d0, d1, d2, d3⟩, _, _⟩ := (hE_h.out.below hbr).at_ (j := k) (by rw [← hm_h.out]; exact hlt)
      have hxe : es[k]? = some (κ, v, l, mm) := by rw [a1_h.out, List.getElem?_map, hx]; rfl
      have hkI : (k : Int) < (m : Int) := by omega
      have hbo := below_trans hbq_h.out hbr hbq_h.out.size
      have hba := below_trans hbo (below_alloc wo (.cells #[.int .i64 κ, .int .i64 v, .slice B' l.length b', .slice C' mm.length c'] tEd)) hbo.size
      have hbr2 := below_trans hbr (below_alloc wo (.cells #[.int .i64 κ, .int .i64 v, .slice B' l.length b', .slice C' mm.length c'] tEd)) hbr.size
      have hnx : ∀ (e : Eg), (fun e : Eg => noDl e.1) (κ, v, l, mm) = true → es[k]? = some e → (fun e : Eg => noDl e.1) e = true := fun e he h2 => by rw [hxe] at h2; obtain rfl := Option.some.inj h2; exact he
      have hall2 : (fun e : Eg => noDl e.1) (κ, v, l, mm) = true → ∀ (j : Nat) (e : Eg), es[j]? = some e → j < k + 1 → (fun e : Eg => noDl e.1) e = true := fun he j e h2 h3 => by
       rcases Nat.lt_or_ge j k with h4 | h4
       · exact hall j e h2 h4
       · obtain rfl : j = k := by omega
         exact hnx e he h2
      clear hx hall hnx
      have hT := fun W' => dnTimeless_any κ W'
      by_cases hv : noDl κ = true
      · simp only [hv] at hT
        have hall3 := hall2 hv
        clear hall2 hv; have hall3_h := lH hall3; have hbr2_h := lH hbr2; have hbr_h := lH hbr; have hba_h := lH hba; have hbo_h := lH hbo; have hxe_h := lH hxe; have hT_h := lH hT; clear hall3 hbr2 hbr hba hbo hxe hT
        go_wp2_with (fail)
        refine (hT_h.out _).mono ?_
        rintro e w' ⟨rfl, hw'⟩
        subst hw'
        go_wp2_with (fail)
        go_roundw
        case rel => exact ⟨k + 1, by omega, by go_num, hbr2_h.out, hall3_h.out⟩
        case measure => simp [intOf]; omega
      · have hv' : noDl κ = false := by simpa using hv
        simp only [hv'] at hT
        have hfin := hDN_h.out (allE_no hxe hv')
        subst hfin
        clear hall2 hv hv'; have hbr2_h := lH hbr2; have hbr_h := lH hbr; have hba_h := lH hba; have hbo_h := lH hbo; have hxe_h := lH hxe; have hT_h := lH hT; clear hbr2 hbr hba hbo hxe hT
        go_wp2_with (fail)
        refine (hT_h.out _).mono ?_
        rintro e w' ⟨rfl, hw'⟩
        subst hw'
        go_wp2_with (fail)
        go_ret
        exact ⟨rfl, hba_h.out⟩
    · obtain rfl : m = k := by omega
      have hyes := allE_yes (f := (fun e : Eg => noDl e.1)) (l := es) fun j e h1 h2 => hall j e h1 (by rw [← hmes_h.out]; exact h2)
      have hbo := below_trans hbq_h.out hbr hbq_h.out.size
      have hfin := hDD_h.out hyes
      subst hfin
      clear hall; have hbo_h := lH hbo; clear hbo
      go_wp2_with (fail)
      go_ret
      exact ⟨rfl, hbo_h.out⟩
 · have hg' : gOverB p (z, es, s, t) = false := by simpa using hg
   simp only [hg'] at hV
   rw [hg', Bool.false_and] at hD
   subst hD
   clear hg hg' ok; have hV_h := lH hV; have k0_h := lH k0; have bW_h := lH bW; have hm_h := lH hm; have hmes_h := lH hmes; have a1_h := lH a1; have hE_h := lH hE; clear hV k0 bW hm hmes a1 hE
   go_enter Tryz.func44, Tryz.ntmps44
   go_upto_region 1 with (fail)
   rw [← hW]
   clear hW
   go_wp2_with (fail)
   refine (hV_h.out _ bW_h.out).mono ?_
   rintro e wq ⟨rfl, hb1⟩
   go_wp2_with (fail)
   go_ret
   exact ⟨rfl, below_trans bW_h.out hb1 bW_h.out.size⟩
section
variable {P : Program} {ops : Array Oper} {Q : Exit → Act → World → Prop} {md : Region.Mode} {z : Nat} {F : World → Prop}
def wpAnyZ (P : Program) (md : Region.Mode) (ops : Array Oper) (Q : Exit → Act → World → Prop) (z : Nat) (F : World → Prop) : Nat → Array Bool → Act → World → Prop
 | 0, listed, a, w => Region.ready md ops listed = [] ∧ Q .normal a w
 | fuel + 1, listed, a, w =>
   (Region.ready md ops listed = [] → Q .normal a w) ∧
   ∀ i ∈ Region.ready md ops listed, wpOp P ops Q i (fun a' w' => ((listed.setIfInBounds i true).getD z true = false → F w') ∧ wpAnyZ P md ops Q z F fuel (listed.setIfInBounds i true) a' w') a w
theorem wpAny_of_z : ∀ (fuel : Nat) (listed : Array Bool) (a : Act) (w : World), wpAnyZ P md ops Q z F fuel listed a w → wpAny P md ops Q fuel listed a w
 | 0, _, _, _, h => h
 | fuel + 1, _, _, _, h => ⟨h.1, fun i hi => wpOp_mono (fun a' w' h' => wpAny_of_z fuel _ a' w' h'.2) (h.2 i hi)⟩
end
section
variable {P : Program} {l : List Oper} {Q : Exit → Act → World → Prop} {md : Region.Mode} {z : Nat} {F : World → Prop}
theorem beginZ (z : Nat) (F : World → Prop) {id : Nat} {a : Act} {w : World} (hm : P.follows .mixedOrders = true) (h : wpAnyZ P .any l.toArray Q z F l.toArray.size (Array.replicate l.toArray.size false) a w.drew) : (Code.region id l.toArray true).wp P Q a w :=
 wp_region_any hm (wpAny_of_z _ _ _ _ h)
theorem beginZw (z : Nat) (F : World → Prop) {id : Nat} {a : Act} {w : World} (hm : P.follows .mixedOrders = true) (h : ∀ W1, W1 = w.drew → wpAnyZ P .any l.toArray Q z F l.toArray.size (Array.replicate l.toArray.size false) a W1) : (Code.region id l.toArray true).wp P Q a w :=
 beginZ z F hm (h _ rfl)
theorem oneZ (i : Nat) {o : Oper} {fuel : Nat} {listed : Array Bool} {a : Act} {w : World} {l' : List Oper} (hd : l.drop i = o :: l') (hr : Region.ready md l.toArray listed = [i]) (hw : Region.wanted o (yielded l.toArray a.tmps) = true)
  (h : ∀ K : Act → World → Prop, (∀ a' w', ((listed.setIfInBounds i true).getD z true = false → F w') → wpAnyZ P md l.toArray Q z F fuel (listed.setIfInBounds i true) a' w' → K a' w') → o.wp P a w K Q) : wpAnyZ P md l.toArray Q z F (fuel + 1) listed a w := by
 refine ⟨fun h0 => (by rw [hr] at h0; cases h0), fun j hj => ?_⟩
 rw [hr] at hj
 obtain rfl := List.mem_singleton.1 hj
 unfold wpOp
 simp only [at_drop hd, hw, if_true]
 exact .inl (h _ fun a' w' h1 h2 => ⟨h1, h2⟩)
theorem runZ (i : Nat) {o : Oper} {v : Value} {fuel : Nat} {listed : Array Bool} {a : Act} {w w1 : World} {l' : List Oper} (hd : l.drop i = o :: l') (hr : Region.ready md l.toArray listed = [i]) (hw : Region.wanted o (yielded l.toArray a.tmps) = true)
  (hrun : (execOp a.eval o).run P w = .ok (.value v) w1) (hS : (listed.setIfInBounds i true).getD z true = false → F w1) (h : wpAnyZ P md l.toArray Q z F fuel (listed.setIfInBounds i true) (a.put o.dst v) w1) : wpAnyZ P md l.toArray Q z F (fuel + 1) listed a w :=
 oneZ i hd hr hw fun K hK => by
  unfold Oper.wp
  rw [hrun]
  exact hK _ _ hS h
theorem callZ (i : Nat) {o : Oper} {f : FuncId} {args : Array Value} {fuel : Nat} {listed : Array Bool} {a : Act} {w : World} {l' : List Oper} (hd : l.drop i = o :: l') (hr : Region.ready md l.toArray listed = [i]) (hw : Region.wanted o (yielded l.toArray a.tmps) = true)
  (hrun : (execOp a.eval o).run P w = .ok (.enter f args) w)
  (h : Calls P f args w fun e w' => ∃ v, e = .returned v ∧ ((listed.setIfInBounds i true).getD z true = false → F w') ∧ wpAnyZ P md l.toArray Q z F fuel (listed.setIfInBounds i true) (a.put o.dst v) w') : wpAnyZ P md l.toArray Q z F (fuel + 1) listed a w := by
 refine oneZ i hd hr hw fun K hK => ?_
 unfold Oper.wp
 rw [hrun]
 exact h.mono fun e w' ⟨v, he, h1, h2⟩ => by subst he; exact hK _ _ h1 h2
theorem appZ (i : Nat) {o : Oper} {fuel : Nat} {listed : Array Bool} {a : Act} {w : World} {l' : List Oper} (hd : l.drop i = o :: l') (hr : Region.ready md l.toArray listed = [i]) (hw : Region.wanted o (yielded l.toArray a.tmps) = true)
  (s x : Operand) (t : TypeId) (ho : o.op = .call { callee := .builtin .append, args := #[s, x], argTypes := #[t, t] })
  (e : TypeId) {z0 : Value} {size bytes : Nat} (ht : P.underlying t = some (.slice e)) (hinfo : (P.info? e).map (fun i => (i.zero, i.size, i.bytes)) = some (some z0, size, bytes)) (hzs : z0.cells.size = size) (hsz : 0 < size)
  {A : Option Addr} {n cap : Nat} {xs : List Value} (he : a.eval s = .slice A n cap) (hs : Sl w e size A n cap xs)
  {B : Option Addr} {m c : Nat} {news : List Value} (hx : a.eval x = .slice B m c) (hl : news.length = m * size) (hrd : RdC w B news) (h1 : ∀ u ∈ news, u.oneCell' = true)
  (h63 : n + m ≤ maxLen) (hbytes : (n + m) * bytes ≤ 140737488355328)
  (h : ∀ A' cap' w', Sl w' e size A' (n + m) cap' (xs ++ news) → (∀ b, b ∈ fpA A' → b ∈ fpA A ∨ w.heap.size ≤ b) → Keeps (· ∈ fpA A) w w' → RdC w' A xs → ((listed.setIfInBounds i true).getD z true = false → F w') ∧ wpAnyZ P md l.toArray Q z F fuel (listed.setIfInBounds i true) (a.put o.dst (.slice A' (n + m) cap')) w') : wpAnyZ P md l.toArray Q z F (fuel + 1) listed a w := by
 obtain ⟨i', hi, hz, hz1, hz2⟩ := info_parts hinfo
 obtain ⟨A', cap', w', hrun, h2, h3, h4, h5⟩ := run_append_Sl_rd (P := P) w t o.type e i' z0 size bytes ht hi hz hz1 hz2 hzs hsz A n cap xs hs B m c news hl hrd h1 h63 hbytes
 obtain ⟨hS, hh⟩ := h A' cap' w' h2 h3 h4 h5
 refine runZ i hd hr hw (w1 := w') (v := .slice A' (n + m) cap') ?_ hS hh
 unfold execOp
 simp only [ho, resolve, invoke, builtin, Sem.run_bind, Sem.run_pure, Result.andThen_ok, List.map_toArray, List.map_cons, List.map_nil, he, hx, hrun]
theorem doneZ {fuel : Nat} {listed : Array Bool} {a : Act} {w : World} (hr : Region.ready md l.toArray listed = []) (h : Q .normal a w) : wpAnyZ P md l.toArray Q z F fuel listed a w := by
 cases fuel with
 | zero => exact ⟨hr, h⟩
 | succ f => exact ⟨fun _ => h, fun i hi => (by rw [hr] at hi; cases hi)⟩
end
section
variable {P : Program} {ops : Array Oper} {Q : Exit → Act → World → Prop} {md : Region.Mode} {z : Nat} {F : World → Prop}
theorem wpAnyZ_firstC {i : Nat} {oi : Oper} {v : Value} {C : List Nat} (hi : ops[i]? = some oi) (hsel : ∀ (j : Nat) (o : Oper) cs b, ops[j]? = some o → o.op ≠ .select cs b)
  (hQ : ∀ c a w, Q (.panic c) (a.put oi.dst v) w → Q (.panic c) a w) (hzC : z ∈ C) (hiC : ¬ i ∈ C) (hC : ∀ c ∈ C, ∃ oc, ops[c]? = some oc ∧ ∃ e ∈ oc.after, Region.binds md e = true ∧ (e.on = i ∨ e.on ∈ C)) :
  ∀ (fuel : Nat) (listed : Array Bool) (a : Act) (w : World), (∀ c ∈ C, listed.getD c true = false) →
    (∀ j oj, ops[j]? = some oj → j ≠ i → listed.getD j true = false → (∀ e ∈ oj.after, Region.binds md e = true → e.on ≠ i) → oi.apart ops oj = true) →
    i ∈ Region.ready md ops listed → YieldsIf P ops F oi v a → F w →
    wpAnyZ P md ops Q z F fuel (listed.setIfInBounds i true) (a.put oi.dst v) w → wpAnyZ P md ops Q z F (fuel + 1) listed a w := by
 intro fuel
 have hiz : i ≠ z := fun e => hiC (e ▸ hzC)
 induction fuel with
 | zero =>
   intro listed a w _ _ hr hy hS H
   refine ⟨fun h => (by rw [h] at hr; cases hr), fun j hj => ?_⟩
   by_cases hji : j = i
   · subst hji; exact hy.wpOp hi hS ⟨fun _ => hS, H⟩
   · have := ready_mono hj hji
     rw [H.1] at this
     cases this
 | succ fuel ih =>
   intro listed a w hlz hfree hr hy hS H
   refine ⟨fun h => (by rw [h] at hr; cases hr), fun j hj => ?_⟩
   by_cases hji : j = i
   · subst hji; exact hy.wpOp hi hS ⟨fun _ => hS, H⟩
   · have h1 := H.2 j (ready_mono hj hji)
     obtain ⟨hjun, oj, hoj, hall⟩ := mem_ready.1 hj
     have hblock : ∀ k, listed.getD k true = false → ∀ e ∈ oj.after, Region.binds md e = true → e.on ≠ k := fun k h0 e he hb heq => by
      have h1 := hall e he hb
      rw [heq] at h1
      rcases Nat.lt_or_ge k listed.size with h' | h'
      · simp [h'] at h0 h1; rw [h0] at h1; cases h1
      · simp [Array.getElem?_eq_none h'] at h1
     have hnot : ∀ e ∈ oj.after, Region.binds md e = true → e.on ≠ i := hblock i (mem_ready.1 hr).1
     have hjC : ¬ j ∈ C := fun hm => by
      obtain ⟨oc, hoc, e, he, hb, hon⟩ := hC j hm
      rw [hoj] at hoc
      obtain rfl := Option.some.inj hoc
      rcases hon with h | h
      · exact hnot e he hb h
      · exact hblock _ (hlz _ h) e he hb rfl
     have hjz : j ≠ z := fun e => hjC (e ▸ hzC)
     have h2 := wpOp_putIf hoj (hfree j oj hoj hji hjun hnot) (fun cs b => hsel i oi cs b hi) (fun cs b => hsel j oj cs b hoj) hQ hy h1
     have hfree' : ∀ k ok, ops[k]? = some ok → k ≠ i → (listed.setIfInBounds j true).getD k true = false →
       (∀ e ∈ ok.after, Region.binds md e = true → e.on ≠ i) → oi.apart ops ok = true := fun k ok hk hki hun hno => by
      refine hfree k ok hk hki ?_ hno
      by_cases hjk : j = k
      · subst hjk; exact hjun
      · rw [getD_set_ne true hjk] at hun; exact hun
     have hlz' : ∀ c ∈ C, (listed.setIfInBounds j true).getD c true = false := fun c hc => by
      have hjc : j ≠ c := fun e => hjC (by rw [e]; exact hc)
      rw [getD_set_ne true hjc]; exact hlz c hc
     have hlz2 : ((listed.setIfInBounds i true).setIfInBounds j true).getD z true = false := by rw [getD_set_ne true hjz, getD_set_ne true hiz]; exact hlz z hzC
     refine wpOp_mono (fun a' w' h3 => ⟨fun _ => h3.2.1 hlz2, ih (listed.setIfInBounds j true) a' w' hlz' hfree' (ready_mono hr (Ne.symm hji)) h3.1 (h3.2.1 hlz2) ?_⟩) h2
     rw [Array.setIfInBounds_comm _ _ hji]
     exact h3.2.2
def descC (md : Region.Mode) (ops : Array Oper) (i : Nat) : List Nat :=
 (List.range ops.size).foldl (fun acc k => if (i :: acc).any fun d => Region.waitsFor md ops k d then k :: acc else acc) []
def chainC (md : Region.Mode) (ops : Array Oper) (listed : Array Bool) (C : List Nat) (z i : Nat) : Bool :=
 C.contains z && !C.contains i && C.all fun c => !listed.getD c true && (i :: C).any fun d => Region.waitsFor md ops c d
end
section
variable {P : Program} {l : List Oper} {Q : Exit → Act → World → Prop} {md : Region.Mode} {z : Nat} {F : World → Prop}
theorem takeC (i : Nat) {oi : Oper} {v : Value} {fuel : Nat} {listed : Array Bool} {a : Act} {w : World} {l' : List Oper} (hd : l.drop i = oi :: l')
  (hs : Region.noSelect l.toArray = true) (hf : Region.free md l.toArray listed i = true) (hr : (Region.ready md l.toArray listed).contains i = true) (hz : chainC md l.toArray listed (descC md l.toArray i) z i = true)
  (hQ : ∀ c a w, Q (.panic c) (a.put oi.dst v) w → Q (.panic c) a w) (hS : F w) (hw : Region.wanted oi (yielded l.toArray a.tmps) = true) (hy : ∀ w, F w → (execOp a.eval oi).run P w = .ok (.value v) w)
  (h : wpAnyZ P md l.toArray Q z F fuel (listed.setIfInBounds i true) (a.put oi.dst v) w) : wpAnyZ P md l.toArray Q z F (fuel + 1) listed a w := by
 simp only [chainC, Bool.and_eq_true, Bool.not_eq_true', List.all_eq_true, List.any_eq_true] at hz
 obtain ⟨⟨h1, h2⟩, h3⟩ := hz
 refine wpAnyZ_firstC (C := descC md l.toArray i) (at_drop hd) (Region.noSelect_spec hs) hQ (by simpa using h1) (by simpa using h2) (fun c hc => ?_) fuel listed a w (fun c hc => (h3 c hc).1) (Region.free_spec (at_drop hd) hf) (by simpa using hr) (.inl ⟨hw, hy⟩) hS h
 obtain ⟨-, d, hd', hwt⟩ := h3 c hc
 obtain ⟨oz, hoz, e, he, hb, heq⟩ := Region.waitsFor_spec hwt
 refine ⟨oz, hoz, e, he, hb, ?_⟩
 rw [heq]
 rcases List.mem_cons.1 hd' with h | h
 · exact .inl h
 · exact .inr h
theorem tkC (i : Nat) {oi : Oper} (v : Value) {fuel : Nat} {listed : Array Bool} {a : Act} {w : World} {l' : List Oper} (hd : l.drop i = oi :: l') (hS : F w) (hy : ∀ w, F w → (execOp a.eval oi).run P w = .ok (.value v) w)
 (h : wpAnyZ P md l.toArray Q z F fuel (listed.setIfInBounds i true) (a.put oi.dst v) w) (hs : Region.noSelect l.toArray = true := by kernel_rfl) (hf : Region.free md l.toArray listed i = true := by kernel_rfl) (hr : (Region.ready md l.toArray listed).contains i = true := by kernel_rfl) (hz : chainC md l.toArray listed (descC md l.toArray i) z i = true := by kernel_rfl)
 (hQ : ∀ c a w, Q (.panic c) (a.put oi.dst v) w → Q (.panic c) a w := by exact fun _ _ _ h => h) (hw : Region.wanted oi (yielded l.toArray a.tmps) = true := by rfl) : wpAnyZ P md l.toArray Q z F (fuel + 1) listed a w := takeC i hd hs hf hr hz hQ hS hw hy h
end
theorem OM.grow {w0 w w1 w2 : World} {A : Option Addr} {cap : Nat} {L : List (List Int)} (h : OM w0 w A cap L) {i : Nat} (hi : i < L.length) {ad : Addr} (hA : A = some ad) {B : Option Addr} {n c : Nat} (hc : w.cell? (ad.add i) = some (.slice B n c)) (hb : Below w.heap.size w w1) {B' : Option Addr} {c' : Nat} {l' : List Int} (hx : IS w2 B' c' l') (hf1 : ∀ b, b ∈ fpA B' → b ∈ fpA B ∨ w.heap.size ≤ b) (hkB : Keeps (· ∈ fpA B) w1 w2) :
  OM w0 (w2.setCell (ad.add i) (.slice B' l'.length c')) A cap (L.set i l') := by
 subst hA
 obtain ⟨hs, rfl, hO, hf, h0⟩ := h
 have hi' : i < hs.length := by simpa using hi
 obtain ⟨ad', B0, c0, l0, hA', hx0, hc', _, _⟩ := hO.get (i := i) hi'
 obtain rfl := Option.some.inj hA'
 rw [hc] at hc'
 injection hc' with hc'
 injection hc' with e1 e2 e3
 subst e1
 have hm0 := List.mem_of_getElem? hx0
 have hAl : ∀ b, b ∈ fpA (some ad) → b < w.heap.size := fun b hb' => hO.sl.lt b hb'
 have hRl : ∀ y, y ∈ hs → (∀ b, b ∈ fpA y.1 → b < w.heap.size) := fun y hy b hb' => (hO.rows y hy).lt b hb'
 have hBA : ∀ b, b ∈ fpA B → ¬ b ∈ fpA (some ad) := fun b hb' => hO.outer _ hm0 b hb'
 have hk : Keeps (· ∈ fpA (some ad)) w2 (w2.setCell (ad.add i) (.slice B' l'.length c')) := (Keeps.refl _ w2).setCell (p := ad.add i) (by rw [block_of_add]; simp) _
 have hget : ∀ (k : Nat) (x : Hd), (hs.set i (B', c', l'))[k]? = some x → (k = i ∧ x = (B', c', l')) ∨ (k ≠ i ∧ hs[k]? = some x) := by
  intro k x hx
  rw [List.getElem?_set] at hx
  split at hx
  · rename_i hk; subst hk
    simp at hx
    exact .inl ⟨rfl, hx.symm⟩
  · rename_i hk; exact .inr ⟨fun e => hk e.symm, hx⟩
 have hsz := h0.size
 have hbs := hb.size
 refine ⟨hs.set i (B', c', l'), by rw [List.map_set], ⟨?_, fun x hx' => ?_, ?_, fun x hx' b hb1 hb2 => ?_⟩, fun b hb' => ?_, ?_⟩
 · have := ((hO.sl.below hb).keeps hkB (fun b hb1 hb2 => hBA b hb2 hb1)).set (ad := ad) rfl i (Hd.val (B', c', l')) (by simpa using hi')
   rw [← List.map_set] at this
   rw [List.length_set]; exact this
 · obtain ⟨k, hk', rfl⟩ := List.getElem_of_mem hx'
   rcases hget k _ (List.getElem?_eq_getElem hk') with ⟨_, e⟩ | ⟨hne, e⟩
   · rw [e]
     exact hx.keeps hk fun b hb' hb'' => by
      rcases hf1 b hb' with h1 | h1
      · exact hBA b h1 hb''
      · have := hAl b hb''
        omega
   · exact ((hO.rows _ (List.mem_of_getElem? e)).below hb |>.keeps hkB (fun b hb1 hb2 => hO.apart_get e hx0 hne b hb1 hb2)).keeps hk fun b hb' => hO.outer _ (List.mem_of_getElem? e) b hb'
 · refine List.pairwise_iff_getElem.2 fun a b ha hb' hab c'' h1 h2 => ?_
   rcases hget a _ (List.getElem?_eq_getElem ha) with ⟨ea, e1⟩ | ⟨ea, e1⟩ <;> rcases hget b _ (List.getElem?_eq_getElem hb') with ⟨eb, e2⟩ | ⟨eb, e2⟩
   · omega
   · rw [e1] at h1
     have h3 := hRl _ (List.mem_of_getElem? e2) c'' h2
     rcases hf1 c'' h1 with h4 | h4
     · exact hO.apart_get e2 hx0 eb c'' h2 h4
     · omega
   · rw [e2] at h2
     have h3 := hRl _ (List.mem_of_getElem? e1) c'' h1
     rcases hf1 c'' h2 with h4 | h4
     · exact hO.apart_get e1 hx0 ea c'' h1 h4
     · omega
   · exact hO.apart_get e1 e2 (by omega) c'' h1 h2
 · rcases List.mem_or_eq_of_mem_set hx' with hx' | hx'
   · exact hO.outer x hx' b hb1 hb2
   · subst hx'
     rcases hf1 b hb1 with h1 | h1
     · exact hBA b h1 hb2
     · have := hAl b hb2
       omega
 · rcases List.mem_append.1 hb' with hb' | hb'
   · exact hf b (List.mem_append_left _ hb')
   · obtain ⟨y, hy, hb'⟩ := mem_fpR.1 hb'
     rcases List.mem_or_eq_of_mem_set hy with hy | hy
     · exact hf b (List.mem_append_right _ (mem_fpR.2 ⟨_, hy, hb'⟩))
     · subst hy
       rcases hf1 b hb' with h1 | h1
       · exact hf b (List.mem_append_right _ (mem_fpR.2 ⟨_, hm0, h1⟩))
       · omega
 · have hB2 := below_keeps (below_trans h0 hb hsz) hkB (by omega) fun b hb' => hf b (List.mem_append_right _ (mem_fpR.2 ⟨_, hm0, hb'⟩))
   exact below_keeps hB2 hk hB2.size fun b hb' => hf b (List.mem_append_left _ hb')
theorem IS.ne_out {w : World} {A B : Option Addr} {c n cap : Nat} {l : List Int} {xs : List Value} (h : IS w A c l) (h' : Sl w 23 1 B n cap xs) : ∀ x, x ∈ fpA A → x ∉ fpA B := by
 intro x hx hx'
 rcases h.2.2.2 with ⟨rfl, _⟩ | ⟨g, off, cur, rfl, hg, _⟩
 · simp at hx
 rcases h'.2.2.2 with ⟨rfl, _⟩ | ⟨g', off', cur', rfl, hg', _⟩
 · simp at hx'
 simp at hx hx'
 subst hx
 subst hx'
 rw [hg] at hg'
 injection hg' with hg'
 injection hg' with _ h2 _
 exact absurd h2 (by decide)
structure RwI (w0 w : World) (A : Option Addr) (cap : Nat) (hs : List Hd) : Prop where
 sl : Sl w 23 1 A hs.length cap (hs.map Hd.val)
 rows : ∀ x, x ∈ hs → IS w x.1 x.2.1 x.2.2
 new : ∀ b, b ∈ fpA A → w0.heap.size ≤ b
 below_ : Below w0.heap.size w0 w
theorem RwI.nil (w0 w : World) (hb : Below w0.heap.size w0 w) : RwI w0 w none 0 [] := ⟨Sl.nil _ _ _, fun x hx => (by cases hx), fun b hb' => (by simp at hb'), hb⟩
theorem RwI.below {w0 w w' : World} {A : Option Addr} {cap : Nat} {hs : List Hd} (h : RwI w0 w A cap hs) (hb : Below w.heap.size w w') : RwI w0 w' A cap hs :=
 ⟨h.sl.below hb, fun x hx => (h.rows x hx).below hb, h.new, below_trans h.below_ hb h.below_.size⟩
theorem RwI.rdr {w0 w : World} {A : Option Addr} {cap : Nat} {hs : List Hd} (h : RwI w0 w A cap hs) : RdR w A hs :=
 ⟨fun i x hi => by obtain ⟨ad, hA, _, hc, _⟩ := h.sl.cell (j := i) (u := x.val) (by simp [hi]); exact ⟨ad, hA, by simpa using hc⟩, fun x hx => (h.rows x hx).rd⟩
theorem RwI.app {w0 w w1 w2 : World} {A : Option Addr} {cap : Nat} {hs ys : List Hd} (h : RwI w0 w A cap hs) (hb : Below w.heap.size w w1) (hy : ∀ x, x ∈ ys → IS w1 x.1 x.2.1 x.2.2) {A' : Option Addr} {cap' n : Nat} (hn : n = hs.length + ys.length) (hs' : Sl w2 23 1 A' n cap' (hs.map Hd.val ++ ys.map Hd.val)) (hA' : ∀ b, b ∈ fpA A' → b ∈ fpA A ∨ w1.heap.size ≤ b) (hk : Keeps (· ∈ fpA A) w1 w2) : RwI w0 w2 A' cap' (hs ++ ys) := by
 subst hn
 have h1 := h.below hb
 refine ⟨by rw [List.length_append, List.map_append]; exact hs', fun x hx => ?_, fun b hb' => ?_, below_keeps h1.below_ hk h1.below_.size h.new⟩
 · rcases List.mem_append.1 hx with hx | hx
   · exact (h1.rows x hx).keeps hk ((h1.rows x hx).ne_out h1.sl)
   · exact (hy x hx).keeps hk ((hy x hx).ne_out h1.sl)
 · rcases hA' b hb' with h2 | h2
   · exact h.new b h2
   · have := h1.below_.size; omega
theorem mem_edWd {es : List Eg} {e : Eg} (he : e ∈ es) {x : Int} (hx : x ∈ e.2.2.1 ++ e.2.2.2) : x ∈ edW es := by
 induction es with
 | nil => cases he
 | cons a r ih =>
   unfold edW
   rcases List.mem_cons.1 he with rfl | he
   · rcases List.mem_append.1 hx with h | h
     · exact List.mem_append_left _ h
     · exact List.mem_append_right _ (List.mem_append_left _ h)
   · exact List.mem_append_right _ (List.mem_append_right _ (ih he))
structure DnOk (p : Int) (g : Gr) : Prop where
 fld : fieldB p = true
 lo : 0 ≤ g.1
 hi : g.1 ≤ 100
 len : g.2.1.length ≤ 60
 li : g.2.2.1.length ≤ 12
 lo' : g.2.2.2.length ≤ 12
 ends : ∀ x, x ∈ g.2.2.1 ++ g.2.2.2 → 0 ≤ x ∧ x < g.1
 edge : ∀ e, e ∈ g.2.1 → (3 ≤ e.1 ∧ e.1 ≤ 14) ∧ ((e.2.2.1.length : Int), (e.2.2.2.length : Int)) = kindTy e.1 ∧ (∀ x, x ∈ e.2.2.1 ++ e.2.2.2 → 0 ≤ x ∧ x < g.1) ∧ 0 ≤ e.2.1 ∧ e.2.1 < p ∧ e.1 ≠ 8 ∧ e.1 ≠ 14
theorem DnOk.of {p : Int} {g : Gr} (h : dnAskB p g = true) : DnOk p g := by
 unfold dnAskB gOverB grB at h
 simp only [Bool.and_eq_true, List.all_eq_true, decide_eq_true_eq] at h
 obtain ⟨⟨h1, ⟨⟨h2, h3, h4, h5⟩, h6, h7, _⟩, h8⟩, h9⟩ := h
 unfold t_inB at h2
 have h2 := of_decide_eq_true h2
 have hw := inW_iff.1 h7
 refine ⟨h1, h2.1, h2.2, h3, h4, h5, fun x hx => hw x ?_, fun e he => ?_⟩
 · unfold t_allW
   rcases List.mem_append.1 hx with h | h
   · exact List.mem_append_left _ h
   · exact List.mem_append_right _ (List.mem_append_left _ h)
 · have h10 := h6 e he
   unfold egB at h10
   simp only [Bool.and_eq_true, decide_eq_true_eq] at h10
   obtain ⟨k1, k2, k3⟩ := h10
   unfold t_inB at k1
   have k1 := of_decide_eq_true k1
   have h11 := h9 e he
   unfold noDl at h11
   simp only [Bool.and_eq_true, decide_eq_true_eq] at h11
   refine ⟨k1, k3, fun x hx => hw x ?_, ?_, h8 e he, h11.1, h11.2⟩
   · unfold t_allW
     exact List.mem_append_right _ (List.mem_append_right _ (mem_edWd he hx))
   · unfold gvB at k2
     split at k2
     · unfold t_inB at k2
       exact (of_decide_eq_true k2).1
     · have := of_decide_eq_true k2; omega
theorem dnRowsM_len (p : Int) (n : Nat) (e : Eg) : (dnRowsM p n e).length ≤ 2 := by
 unfold dnRowsM
 repeat' split
 all_goals simp
theorem dnRowsM_mat {p : Int} (hp : 0 < p) (n : Nat) (e : Eg) : ∀ v, v ∈ dnRowsM p n e → v.length = n ∧ Res p v := by
 have h : ∀ a b, (sprV p n a b).length = n ∧ Res p (sprV p n a b) := fun a b => ⟨sprTo_length _ _ _ _ _, sprTo_res hp _ _ _ _⟩
 intro v hv
 unfold dnRowsM at hv
 split at hv
 · simp only [List.mem_cons, List.not_mem_nil, or_false] at hv
   rcases hv with rfl | rfl <;> exact h _ _
 · split at hv
   · simp only [List.mem_cons, List.not_mem_nil, or_false] at hv
     subst hv; exact h _ _
   · split at hv
     · simp only [List.mem_cons, List.not_mem_nil, or_false] at hv
       subst hv; exact h _ _
     · split at hv
       · simp only [List.mem_cons, List.not_mem_nil, or_false] at hv
         subst hv; exact h _ _
       · cases hv
theorem eqs_mat {p : Int} (hp : 0 < p) (n : Nat) (es : List Eg) : Mat p (es.flatMap (dnRowsM p n)).length n (es.flatMap (dnRowsM p n)) := ⟨rfl, fun v hv => by
 obtain ⟨e, _, hv⟩ := List.mem_flatMap.1 hv
 exact dnRowsM_mat hp n e v hv⟩
theorem rdc_vals {w : World} {A : Option Addr} {hs : List Hd} (h : RdR w A hs) : RdC w A (hs.map Hd.val) := fun j u hj => by
 rw [List.getElem?_map] at hj
 cases hx : hs[j]? with
 | none => rw [hx] at hj; cases hj
 | some x =>
   rw [hx] at hj
   obtain rfl : x.val = u := by simpa using hj
   exact h.1 j x hx
theorem vals_one (hs : List Hd) : ∀ u ∈ hs.map Hd.val, u.oneCell' = true := fun u hu => by
 obtain ⟨x, _, rfl⟩ := List.mem_map.1 hu
 exact Hd.val_one x
set_option maxRecDepth 100000 in
set_option maxHeartbeats 2000000 in
theorem dnValues_any (p : Int) {v : Value} {g : Gr} (w : World) (h : RdGr w v g) (ok : OkG g) (hd : DnOk p g) :
  Calls Tryz.prog 60 #[.int .i64 p, v] w (RetSS w (nullM p g.1.toNat (dnEqs p g))) := by
 obtain ⟨A, c, hs, ⟨B, b, s⟩, ⟨C, d, t⟩, rfl, e1, e2, e3, hE, hRa, hRb⟩ := id h
 obtain ⟨z, es, s0, t0⟩ := g
 have a1 : es = hs.map egOf := e1
 have a2 : s = s0 := e2
 have a3 : t = t0 := e3
 subst a2 a3
 clear e1 e2 e3
 obtain ⟨m, hm⟩ : ∃ m, m = hs.length := ⟨_, rfl⟩
 have hmes : es.length = m := by rw [a1, List.length_map, hm]
 have hm20 : m ≤ 1048576 := by rw [← hmes]; exact ok.1.1
 change RdGr w (.agg #[.int .i64 z, .slice A hs.length c, .slice B s.length b, .slice C t.length d]) (z, es, s, t) at h
 show Calls Tryz.prog _ #[.int .i64 p, .agg #[.int .i64 z, .slice A hs.length c, .slice B s.length b, .slice C t.length d]] w _
 rw [← hm] at h ⊢
 obtain ⟨W, hW, bW, k0⟩ := (⟨_, rfl, below_alloc _ _, heap_alloc_new _ _⟩ : ∃ W, W = w.alloc (.cells #[.int .i64 z, .slice A m c, .slice B s.length b, .slice C t.length d] tGr) ∧ Below w.heap.size w W ∧ W.heap[w.heap.size]? = some (.cells #[.int .i64 z, .slice A m c, .slice B s.length b, .slice C t.length d] tGr))
 obtain ⟨⟨c0, c1, c2, c3⟩, f0, f1, f2, f3⟩ := box4 k0
 obtain ⟨n, hn⟩ : ∃ n, n = z.toNat := ⟨_, rfl⟩
 have hz0 : 0 ≤ z := hd.lo
 have hz1 : z ≤ 100 := hd.hi
 have hzn : z = (n : Int) := by omega
 have hpb := fieldB_bounds hd.fld
 have hes60 : m ≤ 60 := by rw [← hmes]; exact hd.len
 have hedge : ∀ e, e ∈ es → (3 ≤ e.1 ∧ e.1 ≤ 14) ∧ ((e.2.2.1.length : Int), (e.2.2.2.length : Int)) = kindTy e.1 ∧ (∀ x, x ∈ e.2.2.1 ++ e.2.2.2 → 0 ≤ x ∧ x < (n : Int)) ∧ 0 ≤ e.2.1 ∧ e.2.1 < p := fun e he => by
  obtain ⟨x1, x2, x3, x4, x5, _⟩ := hd.edge e he
  exact ⟨x1, x2, fun x hx => by rw [← hzn]; exact x3 x hx, x4, x5⟩
 have hmat := eqs_mat (p := p) (by omega) n es
 obtain ⟨X, hX⟩ : ∃ X, X = es.flatMap (dnRowsM p n) := ⟨_, rfl⟩
 rw [← hX] at hmat
 have hXE : dnEqs p (z, es, s, t) = X := by rw [hX, hn]; rfl
 rw [hXE]
 show Calls Tryz.prog _ _ w (RetSS w (nullM p z.toNat X))
 rw [← hn]
 have hE0 := hE.below bW
 have hfld := hd.fld
 have hN0 := RwI.nil W W (Below.refl _ _)
 have hn100 : n ≤ 100 := by omega
 clear h hd ok hE hRa hRb hz0 hz1
 subst hzn
 clear hn; have hm_h := lH hm; have hmes_h := lH hmes; have a1_h := lH a1; have hE0_h := lH hE0; have k0_h := lH k0; have bW_h := lH bW; have hedge_h := lH hedge; have hmat_h := lH hmat; have hX_h := lH hX; have hfld_h := lH hfld; have hN0_h := lH hN0; have hpb_h := lH hpb; clear hm hmes a1 hE0 k0 bW hedge hmat hX hfld hN0 hpb
 go_enter Tryz.func60, Tryz.ntmps60
 go_upto_region 1 with (fail)
 rw [← hW]
 clear hW
 go_wp2_with (fail)
 clear c0 c1 c2 c3 f0 f1 f2 f3
 go_loopw [11, 5] (fun i v wr => ∃ (k : Nat) (A' : Option Addr) (c' : Nat) (ys : List Hd) (q : Nat), k ≤ m ∧ i = .int .i64 k ∧ v = .slice A' q c' ∧ ys.length = q ∧ q ≤ 2 * k ∧ ys.map (fun h : Hd => h.2.2) = (es.take k).flatMap (dnRowsM p n) ∧ RwI W wr A' c' ys) (fun i _ _ => m - (intOf i).toNat)
 case atStart => exact ⟨0, none, 0, [], 0, Nat.zero_le _, rfl, rfl, rfl, Nat.zero_le _, rfl, hN0_h.out⟩
 case round =>
  clear hN0_h
  obtain ⟨k, A', c', ys, q, hk, rfl, rfl, hyl, hq2, hym, hO⟩ := hrel
  obtain ⟨wo, rfl⟩ : ∃ x, x = wr := ⟨_, rfl⟩
  have hbr := hO.below_
  by_cases hlt : k < m
  · obtain ⟨ad, κ, v, B', b', l, C', e', mm, rfl, hx, ⟨d0, d1, d2, d3⟩, hrl, hrm⟩ := (hE0_h.out.below hbr).at_ (j := k) (by rw [← hm_h.out]; exact hlt)
    have hxe : es[k]? = some (κ, v, l, mm) := by rw [a1_h.out, List.getElem?_map, hx]; rfl
    have hkI : (k : Int) < (m : Int) := by omega
    obtain ⟨x1, x2, x3, x4, x5⟩ := hedge_h.out _ (List.mem_of_getElem? hxe)
    obtain ⟨wN, hwN⟩ : ∃ wN, wN = wo.alloc (.cells #[.int .i64 κ, .int .i64 v, .slice B' l.length b', .slice C' mm.length e'] tEd) := ⟨_, rfl⟩
    have hbN : Below wo.heap.size wo wN := by rw [hwN]; exact below_alloc _ _
    have kN : wN.heap[wo.heap.size]? = some (.cells #[.int .i64 κ, .int .i64 v, .slice B' l.length b', .slice C' mm.length e'] tEd) := by rw [hwN]; exact heap_alloc_new _ _
    have hC := dnRows_any p n κ v B' C' b' e' l mm wN (hrl.below hbN) (hrm.below hbN) x1 x2 x3 x4 x5 hpb_h.out.1 hpb_h.out.2 (by omega)
    have hkt : (es.take (k + 1)).flatMap (dnRowsM p n) = (es.take k).flatMap (dnRowsM p n) ++ dnRowsM p n (κ, v, l, mm) := by rw [List.take_add_one, hxe]; simp
    have hR2 := dnRowsM_len p n (κ, v, l, mm)
    obtain ⟨L, hL⟩ : ∃ L, L = dnRowsM p n (κ, v, l, mm) := ⟨_, rfl⟩
    rw [← hL] at hC hkt hR2
    obtain ⟨r, hr⟩ : ∃ r, r = L.length := ⟨_, rfl⟩
    unfold RetRc at hC
    rw [← hr] at hC hR2
    have k0r := box_below (box_below k0_h.out hbr) hbN
    obtain ⟨⟨c0, c1, c2, c3⟩, f0, f1, f2, f3⟩ := box4 k0r
    obtain ⟨⟨g0, g1, g2, g3⟩, j0, j1, j2, j3⟩ := box4 kN
    have k0w := box_below k0_h.out hbr
    clear hx hrl hrm x1 x2 x3 x4 x5 hL k0r; have hC_h := lH hC; have hkt_h := lH hkt; have hr_h := lH hr; have hbN_h := lH hbN; have kN_h := lH kN; have hxe_h := lH hxe; have hyl_h := lH hyl; have hym_h := lH hym; have hO_h := lH hO; have hbr_h := lH hbr; have k0w_h := lH k0w; clear hC hkt hr hbN kN hxe hyl hym hO hbr k0w
    go_upto_region 5 with (fail)
    rw [← hwN]
    clear hwN d0 d1 d2 d3
    go_wp2_with (fail)
    refine (hC_h.out).mono ?_
    rintro e w3 ⟨vr, rfl, ⟨A5, c5, hs5, rfl, hl5, hm5, hr5, hi5⟩, hb3⟩
    clear c0 c1 c2 c3 f0 f1 f2 f3 g0 g1 g2 g3 j0 j1 j2 j3
    have hba := below_trans hbN_h.out hb3 hbN_h.out.size
    have hsl : Sl w3 23 1 A' q c' (ys.map Hd.val) := by
     have := hO_h.out.sl.below hba
     rwa [hyl_h.out] at this
    have hnl : (hs5.map Hd.val).length = r * 1 := by rw [List.length_map, hl5, Nat.mul_one]
    have hrdc := rdc_vals hr5
    have hba_h := lH hba; have hsl_h := lH hsl; have hnl_h := lH hnl; have hrdc_h := lH hrdc; have hm5_h := lH hm5; have hi5_h := lH hi5; have hl5_h := lH hl5; have hb3_h := lH hb3; clear hba hsl hnl hrdc hm5 hi5 hl5 hb3; clear hr5
    go_wp2_with (at_builtin; refine wpList_append_Sl _ rfl _ _ _ rfl 23 Tryz.underlying27 info_ints rfl (by omega) rfl hsl_h.out rfl hnl_h.out hrdc_h.out (vals_one hs5) (by unfold maxLen; omega) (by omega) ?_; intro A3 c3' w5 hsA3 hA3 hkA3)
    have hO2 := hO_h.out.app hba_h.out (ys := hs5) hi5_h.out (n := q + r) (by rw [hyl_h.out, hl5_h.out]) hsA3 hA3 hkA3
    clear hsA3 hA3 hkA3; have hO2_h := lH hO2; clear hO2
    go_roundw
    case rel => exact ⟨k + 1, A3, c3', ys ++ hs5, q + r, by omega, by go_num, rfl, by rw [List.length_append, hyl_h.out, hl5_h.out], by omega, by rw [List.map_append, hym_h.out, hkt_h.out, hm5_h.out], hO2_h.out⟩
    case measure => simp [intOf]; omega
  · obtain rfl : m = k := by omega
    have hym2 : ys.map (fun h : Hd => h.2.2) = X := by rw [hym, List.take_of_length_le (by rw [hmes_h.out]; exact Nat.le_refl _), hX_h.out]
    have hXl : X.length = q := by rw [← hym2, List.length_map, hyl]
    have hC := spNull_any p n A' c' ys wo hO.rdr hfld_h.out (by rw [hym2, hyl]; have := hmat_h.out; rwa [hXl] at this) (by omega) (by omega)
    rw [hym2, hyl] at hC
    have k0r := box_below k0_h.out hbr
    obtain ⟨⟨c0, c1, c2, c3⟩, f0, f1, f2, f3⟩ := box4 k0r
    have hbf := below_trans bW_h.out hbr bW_h.out.size
    clear hym hO k0r hXl hym2 hyl hbr; have hC_h := lH hC; have hbf_h := lH hbf; clear hC hbf
    go_wp2_with (fail)
    refine (hC_h.out).mono ?_
    rintro e w1 hret
    obtain ⟨A1, c1', rfl, hO1⟩ := hret.om
    have hfin := hret.mono hbf_h.out
    go_wp2_with (fail)
    go_ret
    exact hfin
theorem mapL_res {p : Int} (hp : 0 < p) {v l : List Int} (hv : Res p v) : Res p (mapL v l) := fun x hx => by
 unfold mapL at hx
 obtain ⟨y, _, rfl⟩ := List.mem_map.1 hx
 exact hv.getD hp _
set_option maxRecDepth 100000 in
set_option maxHeartbeats 4000000 in
theorem dnGraph_any (p : Int) {v : Value} {g : Gr} (w : World) (h : RdGr w v g) (ok : OkG g) :
  Calls Tryz.prog 35 #[.int .i64 p, v] w fun e w' => ∃ v' fp, e = .returned (.tuple #[v', .bool (dnGM p g).2]) ∧ OwSys w' v' (dnGM p g).1 fp ∧ FreshL w.heap.size fp ∧ Below w.heap.size w w' := by
 obtain ⟨A, c, hs, ⟨B, b, s⟩, ⟨C, d, t⟩, rfl, e1, e2, e3, hE, hRa, hRb⟩ := id h
 obtain ⟨z, es, s0, t0⟩ := g
 have a1 : es = hs.map egOf := e1
 have a2 : s = s0 := e2
 have a3 : t = t0 := e3
 subst a2 a3
 clear e1 e2 e3
 obtain ⟨m, hm⟩ : ∃ m, m = hs.length := ⟨_, rfl⟩
 have hmes : es.length = m := by rw [a1, List.length_map, hm]
 have hm20 : m ≤ 1048576 := by rw [← hmes]; exact ok.1.1
 change RdGr w (.agg #[.int .i64 z, .slice A hs.length c, .slice B s.length b, .slice C t.length d]) (z, es, s, t) at h
 show Calls Tryz.prog _ #[.int .i64 p, .agg #[.int .i64 z, .slice A hs.length c, .slice B s.length b, .slice C t.length d]] w _
 rw [← hm] at h ⊢
 obtain ⟨W, hW, bW, k0, k1⟩ := alloc2 w (.cells #[.int .i64 z, .slice A m c, .slice B s.length b, .slice C t.length d] tGr) (.cells #[.int .i64 0, .int .i64 0, .slice none 0 0] tRel)
 obtain ⟨⟨c0, c1, c2, c3⟩, f0, f1, f2, f3⟩ := box4 k0
 have hG := dnAsked_any p W (h.below bW) ok
 obtain ⟨D, hD⟩ : ∃ D, D = dnGM p (z, es, s, t) := ⟨_, rfl⟩
 rw [← hD]
 unfold dnGM at hD
 have hbz := box_lt k1
 by_cases hq : dnAskB p (z, es, s, t) = true
 · rw [hq] at hG
   rw [if_pos hq] at hD
   have hd := DnOk.of hq
   have hVA := fun W' (hb : Below w.heap.size w W') => dnValues_any p W' (h.below hb) ok hd
   obtain ⟨n, hn⟩ : ∃ n, n = z.toNat := ⟨_, rfl⟩
   have hz0 : 0 ≤ z := hd.lo
   have hz1 : z ≤ 100 := hd.hi
   have hzn : z = (n : Int) := by omega
   have hn100 : n ≤ 100 := by omega
   have hpb := fieldB_bounds hd.fld
   have hfld := hd.fld
   have hends : ∀ x, x ∈ s ++ t → 0 ≤ x ∧ x < (n : Int) := fun x hx => by rw [← hzn]; exact hd.ends x hx
   obtain ⟨a, ha⟩ : ∃ a, a = s.length := ⟨_, rfl⟩
   obtain ⟨bb, hbb⟩ : ∃ b, b = t.length := ⟨_, rfl⟩
   have ha12 : a ≤ 12 := by rw [ha]; exact hd.li
   have hb12 : bb ≤ 12 := by rw [hbb]; exact hd.lo'
   obtain ⟨K, hK⟩ : ∃ K, K = nullM p n (dnEqs p (z, es, s, t)) := ⟨_, rfl⟩
   have hKr := nullM_red (p := p) hd.fld n (dnEqs p (z, es, s, t))
   have hKl := red_len hKr
   have hKm := hKr.1
   rw [← hK] at hKl hKm
   obtain ⟨ends, hen⟩ : ∃ e, e = s ++ t := ⟨_, rfl⟩
   obtain ⟨N, hN⟩ : ∃ N, N = a + bb := ⟨_, rfl⟩
   have henl : ends.length = N := by rw [hen, List.length_append, hN, ha, hbb]
   have hmat : Mat p (K.map (mapL · ends)).length N (K.map (mapL · ends)) := by
    rw [List.length_map]
    exact hKm.map (f := (mapL · ends)) fun v _ hr => ⟨by rw [mapL_length, henl], mapL_res (by omega) hr⟩
   obtain ⟨R, hR⟩ : ∃ R, R = redM p N (K.map (mapL · ends)) := ⟨_, rfl⟩
   have hDV : dnV p (z, es, s, t) = ((a : Int), (bb : Int), R) := by
    unfold dnV
    show ((s.length : Int), (t.length : Int), redM p (s.length + t.length) ((nullM p z.toNat (dnEqs p (z, es, s, t))).map fun v => mapL v (s ++ t))) = _
    rw [← ha, ← hbb, ← hn, ← hK, ← hen, ← hN, ← hR]
   rw [hDV] at hD
   subst hD
   have hVA' : ∀ W', Below w.heap.size w W' → Calls Tryz.prog 60 #[.int .i64 p, .agg #[.int .i64 z, .slice A m c, .slice B a b, .slice C bb d]] W' (RetSS W' K) := by
    intro W' hb
    have h1 := hVA W' hb
    have e : nullM p ((z, es, s, t) : Gr).1.toNat (dnEqs p (z, es, s, t)) = K := by rw [hK, hn]
    rw [e, ← ha, ← hbb] at h1
    exact h1
   rw [← ha, ← hbb] at hG k0 ⊢
   simp only [← ha, ← hbb] at hW
   rw [← hen] at hends
   have hRa2 : RdI W B s := RdI.below hRa bW
   have hRb2 : RdI W C t := RdI.below hRb bW
   have hNI : (a : Int) + (bb : Int) = (N : Int) := by omega
   clear h hd ok hE hRa hRb hz0 hz1 hq hDV hVA hKr hK hmes a1 hm c0 c1 c2 c3 f0 f1 f2 f3
   subst hzn
   clear hn
   obtain ⟨⟨c0, c1, c2, c3⟩, f0, f1, f2, f3⟩ := box4 k0
   have hG_h := lH hG; have k0_h := lH k0; have k1_h := lH k1; have bW_h := lH bW; have hVA'_h := lH hVA'; have hpb_h := lH hpb; have hfld_h := lH hfld; have hends_h := lH hends; have ha_h := lH ha; have hbb_h := lH hbb; have hKl_h := lH hKl; have hKm_h := lH hKm; have hen_h := lH hen; have henl_h := lH henl; have hN_h := lH hN; have hmat_h := lH hmat; have hR_h := lH hR; have hRa2_h := lH hRa2; have hRb2_h := lH hRb2; have hNI_h := lH hNI; clear hG k0 k1 bW hVA' hpb hfld hends ha hbb hKl hKm hen henl hN hmat hR hRa2 hRb2 hNI
   go_enter Tryz.func35, Tryz.ntmps35
   go_upto_region 1 with (fail)
   rw [← hW]
   clear hW
   go_wp2_with (fail)
   refine (hG_h.out).mono ?_
   rintro e w1 ⟨rfl, hb1⟩
   clear c0 c1 c2 c3 f0 f1 f2 f3
   replace k0_h := lH (box_below k0_h.out hb1)
   replace k1_h := lH (box_below k1_h.out hb1)
   have hB1 := below_trans bW_h.out hb1 bW_h.out.size
   have hbd : Below w1.heap.size w1 w1.drew := below_drewN (Below.refl _ _) 1
   have hB1_h := lH hB1; have hb1_h := lH hb1; have hbd_h := lH hbd; clear hB1 hb1 hbd
   obtain ⟨⟨c0, c1, c2, c3⟩, f0, f1, f2, f3⟩ := box4 k0_h.out
   go_wp2_with (fail)
   clear c0 c1 c2 c3 f0 f1 f2 f3
   refine beginH (fun w' => w'.heap[w.heap.size]? = some (.cells #[.int .i64 (n : Int), .slice A m c, .slice B a b, .slice C bb d] tGr)) (by kernel_rfl) ?_
   replace k0_h := lH (box_below k0_h.out hbd_h.out)
   replace k1_h := lH (box_below k1_h.out hbd_h.out)
   refine tkH 0 ?_ rfl k0_h.out (fun W' hW' => ?_) ?_; rotate_left; · (obtain ⟨⟨y0, y1, y2, y3⟩, y4, y5, y6, y7⟩ := box4 hW'; clear hW'; go_simp; first | done | with_reducible rfl)
   simp only [Act.put, nS]
   refine tkH 1 ?_ rfl k0_h.out (fun W' hW' => ?_) ?_; rotate_left; · (obtain ⟨⟨y0, y1, y2, y3⟩, y4, y5, y6, y7⟩ := box4 hW'; clear hW'; go_simp; first | done | with_reducible rfl)
   simp only [Act.put, nS]
   refine tkH 3 ?_ rfl k0_h.out (fun W' hW' => ?_) ?_; rotate_left; · (obtain ⟨⟨y0, y1, y2, y3⟩, y4, y5, y6, y7⟩ := box4 hW'; clear hW'; go_simp; first | done | with_reducible rfl)
   simp only [Act.put, nS]
   refine tkH 4 ?_ rfl k0_h.out (fun W' hW' => ?_) ?_; rotate_left; · (obtain ⟨⟨y0, y1, y2, y3⟩, y4, y5, y6, y7⟩ := box4 hW'; clear hW'; go_simp; first | done | with_reducible rfl)
   simp only [Act.put, nS]
   refine' callH 2 (f := _) (args := _) rfl (by kernel_rfl) (by rfl) ?_ ?_; rotate_left 2; · (go_simp; first | done | with_reducible rfl | (constructor <;> with_reducible rfl))
   have hbW2 := below_trans hb1_h.out hbd_h.out hb1_h.out.size
   have hOw := l1Own_any B b s w1.drew (hRa2_h.out.below hbW2) (by have := ha_h.out; omega)
   rw [← ha_h.out] at hOw
   refine (hOw).mono ?_
   rintro e w2 ⟨Ao, co, rfl, hio, hfo, hb2⟩
   rw [← ha_h.out]
   replace k0_h := lH (box_below k0_h.out hb2)
   replace k1_h := lH (box_below k1_h.out hb2)
   refine ⟨_, rfl, k0_h.out, ?_⟩
   simp only [Act.put, nS]
   have hso : Sl w2 3 1 Ao a co (ints s) := by have := hio; unfold IS at this; rw [← ha_h.out] at this; exact this
   have hrt := (hRb2_h.out.below (below_trans hbW2 hb2 hbW2.size)).rdc
   have hlt2 : (ints t).length = bb * 1 := by rw [ints_length, ← hbb_h.out, Nat.mul_one]
   have hB2 := below_trans hB1_h.out (below_trans hbd_h.out hb2 hbd_h.out.size) hB1_h.out.size
   have hbz1 := hb1_h.out.size
   have hz12 : w1.heap.size ≤ w2.heap.size := Nat.le_trans hbd_h.out.size hb2.size
   clear hOw hbW2 hio; have hso_h := lH hso; have hrt_h := lH hrt; have hlt2_h := lH hlt2; have hB2_h := lH hB2; have hfo_h := lH hfo; have hb2_h := lH hb2; clear hso hrt hlt2 hB2 hfo hb2
   refine appH 5 rfl (by kernel_rfl) (by rfl) _ _ _ rfl tInt Tryz.underlying23 info_int rfl (by omega) rfl hso_h.out rfl hlt2_h.out hrt_h.out (ints_one t) (by unfold maxLen; omega) (by omega) ?_
   intro A7 c7 w7 hsA7 hA7 hkA7
   have hf7 : ∀ b, b ∈ fpA Ao → w1.heap.size ≤ b := fun b hb => Nat.le_trans hbd_h.out.size (hfo_h.out b hb)
   have k07 := box_keeps k0_h.out hkA7 (fun h => by have := hf7 _ h; omega)
   have k17 := box_keeps k1_h.out hkA7 (fun h => by have := hf7 _ h; omega)
   have hB7 := below_keeps hB2_h.out hkA7 hB2_h.out.size (fun b hb => by have := hf7 b hb; have := hB1_h.out.size; omega)
   have hI7 : IS w7 A7 c7 ends := by
    unfold IS
    rw [henl_h.out, hN_h.out, hen_h.out]
    have e : ints (s ++ t) = ints s ++ ints t := by simp [ints]
    rw [e]; exact hsA7
   have hN12 : a + bb = N := hN_h.out.symm
   rw [hN12]
   have hz17 : w1.heap.size ≤ w7.heap.size := Nat.le_trans hz12 hkA7.size
   clear hsA7 hA7 hkA7 hN12 hf7; have k07_h := lH k07; have k17_h := lH k17; have hB7_h := lH hB7; have hI7_h := lH hI7; clear k07 k17 hB7 hI7
   refine ⟨k07_h.out, ?_⟩
   simp only [Act.put, nS]
   refine tkH 6 ?_ rfl k07_h.out (fun W' hW' => ?_) ?_; rotate_left; · (skip; clear hW'; go_simp; first | done | with_reducible rfl)
   simp only [Act.put, nS]
   refine doneH (by kernel_rfl) ?_
   obtain ⟨⟨c0, c1, c2, c3⟩, f0, f1, f2, f3⟩ := box4 k07_h.out
   have hVA1 := hVA'_h.out w7 hB7_h.out
   have hVA1_h := lH hVA1; clear hVA1
   go_wp2_with (fail)
   refine (hVA1_h.out).mono ?_
   rintro e w8 hret
   obtain ⟨A5, c5, rfl, hK5⟩ := hret.om
   obtain ⟨hsK, hKL, hKR⟩ := hK5.rdr
   obtain ⟨kk, hkk⟩ : ∃ kk, kk = K.length := ⟨_, rfl⟩
   rw [← hkk]
   have hk100 : kk ≤ 100 := by rw [hkk]; have := hKl_h.out; omega
   have hb8 := hK5.below_
   have hI8 := hI7_h.out.below hb8
   have hN0 := RdO.nil w8 w8 (Below.refl _ _)
   have k08 := box_below k07_h.out hb8
   have k18 := box_below k17_h.out hb8
   have hB8 := below_trans hB7_h.out hb8 hB7_h.out.size
   have hz8 := hb8.size
   have hsKl : hsK.length = kk := by rw [hkk, hKL, List.length_map]
   clear hret c0 c1 c2 c3 f0 f1 f2 f3 hK5 hb8; have hKL_h := lH hKL; have hKR_h := lH hKR; have hkk_h := lH hkk; have hI8_h := lH hI8; have hN0_h := lH hN0; have k08_h := lH k08; have k18_h := lH k18; have hB8_h := lH hB8; have hsKl_h := lH hsKl; clear hKL hKR hkk hI8 hN0 k08 k18 hB8 hsKl
   go_wp2_with (fail)
   go_loopw [25, 7] (fun i v wr => ∃ (k : Nat) (A' : Option Addr) (c' : Nat) (ys : List Hd) (q : Nat), k ≤ kk ∧ i = .int .i64 k ∧ q = k ∧ v = .slice A' q c' ∧ ys.length = q ∧ ys.map (fun h : Hd => h.2.2) = (K.take k).map (mapL · ends) ∧ RdO w8 wr A' c' ys) (fun i _ _ => kk - (intOf i).toNat)
   case atStart => exact ⟨0, none, 0, [], 0, Nat.zero_le _, rfl, rfl, rfl, rfl, rfl, hN0_h.out⟩
   case round =>
    clear hN0_h
    obtain ⟨k, A', c', ys, q0, hk, rfl, hq0, rfl, hyl, hym, hO⟩ := hrel
    obtain ⟨wo, rfl⟩ : ∃ x, x = wr := ⟨_, rfl⟩
    have hbo := hO.below_
    by_cases hlt : k < kk
    · have hkI : (k : Int) < (kk : Int) := by omega
      have hq100 : q0 ≤ 100 := by omega
      obtain ⟨ad, Bk, dk, u, rfl, hx, hcu, hrd⟩ := (hKR_h.out.below hbo).at_ (k := k) (by rw [hsKl_h.out]; exact hlt)
      have hKk : K[k]? = some u := by rw [hKL_h.out, List.getElem?_map, hx]; rfl
      have hul := (hKm_h.out.row u (List.mem_of_getElem? hKk)).1
      rw [hul] at hcu
      have hC := hgList_any A7 Bk c7 dk N n ends u wo (hI8_h.out.below hbo).rd hrd henl_h.out hul hends_h.out (by have := hN_h.out; omega)
      have hKt : (K.take (k + 1)).map (mapL · ends) = (K.take k).map (mapL · ends) ++ [mapL u ends] := by rw [List.take_add_one, hKk, List.map_append]; rfl
      have hrl : (mapL u ends).length = N := by rw [mapL_length, henl_h.out]
      clear hx hrd hKk hul; have hC_h := lH hC; have hKt_h := lH hKt; have hrl_h := lH hrl; have hyl_h := lH hyl; have hym_h := lH hym; have hO_h := lH hO; have hbo_h := lH hbo; have hq0_h := lH hq0; clear hC hKt hrl hyl hym hO hbo hq0
      go_wp2_with (fail)
      refine (hC_h.out).mono ?_
      rintro e w9 ⟨A8, c8, rfl, hOI⟩
      have hal := below_alloc w9 (.cells #[.slice A8 N c8] 23)
      have hba := below_trans hOI.below_ hal hOI.below_.size
      have hsl : Sl (w9.alloc (.cells #[.slice A8 N c8] 23)) 23 1 A' q0 c' (ys.map Hd.val) := by
       have := (hO_h.out.sl.below hOI.below_).alloc (.cells #[.slice A8 N c8] 23)
       rwa [hyl_h.out] at this
      have hI9 := hOI.is.below hal
      have hf9 := hOI.new
      clear hOI hcu; have hal_h := lH hal; have hba_h := lH hba; have hsl_h := lH hsl; have hI9_h := lH hI9; have hf9_h := lH hf9; clear hal hba hsl hI9 hf9
      go_wp2_with (at_builtin; refine wpList_append_Sl _ rfl _ _ _ rfl 23 Tryz.underlying27 info_ints rfl (by omega) rfl (hsl_h.out) rfl (news := [.slice A8 N c8]) rfl (Sl.rdc (Sl.laid w9 23 1 1 #[.slice A8 N c8] (by unfold maxLen; omega) rfl)) (by intro u hu; simp at hu; subst hu; rfl) (by unfold maxLen; omega) (by omega) ?_; intro A9 c9 w10 hsA9 hA9 hkA9)
      have hO2 := hO_h.out.snoc hba_h.out (x := (A8, c8, mapL u ends)) hI9_h.out (fun b hb hb' => by
       have h1 := hO_h.out.sl.lt b hb'
       have h2 := hf9_h.out b hb
       omega) (by rw [hyl_h.out]) (by show Sl w10 _ 1 A9 (q0 + 1) c9 (ys.map Hd.val ++ [.slice A8 (mapL u ends).length c8]); rw [hrl_h.out]; exact hsA9) hA9 hkA9
      clear hsA9 hA9 hkA9; have hO2_h := lH hO2; clear hO2
      go_roundw
      case rel => exact ⟨k + 1, A9, c9, ys ++ [(A8, c8, mapL u ends)], q0 + 1, by omega, by go_num, by have := hq0_h.out; omega, rfl, by rw [List.length_append, hyl_h.out]; rfl, by rw [List.map_append, hym_h.out, hKt_h.out]; rfl, hO2_h.out⟩
      case measure => simp [intOf]; omega
    · obtain rfl : kk = k := by omega
      have hym2 : ys.map (fun h : Hd => h.2.2) = K.map (mapL · ends) := by rw [hym, List.take_of_length_le (by rw [hkk_h.out]; exact Nat.le_refl _)]
      have hC := rlOf_any p (a : Int) (bb : Int) N A' c' ys wo hO.rdr hfld_h.out hNI_h.out (by rw [hym2]; have := hmat_h.out; rwa [show (K.map (mapL · ends)).length = ys.length by rw [← hym2, List.length_map]] at this) (by omega) (by have := hN_h.out; omega)
      rw [hym2, ← hR_h.out, hyl] at hC
      have k0r := box_below k08_h.out hbo
      have k1r := box_below k18_h.out hbo
      have hBr := below_trans hB8_h.out hbo hB8_h.out.size
      have hz9 := hbo.size
      obtain ⟨⟨c0, c1, c2, c3⟩, f0, f1, f2, f3⟩ := box4 k0r
      clear hym hym2 hyl hO k0r; have hC_h := lH hC; have k1r_h := lH k1r; have hBr_h := lH hBr; have hq0_h := lH hq0; have hbo_h := lH hbo; clear hC k1r hBr hq0 hbo
      go_wp2_with (fail)
      refine (hC_h.out).mono ?_
      rintro e w11 ⟨v1, fp1, rfl, hO1, hf1, hb11⟩
      clear c0 c1 c2 c3 f0 f1 f2 f3
      obtain ⟨A1, n1', c1', rfl⟩ := hO1.shape
      have k1' := box_below k1r_h.out hb11
      have hB9 := below_trans hBr_h.out hb11 hBr_h.out.size
      obtain ⟨⟨d0, d1, d2⟩, g0, g1, g2⟩ := box3 k1'
      obtain ⟨s1, s2⟩ := set3 (a := .int .i64 (a : Int)) (b := .int .i64 (bb : Int)) (c := .slice A1 n1' c1') k1'
      have hB3 := below_keeps hB9 s2 hB9.size (fun k hk => by omega)
      have hBs := hBr_h.out.size
      have hO3 := hO1.keeps s2 (fun k hk e => by have := hf1 k hk; omega)
      have hf3 := hf1.mono hBs
      clear k1' hB9 hO1 hf1; have s1_h := lH s1; have s2_h := lH s2; have hO3_h := lH hO3; have hf3_h := lH hf3; have hB3_h := lH hB3; clear s1 s2 hO3 hf3 hB3
      go_wp2_with (fail)
      refine bodyPost_ret (results_cell_tmp rfl _ _ (w.heap.size + 1) _ _ (0, 0) _ rfl s1_h.out Tryz.underlying29 rfl (by kernel_rfl)) rfl ?_
      first | exact ⟨_, fp1, rfl, hO3_h.out, hf3_h.out, hB3_h.out⟩ | exact ⟨_, rfl, fp1, hO3_h.out, hf3_h.out, hB3_h.out⟩
 · have hq' : dnAskB p (z, es, s, t) = false := by simpa using hq
   rw [hq'] at hG
   rw [if_neg hq] at hD
   subst hD
   clear hq hq' ok h hE hRa hRb; have hG_h := lH hG; have k0_h := lH k0; have k1_h := lH k1; have bW_h := lH bW; have hm_h := lH hm; have hmes_h := lH hmes; have a1_h := lH a1; clear hG k0 k1 bW hm hmes a1
   go_enter Tryz.func35, Tryz.ntmps35
   go_upto_region 1 with (fail)
   rw [← hW]
   clear hW
   go_wp2_with (fail)
   refine (hG_h.out).mono ?_
   rintro e w1 ⟨rfl, hb1⟩
   clear c0 c1 c2 c3 f0 f1 f2 f3
   replace k1_h := lH (box_below k1_h.out hb1)
   have hB1 := below_trans bW_h.out hb1 bW_h.out.size
   have hz1 := hb1.size
   obtain ⟨⟨d0, d1, d2⟩, g0, g1, g2⟩ := box3 k1_h.out
   obtain ⟨s1, s2⟩ := set3 (a := .int .i64 0) (b := .int .i64 0) (c := .slice none 0 0) k1_h.out
   have hB3 := below_keeps hB1 s2 hB1.size (fun k hk => by omega)
   clear hB1 hb1; have s1_h := lH s1; have s2_h := lH s2; have hB3_h := lH hB3; clear s1 s2 hB3
   go_wp2_with (fail)
   refine bodyPost_ret (results_cell_tmp rfl _ _ (w.heap.size + 1) _ _ (0, 0) _ rfl s1_h.out Tryz.underlying29 rfl (by kernel_rfl)) rfl ?_
   first | exact ⟨_, [], rfl, OwSys.zero _ 0 0, FreshL.nil _, hB3_h.out⟩ | exact ⟨_, rfl, [], OwSys.zero _ 0 0, FreshL.nil _, hB3_h.out⟩
abbrev tMat : TypeId := 60
def OMx (w0 : World) (bx : Nat) (w : World) (A : Option Addr) (cap : Nat) (L : List (List Int)) : Prop :=
 ∃ hs : List Hd, L = hs.map (fun h : Hd => h.2.2) ∧ OwR w A cap hs ∧ (∀ b, b ∈ fpA A ++ fpR hs → w0.heap.size ≤ b ∧ b ≠ bx) ∧ Below w0.heap.size w0 w ∧ w0.heap.size ≤ bx ∧ bx < w.heap.size
section
variable {w0 w w' : World} {bx : Nat} {A : Option Addr} {cap : Nat} {L : List (List Int)}
theorem OMx.om (h : OMx w0 bx w A cap L) : OM w0 w A cap L := by
 obtain ⟨hs, hL, hO, hf, h0, _⟩ := h
 exact ⟨hs, hL, hO, fun b hb => (hf b hb).1, h0⟩
theorem OMx.below_ (h : OMx w0 bx w A cap L) : Below w0.heap.size w0 w := h.om.below_
theorem OMx.nil (h0 : Below w0.heap.size w0 w) (h1 : w0.heap.size ≤ bx) (h2 : bx < w.heap.size) : OMx w0 bx w none 0 [] :=
 ⟨[], rfl, OwR.nil w, fun b hb => by simp [fpR] at hb, h0, h1, h2⟩
theorem OMx.below (h : OMx w0 bx w A cap L) (hb : Below w.heap.size w w') : OMx w0 bx w' A cap L := by
 obtain ⟨hs, hL, hO, hf, h0, h1, h2⟩ := h
 exact ⟨hs, hL, hO.below hb, hf, below_trans h0 hb h0.size, h1, Nat.lt_of_lt_of_le h2 hb.size⟩
theorem OMx.store (h : OMx w0 bx w A cap L) (hk : Keeps (· = bx) w w') : OMx w0 bx w' A cap L := by
 obtain ⟨hs, hL, hO, hf, h0, h1, h2⟩ := h
 exact ⟨hs, hL, hO.keeps hk fun b hb e => (hf b hb).2 e, hf, below_keeps h0 hk h0.size fun k e => by subst e; exact h1, h1, Nat.lt_of_lt_of_le h2 hk.size⟩
theorem OMx.snoc {w1 w2 : World} {hs : List Hd} (hL : L = hs.map (fun h : Hd => h.2.2)) (hO : OwR w A cap hs) (hf : ∀ b, b ∈ fpA A ++ fpR hs → w0.heap.size ≤ b ∧ b ≠ bx) (h0 : Below w0.heap.size w0 w) (h1 : w0.heap.size ≤ bx) (h2 : bx < w.heap.size) {l : List Int} {B : Option Addr} {c : Nat} (hb : Below w.heap.size w w1) (hx : IS w1 B c l) (hf1 : Fresh w.heap.size B)
  {A' : Option Addr} {cap' n : Nat} (hn : n = hs.length + 1) (hs' : Sl w2 23 1 A' n cap' (hs.map Hd.val ++ [.slice B l.length c])) (hA' : ∀ b, b ∈ fpA A' → b ∈ fpA A ∨ w1.heap.size ≤ b) (hk : Keeps (· ∈ fpA A) w1 w2) : OMx w0 bx w2 A' cap' (L ++ [l]) := by
 subst hL hn
 have hbw := below_trans h0 hb h0.size
 have hz := hb.size
 have hz2 := hk.size
 refine ⟨hs ++ [(B, c, l)], by simp, hO.snoc hb (x := (B, c, l)) hx hf1 (by simpa [Hd.val] using hs') hA' hk, fun b hb' => ?_, below_keeps hbw hk hbw.size fun b hb' => (hf b (List.mem_append_left _ hb')).1, h1, by omega⟩
 rcases List.mem_append.1 hb' with hb' | hb'
 · rcases hA' b hb' with h3 | h3
   · exact hf b (List.mem_append_left _ h3)
   · have := hbw.size; omega
 · rcases fpR_snoc hs (B, c, l) b hb' with h3 | h3
   · exact hf b (List.mem_append_right _ h3)
   · have := hf1 b h3; have := h0.size; omega
end
abbrev tRelD : TypeId := 29
def RetRdn (w : World) (L : List (List Int)) (e : Ending) (w' : World) : Prop := ∃ A c hs n, e = .returned (.slice A n c) ∧ hs.length = n ∧ hs.map (fun h : Hd => h.2.2) = L ∧ RdR w' A hs ∧ Below w.heap.size w w'
theorem rd_laid (w : World) (l : List Int) (hl : l.length ≤ maxLen) : RdI (w.alloc (.cells (ints l).toArray 3)) (some ⟨w.heap.size, 0, none⟩) l := by
 have h := Sl.laid w 3 1 l.length (ints l).toArray hl (by simp)
 intro j x hj
 obtain ⟨ad, hA, _, hc, _⟩ := h.cell (j := j) (u := .int .i64 x) (by simpa using ints_get hj)
 exact ⟨ad, hA, hc⟩
theorem mirror_any (k : Int) (w : World) (h1 : 9 ≤ k) (h2 : k ≤ 14) : Calls Tryz.prog 140 #[.int .i64 k] w fun e w' => e = .returned (.int .i64 (k - 6)) ∧ w' = w := by
 have hA : t_inB k 3 8 = false := decide_eq_false (by omega)
 have hB : t_inB k 9 14 = true := decide_eq_true (by omega)
 go_enter Tryz.func140, Tryz.ntmps140
 go_wp2_with (fail)
 refine (t_within_any _ _ _ _).mono ?_
 rintro e w' ⟨rfl, rfl⟩
 rw [hA]
 go_wp2_with (fail)
 refine (t_within_any _ _ _ _).mono ?_
 rintro e w' ⟨rfl, rfl⟩
 rw [hB]
 go_wp2_with (fail)
 go_ret
 show Ending.returned (.int .i64 (k - 9 + 3)) = _ ∧ _
 rw [show k - 9 + 3 = k - 6 by omega]
 exact ⟨rfl, rfl⟩
set_option maxRecDepth 100000 in
set_option maxHeartbeats 2000000 in
theorem generatorRows_any (k v : Int) (w : World) (hk : k = 3 ∨ k = 4 ∨ k = 5 ∨ k = 6 ∨ k = 7) :
  Calls Tryz.prog 142 #[.int .i64 k, .int .i64 v] w (RetRdn w (leafRows k v)) := by
 rcases hk with rfl | rfl | rfl | rfl | rfl
 · -- kind 3
   go_enter Tryz.func142, Tryz.ntmps142
   go_wp2_with (fail)
   go_ret
   have r0 := rd_laid (w) [1, 1, 1] (by unfold maxLen; simp)
   have b0 := below_alloc (w) (.cells (ints [1, 1, 1]).toArray 3)
   have hlr := laid_rdr (w := (w).alloc (.cells (ints [1, 1, 1]).toArray 3)) ([((some ⟨w.heap.size, 0, none⟩ : Option Addr), 3, ([1, 1, 1] : List Int))] : List Hd) (fun x hx => by
    simp only [List.mem_cons, List.not_mem_nil, or_false] at hx
    subst hx
    exact r0) (by unfold maxLen; simp)
   simp only [World.size_alloc] at hlr
   have hbl := below_trans b0 (below_alloc _ (.cells (([((some ⟨w.heap.size, 0, none⟩ : Option Addr), 3, ([1, 1, 1] : List Int))] : List Hd).map Hd.val).toArray 23)) b0.size
   exact ⟨_, 1, _, 1, rfl, rfl, rfl, hlr, hbl⟩
 · -- kind 4
   go_enter Tryz.func142, Tryz.ntmps142
   go_wp2_with (fail)
   go_ret
   have r0 := rd_laid (w) [1] (by unfold maxLen; simp)
   have b0 := below_alloc (w) (.cells (ints [1]).toArray 3)
   have hlr := laid_rdr (w := (w).alloc (.cells (ints [1]).toArray 3)) ([((some ⟨w.heap.size, 0, none⟩ : Option Addr), 1, ([1] : List Int))] : List Hd) (fun x hx => by
    simp only [List.mem_cons, List.not_mem_nil, or_false] at hx
    subst hx
    exact r0) (by unfold maxLen; simp)
   simp only [World.size_alloc] at hlr
   have hbl := below_trans b0 (below_alloc _ (.cells (([((some ⟨w.heap.size, 0, none⟩ : Option Addr), 1, ([1] : List Int))] : List Hd).map Hd.val).toArray 23)) b0.size
   exact ⟨_, 1, _, 1, rfl, rfl, rfl, hlr, hbl⟩
 · -- kind 5
   go_enter Tryz.func142, Tryz.ntmps142
   go_wp2_with (fail)
   go_ret
   have r0 := rd_laid (w) [1, 0, 1] (by unfold maxLen; simp)
   have b0 := below_alloc (w) (.cells (ints [1, 0, 1]).toArray 3)
   have r1 := rd_laid ((w).alloc (.cells (ints [1, 0, 1]).toArray 3)) [0, 1, 1] (by unfold maxLen; simp)
   have b1 := below_alloc ((w).alloc (.cells (ints [1, 0, 1]).toArray 3)) (.cells (ints [0, 1, 1]).toArray 3)
   simp only [World.size_alloc] at r1
   have r0 := r0.below b1
   have hlr := laid_rdr (w := ((w).alloc (.cells (ints [1, 0, 1]).toArray 3)).alloc (.cells (ints [0, 1, 1]).toArray 3)) ([((some ⟨w.heap.size, 0, none⟩ : Option Addr), 3, ([1, 0, 1] : List Int)), ((some ⟨w.heap.size + 1, 0, none⟩ : Option Addr), 3, ([0, 1, 1] : List Int))] : List Hd) (fun x hx => by
    simp only [List.mem_cons, List.not_mem_nil, or_false] at hx
    rcases hx with rfl | rfl
    · exact r0
    · exact r1) (by unfold maxLen; simp)
   simp only [World.size_alloc] at hlr
   have hbl := below_trans (below_trans b0 b1 b0.size) (below_alloc _ (.cells (([((some ⟨w.heap.size, 0, none⟩ : Option Addr), 3, ([1, 0, 1] : List Int)), ((some ⟨w.heap.size + 1, 0, none⟩ : Option Addr), 3, ([0, 1, 1] : List Int))] : List Hd).map Hd.val).toArray 23)) (below_trans b0 b1 b0.size).size
   exact ⟨_, 2, _, 2, rfl, rfl, rfl, hlr, hbl⟩
 · -- kind 6
   go_enter Tryz.func142, Tryz.ntmps142
   go_wp2_with (fail)
   go_ret
   exact ⟨none, 0, [], 0, rfl, rfl, rfl, ⟨fun i h hh => by simp at hh, fun h hh => by cases hh⟩, Below.refl _ _⟩
 · -- kind 7
   go_enter Tryz.func142, Tryz.ntmps142
   go_wp2_with (fail)
   go_ret
   have r0 := rd_laid (w) [1, v] (by unfold maxLen; simp)
   have b0 := below_alloc (w) (.cells (ints [1, v]).toArray 3)
   have hlr := laid_rdr (w := (w).alloc (.cells (ints [1, v]).toArray 3)) ([((some ⟨w.heap.size, 0, none⟩ : Option Addr), 2, ([1, v] : List Int))] : List Hd) (fun x hx => by
    simp only [List.mem_cons, List.not_mem_nil, or_false] at hx
    subst hx
    exact r0) (by unfold maxLen; simp)
   simp only [World.size_alloc] at hlr
   have hbl := below_trans b0 (below_alloc _ (.cells (([((some ⟨w.heap.size, 0, none⟩ : Option Addr), 2, ([1, v] : List Int))] : List Hd).map Hd.val).toArray 23)) b0.size
   exact ⟨_, 1, _, 1, rfl, rfl, rfl, hlr, hbl⟩
theorem set_f2d {w : World} {B : Nat} {t : TypeId} {x y z b : Value} (h : w.heap[B]? = some (.cells #[x, y, z] t)) : (w.setCell ⟨B, 2, none⟩ b).heap[B]? = some (.cells #[x, y, b] t) ∧ Keeps (· = B) w (w.setCell ⟨B, 2, none⟩ b) := by
 refine ⟨by simp [World.setCell, Array.getElem?_modify, h], ?_⟩
 exact (Keeps.refl (fun x => x = B) w).setCell (p := ⟨B, 2, none⟩) rfl _
theorem idRows_take {n k : Nat} (hk : k < n) : (idRows n).take (k + 1) = (idRows n).take k ++ [unitV n k ++ unitV n k] := by
 rw [List.take_add_one]
 simp [idRows, hk]
set_option maxRecDepth 100000 in
set_option maxHeartbeats 4000000 in
theorem identityRelation_any (n : Nat) (w : World) (hn : n ≤ 12) :
  Calls Tryz.prog 138 #[.int .i64 (n : Int)] w fun e w' => ∃ v' fp, e = .returned v' ∧ OwSys w' v' ((n : Int), (n : Int), idRows n) fp ∧ FreshL w.heap.size fp ∧ Below w.heap.size w w' := by
 obtain ⟨W0, hW0, bW0, k0⟩ := alloc_box w (.cells #[.int .i64 0, .int .i64 0, .slice none 0 0] tRelD)
 obtain ⟨W, hW, b1, k1⟩ := alloc_box W0 (.cells #[.int .i64 (n : Int), .int .i64 (n : Int), .slice none 0 0] tRelD)
 obtain ⟨bx, hbx⟩ : ∃ bx, bx = W0.heap.size := ⟨_, rfl⟩
 have hbx1 : bx = w.heap.size + 1 := by rw [hbx, hW0]; simp
 rw [← hbx] at k1
 have hnil : OMx W0 bx W none 0 ((idRows n).take 0) := OMx.nil b1 (by omega) (box_lt k1)
 have bW0_h := lH bW0; have k0_h := lH k0; have b1_h := lH b1; have k1_h := lH k1; have hnil_h := lH hnil; have hbx1_h := lH hbx1; clear bW0 k0 b1 k1 hnil hbx1
 go_enter Tryz.func138, Tryz.ntmps138
 go_upto_region 2 with (fail)
 rw [← hW0, ← hW, ← hbx1_h.out]
 have hbx_h := lH hbx; clear hW0 hW hbx
 go_wp2_with (fail)
 go_loopw [9] (fun i wr => ∃ (k q : Nat) (A1 : Option Addr) (c1 : Nat), k ≤ n ∧ i = .int .i64 k ∧ q = k ∧ wr.heap[bx]? = some (.cells #[.int .i64 (n : Int), .int .i64 (n : Int), .slice A1 q c1] tRelD) ∧ OMx W0 bx wr A1 c1 ((idRows n).take k)) (fun i _ => n - (intOf i).toNat)
 case atStart => exact ⟨0, 0, none, 0, Nat.zero_le _, rfl, rfl, k1_h.out, hnil_h.out⟩
 case round =>
  clear hnil_h k1_h
  obtain ⟨k, q, A1, c1, hk, rfl, hq, kx, hOM⟩ := hrel
  obtain ⟨wo, rfl⟩ : ∃ x, x = wr := ⟨_, rfl⟩
  by_cases hlt : k < n
  · have hkI : (k : Int) < (n : Int) := by omega
    have hq12 : q ≤ 12 := by omega
    have hU := fun (W' : World) => unit_any n k W' (by omega) hlt
    have htk := idRows_take hlt
    have hrl : (unitV n k ++ unitV n k).length = n + n := by simp
    obtain ⟨row, hrow⟩ : ∃ r, r = unitV n k ++ unitV n k := ⟨_, rfl⟩
    obtain ⟨N, hN⟩ : ∃ N, N = n + n := ⟨_, rfl⟩
    rw [← hrow] at htk hrl
    rw [← hN] at hrl
    have hbd : Below wo.heap.size wo wo.drew := below_drewN (Below.refl _ _) 1
    have kx_h := lH kx; have hOM_h := lH hOM; have hU_h := lH hU; have htk_h := lH htk; have hrl_h := lH hrl; have hrow_h := lH hrow; have hN_h := lH hN; have hbd_h := lH hbd; have hq_h := lH hq; clear kx hOM hU htk hrl hrow hN hbd hq
    go_wp2_with (fail)
    refine beginZw 13 (fun w' => w'.heap[bx]? = some (.cells #[.int .i64 (n : Int), .int .i64 (n : Int), .slice A1 q c1] tRelD)) (by kernel_rfl) (fun W1 hW1 => ?_)
    have hB := hbd_h.out
    rw [← hW1] at hB
    clear hW1
    have hF := box_below kx_h.out hB
    have hF_h := lH hF; have hB_h := lH hB; clear hF hB
    refine tkC 0 ?_ rfl hF_h.out (fun W' hW' => ?_) ?_; rotate_left; · (obtain ⟨⟨x0, x1, x2⟩, x3, x4, x5⟩ := box3 hW'; clear hW'; go_simp; first | done | with_reducible rfl)
    simp only [Act.put, nS]
    refine tkC 1 ?_ rfl hF_h.out (fun W' hW' => ?_) ?_; rotate_left; · (obtain ⟨⟨x0, x1, x2⟩, x3, x4, x5⟩ := box3 hW'; clear hW'; go_simp; first | done | with_reducible rfl)
    simp only [Act.put, nS]
    refine tkC 2 ?_ rfl hF_h.out (fun W' hW' => ?_) ?_; rotate_left; · (obtain ⟨⟨x0, x1, x2⟩, x3, x4, x5⟩ := box3 hW'; clear hW'; go_simp; first | done | with_reducible rfl)
    simp only [Act.put, nS]
    refine tkC 3 ?_ rfl hF_h.out (fun W' hW' => ?_) ?_; rotate_left; · (obtain ⟨⟨x0, x1, x2⟩, x3, x4, x5⟩ := box3 hW'; clear hW'; go_simp; first | done | with_reducible rfl)
    simp only [Act.put, nS]
    refine tkC 5 ?_ rfl hF_h.out (fun W' hW' => ?_) ?_; rotate_left; · (obtain ⟨⟨x0, x1, x2⟩, x3, x4, x5⟩ := box3 hW'; clear hW'; go_simp; first | done | with_reducible rfl)
    simp only [Act.put, nS]
    refine tkC 6 ?_ rfl hF_h.out (fun W' hW' => ?_) ?_; rotate_left; · (obtain ⟨⟨x0, x1, x2⟩, x3, x4, x5⟩ := box3 hW'; clear hW'; go_simp; first | done | with_reducible rfl)
    simp only [Act.put, nS]
    refine callZ 4 (f := ?f1) (args := ?args1) rfl (by kernel_rfl) (by rfl) ?hrun1 ?hcall1
    case hrun1 => (go_simp; first | done | with_reducible rfl | (constructor <;> with_reducible rfl))
    case hcall1 =>
     refine (hU_h.out _).mono ?_
     rintro e w2 ⟨Aa, ca, rfl, hia, hfa, hb2⟩
     rw [unitV_length]
     replace hF_h := lH (box_below hF_h.out hb2)
     have hB2 := below_trans hB_h.out hb2 hB_h.out.size
     refine ⟨_, rfl, fun _ => hF_h.out, ?_⟩
     simp only [Act.put, nS]
     have hia_h := lH hia; have hfa_h := lH hfa; have hb2_h := lH hb2; have hB2_h := lH hB2; clear hia hfa hb2 hB2
     refine callZ 7 (f := ?f2) (args := ?args2) rfl (by kernel_rfl) (by rfl) ?hrun2 ?hcall2
     case hrun2 => (go_simp; first | done | with_reducible rfl | (constructor <;> with_reducible rfl))
     case hcall2 =>
      refine (hU_h.out _).mono ?_
      rintro e w3 ⟨Ab, cb, rfl, hib, hfb, hb3⟩
      rw [unitV_length]
      replace hF_h := lH (box_below hF_h.out hb3)
      have hB3 := below_trans hB2_h.out hb3 hB2_h.out.size
      have hia3 := hia_h.out.below hb3
      refine ⟨_, rfl, fun _ => hF_h.out, ?_⟩
      simp only [Act.put, nS]
      have hal3 := below_alloc w3 (.cells #[.slice Aa n ca, .slice Ab n cb] 23)
      have hlr := laid_rdr (w := w3) [(Aa, ca, unitV n k), (Ab, cb, unitV n k)] (fun y hy => by
       simp only [List.mem_cons, List.not_mem_nil, or_false] at hy
       rcases hy with rfl | rfl
       · exact hia3.rd
       · exact hib.rd) (by unfold maxLen; simp)
      have e : (([(Aa, ca, unitV n k), (Ab, cb, unitV n k)] : List Hd).map Hd.val).toArray = #[.slice Aa n ca, .slice Ab n cb] := by simp [Hd.val]
      rw [e] at hlr
      have e2 : (([(Aa, ca, unitV n k), (Ab, cb, unitV n k)] : List Hd).map fun h : Hd => h.2.2).flatten = row := by rw [hrow_h.out]; simp
      have hJ := joined_any (some ⟨w3.heap.size, 0, none⟩) 2 [(Aa, ca, unitV n k), (Ab, cb, unitV n k)] _ hlr (by simp) (by rw [e2, hrl_h.out, hN_h.out]; omega)
      rw [e2] at hJ
      have hF3 := box_below hF_h.out hal3
      clear hlr e e2; have hB3_h := lH hB3; have hal3_h := lH hal3; have hJ_h := lH hJ; have hF3_h := lH hF3; clear hB3 hal3 hJ hF3
      refine oneZ 8 rfl (by kernel_rfl) (by rfl) (fun K hK => ?_)
      go_simp
      refine hK _ _ (fun _ => hF3_h.out) ?_
      clear hK K
      refine callZ 9 (f := ?f3) (args := ?args3) rfl (by kernel_rfl) (by rfl) ?hrun3 ?hcall3
      case hrun3 => (go_simp; first | done | with_reducible rfl | (constructor <;> with_reducible rfl))
      case hcall3 =>
       refine (hJ_h.out).mono ?_
       rintro e w4 ⟨A7, c7, rfl, hi7, hf7, hb4⟩
       rw [hrl_h.out]
       replace hF3_h := lH (box_below hF3_h.out hb4)
       have hB4 := below_trans hB3_h.out (below_trans hal3_h.out hb4 hal3_h.out.size) hB3_h.out.size
       have hfA7 : Fresh wo.heap.size A7 := fun b hb => by have := hf7 b hb; have := hal3_h.out.size; have := hB3_h.out.size; omega
       refine ⟨_, rfl, fun _ => hF3_h.out, ?_⟩
       simp only [Act.put, nS]
       have hal := below_alloc w4 (.cells #[.slice A7 N c7] 23)
       have hba := below_trans hB4 hal hB4.size
       have hF4 := box_below hF3_h.out hal
       obtain ⟨ys, hLy, hOy, hfy, h0y, h1y, h2y⟩ := hOM_h.out
       have hyl : ys.length = q := by have := congrArg List.length hLy; rw [List.length_map, List.length_take, idRows_len] at this; have := hq_h.out; omega
       have hsl : Sl (w4.alloc (.cells #[.slice A7 N c7] 23)) 23 1 A1 q c1 (ys.map Hd.val) := by
        have := (hOy.sl.below hB4).alloc (.cells #[.slice A7 N c7] 23)
        rwa [hyl] at this
       have hi8 := hi7.below hal
       have hF4_h := lH hF4; have hba_h := lH hba; have hal_h := lH hal; have hsl_h := lH hsl; have hi8_h := lH hi8; have hfA7_h := lH hfA7; have hLy_h := lH hLy; have hOy_h := lH hOy; have hfy_h := lH hfy; have h0y_h := lH h0y; have hyl_h := lH hyl; have hB4_h := lH hB4; clear hF4 hba hal hsl hi8 hfA7 hLy hOy hfy h0y hyl hB4
       refine oneZ 10 rfl (by kernel_rfl) (by rfl) (fun K hK => ?_)
       go_simp
       refine hK _ _ (fun _ => hF4_h.out) ?_
       clear hK K
       refine appZ 11 rfl (by kernel_rfl) (by rfl) _ _ _ rfl 23 Tryz.underlying27 info_ints rfl (by omega) rfl hsl_h.out rfl (news := [.slice A7 N c7]) rfl (Sl.rdc (Sl.laid w4 23 1 1 #[.slice A7 N c7] (by unfold maxLen; omega) rfl)) (by intro u hu; simp at hu; subst hu; rfl) (by unfold maxLen; omega) (by omega) ?_
       intro A6 c6 w6 hsA6 hA6 hkA6 hrdA6
       clear hrdA6
       have hO6 := OMx.snoc (l := row) (w1 := w4.alloc (.cells #[.slice A7 N c7] 23)) hLy_h.out hOy_h.out hfy_h.out h0y_h.out h1y h2y hba_h.out hi8_h.out hfA7_h.out (by rw [hyl_h.out]) (by rw [hrl_h.out]; exact hsA6) hA6 hkA6
       have hF7 := box_keeps hF4_h.out hkA6 (fun h => (hfy_h.out _ (List.mem_append_left _ h)).2 rfl)
       refine ⟨fun _ => hF7, ?_⟩
       obtain ⟨s1, s2⟩ := set_f2d (b := .slice A6 (q + 1) c6) hF7
       have hO7 := hO6.store s2
       rw [← htk_h.out] at hO7
       obtain ⟨⟨x0, x1, x2⟩, x3, x4, x5⟩ := box3 hF7
       clear hsA6 hA6 hkA6 hO6 s2; have hF7_h := lH hF7; have hO7_h := lH hO7; have s1_h := lH s1; clear hF7 hO7 s1
       simp only [Act.put, nS]
       refine tkC 12 ?_ rfl hF7_h.out (fun W' hW' => ?_) ?_; rotate_left; · (skip; clear hW'; go_simp; first | done | with_reducible rfl)
       simp only [Act.put, nS]
       refine oneZ 13 rfl (by kernel_rfl) (by rfl) (fun K hK => ?_)
       go_simp
       refine hK _ _ (fun h => by cases h) ?_
       clear hK K
       refine doneZ (by kernel_rfl) ?_
       go_wp2_with (fail)
       go_roundw
       case rel => exact ⟨k + 1, q + 1, A6, c6, by omega, by go_num, by have := hq_h.out; omega, s1_h.out, hO7_h.out⟩
       case measure => simp [intOf]; omega
  · obtain rfl : n = k := by omega
    obtain rfl : n = q := hq.symm
    have hO2 : OMx W0 bx wo A1 c1 (idRows n) := by have := hOM; rwa [List.take_of_length_le (by rw [idRows_len]; exact Nat.le_refl _)] at this
    have k0r := box_below k0_h.out hO2.below_
    obtain ⟨⟨x0, x1, x2⟩, x3, x4, x5⟩ := box3 kx
    obtain ⟨⟨y0, y1, y2⟩, y3, y4, y5⟩ := box3 k0r
    obtain ⟨s1, s2⟩ := set3 (a := .int .i64 (n : Int)) (b := .int .i64 (n : Int)) (c := .slice A1 n c1) k0r
    have hbb := below_trans bW0_h.out hO2.below_ bW0_h.out.size
    have hz0 : w.heap.size < W0.heap.size := by have := hbx_h.out; have := hbx1_h.out; omega
    have hbw := below_keeps hbb s2 hbb.size (fun k hk => by omega)
    obtain ⟨fp, h1, h2⟩ := OwSys.of_ret (a := (n : Int)) (b := (n : Int)) hO2.om s2 (fun k hk => by omega) (idRows_len n)
    have h3 := h2.mono bW0_h.out.size
    clear hOM hO2 kx k0r h2 s2 hbb; have s1_h := lH s1; have h1_h := lH h1; have h3_h := lH h3; have hbw_h := lH hbw; clear s1 h1 h3 hbw
    go_wp2_with (fail)
    refine bodyPost_ret (results_cell_row rfl _ _ w.heap.size _ _ (0, 0) _ rfl s1_h.out Tryz.underlying29 rfl (by kernel_rfl)) rfl ?_
    exact ⟨_, rfl, fp, h1_h.out, h3_h.out, hbw_h.out⟩
theorem leafRows_le (k v : Int) : (leafRows k v).length ≤ 2 := by
 unfold leafRows
 repeat' split
 all_goals simp
set_option maxRecDepth 100000 in
set_option maxHeartbeats 4000000 in
theorem leafRelation_any (p k v : Int) (nm : ByteArray) (w : World) (hf : fieldB p = true) (ok : okLf p (k, v, nm)) :
  Calls Tryz.prog 95 #[.int .i64 p, .agg #[.int .i64 k, .int .i64 v, .string nm]] w fun e w' => ∃ v' fp, e = .returned v' ∧ OwSys w' v' (leafV p (k, v, nm)) fp ∧ FreshL w.heap.size fp ∧ Below w.heap.size w w' := by
 have hpb := fieldB_bounds hf
 obtain ⟨V, hV⟩ : ∃ V, V = leafV p (k, v, nm) := ⟨_, rfl⟩
 rw [← hV]
 have hV0 := hV
 unfold leafV at hV
 obtain ⟨W, hW, bW, k0, k1⟩ := alloc2 w (.cells #[.int .i64 k, .int .i64 v, .string nm] 113) (.cells #[.int .i64 0, .int .i64 0, .slice none 0 0] tRelD)
 have hl := ok.1
 have hl1 := hl
 unfold leafB at hl1
 simp only [decide_eq_true_eq] at hl1
 have hfit := leaf_fit hl
 have hbz := bW.size
 have hbz2 := box_lt k1
 by_cases h1 : k = 1
 · rw [if_pos h1] at hV
   have hv0 : 0 ≤ v ∧ v ≤ 12 := by omega
   obtain ⟨n, rfl⟩ : ∃ n : Nat, v = (n : Int) := ⟨v.toNat, by omega⟩
   have hC := identityRelation_any n W (by omega)
   have e : (((n : Int), (n : Int), idRows n) : Sys) = V := by rw [hV]; rfl
   rw [e] at hC
   have hb1 : (k == 1) = true := by rw [h1]; rfl
   clear hV hl hl1 hfit ok e hV0 h1; have k0_h := lH k0; have k1_h := lH k1; have bW_h := lH bW; have hC_h := lH hC; clear k0 k1 bW hC
   go_enter Tryz.func95, Tryz.ntmps95
   go_upto_region 1 with (fail)
   rw [← hW]
   clear hW
   obtain ⟨⟨c0, c1, c2⟩, f0, f1, f2⟩ := box3 k0_h.out
   go_wp2_with (fail)
   refine (hC_h.out).mono ?_
   rintro e w2 ⟨v2, fp9, rfl, hO9, hf9, hb2⟩
   obtain ⟨A9, n9, c9, rfl⟩ := hO9.shape
   replace k1_h := lH (box_below k1_h.out hb2)
   have hB8 := below_trans bW_h.out hb2 bW_h.out.size
   have hBz := bW_h.out.size
   have hw0 := box_lt k1_h.out
   obtain ⟨⟨d0, d1, d2⟩, g0, g1, g2⟩ := box3 k1_h.out
   obtain ⟨s1, s2⟩ := set3 (a := .int .i64 V.1) (b := .int .i64 V.2.1) (c := .slice A9 n9 c9) k1_h.out
   have hB9 := below_keeps hB8 s2 hB8.size (fun k hk => by omega)
   have hO8 := hO9.keeps s2 (fun k hk e => by have := hf9 k hk; omega)
   have hf8 := hf9.mono hBz
   clear hB8 hO9 hf9; have s1_h := lH s1; have s2_h := lH s2; have hB9_h := lH hB9; have hO8_h := lH hO8; have hf8_h := lH hf8; clear s1 s2 hB9 hO8 hf8
   go_wp2_with (fail)
   refine bodyPost_ret (results_cell_row rfl _ _ (w.heap.size + 1) _ _ (0, 0) _ rfl s1_h.out Tryz.underlying29 rfl (by kernel_rfl)) rfl ?_
   first | exact ⟨_, fp9, rfl, hO8_h.out, hf8_h.out, hB9_h.out⟩ | exact ⟨_, rfl, fp9, hO8_h.out, hf8_h.out, hB9_h.out⟩
 · rw [if_neg h1] at hV
   have hb1 : (k == 1) = false := by rw [beq_eq_false_iff_ne]; exact h1
   by_cases h2 : k = 2
   · rw [if_pos h2] at hV
     have hb2 : (k == 2) = true := by rw [h2]; rfl
     have r0 := rd_laid (W) [1, 0, 0, 1] (by unfold maxLen; simp)
     have b0 := below_alloc (W) (.cells (ints [1, 0, 0, 1]).toArray 3)
     have r1 := rd_laid ((W).alloc (.cells (ints [1, 0, 0, 1]).toArray 3)) [0, 1, 1, 0] (by unfold maxLen; simp)
     have b1 := below_alloc ((W).alloc (.cells (ints [1, 0, 0, 1]).toArray 3)) (.cells (ints [0, 1, 1, 0]).toArray 3)
     simp only [World.size_alloc] at r1
     have r0 := r0.below b1
     have hlr := laid_rdr (w := ((W).alloc (.cells (ints [1, 0, 0, 1]).toArray 3)).alloc (.cells (ints [0, 1, 1, 0]).toArray 3)) ([((some ⟨W.heap.size, 0, none⟩ : Option Addr), 4, ([1, 0, 0, 1] : List Int)), ((some ⟨W.heap.size + 1, 0, none⟩ : Option Addr), 4, ([0, 1, 1, 0] : List Int))] : List Hd) (fun x hx => by
      simp only [List.mem_cons, List.not_mem_nil, or_false] at hx
      rcases hx with rfl | rfl
      · exact r0
      · exact r1) (by unfold maxLen; simp)
     simp only [World.size_alloc] at hlr
     have hbl := below_trans (below_trans b0 b1 b0.size) (below_alloc _ (.cells (([((some ⟨W.heap.size, 0, none⟩ : Option Addr), 4, ([1, 0, 0, 1] : List Int)), ((some ⟨W.heap.size + 1, 0, none⟩ : Option Addr), 4, ([0, 1, 1, 0] : List Int))] : List Hd).map Hd.val).toArray 23)) (below_trans b0 b1 b0.size).size
     have hC := relation_any p 2 2 4 _ 2 _ _ hlr hf (by omega) (swapRows_mat (by omega)) (by simp) (by omega)
     have e : ((2, 2, redM p 4 swapRows) : Sys) = V := hV.symm
     have hC' : Calls Tryz.prog 68 #[.int .i64 p, .int .i64 2, .int .i64 2, .slice (some ⟨W.heap.size + 1 + 1, 0, none⟩) 2 2] (((W.alloc (.cells (ints [1, 0, 0, 1]).toArray 3)).alloc (.cells (ints [0, 1, 1, 0]).toArray 3)).alloc (.cells (([((some ⟨W.heap.size, 0, none⟩ : Option Addr), 4, ([1, 0, 0, 1] : List Int)), ((some ⟨W.heap.size + 1, 0, none⟩ : Option Addr), 4, ([0, 1, 1, 0] : List Int))] : List Hd).map Hd.val).toArray 23)) (fun e w' => ∃ v' fp, e = .returned v' ∧ OwSys w' v' V fp ∧ FreshL (((W.alloc (.cells (ints [1, 0, 0, 1]).toArray 3)).alloc (.cells (ints [0, 1, 1, 0]).toArray 3)).alloc (.cells (([((some ⟨W.heap.size, 0, none⟩ : Option Addr), 4, ([1, 0, 0, 1] : List Int)), ((some ⟨W.heap.size + 1, 0, none⟩ : Option Addr), 4, ([0, 1, 1, 0] : List Int))] : List Hd).map Hd.val).toArray 23)).heap.size fp ∧ Below (((W.alloc (.cells (ints [1, 0, 0, 1]).toArray 3)).alloc (.cells (ints [0, 1, 1, 0]).toArray 3)).alloc (.cells (([((some ⟨W.heap.size, 0, none⟩ : Option Addr), 4, ([1, 0, 0, 1] : List Int)), ((some ⟨W.heap.size + 1, 0, none⟩ : Option Addr), 4, ([0, 1, 1, 0] : List Int))] : List Hd).map Hd.val).toArray 23)).heap.size (((W.alloc (.cells (ints [1, 0, 0, 1]).toArray 3)).alloc (.cells (ints [0, 1, 1, 0]).toArray 3)).alloc (.cells (([((some ⟨W.heap.size, 0, none⟩ : Option Addr), 4, ([1, 0, 0, 1] : List Int)), ((some ⟨W.heap.size + 1, 0, none⟩ : Option Addr), 4, ([0, 1, 1, 0] : List Int))] : List Hd).map Hd.val).toArray 23)) w') := by rw [← e]; exact hC
     clear hV hl hl1 hfit ok e hV0 hlr hC r0 r1 b0 b1 h1 h2; have k0_h := lH k0; have k1_h := lH k1; have bW_h := lH bW; have hC'_h := lH hC'; have hbl_h := lH hbl; clear k0 k1 bW hC' hbl
     go_enter Tryz.func95, Tryz.ntmps95
     go_upto_region 1 with (fail)
     rw [← hW]
     clear hW
     obtain ⟨⟨c0, c1, c2⟩, f0, f1, f2⟩ := box3 k0_h.out
     go_wp2_with (fail)
     refine (hC'_h.out).mono ?_
     rintro e w2 ⟨v2, fp9, rfl, hO9, hf9, hb2'⟩
     obtain ⟨A9, n9, c9, rfl⟩ := hO9.shape
     have hbb := below_trans hbl_h.out hb2' hbl_h.out.size
     replace k1_h := lH (box_below k1_h.out hbb)
     have hB8 := below_trans bW_h.out hbb bW_h.out.size
     have hBz := Nat.le_trans bW_h.out.size hbl_h.out.size
     have hz7 := hbl_h.out.size
     have hw0 := box_lt k1_h.out
     obtain ⟨⟨d0, d1, d2⟩, g0, g1, g2⟩ := box3 k1_h.out
     obtain ⟨s1, s2⟩ := set3 (a := .int .i64 V.1) (b := .int .i64 V.2.1) (c := .slice A9 n9 c9) k1_h.out
     have hB9 := below_keeps hB8 s2 hB8.size (fun k hk => by omega)
     have hO8 := hO9.keeps s2 (fun k hk e => by have := hf9 k hk; omega)
     have hf8 := hf9.mono hBz
     clear hB8 hO9 hf9; have s1_h := lH s1; have s2_h := lH s2; have hB9_h := lH hB9; have hO8_h := lH hO8; have hf8_h := lH hf8; clear s1 s2 hB9 hO8 hf8
     go_wp2_with (fail)
     refine bodyPost_ret (results_cell_row rfl _ _ (w.heap.size + 1) _ _ (0, 0) _ rfl s1_h.out Tryz.underlying29 rfl (by kernel_rfl)) rfl ?_
     first | exact ⟨_, fp9, rfl, hO8_h.out, hf8_h.out, hB9_h.out⟩ | exact ⟨_, rfl, fp9, hO8_h.out, hf8_h.out, hB9_h.out⟩
   · rw [if_neg h2] at hV
     have hb2 : (k == 2) = false := by rw [beq_eq_false_iff_ne]; exact h2
     have hk := gen_of_leaf hl h1 h2 ok.2.1 ok.2.2.1
     have hv := ok.val (by omega) h1
     have hk : genB k := hk
     have hv : 0 ≤ v ∧ v < p := hv
     by_cases h9 : 9 ≤ k
     · have hb9 : decide (9 ≤ k) = true := decide_eq_true h9
       have hb9' : decide (k ≥ 9) = true := decide_eq_true h9
       have hk5 : k = 9 ∨ k = 10 ∨ k = 11 ∨ k = 12 ∨ k = 13 := by unfold genB at hk; omega
       have hcv := conv_leaf hf hk5 hv
       obtain ⟨a, b, c, d⟩ := kindTy_nn (k - 6)
       have hg6 : genB (k - 6) := by unfold genB; omega
       have hrok := RelOk.mk_red hf a b c (by omega) (leafRows_mat (by omega) hg6 hv)
       have hM := fun (W' : World) => mirror_any k W' (by omega) (by omega)
       have hGW := fun (W' : World) => generatorWires_any (k - 6) W' (by omega) (by omega)
       have hGR := fun (W' : World) => generatorRows_any (k - 6) v W' (by omega)
       have hmt := leafRows_mat (p := p) (v := v) (by omega) hg6 hv
       have hV' : ((kindTy k).1, (kindTy k).2, nullM p (kdN k) (leafEq p k v)) = V := hV.symm
       rw [hV'] at hcv
       obtain ⟨x, hx⟩ : ∃ x, x = (kindTy (k - 6)).1 := ⟨_, rfl⟩
       obtain ⟨y, hy⟩ : ∃ y, y = (kindTy (k - 6)).2 := ⟨_, rfl⟩
       obtain ⟨N, hN⟩ : ∃ y, y = kdN (k - 6) := ⟨_, rfl⟩
       simp only [← hx, ← hy] at hGW
       rw [← hx, ← hy, ← hN] at c
       rw [← hx, ← hy, ← hN] at hrok hcv
       rw [← hN] at hmt d
       clear hV hl hl1 hfit ok hV0 hk hv hk5 a b hg6 hV' h1 h2; have k0_h := lH k0; have k1_h := lH k1; have bW_h := lH bW; have hcv_h := lH hcv; have c_h := lH c; have d_h := lH d; have hrok_h := lH hrok; have hM_h := lH hM; have hGW_h := lH hGW; have hGR_h := lH hGR; have hmt_h := lH hmt; have hx_h := lH hx; have hy_h := lH hy; have hN_h := lH hN; clear k0 k1 bW hcv c d hrok hM hGW hGR hmt hx hy hN
       go_enter Tryz.func95, Tryz.ntmps95
       go_upto_region 1 with (fail)
       rw [← hW]
       clear hW
       obtain ⟨⟨c0, c1, c2⟩, f0, f1, f2⟩ := box3 k0_h.out
       go_wp2_with (fail)
       refine (hM_h.out _).mono ?_
       rintro e w' ⟨rfl, rfl⟩
       go_wp2_with (fail)
       refine (hGW_h.out _).mono ?_
       rintro e w3 ⟨rfl, hb3⟩
       replace k0_h := lH (box_below k0_h.out hb3)
       replace k1_h := lH (box_below k1_h.out hb3)
       obtain ⟨w4, hw4⟩ : ∃ w4, w4 = w3.alloc (.cells #[.int .i64 x, .int .i64 y] 147) := ⟨_, rfl⟩
       have hb4 : Below w3.heap.size w3 w4 := by rw [hw4]; exact below_alloc _ _
       have k5 : w4.heap[w3.heap.size]? = some (.cells #[.int .i64 x, .int .i64 y] 147) := by rw [hw4]; exact heap_alloc_new _ _
       replace k0_h := lH (box_below k0_h.out hb4)
       replace k1_h := lH (box_below k1_h.out hb4)
       have hbW4 := below_trans hb3 hb4 hb3.size
       have hz3 := hb3.size
       clear c0 c1 c2 f0 f1 f2 hb3 hb4; have k5_h := lH k5; have hbW4_h := lH hbW4; clear k5 hbW4
       go_upto_region 7 with (fail)
       rw [← hw4]
       clear hw4
       have hbd : Below w4.heap.size w4 w4.drew := below_drewN (Below.refl _ _) 1
       have hbd_h := lH hbd; clear hbd
       refine beginH (fun w' => w'.heap[w.heap.size]? = some (.cells #[.int .i64 k, .int .i64 v, .string nm] 113) ∧ w'.heap[w3.heap.size]? = some (.cells #[.int .i64 x, .int .i64 y] 147)) (by kernel_rfl) ?_
       replace k0_h := lH (box_below k0_h.out hbd_h.out)
       replace k1_h := lH (box_below k1_h.out hbd_h.out)
       replace k5_h := lH (box_below k5_h.out hbd_h.out)
       refine tkH 0 ?_ rfl ⟨k0_h.out, k5_h.out⟩ (fun W' hW' => ?_) ?_; rotate_left; · (obtain ⟨⟨x0, x1, x2⟩, x3, x4, x5⟩ := box3 hW'.1; obtain ⟨⟨y0, y1⟩, y3, y4⟩ := box2 hW'.2; clear hW'; go_simp; first | done | with_reducible rfl)
       simp only [Act.put, nS]
       refine tkH 1 ?_ rfl ⟨k0_h.out, k5_h.out⟩ (fun W' hW' => ?_) ?_; rotate_left; · (obtain ⟨⟨x0, x1, x2⟩, x3, x4, x5⟩ := box3 hW'.1; obtain ⟨⟨y0, y1⟩, y3, y4⟩ := box2 hW'.2; clear hW'; go_simp; first | done | with_reducible rfl)
       simp only [Act.put, nS]
       refine tkH 2 ?_ rfl ⟨k0_h.out, k5_h.out⟩ (fun W' hW' => ?_) ?_; rotate_left; · (obtain ⟨⟨x0, x1, x2⟩, x3, x4, x5⟩ := box3 hW'.1; obtain ⟨⟨y0, y1⟩, y3, y4⟩ := box2 hW'.2; clear hW'; go_simp; first | done | with_reducible rfl)
       simp only [Act.put, nS]
       refine tkH 3 ?_ rfl ⟨k0_h.out, k5_h.out⟩ (fun W' hW' => ?_) ?_; rotate_left; · (obtain ⟨⟨x0, x1, x2⟩, x3, x4, x5⟩ := box3 hW'.1; obtain ⟨⟨y0, y1⟩, y3, y4⟩ := box2 hW'.2; clear hW'; go_simp; first | done | with_reducible rfl)
       simp only [Act.put, nS]
       refine tkH 4 ?_ rfl ⟨k0_h.out, k5_h.out⟩ (fun W' hW' => ?_) ?_; rotate_left; · (obtain ⟨⟨x0, x1, x2⟩, x3, x4, x5⟩ := box3 hW'.1; obtain ⟨⟨y0, y1⟩, y3, y4⟩ := box2 hW'.2; clear hW'; go_simp; first | done | with_reducible rfl)
       simp only [Act.put, nS]
       refine tkH 5 ?_ rfl ⟨k0_h.out, k5_h.out⟩ (fun W' hW' => ?_) ?_; rotate_left; · (obtain ⟨⟨x0, x1, x2⟩, x3, x4, x5⟩ := box3 hW'.1; obtain ⟨⟨y0, y1⟩, y3, y4⟩ := box2 hW'.2; clear hW'; go_simp; first | done | with_reducible rfl)
       simp only [Act.put, nS]
       refine tkH 6 ?_ rfl ⟨k0_h.out, k5_h.out⟩ (fun W' hW' => ?_) ?_; rotate_left; · (obtain ⟨⟨x0, x1, x2⟩, x3, x4, x5⟩ := box3 hW'.1; obtain ⟨⟨y0, y1⟩, y3, y4⟩ := box2 hW'.2; clear hW'; go_simp; first | done | with_reducible rfl)
       simp only [Act.put, nS]
       refine tkH 7 ?_ rfl ⟨k0_h.out, k5_h.out⟩ (fun W' hW' => ?_) ?_; rotate_left; · (obtain ⟨⟨x0, x1, x2⟩, x3, x4, x5⟩ := box3 hW'.1; obtain ⟨⟨y0, y1⟩, y3, y4⟩ := box2 hW'.2; clear hW'; go_simp; first | done | with_reducible rfl)
       simp only [Act.put, nS]
       refine tkH 9 ?_ rfl ⟨k0_h.out, k5_h.out⟩ (fun W' hW' => ?_) ?_; rotate_left; · (obtain ⟨⟨x0, x1, x2⟩, x3, x4, x5⟩ := box3 hW'.1; obtain ⟨⟨y0, y1⟩, y3, y4⟩ := box2 hW'.2; clear hW'; go_simp; first | done | with_reducible rfl)
       simp only [Act.put, nS]
       refine tkH 10 ?_ rfl ⟨k0_h.out, k5_h.out⟩ (fun W' hW' => ?_) ?_; rotate_left; · (obtain ⟨⟨x0, x1, x2⟩, x3, x4, x5⟩ := box3 hW'.1; obtain ⟨⟨y0, y1⟩, y3, y4⟩ := box2 hW'.2; clear hW'; go_simp; first | done | with_reducible rfl)
       simp only [Act.put, nS]
       refine' callH 8 (f := _) (args := _) rfl (by kernel_rfl) (by rfl) ?_ ?_; rotate_left 2; · (go_simp; first | done | with_reducible rfl | (constructor <;> with_reducible rfl))
       refine (hM_h.out _).mono ?_
       rintro e w' ⟨rfl, hw'⟩
       subst hw'
       refine ⟨_, rfl, ⟨k0_h.out, k5_h.out⟩, ?_⟩
       simp only [Act.put, nS]
       refine' callH 11 (f := _) (args := _) rfl (by kernel_rfl) (by rfl) ?_ ?_; rotate_left 2; · (go_simp; first | done | with_reducible rfl | (constructor <;> with_reducible rfl))
       refine (hGR_h.out _).mono ?_
       rintro e w6 ⟨Ar, cr, hr, nr, rfl, hrn, hrl, hrr, hb6⟩
       replace k0_h := lH (box_below k0_h.out hb6)
       replace k1_h := lH (box_below k1_h.out hb6)
       replace k5_h := lH (box_below k5_h.out hb6)
       have hB6 := below_trans hbW4_h.out (below_trans hbd_h.out hb6 hbd_h.out.size) hbW4_h.out.size
       have hC := relation_any p x y N Ar cr hr w6 hrr hf c_h.out.symm.symm (by rw [hrl]; have := hmt_h.out; rwa [show (leafRows (k - 6) v).length = hr.length by rw [← hrl, List.length_map]] at this) (by have := congrArg List.length hrl; rw [List.length_map] at this; have := leafRows_le (k - 6) v; omega) (by have := d_h.out; omega)
       rw [hrl, hrn] at hC
       refine ⟨_, rfl, ⟨k0_h.out, k5_h.out⟩, ?_⟩
       simp only [Act.put, nS]
       clear hrl hrn hrr; have hb6_h := lH hb6; have hB6_h := lH hB6; have hC_h := lH hC; clear hb6 hB6 hC
       refine' callH 12 (f := _) (args := _) rfl (by kernel_rfl) (by rfl) ?_ ?_; rotate_left 2; · (go_simp; first | done | with_reducible rfl | (constructor <;> with_reducible rfl))
       refine (hC_h.out).mono ?_
       rintro e w7 ⟨v7, fp7, rfl, hO7, hf7, hb7⟩
       obtain ⟨A7, n7, c7, rfl⟩ := id hO7.shape
       replace k0_h := lH (box_below k0_h.out hb7)
       replace k1_h := lH (box_below k1_h.out hb7)
       replace k5_h := lH (box_below k5_h.out hb7)
       have hB7 := below_trans hB6_h.out hb7 hB6_h.out.size
       have hCv := converse_any p w7 hO7 hrok_h.out
       rw [hcv_h.out] at hCv
       refine ⟨_, rfl, ⟨k0_h.out, k5_h.out⟩, ?_⟩
       simp only [Act.put, nS]
       clear hO7 hf7 hb7; have hB7_h := lH hB7; have hCv_h := lH hCv; clear hB7 hCv
       refine' callH 13 (f := _) (args := _) rfl (by kernel_rfl) (by rfl) ?_ ?_; rotate_left 2; · (go_simp; first | done | with_reducible rfl | (constructor <;> with_reducible rfl))
       refine (hCv_h.out).mono ?_
       rintro e w8 ⟨v2, fp9, rfl, hO9, hf9, hb8⟩
       obtain ⟨A9, n9, c9, rfl⟩ := hO9.shape
       replace k0_h := lH (box_below k0_h.out hb8)
       replace k1_h := lH (box_below k1_h.out hb8)
       replace k5_h := lH (box_below k5_h.out hb8)
       have hB8' := below_trans hB7_h.out hb8 hB7_h.out.size
       have hB8 := below_trans bW_h.out hB8' bW_h.out.size
       have hBz := Nat.le_trans bW_h.out.size hB7_h.out.size
       have hz7 := hB7_h.out.size
       refine ⟨_, rfl, ⟨k0_h.out, k5_h.out⟩, ?_⟩
       simp only [Act.put, nS]
       have hw3z := box_lt k5_h.out
       have hw0 := box_lt k1_h.out
       obtain ⟨⟨d0, d1, d2⟩, g0, g1, g2⟩ := box3 k1_h.out
       obtain ⟨s1, s2⟩ := set3 (a := .int .i64 V.1) (b := .int .i64 V.2.1) (c := .slice A9 n9 c9) k1_h.out
       have hB9 := below_keeps hB8 s2 hB8.size (fun k hk => by omega)
       have hO8 := hO9.keeps s2 (fun k hk e => by have := hf9 k hk; omega)
       have hf8 := hf9.mono hBz
       clear hB8 hO9 hf9; have s1_h := lH s1; have s2_h := lH s2; have hB9_h := lH hB9; have hO8_h := lH hO8; have hf8_h := lH hf8; clear s1 s2 hB9 hO8 hf8
       have k0s := box_keeps k0_h.out s2_h.out (by omega)
       have k5s := box_keeps k5_h.out s2_h.out (by omega)
       have k0s_h := lH k0s; have k5s_h := lH k5s; clear k0s k5s
       refine oneH 14 rfl (by kernel_rfl) (by rfl) (fun K hK => ?_)
       go_simp
       refine hK _ _ ⟨k0s_h.out, k5s_h.out⟩ ?_
       clear hK K
       refine doneH (by kernel_rfl) ?_
       go_wp2_with (fail)
       refine bodyPost_ret (results_cell_row rfl _ _ (w.heap.size + 1) _ _ (0, 0) _ rfl s1_h.out Tryz.underlying29 rfl (by kernel_rfl)) rfl ?_
       first | exact ⟨_, fp9, rfl, hO8_h.out, hf8_h.out, hB9_h.out⟩ | exact ⟨_, rfl, fp9, hO8_h.out, hf8_h.out, hB9_h.out⟩
     · have hb9 : decide (9 ≤ k) = false := decide_eq_false h9
       have hk5 : k = 3 ∨ k = 4 ∨ k = 5 ∨ k = 6 ∨ k = 7 := by unfold genB at hk; omega
       obtain ⟨a, b, c, d⟩ := kindTy_nn k
       have hGW := fun (W' : World) => generatorWires_any k W' (by omega) (by omega)
       have hGR := fun (W' : World) => generatorRows_any k v W' hk5
       have hmt := leafRows_mat (p := p) (v := v) (by omega) hk hv
       have hV' : ((kindTy k).1, (kindTy k).2, redM p (kdN k) (leafRows k v)) = V := by rw [leaf_null hf hk hv]; exact hV.symm
       obtain ⟨x, hx⟩ : ∃ x, x = (kindTy k).1 := ⟨_, rfl⟩
       obtain ⟨y, hy⟩ : ∃ y, y = (kindTy k).2 := ⟨_, rfl⟩
       obtain ⟨N, hN⟩ : ∃ y, y = kdN k := ⟨_, rfl⟩
       simp only [← hx, ← hy] at hGW
       rw [← hx, ← hy, ← hN] at c hV'
       rw [← hN] at hmt d
       clear hV hl hl1 hfit ok hV0 hk hv hk5 a b h1 h2; have k0_h := lH k0; have k1_h := lH k1; have bW_h := lH bW; have c_h := lH c; have d_h := lH d; have hGW_h := lH hGW; have hGR_h := lH hGR; have hmt_h := lH hmt; have hx_h := lH hx; have hy_h := lH hy; have hN_h := lH hN; have hV'_h := lH hV'; clear k0 k1 bW c d hGW hGR hmt hx hy hN hV'
       have h9' : ¬ k ≥ 9 := h9
       go_enter Tryz.func95, Tryz.ntmps95
       go_upto_region 1 with (fail)
       rw [← hW]
       clear hW
       obtain ⟨⟨c0, c1, c2⟩, f0, f1, f2⟩ := box3 k0_h.out
       go_wp2_with (fail)
       refine (hGW_h.out _).mono ?_
       rintro e w3 ⟨rfl, hb3⟩
       replace k0_h := lH (box_below k0_h.out hb3)
       replace k1_h := lH (box_below k1_h.out hb3)
       obtain ⟨w4, hw4⟩ : ∃ w4, w4 = w3.alloc (.cells #[.int .i64 x, .int .i64 y] 147) := ⟨_, rfl⟩
       have hb4 : Below w3.heap.size w3 w4 := by rw [hw4]; exact below_alloc _ _
       have k5 : w4.heap[w3.heap.size]? = some (.cells #[.int .i64 x, .int .i64 y] 147) := by rw [hw4]; exact heap_alloc_new _ _
       replace k0_h := lH (box_below k0_h.out hb4)
       replace k1_h := lH (box_below k1_h.out hb4)
       have hbW4 := below_trans hb3 hb4 hb3.size
       have hz3 := hb3.size
       clear c0 c1 c2 f0 f1 f2 hb3 hb4; have k5_h := lH k5; have hbW4_h := lH hbW4; clear k5 hbW4
       go_upto_region 9 with (fail)
       rw [← hw4]
       clear hw4
       have hbd : Below w4.heap.size w4 w4.drew := below_drewN (Below.refl _ _) 1
       have hbd_h := lH hbd; clear hbd
       refine beginH (fun w' => w'.heap[w.heap.size]? = some (.cells #[.int .i64 k, .int .i64 v, .string nm] 113) ∧ w'.heap[w3.heap.size]? = some (.cells #[.int .i64 x, .int .i64 y] 147)) (by kernel_rfl) ?_
       replace k0_h := lH (box_below k0_h.out hbd_h.out)
       replace k1_h := lH (box_below k1_h.out hbd_h.out)
       replace k5_h := lH (box_below k5_h.out hbd_h.out)
       refine tkH 0 ?_ rfl ⟨k0_h.out, k5_h.out⟩ (fun W' hW' => ?_) ?_; rotate_left; · (obtain ⟨⟨x0, x1, x2⟩, x3, x4, x5⟩ := box3 hW'.1; obtain ⟨⟨y0, y1⟩, y3, y4⟩ := box2 hW'.2; clear hW'; go_simp; first | done | with_reducible rfl)
       simp only [Act.put, nS]
       refine tkH 1 ?_ rfl ⟨k0_h.out, k5_h.out⟩ (fun W' hW' => ?_) ?_; rotate_left; · (obtain ⟨⟨x0, x1, x2⟩, x3, x4, x5⟩ := box3 hW'.1; obtain ⟨⟨y0, y1⟩, y3, y4⟩ := box2 hW'.2; clear hW'; go_simp; first | done | with_reducible rfl)
       simp only [Act.put, nS]
       refine tkH 2 ?_ rfl ⟨k0_h.out, k5_h.out⟩ (fun W' hW' => ?_) ?_; rotate_left; · (obtain ⟨⟨x0, x1, x2⟩, x3, x4, x5⟩ := box3 hW'.1; obtain ⟨⟨y0, y1⟩, y3, y4⟩ := box2 hW'.2; clear hW'; go_simp; first | done | with_reducible rfl)
       simp only [Act.put, nS]
       refine tkH 3 ?_ rfl ⟨k0_h.out, k5_h.out⟩ (fun W' hW' => ?_) ?_; rotate_left; · (obtain ⟨⟨x0, x1, x2⟩, x3, x4, x5⟩ := box3 hW'.1; obtain ⟨⟨y0, y1⟩, y3, y4⟩ := box2 hW'.2; clear hW'; go_simp; first | done | with_reducible rfl)
       simp only [Act.put, nS]
       refine tkH 4 ?_ rfl ⟨k0_h.out, k5_h.out⟩ (fun W' hW' => ?_) ?_; rotate_left; · (obtain ⟨⟨x0, x1, x2⟩, x3, x4, x5⟩ := box3 hW'.1; obtain ⟨⟨y0, y1⟩, y3, y4⟩ := box2 hW'.2; clear hW'; go_simp; first | done | with_reducible rfl)
       simp only [Act.put, nS]
       refine tkH 5 ?_ rfl ⟨k0_h.out, k5_h.out⟩ (fun W' hW' => ?_) ?_; rotate_left; · (obtain ⟨⟨x0, x1, x2⟩, x3, x4, x5⟩ := box3 hW'.1; obtain ⟨⟨y0, y1⟩, y3, y4⟩ := box2 hW'.2; clear hW'; go_simp; first | done | with_reducible rfl)
       simp only [Act.put, nS]
       refine tkH 6 ?_ rfl ⟨k0_h.out, k5_h.out⟩ (fun W' hW' => ?_) ?_; rotate_left; · (obtain ⟨⟨x0, x1, x2⟩, x3, x4, x5⟩ := box3 hW'.1; obtain ⟨⟨y0, y1⟩, y3, y4⟩ := box2 hW'.2; clear hW'; go_simp; first | done | with_reducible rfl)
       simp only [Act.put, nS]
       refine tkH 7 ?_ rfl ⟨k0_h.out, k5_h.out⟩ (fun W' hW' => ?_) ?_; rotate_left; · (obtain ⟨⟨x0, x1, x2⟩, x3, x4, x5⟩ := box3 hW'.1; obtain ⟨⟨y0, y1⟩, y3, y4⟩ := box2 hW'.2; clear hW'; go_simp; first | done | with_reducible rfl)
       simp only [Act.put, nS]
       refine tkH 8 ?_ rfl ⟨k0_h.out, k5_h.out⟩ (fun W' hW' => ?_) ?_; rotate_left; · (obtain ⟨⟨x0, x1, x2⟩, x3, x4, x5⟩ := box3 hW'.1; obtain ⟨⟨y0, y1⟩, y3, y4⟩ := box2 hW'.2; clear hW'; go_simp; first | done | with_reducible rfl)
       simp only [Act.put, nS]
       refine' callH 9 (f := _) (args := _) rfl (by kernel_rfl) (by rfl) ?_ ?_; rotate_left 2; · (go_simp; first | done | with_reducible rfl | (constructor <;> with_reducible rfl))
       refine (hGR_h.out _).mono ?_
       rintro e w6 ⟨Ar, cr, hr, nr, rfl, hrn, hrl, hrr, hb6⟩
       replace k0_h := lH (box_below k0_h.out hb6)
       replace k1_h := lH (box_below k1_h.out hb6)
       replace k5_h := lH (box_below k5_h.out hb6)
       have hB6 := below_trans hbW4_h.out (below_trans hbd_h.out hb6 hbd_h.out.size) hbW4_h.out.size
       have hC := relation_any p x y N Ar cr hr w6 hrr hf c_h.out (by rw [hrl]; have := hmt_h.out; rwa [show (leafRows k v).length = hr.length by rw [← hrl, List.length_map]] at this) (by have := congrArg List.length hrl; rw [List.length_map] at this; have := leafRows_le k v; omega) (by have := d_h.out; omega)
       rw [hrl, hrn, hV'_h.out] at hC
       refine ⟨_, rfl, ⟨k0_h.out, k5_h.out⟩, ?_⟩
       simp only [Act.put, nS]
       clear hrl hrn hrr; have hb6_h := lH hb6; have hB6_h := lH hB6; have hC_h := lH hC; clear hb6 hB6 hC
       refine' callH 10 (f := _) (args := _) rfl (by kernel_rfl) (by rfl) ?_ ?_; rotate_left 2; · (go_simp; first | done | with_reducible rfl | (constructor <;> with_reducible rfl))
       refine (hC_h.out).mono ?_
       rintro e w8 ⟨v2, fp9, rfl, hO9, hf9, hb8⟩
       obtain ⟨A9, n9, c9, rfl⟩ := hO9.shape
       replace k0_h := lH (box_below k0_h.out hb8)
       replace k1_h := lH (box_below k1_h.out hb8)
       replace k5_h := lH (box_below k5_h.out hb8)
       have hB8' := below_trans hB6_h.out hb8 hB6_h.out.size
       have hB8 := below_trans bW_h.out hB8' bW_h.out.size
       have hBz := Nat.le_trans bW_h.out.size hB6_h.out.size
       have hz7 := hB6_h.out.size
       refine ⟨_, rfl, ⟨k0_h.out, k5_h.out⟩, ?_⟩
       simp only [Act.put, nS]
       have hw3z := box_lt k5_h.out
       have hw0 := box_lt k1_h.out
       obtain ⟨⟨d0, d1, d2⟩, g0, g1, g2⟩ := box3 k1_h.out
       obtain ⟨s1, s2⟩ := set3 (a := .int .i64 V.1) (b := .int .i64 V.2.1) (c := .slice A9 n9 c9) k1_h.out
       have hB9 := below_keeps hB8 s2 hB8.size (fun k hk => by omega)
       have hO8 := hO9.keeps s2 (fun k hk e => by have := hf9 k hk; omega)
       have hf8 := hf9.mono hBz
       clear hB8 hO9 hf9; have s1_h := lH s1; have s2_h := lH s2; have hB9_h := lH hB9; have hO8_h := lH hO8; have hf8_h := lH hf8; clear s1 s2 hB9 hO8 hf8
       have k0s := box_keeps k0_h.out s2_h.out (by omega)
       have k5s := box_keeps k5_h.out s2_h.out (by omega)
       have k0s_h := lH k0s; have k5s_h := lH k5s; clear k0s k5s
       refine oneH 11 rfl (by kernel_rfl) (by rfl) (fun K hK => ?_)
       go_simp
       refine hK _ _ ⟨k0s_h.out, k5s_h.out⟩ ?_
       clear hK K
       refine doneH (by kernel_rfl) ?_
       go_wp2_with (fail)
       refine bodyPost_ret (results_cell_row rfl _ _ (w.heap.size + 1) _ _ (0, 0) _ rfl s1_h.out Tryz.underlying29 rfl (by kernel_rfl)) rfl ?_
       first | exact ⟨_, fp9, rfl, hO8_h.out, hf8_h.out, hB9_h.out⟩ | exact ⟨_, rfl, fp9, hO8_h.out, hf8_h.out, hB9_h.out⟩
theorem IS.ne_outer {w : World} {A B : Option Addr} {c n cap : Nat} {l : List Int} {xs : List Value} (h : IS w A c l) (h' : Sl w 23 1 B n cap xs) : ∀ x, x ∈ fpA A → x ∉ fpA B := by
 intro x hx hx'
 rcases h.2.2.2 with ⟨rfl, _⟩ | ⟨g, off, cur, rfl, hg, _⟩
 · simp at hx
 rcases h'.2.2.2 with ⟨rfl, _⟩ | ⟨g', off', cur', rfl, hg', _⟩
 · simp at hx'
 simp at hx hx'
 subst hx
 subst hx'
 rw [hg] at hg'
 injection hg' with hg'
 injection hg' with _ h2 _
 exact absurd h2 (by decide)
theorem Keeps.after {S T : Nat → Prop} {a w w' : World} (h : Keeps T a w) (hk : Keeps S w w') (hS : ∀ k, k < a.heap.size → S k → T k) : Keeps T a w' :=
 ⟨hk.os.trans h.os, hk.tape.trans h.tape, hk.output.trans h.output, Nat.le_trans h.size hk.size, fun i hi ht => (hk.block i (Nat.lt_of_lt_of_le hi h.size) (fun hs => ht (hS i hi hs))).trans (h.block i hi ht)⟩
structure Aside (w : World) (A : Option Addr) (cap : Nat) (hs : List Hd) (B : Option Addr) : Prop where
 sl : Sl w 23 1 A hs.length cap (hs.map Hd.val)
 rows : ∀ x, x ∈ hs → IS w x.1 x.2.1 x.2.2
 off : ∀ b, b ∈ fpA A → ¬ b ∈ fpA B
theorem Aside.rdr {w : World} {A B : Option Addr} {cap : Nat} {hs : List Hd} (h : Aside w A cap hs B) : RdR w A hs :=
 ⟨fun i x hi => by obtain ⟨ad, hA, _, hc, _⟩ := h.sl.cell (j := i) (u := x.val) (by simp [hi]); exact ⟨ad, hA, by simpa using hc⟩, fun x hx => (h.rows x hx).rd⟩
theorem Aside.step {w w1 w2 : World} {A B B' : Option Addr} {cap n c : Nat} {hs : List Hd} {xs : List Value} (h : Aside w A cap hs B) (hB : Sl w 23 1 B n c xs) (hb : Below w.heap.size w w1) (hk : Keeps (· ∈ fpA B) w1 w2) (hB' : ∀ b, b ∈ fpA B' → b ∈ fpA B ∨ w1.heap.size ≤ b) : Aside w2 A cap hs B' :=
 ⟨(h.sl.below hb).keeps hk fun b hb1 hb2 => h.off b hb1 hb2, fun x hx => ((h.rows x hx).below hb).keeps hk fun b hb1 hb2 => IS.ne_outer (h.rows x hx) hB b hb1 hb2, fun b hb1 hb2 => by
   rcases hB' b hb2 with h1 | h1
   · exact h.off b hb1 h1
   · have := h.sl.lt b hb1; have := hb.size; omega⟩
def wcs : List Tr → List Value
 | [] => []
 | t :: r => wcs r ++ [.int .i64 (ty t).1, .int .i64 (ty t).2]
def TyA (l : List Nd) (w : World) (e : Ending) (w' : World) : Prop :=
 ∃ (i o : Int) (b : Bool), e = .returned (.tuple #[.agg #[.int .i64 i, .int .i64 o], .bool b]) ∧ b = (treeM l).isSome ∧ (∀ t, treeM l = some t → (i, o) = ty t) ∧ Below w.heap.size w w'
structure TyR (B : Nat) (w : World) (l : List Nd) (k : Nat) (st : List Tr) (A1 : Option Addr) (c1 : Nat) (wr : World) : Prop where
 par : parse [] (l.take k) = some st
 sl : Sl wr tWires 2 A1 st.length c1 (wcs st)
 fr : ∀ b, b ∈ fpA A1 → B + 1 ≤ b
 box : wr.heap[B]? = some (.cells #[.int .i64 0, .int .i64 0] tWires)
 bel : Below B w wr
theorem TyR.below {B : Nat} {w wr w1 : World} {l : List Nd} {k : Nat} {st : List Tr} {A1 : Option Addr} {c1 : Nat} (h : TyR B w l k st A1 c1 wr) (hb : Below wr.heap.size wr w1) : TyR B w l k st A1 c1 w1 :=
 ⟨h.par, h.sl.below hb, h.fr, t_box_below h.box hb, below_trans h.bel hb (Nat.le_of_lt (t_box_lt h.box))⟩
theorem TyR.push {B : Nat} {w X w2 : World} {l : List Nd} {k : Nat} {t : Tr} {r : List Tr} {A1 A2 : Option Addr} {c2 n2 : Nat} {i o : Int} (hbel : Below B w X) (hbox : X.heap[B]? = some (.cells #[.int .i64 0, .int .i64 0] tWires)) (hfr : ∀ b, b ∈ fpA A1 → B + 1 ≤ b)
  (hp : parse [] (l.take (k + 1)) = some (t :: r)) (hn : n2 = r.length) (hio : (i, o) = ty t) (hs : Sl w2 tWires 2 A2 (n2 + 1) c2 (wcs r ++ [.int .i64 i, .int .i64 o])) (hA : ∀ b, b ∈ fpA A2 → b ∈ fpA A1 ∨ X.heap.size ≤ b) (hk : Keeps (· ∈ fpA A1) X w2) : TyR B w l (k + 1) (t :: r) A2 c2 w2 := by
 have hB := t_box_lt hbox
 refine ⟨hp, ?_, fun b hb => ?_, t_box_keeps hbox hk (fun h => by have := hfr _ h; omega), below_keeps hbel hk (Nat.le_of_lt hB) (fun b hb => by have := hfr b hb; omega)⟩
 · simp only [wcs, List.length_cons, ← hio, ← hn]; exact hs
 · rcases hA b hb with h | h
   · exact hfr b h
   · omega
theorem Sl.take {w : World} {e : TypeId} {sz n cap : Nat} {A : Option Addr} {xs : List Value} (h : Sl w e sz A n cap xs) {k : Nat} (hk : k ≤ n) : Sl w e sz A k cap (xs.take (k * sz)) := by
 obtain ⟨h1, h2, h3, h4⟩ := h
 have hm := Nat.mul_le_mul_right sz hk
 refine ⟨by rw [List.length_take, h1]; omega, by omega, h3, ?_⟩
 rcases h4 with h4 | ⟨g, off, cur, ha, hg, hc, ht⟩
 · exact .inl h4
 · exact .inr ⟨g, off, cur, ha, hg, hc, by rw [← ht, List.take_take]; congr 1; omega⟩
theorem TyA.no {l : List Nd} {w w' : World} {i o : Int} (hN : treeM l = none) (hb : Below w.heap.size w w') : TyA l w (.returned (.tuple #[.agg #[.int .i64 i, .int .i64 o], .bool false])) w' :=
 ⟨i, o, false, rfl, by rw [hN]; rfl, fun t ht => (by rw [hN] at ht; cases ht), hb⟩
abbrev tInfo : TypeId := 139
abbrev tTerm : TypeId := 54
def frL (st : List Tr) : List Int := (infos st).map fun x => (x.1 : Int)
def inL (st : List Tr) : List Int := (infos st).map (·.2.1)
def ouL (st : List Tr) : List Int := (infos st).map (·.2.2)
structure Th (w : World) (X : Nat) (A0 A1 A2 : Option Addr) (c0 c1 c2 n0 n1 n2 : Nat) (F I O : List Int) : Prop where
 box : w.heap[X]? = some (.cells #[.slice A0 n0 c0, .slice A1 n1 c1, .slice A2 n2 c2] tInfo)
 f : Sl w tInt 1 A0 n0 c0 (ints F)
 i : Sl w tInt 1 A1 n1 c1 (ints I)
 o : Sl w tInt 1 A2 n2 c2 (ints O)
 fr : ∀ b, b ∈ fpA A0 ∨ b ∈ fpA A1 ∨ b ∈ fpA A2 → X < b
 ap01 : ∀ b, b ∈ fpA A0 → ¬ b ∈ fpA A1
 ap02 : ∀ b, b ∈ fpA A0 → ¬ b ∈ fpA A2
 ap12 : ∀ b, b ∈ fpA A1 → ¬ b ∈ fpA A2
section
variable {w w1 w2 : World} {X : Nat} {A0 A1 A2 A' : Option Addr} {c0 c1 c2 c' n0 n1 n2 : Nat} {F I O : List Int}
theorem Th.below (h : Th w X A0 A1 A2 c0 c1 c2 n0 n1 n2 F I O) (hb : Below w.heap.size w w1) : Th w1 X A0 A1 A2 c0 c1 c2 n0 n1 n2 F I O :=
 ⟨t_box_below h.box hb, h.f.below hb, h.i.below hb, h.o.below hb, h.fr, h.ap01, h.ap02, h.ap12⟩
end
abbrev RV := Int × Int × Option Addr × Nat × Nat
def rc (h : RV) : List Value := [.int .i64 h.1, .int .i64 h.2.1, .slice h.2.2.1 h.2.2.2.1 h.2.2.2.2]
def rv (h : RV) : Value := .agg #[.int .i64 h.1, .int .i64 h.2.1, .slice h.2.2.1 h.2.2.2.1 h.2.2.2.2]
def rcs : List RV → List Value
 | [] => []
 | n :: r => rc n ++ rcs r
theorem rcs_append (l m : List RV) : rcs (l ++ m) = rcs l ++ rcs m := by
 induction l with
 | nil => rfl
 | cons n r ih => simp [rcs, ih]
@[simp] theorem rcs_length (l : List RV) : (rcs l).length = l.length * 3 := by
  induction l with
  | nil => rfl
  | cons n r ih => simp only [rcs, rc, List.length_append, List.length_cons, List.length_nil, ih]; omega
theorem rcs_take : ∀ (l : List RV) (k : Nat), rcs (l.take k) = (rcs l).take (k * 3)
 | [], k => by simp [rcs]
 | n :: r, 0 => by simp [rcs]
 | n :: r, k + 1 => by
   rw [show (k + 1) * 3 = k * 3 + 1 + 1 + 1 by omega]
   simp only [List.take_succ_cons, rcs, rc, List.cons_append, List.nil_append, rcs_take r k]
theorem rcs_get {l : List RV} {j : Nat} {n : RV} (h : l[j]? = some n) : (rcs l)[j * 3]? = some (.int .i64 n.1) ∧ (rcs l)[j * 3 + 1]? = some (.int .i64 n.2.1) ∧ (rcs l)[j * 3 + 2]? = some (.slice n.2.2.1 n.2.2.2.1 n.2.2.2.2) := by
 induction l generalizing j with
 | nil => simp at h
 | cons a r ih =>
   cases j with
   | zero =>
     obtain rfl : a = n := by simpa using h
     simp [rcs, rc]
   | succ j =>
     have := ih (j := j) (by simpa using h)
     have hl : (rc a).length = 3 := rfl
     simp only [rcs]
     rw [List.getElem?_append_right (by omega), List.getElem?_append_right (by omega), List.getElem?_append_right (by omega), hl]
     rw [show (j + 1) * 3 - 3 = j * 3 by omega, show (j + 1) * 3 + 1 - 3 = j * 3 + 1 by omega, show (j + 1) * 3 + 2 - 3 = j * 3 + 2 by omega]
     exact this
theorem Sl.apart_ty {w : World} {e e' : TypeId} {sz sz' n n' c c' : Nat} {A B : Option Addr} {xs ys : List Value} (h : Sl w e sz A n c xs) (h' : Sl w e' sz' B n' c' ys) (he : e ≠ e') : ∀ b, b ∈ fpA A → ¬ b ∈ fpA B := by
 intro x hx hx'
 rcases h.2.2.2 with ⟨rfl, _⟩ | ⟨g, off, cur, rfl, hg, _⟩
 · simp at hx
 rcases h'.2.2.2 with ⟨rfl, _⟩ | ⟨g', off', cur', rfl, hg', _⟩
 · simp at hx'
 simp at hx hx'
 subst hx
 subst hx'
 rw [hg] at hg'
 injection hg' with hg'
 injection hg' with _ h2 _
 exact he h2
theorem OwSys.apart_rel {w : World} {v : Value} {s : Sys} {fp : List Nat} {n c : Nat} {B : Option Addr} {ys : List Value} (h : OwSys w v s fp) (h' : Sl w tRelD 3 B n c ys) : ∀ b, b ∈ fp → ¬ b ∈ fpA B := by
 obtain ⟨A, c, hs, rfl, _, hO, rfl⟩ := h
 intro b hb
 rcases List.mem_append.1 hb with hb | hb
 · exact hO.sl.apart_ty h' (by decide) b hb
 · obtain ⟨x, hx, hb⟩ := mem_fpR.1 hb
   exact Sl.apart_ty (hO.rows x hx) h' (by decide) b hb
theorem bx1_d {w : World} {B : Nat} {x : Value} {t : TypeId} (h : w.heap[B]? = some (.cells #[x] t)) : w.cell? ⟨B, 0, none⟩ = some x ∧ w.frozen? ⟨B, 0, none⟩ = false := by simp [World.cell?, World.frozen?, h]
structure Stk (w0 w : World) (A : Option Addr) (cap : Nat) (hs : List RV) (L : List Sys) : Prop where
 sl : Sl w tRelD 3 A hs.length cap (rcs hs)
 els : ∀ (i : Nat) (s : Sys), L[i]? = some s → ∃ h fp, hs[i]? = some h ∧ OwSys w (rv h) s fp ∧ FreshL w0.heap.size fp
 len : hs.length = L.length
 new : ∀ b, b ∈ fpA A → w0.heap.size ≤ b
 below_ : Below w0.heap.size w0 w
theorem Stk.below {w0 w w' : World} {A : Option Addr} {cap : Nat} {hs : List RV} {L : List Sys} (h : Stk w0 w A cap hs L) (hb : Below w.heap.size w w') : Stk w0 w' A cap hs L :=
 ⟨h.sl.below hb, fun i s hi => by obtain ⟨x, fp, h1, h2, h3⟩ := h.els i s hi; exact ⟨x, fp, h1, h2.below hb, h3⟩, h.len, h.new, below_trans h.below_ hb h.below_.size⟩
theorem Stk.take {w0 w : World} {A : Option Addr} {cap : Nat} {hs : List RV} {L : List Sys} (h : Stk w0 w A cap hs L) {k : Nat} (hk : k ≤ hs.length) : Stk w0 w A cap (hs.take k) (L.take k) := by
 have h1 := Sl.take h.sl hk
 rw [← rcs_take] at h1
 refine ⟨by rw [List.length_take, Nat.min_eq_left hk]; exact h1, fun i s hi => ?_, by rw [List.length_take, List.length_take, h.len], h.new, h.below_⟩
 rw [List.getElem?_take] at hi
 split at hi
 · rename_i hlt
   obtain ⟨x, fp, h1, h2, h3⟩ := h.els i s hi
   exact ⟨x, fp, by rw [List.getElem?_take, if_pos hlt]; exact h1, h2, h3⟩
 · cases hi
theorem Stk.push {w0 w w1 w2 : World} {A : Option Addr} {cap : Nat} {hs : List RV} {L : List Sys} (h : Stk w0 w A cap hs L) (hb : Below w.heap.size w w1) {v : RV} {s : Sys} {fp : List Nat} (hv : OwSys w1 (rv v) s fp) (hf : FreshL w0.heap.size fp) {A' : Option Addr} {cap' n : Nat} (hn : n = hs.length + 1) (hs' : Sl w2 tRelD 3 A' n cap' (rcs hs ++ rc v)) (hA' : ∀ b, b ∈ fpA A' → b ∈ fpA A ∨ w1.heap.size ≤ b) (hk : Keeps (· ∈ fpA A) w1 w2) : Stk w0 w2 A' cap' (hs ++ [v]) (L ++ [s]) := by
 have hsl := h.sl.below hb
 have hb1 := below_trans h.below_ hb h.below_.size
 subst hn
 refine ⟨by rw [rcs_append, List.length_append]; simpa [rcs] using hs', fun i x hi => ?_, by rw [List.length_append, List.length_append, h.len]; rfl, fun b hb' => ?_, below_keeps hb1 hk hb1.size h.new⟩
 · by_cases hlt : i < L.length
   · rw [List.getElem?_append_left hlt] at hi
     obtain ⟨y, fq, h1, h2, h3⟩ := h.els i x hi
     exact ⟨y, fq, by rw [List.getElem?_append_left (by rw [h.len]; exact hlt)]; exact h1, (h2.below hb).keeps hk ((h2.below hb).apart_rel hsl), h3⟩
   · rw [List.getElem?_append_right (by omega)] at hi
     have hi0 : i - L.length = 0 := by
      rcases Nat.eq_zero_or_pos (i - L.length) with h0 | h0
      · exact h0
      · rw [List.getElem?_eq_none (by simp; omega)] at hi; cases hi
     rw [hi0] at hi
     obtain rfl : s = x := by simpa using hi
     exact ⟨v, fp, by rw [List.getElem?_append_right (by rw [h.len]; omega), h.len, hi0]; rfl, hv.keeps hk (hv.apart_rel hsl), hf⟩
 · rcases hA' b hb' with h1 | h1
   · exact h.new b h1
   · have := hb1.size; omega
theorem Stk.at_ {w0 w : World} {A : Option Addr} {cap : Nat} {hs : List RV} {L : List Sys} (h : Stk w0 w A cap hs L) {i : Nat} {s : Sys} (hi : L[i]? = some s) : ∃ ad x y B n c fp, A = some ad ∧ w.cell? (ad.add (i * 3)) = some (.int .i64 x) ∧ w.cell? ⟨(ad.add (i * 3)).block, (ad.add (i * 3)).off + 1, none⟩ = some (.int .i64 y) ∧ w.cell? ⟨(ad.add (i * 3)).block, (ad.add (i * 3)).off + 2, none⟩ = some (.slice B n c) ∧ OwSys w (.agg #[.int .i64 x, .int .i64 y, .slice B n c]) s fp ∧ FreshL w0.heap.size fp := by
 obtain ⟨⟨x, y, B, n, c⟩, fp, h1, h2, h3⟩ := h.els i s hi
 obtain ⟨g0, g1, g2⟩ := rcs_get h1
 obtain ⟨ad, hA, _, c0, _⟩ := h.sl.cell g0
 obtain ⟨ad1, hA1, _, c1, _⟩ := h.sl.cell g1
 obtain ⟨ad2, hA2, _, c2, _⟩ := h.sl.cell g2
 rw [hA] at hA1 hA2
 obtain rfl := Option.some.inj hA1
 obtain rfl := Option.some.inj hA2
 rw [add_next _ _ 1 (by omega)] at c1
 rw [add_next _ _ 2 (by omega)] at c2
 exact ⟨ad, x, y, B, n, c, fp, hA, c0, c1, c2, h2, h3⟩
def dens (p : Int) (st : List Tr) : List Sys := (st.map (den p)).reverse
@[simp] theorem dens_length (p : Int) (st : List Tr) : (dens p st).length = st.length := by simp [dens]
@[simp] theorem rangeI_length' (k : Nat) : (rangeI k).length = k := by simp [rangeI]
def lfI (n k : Nat) : List Int := (rangeI k).take n
def lfO (n k : Nat) : List Int := (rangeI k).drop n
@[simp] theorem lfI_length (n k : Nat) : (lfI n k).length = min n k := by simp [lfI]
@[simp] theorem lfO_length (n k : Nat) : (lfO n k).length = k - n := by simp [lfO]
end Go.Proofs.YtahnhblodfdfhaaGreatDoor
namespace Go.Proofs.YtahnhblodfdfhaaGreatDoor
theorem nullM_genL {p : Int} (hf : fieldB p = true) {N : Nat} {E : List (List Int)} (hE : Mat p E.length N E) : GenL p N (NulL p N E) (nullM p N E) := by
 have hpb := fieldB_bounds hf
 have hB := nullM_red hf N E
 have hr := redM_spec hf hE
 have hg := (nvecs_gen (by omega) hr.1).congr hr.2.1
 have hs := redM_spec hf hg.1
 refine ⟨hB.1, fun k hk => ?_, fun x hx => hg.2.2 x ((hs.2.1 x).1 hx)⟩
 intro i hi
 have hrow : NulL p N (nvecs p N (redM p N E)) fun j => en E i j := fun q hq => by
  have := hg.2.1 q hq i hi
  rw [sm_congr (g := fun j => en E i j * en (nvecs p N (redM p N E)) q j) (fun j _ => Int.mul_comm _ _)]
  exact this
 have := (hs.2.1 _).2 hrow k hk
 rw [sm_congr (g := fun j => en (nullM p N E) k j * en E i j) (fun j _ => Int.mul_comm _ _)]
 exact this
open Go.RowKit
theorem sm_set {n q : Nat} {l : List Int} (hq : q < n) (hl : l.length = n) (y : Int) (x : Nat → Int) : (sm n fun j => (l.set q y).getD j 0 * x j) = (sm n fun j => l.getD j 0 * x j) + (y - l.getD q 0) * x q := by
 have h : (sm n fun j => (l.set q y).getD j 0 * x j) - (sm n fun j => l.getD j 0 * x j) = (y - l.getD q 0) * x q := by
  rw [← sm_sub, sm_one hq fun j hj hne => by rw [getD_set_ne' (Ne.symm hne), Int.sub_self], getD_set_self (by omega), Int.sub_mul]
 omega
theorem sprTo_dot {p : Int} {n : Nat} {at_ v : List Int} (hat : ∀ a, a ∈ at_ → 0 ≤ a ∧ a < (n : Int)) (x : Nat → Int) : ∀ k, k ≤ at_.length →
  p ∣ (sm n fun j => (sprTo p n at_ v k).getD j 0 * x j) - sm k fun i => v.getD i 0 * x (at_.getD i 0).toNat
 | 0, _ => by
   rw [sm_congr (g := fun _ => 0) (fun j hj => by simp [sprTo, List.getD, hj]), sm_zero]
   exact Int.dvd_zero p
 | k + 1, hk => by
   have ih := sprTo_dot (p := p) (v := v) hat x k (by omega)
   have hq : (at_.getD k 0).toNat < n := by
    have := hat (at_.getD k 0) (by rw [getD_lt (by omega : k < at_.length)]; exact List.getElem_mem _)
    omega
   rw [sprTo, sm_set hq (sprTo_length _ _ _ _ _), sm]
   obtain ⟨q, hqe⟩ : ∃ q, q = (at_.getD k 0).toNat := ⟨_, rfl⟩
   rw [← hqe]
   have e1 := dvd_l (dvd_emod_sub p ((sprTo p n at_ v k).getD q 0 + v.getD k 0)) (x q)
   have e2 := Int.dvd_add e1 ih
   have e3 : ∀ A B C D E : Int, A + (C - B) * E - (D + (C - B) * E) = A - D := by intros; omega
   have e4 : (sm n fun j => (sprTo p n at_ v k).getD j 0 * x j) + (((sprTo p n at_ v k).getD q 0 + v.getD k 0) % p - (sprTo p n at_ v k).getD q 0) * x q - ((sm k fun i => v.getD i 0 * x (at_.getD i 0).toNat) + v.getD k 0 * x q)
     = (((sprTo p n at_ v k).getD q 0 + v.getD k 0) % p - ((sprTo p n at_ v k).getD q 0 + v.getD k 0)) * x q + ((sm n fun j => (sprTo p n at_ v k).getD j 0 * x j) - sm k fun i => v.getD i 0 * x (at_.getD i 0).toNat) := by
    rw [Int.sub_mul, Int.sub_mul, Int.add_mul]
    omega
   rw [e4]
   exact e2
theorem spr_dvd {p : Int} {n : Nat} {at_ v : List Int} (hat : ∀ a, a ∈ at_ → 0 ≤ a ∧ a < (n : Int)) (x : Nat → Int) :
  (p ∣ sm n fun j => (sprV p n at_ v).getD j 0 * x j) ↔ p ∣ sm at_.length fun i => v.getD i 0 * x (at_.getD i 0).toNat := by
 have h := sprTo_dot (p := p) (v := v) hat x at_.length (Nat.le_refl _)
 constructor
 · intro h1
   have := Int.dvd_sub h1 h
   rwa [show sprV p n at_ v = sprTo p n at_ v at_.length from rfl, Int.sub_sub_self] at this
 · intro h1
   have := Int.dvd_add h h1
   rwa [Int.sub_add_cancel] at this
theorem sprV_mat {p : Int} (hp : 0 < p) (n : Nat) (at_ v : List Int) : (sprV p n at_ v).length = n ∧ Res p (sprV p n at_ v) := ⟨sprTo_length _ _ _ _ _, sprTo_res hp _ _ _ _⟩
def edEqs (p : Int) (n : Nat) (e : Eg) : List (List Int) := (perpM p (kdN e.1) (leafV p (e.1, e.2.1, .empty)).2.2).map (sprV p n (e.2.2.1 ++ e.2.2.2))
def imEqs (p : Int) (g : Gr) : List (List Int) := g.2.1.flatMap (edEqs p g.1.toNat)
section
variable {p : Int} (hf : fieldB p = true)
include hf
theorem perp_null {N : Nat} {E : List (List Int)} (hE : Mat p E.length N E) (u : Nat → Int) : NulL p N (perpM p N (nullM p N E)) u ↔ NulL p N E u := by
 have hpb := fieldB_bounds hf
 have hBg := nullM_genL hf hE
 have hB := nullM_red hf N E
 have hPg : GenL p N (NulL p N (nullM p N E)) (perpM p N (nullM p N E)) := by
  rw [perpM_eq]
  have hg := perp_gen hf hB.1
  have hs := redM_spec hf hg.1
  refine ⟨hs.1.1, fun k hk => ?_, fun x hx => hg.2.2 x ((hs.2.1 x).1 hx)⟩
  intro i hi
  have hrow : NulL p N ((redTo p (transM (nullM p N E) N) (idM N) (nullM p N E).length).2.2.drop (redTo p (transM (nullM p N E) N) (idM N) (nullM p N E).length).1) fun j => en (nullM p N E) i j := fun q hq => by
   have := hg.2.1 q hq i hi
   rw [sm_congr (g := fun j => en (nullM p N E) i j * en ((redTo p (transM (nullM p N E) N) (idM N) (nullM p N E).length).2.2.drop (redTo p (transM (nullM p N E) N) (idM N) (nullM p N E).length).1) q j) (fun j _ => Int.mul_comm _ _)]
   exact this
  have := (hs.2.1 _).2 hrow k hk
  rw [sm_congr (g := fun j => en (redM p N ((redTo p (transM (nullM p N E) N) (idM N) (nullM p N E).length).2.2.drop (redTo p (transM (nullM p N E) N) (idM N) (nullM p N E).length).1)) k j * en (nullM p N E) i j) (fun j _ => Int.mul_comm _ _)]
  exact this
 constructor
 · intro hu i hi
   have hrow : NulL p N (nullM p N E) fun j => en E i j := fun q hq => by
    have := hBg.2.1 q hq i hi
    rw [sm_congr (g := fun j => en E i j * en (nullM p N E) q j) (fun j _ => Int.mul_comm _ _)]
    exact this
   have := hPg.2.2 u hu _ hrow
   rw [sm_congr (g := fun j => u j * en E i j) (fun j _ => Int.mul_comm _ _)]
   exact this
 · intro hu k hk
   exact hBg.2.2 _ (hPg.2.1 k hk) u hu
theorem perpM_mat {N : Nat} {L : List (List Int)} (hL : Mat p L.length N L) : Mat p (perpM p N L).length N (perpM p N L) := by
 rw [perpM_eq]
 exact (redM_spec hf (perp_gen hf hL).1).1.1
end
structure EdOk (n : Nat) (e : Eg) : Prop where
 inl : e.2.2.1.length = (kindTy e.1).1.toNat
 outl : e.2.2.2.length = (kindTy e.1).2.toNat
 wi : ∀ a, a ∈ e.2.2.1 → 0 ≤ a ∧ a < (n : Int)
 wo : ∀ a, a ∈ e.2.2.2 → 0 ≤ a ∧ a < (n : Int)
theorem len1 {α : Type} {l : List α} (h : l.length = 1) : ∃ a, l = [a] := by
 match l, h with
 | [a], _ => exact ⟨a, rfl⟩
theorem len2 {α : Type} {l : List α} (h : l.length = 2) : ∃ a b, l = [a, b] := by
 match l, h with
 | [a, b], _ => exact ⟨a, b, rfl⟩
theorem leaf_rows_at {p : Int} {n : Nat} {e : Eg} (hk : genB e.1) (ok : EdOk n e) (x : Nat → Int) :
  NulL p (kdN e.1) (leafEq p e.1 e.2.1) (fun i => x ((e.2.2.1 ++ e.2.2.2).getD i 0).toNat) ↔ NulL p n (dnRowsM p n e) x := by
 obtain ⟨k, v, I, O⟩ := e
 obtain ⟨h1, h2, h3, h4⟩ := ok
 simp only at hk h1 h2 h3 h4
 have hs : ∀ (at_ w : List Int), (∀ a, a ∈ at_ → a ∈ I ∨ a ∈ O) → ((p ∣ sm n fun j => (sprV p n at_ w).getD j 0 * x j) ↔ p ∣ sm at_.length fun i => w.getD i 0 * x (at_.getD i 0).toNat) := fun at_ w h =>
  spr_dvd (fun a ha => (h a ha).elim (fun h' => h3 a h') (fun h' => h4 a h')) x
 rcases hk with rfl | rfl | rfl | rfl | rfl | rfl | rfl | rfl | rfl | rfl
 · obtain ⟨a, rfl⟩ := len1 h1
   obtain ⟨b, c, rfl⟩ := len2 h2
   show NulL p 3 [[p - 1, 1, 0], [p - 1, 0, 1]] _ ↔ NulL p n [sprV p n [b, a] [1, p - 1], sprV p n [c, a] [1, p - 1]] x
   rw [nul2, nul2, hs [b, a] _ (by simp), hs [c, a] _ (by simp)]
   simp [sm]
   rw [Int.add_comm (x b.toNat), Int.add_comm (x c.toNat)]
 · show NulL p _ [] _ ↔ NulL p n [] x
   rw [nul0, nul0]
 · obtain ⟨a, b, rfl⟩ := len2 h1
   obtain ⟨c, rfl⟩ := len1 h2
   show NulL p 3 [[p - 1, p - 1, 1]] _ ↔ NulL p n [sprV p n [c, a, b] [1, p - 1, p - 1]] x
   rw [nul1, nul1, hs [c, a, b] _ (by simp)]
   simp [sm]
   rw [Int.add_comm _ (x c.toNat), Int.add_assoc]
 · obtain ⟨c, rfl⟩ := len1 h2
   obtain rfl : I = [] := List.eq_nil_of_length_eq_zero h1
   show NulL p 1 [[1]] _ ↔ NulL p n [sprV p n [c] [1]] x
   rw [nul1, nul1, hs [c] _ (by simp)]
   simp [sm]
 · obtain ⟨a, rfl⟩ := len1 h1
   obtain ⟨c, rfl⟩ := len1 h2
   show NulL p 2 [[(-v) % p, 1]] _ ↔ NulL p n [sprV p n [c, a] [1, -v % p]] x
   rw [nul1, nul1, hs [c, a] _ (by simp)]
   simp [sm]
   rw [Int.add_comm]
 · obtain ⟨a, b, rfl⟩ := len2 h1
   obtain ⟨c, rfl⟩ := len1 h2
   show NulL p 3 [[1, 0, p - 1], [0, 1, p - 1]] _ ↔ NulL p n [sprV p n [a, c] [1, p - 1], sprV p n [b, c] [1, p - 1]] x
   rw [nul2, nul2, hs [a, c] _ (by simp), hs [b, c] _ (by simp)]
   simp [sm]
 · show NulL p _ [] _ ↔ NulL p n [] x
   rw [nul0, nul0]
 · obtain ⟨a, rfl⟩ := len1 h1
   obtain ⟨b, c, rfl⟩ := len2 h2
   show NulL p 3 [[1, p - 1, p - 1]] _ ↔ NulL p n [sprV p n [a, b, c] [1, p - 1, p - 1]] x
   rw [nul1, nul1, hs [a, b, c] _ (by simp)]
   simp [sm]
 · obtain ⟨a, rfl⟩ := len1 h1
   obtain rfl : O = [] := List.eq_nil_of_length_eq_zero h2
   show NulL p 1 [[1]] _ ↔ NulL p n [sprV p n [a] [1]] x
   rw [nul1, nul1, hs [a] _ (by simp)]
   simp [sm]
 · obtain ⟨a, rfl⟩ := len1 h1
   obtain ⟨c, rfl⟩ := len1 h2
   show NulL p 2 [[1, (-v) % p]] _ ↔ NulL p n [sprV p n [a, c] [1, -v % p]] x
   rw [nul1, nul1, hs [a, c] _ (by simp)]
   simp [sm]
theorem leafV_gen {p k v : Int} (hk : genB k) : leafV p (k, v, .empty) = ((kindTy k).1, (kindTy k).2, nullM p (kdN k) (leafEq p k v)) := by
 unfold leafV
 rcases hk with rfl | rfl | rfl | rfl | rfl | rfl | rfl | rfl | rfl | rfl <;> rfl
theorem nulL_map {p : Int} {n : Nat} {L : List (List Int)} {x : Nat → Int} : NulL p n L x ↔ ∀ v, v ∈ L → p ∣ sm n fun j => v.getD j 0 * x j := by
 constructor
 · intro h v hv
   obtain ⟨i, hi, rfl⟩ := List.getElem_of_mem hv
   have := h i hi
   unfold en at this
   rwa [getD_lt hi] at this
 · intro h i hi
   unfold en
   exact h _ (by rw [getD_lt hi]; exact List.getElem_mem hi)
theorem edEqs_nul {p : Int} (hf : fieldB p = true) {n : Nat} {e : Eg} (hk : genB e.1) (ok : EdOk n e) (x : Nat → Int) : NulL p n (edEqs p n e) x ↔ NulL p n (dnRowsM p n e) x := by
 have hpb := fieldB_bounds hf
 have hE := leafEq_mat (p := p) (v := e.2.1) (by omega) hk
 rw [← leaf_rows_at hk ok, ← perp_null hf hE]
 unfold edEqs
 rw [leafV_gen hk]
 simp only
 have hN := kindTy_nn e.1
 have hlen : (e.2.2.1 ++ e.2.2.2).length = kdN e.1 := by rw [List.length_append, ok.inl, ok.outl]; rfl
 have hat : ∀ a, a ∈ e.2.2.1 ++ e.2.2.2 → 0 ≤ a ∧ a < (n : Int) := fun a ha => by
  exact (List.mem_append.1 ha).elim (ok.wi a) (ok.wo a)
 rw [nulL_map, nulL_map]
 simp only [List.mem_map, forall_exists_index, and_imp, forall_apply_eq_imp_iff₂]
 refine forall_congr' fun v => imp_congr_right fun _ => ?_
 rw [spr_dvd hat, hlen]
theorem imEqs_nul {p : Int} (hf : fieldB p = true) {g : Gr} (hk : ∀ e, e ∈ g.2.1 → genB e.1 ∧ EdOk g.1.toNat e) (x : Nat → Int) : NulL p g.1.toNat (imEqs p g) x ↔ NulL p g.1.toNat (dnEqs p g) x := by
 have h := fun e he => edEqs_nul hf (hk e he).1 (hk e he).2 x
 simp only [nulL_map] at h ⊢
 unfold imEqs dnEqs
 simp only [List.mem_flatMap, forall_exists_index, and_imp]
 exact ⟨fun hh v e he hv => (h e he).1 (fun v' hv' => hh v' e he hv') v hv, fun hh v e he hv => (h e he).2 (fun v' hv' => hh v' e he hv') v hv⟩
theorem edEqs_mat {p : Int} (hp : 0 < p) {n : Nat} {e : Eg} {v : List Int} (hv : v ∈ edEqs p n e) : v.length = n ∧ Res p v := by
 obtain ⟨u, _, rfl⟩ := List.mem_map.1 hv
 exact sprV_mat hp _ _ _
theorem imEqs_mat {p : Int} (hp : 0 < p) (g : Gr) : Mat p (imEqs p g).length g.1.toNat (imEqs p g) := by
 refine ⟨rfl, fun v hv => ?_⟩
 obtain ⟨e, _, h⟩ := List.mem_flatMap.1 hv
 exact edEqs_mat hp h
theorem dnEqs_mat' {p : Int} (hp : 0 < p) (g : Gr) : Mat p (dnEqs p g).length g.1.toNat (dnEqs p g) := by
 refine ⟨rfl, fun v hv => ?_⟩
 obtain ⟨e, _, h⟩ := List.mem_flatMap.1 hv
 exact dnRowsM_mat hp g.1.toNat e v h
theorem imEqs_perp {p : Int} (hf : fieldB p = true) {g : Gr} (hk : ∀ e, e ∈ g.2.1 → genB e.1 ∧ EdOk g.1.toNat e) : perpM p g.1.toNat (imEqs p g) = nullM p g.1.toNat (dnEqs p g) := by
 have hpb := fieldB_bounds hf
 have hi := redM_spec hf (imEqs_mat (by omega : 0 < p) g)
 have hd := redM_spec hf (dnEqs_mat' (by omega : 0 < p) g)
 have e : redM p g.1.toNat (imEqs p g) = redM p g.1.toNat (dnEqs p g) := RedL.unique (by omega) hi.1 hd.1 fun x => by
  rw [hi.2.1, hd.2.1]
  exact imEqs_nul hf hk x
 rw [← null_eq_perp hf (imEqs_mat (by omega) g)]
 unfold nullM
 rw [e]
def LbA (l : List Nd) (w : World) (e : Ending) (w' : World) : Prop :=
 ∃ (A0 A1 A2 : Option Addr) (c0 c1 c2 n0 n1 n2 : Nat) (b : Bool), e = .returned (.tuple #[.agg #[.slice A0 n0 c0, .slice A1 n1 c1, .slice A2 n2 c2], .bool b]) ∧ b = (treeM l).isSome ∧
   (∀ t, treeM l = some t → n0 = sz t ∧ n1 = sz t ∧ n2 = sz t ∧ RdC w' A0 (ints (frL [t])) ∧ RdC w' A1 (ints (inL [t])) ∧ RdC w' A2 (ints (ouL [t])) ∧ ∀ b, b ∈ fpA A0 ∨ b ∈ fpA A1 ∨ b ∈ fpA A2 → w.heap.size ≤ b) ∧ Below w.heap.size w w'
theorem LbA.no {l : List Nd} {w w' : World} {A0 A1 A2 : Option Addr} {c0 c1 c2 n0 n1 n2 : Nat} (hN : treeM l = none) (hb : Below w.heap.size w w') : LbA l w (.returned (.tuple #[.agg #[.slice A0 n0 c0, .slice A1 n1 c1, .slice A2 n2 c2], .bool false])) w' :=
 ⟨A0, A1, A2, c0, c1, c2, n0, n1, n2, false, rfl, by rw [hN]; rfl, fun t ht => (by rw [hN] at ht; cases ht), hb⟩
structure LbR (B : Nat) (w : World) (A : Option Addr) (m c : Nat) (l : List Nd) (k : Nat) (st : List Tr) (A0 A1 A2 : Option Addr) (c0 c1 c2 : Nat) (wr : World) : Prop where
 par : parse [] (l.take k) = some st
 th : Th wr (B + 1 + 1) A0 A1 A2 c0 c1 c2 k k k (frL st) (inL st) (ouL st)
 kb : wr.heap[B]? = some (.cells #[.slice A m c] tTerm)
 kr : wr.heap[B + 1]? = some (.cells #[.slice none 0 0, .slice none 0 0, .slice none 0 0] tInfo)
 bel : Below B w wr
section
variable {B : Nat} {w wr w1 : World} {A : Option Addr} {m c : Nat} {l : List Nd} {k : Nat} {st : List Tr} {A0 A1 A2 : Option Addr} {c0 c1 c2 : Nat}
theorem LbR.below (h : LbR B w A m c l k st A0 A1 A2 c0 c1 c2 wr) (hb : Below wr.heap.size wr w1) : LbR B w A m c l k st A0 A1 A2 c0 c1 c2 w1 :=
 ⟨h.par, h.th.below hb, t_box_below h.kb hb, t_box_below h.kr hb, below_trans h.bel hb (Nat.le_of_lt (t_box_lt h.kb))⟩
theorem LbR.step {k' : Nat} {w' : World} {st' : List Tr} {A0' A1' A2' : Option Addr} {c0' c1' c2' : Nat} {F I O : List Int} (h : LbR B w A m c l k st A0 A1 A2 c0 c1 c2 wr) (hp : parse [] (l.take k') = some st')
  (ht : Th w' (B + 1 + 1) A0' A1' A2' c0' c1' c2' k' k' k' F I O) (hF : F = frL st') (hI : I = inL st') (hO : O = ouL st') (hb : Below (B + 1 + 1) wr w') : LbR B w A m c l k' st' A0' A1' A2' c0' c1' c2' w' := by
 subst hF hI hO
 exact ⟨hp, ht, (hb.block _ (by omega)).trans h.kb, (hb.block _ (by omega)).trans h.kr, h.bel.trans (hb.mono (by omega))⟩
end
theorem RdC.keeps {w w' : World} {A : Option Addr} {xs : List Value} (h : RdC w A xs) {S : Nat → Prop} (hk : Keeps S w w') (hS : ∀ b, b ∈ fpA A → ¬ S b) : RdC w' A xs := fun j u hj => by
 obtain ⟨ad, hA, hc⟩ := h j u hj
 have hl := World.block_lt_of_cell? w _ hc
 rw [block_of_add] at hl
 exact ⟨ad, hA, (World.cell?_of_block (a := ad.add j) (by rw [block_of_add]; exact hk.block _ hl (hS _ (by simp [hA])))).trans hc⟩
abbrev tNdL : TypeId := 110
theorem NS.set {w : World} {A : Option Addr} {cap : Nat} {l : List Nd} (h : NS w A cap l) {ad : Addr} (hA : A = some ad) {j : Nat} (k v : Int) (s : ByteArray) (hj : j < l.length) :
  NS (((w.setCell (ad.add (j * 3)) (.int .i64 k)).setCell ⟨(ad.add (j * 3)).block, (ad.add (j * 3)).off + 1, none⟩ (.int .i64 v)).setCell ⟨(ad.add (j * 3)).block, (ad.add (j * 3)).off + 2, none⟩ (.string s)) A cap (l.set j (k, v, s)) ∧
  Keeps (· ∈ fpA A) w (((w.setCell (ad.add (j * 3)) (.int .i64 k)).setCell ⟨(ad.add (j * 3)).block, (ad.add (j * 3)).off + 1, none⟩ (.int .i64 v)).setCell ⟨(ad.add (j * 3)).block, (ad.add (j * 3)).off + 2, none⟩ (.string s)) := by
 have hl : (ncs l).length = l.length * 3 := ncs_length l
 have s1 := Sl.set h hA (j * 3) (.int .i64 k) (by omega)
 have s2 := Sl.set s1 hA (j * 3 + 1) (.int .i64 v) (by rw [List.length_set]; omega)
 have s3 := Sl.set s2 hA (j * 3 + 2) (.string s) (by rw [List.length_set, List.length_set]; omega)
 have e := ncs_set (l := l) (j := j) (k, v, s) hj
 simp only at e
 rw [e, add_next ad (j * 3) 1 (by omega), add_next ad (j * 3) 2 (by omega)] at s3
 refine ⟨by unfold NS; rw [List.length_set]; exact s3, ?_⟩
 have hb : (ad.add (j * 3)).block ∈ fpA A := by rw [block_of_add, hA]; simp
 exact (((Keeps.refl _ w).setCell (p := ad.add (j * 3)) hb _).setCell (p := ⟨(ad.add (j * 3)).block, (ad.add (j * 3)).off + 1, none⟩) hb _).setCell (p := ⟨(ad.add (j * 3)).block, (ad.add (j * 3)).off + 2, none⟩) hb _
theorem NS.mid {w : World} {ad : Addr} {cap : Nat} {l : List Nd} (h : NS w (some ad) cap l) {j : Nat} (k v : Int) (hj : j < l.length) :
  (∃ x, (w.setCell (ad.add (j * 3)) (.int .i64 k)).cell? ⟨(ad.add (j * 3)).block, (ad.add (j * 3)).off + 1, none⟩ = some x) ∧ (w.setCell (ad.add (j * 3)) (.int .i64 k)).frozen? ⟨(ad.add (j * 3)).block, (ad.add (j * 3)).off + 1, none⟩ = false ∧
  (∃ x, ((w.setCell (ad.add (j * 3)) (.int .i64 k)).setCell ⟨(ad.add (j * 3)).block, (ad.add (j * 3)).off + 1, none⟩ (.int .i64 v)).cell? ⟨(ad.add (j * 3)).block, (ad.add (j * 3)).off + 2, none⟩ = some x) ∧
  ((w.setCell (ad.add (j * 3)) (.int .i64 k)).setCell ⟨(ad.add (j * 3)).block, (ad.add (j * 3)).off + 1, none⟩ (.int .i64 v)).frozen? ⟨(ad.add (j * 3)).block, (ad.add (j * 3)).off + 2, none⟩ = false := by
 have hl : (ncs l).length = l.length * 3 := ncs_length l
 have s1 := Sl.set h rfl (j * 3) (.int .i64 k) (by omega)
 have s2 := Sl.set s1 rfl (j * 3 + 1) (.int .i64 v) (by rw [List.length_set]; omega)
 rw [← add_next ad (j * 3) 1 (by omega), ← add_next ad (j * 3) 2 (by omega)]
 obtain ⟨a1, h1, _, c1, f1⟩ := Sl.cell s1 (j := j * 3 + 1) (u := _) (List.getElem?_eq_getElem (by rw [List.length_set]; omega))
 obtain ⟨a2, h2, _, c2, f2⟩ := Sl.cell s2 (j := j * 3 + 2) (u := _) (List.getElem?_eq_getElem (by rw [List.length_set, List.length_set]; omega))
 obtain rfl := Option.some.inj h1
 obtain rfl := Option.some.inj h2
 exact ⟨⟨_, c1⟩, f1 _, ⟨_, c2⟩, f2 _⟩
theorem NS.free {w : World} {A : Option Addr} {cap : Nat} {l : List Nd} (h : NS w A cap l) {j : Nat} (hj : j < l.length) : ∃ ad, A = some ad ∧ w.frozen? (ad.add (j * 3)) = false ∧ w.frozen? ⟨(ad.add (j * 3)).block, (ad.add (j * 3)).off + 1, none⟩ = false ∧ w.frozen? ⟨(ad.add (j * 3)).block, (ad.add (j * 3)).off + 2, none⟩ = false := by
 obtain ⟨ad, hA, _, hf⟩ := h.at_ hj
 refine ⟨ad, hA, hf _, ?_, ?_⟩
 · rw [← add_next ad (j * 3) 1 (by omega)]; exact hf _
 · rw [← add_next ad (j * 3) 2 (by omega)]; exact hf _
theorem bx1 {w : World} {B : Nat} {x : Value} {t : TypeId} (h : w.heap[B]? = some (.cells #[x] t)) : w.cell? ⟨B, 0, none⟩ = some x ∧ w.frozen? ⟨B, 0, none⟩ = false := by simp [World.cell?, World.frozen?, h]
structure BoxS where
 i : Nat
 d : Tmp
 obj : Obj
def putB (a : Act) (bs : List (BoxS × Nat)) : Act := bs.foldl (fun a x => a.put (some x.1.d) (.pointer (some ⟨x.2, 0, none⟩))) a
theorem putB_put (bs : List (BoxS × Nat)) (d : Tmp) (v : Value) : ∀ (a : Act), (∀ x ∈ bs, x.1.d ≠ d) → (putB a bs).put (some d) v = putB (a.put (some d) v) bs := by
 induction bs with
 | nil => intro a _; rfl
 | cons x r ih =>
   intro a h
   show (putB (a.put _ _) r).put _ _ = putB ((a.put _ _).put _ _) r
   rw [ih _ (fun y hy => h y (List.mem_cons_of_mem _ hy)), Act.put_comm a _ _ (fun e he => by obtain rfl := Option.some.inj he; intro h2; exact h x (by simp) (Option.some.inj h2).symm)]
theorem putB_perm {bs cs : List (BoxS × Nat)} (hp : bs.Perm cs) (hn : (bs.map (·.1.d)).Nodup) (a : Act) : putB a bs = putB a cs := by
 unfold putB
 refine List.Perm.foldl_eq' hp (fun x hx y hy z => ?_) a
 by_cases e : x = y
 · subst e; rfl
 · refine Act.put_comm z _ _ (fun d hd h2 => ?_)
   have hd' : x.1.d = y.1.d := by rw [Option.some.inj hd, Option.some.inj h2]
   clear hp
   induction bs with
   | nil => cases hx
   | cons b r ih =>
     simp only [List.map_cons, List.nodup_cons, List.mem_map, not_exists, not_and] at hn
     rcases List.mem_cons.1 hx with h1 | h1 <;> rcases List.mem_cons.1 hy with h3 | h3
     · exact e (h1.trans h3.symm)
     · subst h1; exact hn.1 y h3 hd'.symm
     · subst h3; exact hn.1 x h1 hd'
     · exact ih hn.2 h1 h3
theorem perm_lift : ∀ (zs : List BoxS) (bs : List (BoxS × Nat)), (bs.map (·.1)).Perm zs → ∃ cs, bs.Perm cs ∧ cs.map (·.1) = zs
 | [], bs, h => by
   have : bs = [] := by simpa using h.eq_nil
   exact ⟨[], by rw [this], rfl⟩
 | z :: zs, bs, h => by
   have hz : z ∈ bs.map (·.1) := h.symm.subset (by simp)
   obtain ⟨x, hx, rfl⟩ := List.mem_map.1 hz
   obtain ⟨s, t, rfl⟩ := List.append_of_mem hx
   have h2 : ((s ++ t).map (·.1)).Perm zs := by
    have : ((s ++ x :: t).map (·.1)).Perm (x.1 :: (s ++ t).map (·.1)) := by simp only [List.map_append, List.map_cons]; exact List.perm_middle
    exact (this.symm.trans h).cons_inv
   obtain ⟨cs, hc, he⟩ := perm_lift zs (s ++ t) h2
   exact ⟨x :: cs, List.perm_middle.trans (hc.cons x), by simp [he]⟩
theorem erase_split : ∀ (ps : List BoxS) (j : Nat), j ∈ ps.map (·.i) → ∃ s z t, ps = s ++ z :: t ∧ z.i = j ∧ (ps.map (·.i)).erase j = (s ++ t).map (·.i)
 | [], _, h => by cases h
 | p :: ps, j, h => by
   by_cases e : p.i = j
   · exact ⟨[], p, ps, rfl, e, by rw [List.map_cons, e, List.erase_cons_head]; rfl⟩
   · have h' : j ∈ ps.map (·.i) := by
      rw [List.map_cons] at h
      rcases List.mem_cons.1 h with h | h
      · exact absurd h.symm e
      · exact h
     obtain ⟨s, z, t, h1, h2, h3⟩ := erase_split ps j h'
     exact ⟨p :: s, z, t, by rw [h1]; rfl, h2, by rw [List.map_cons, List.erase_cons_tail (by simpa using e), h3]; rfl⟩
theorem boxB {w w' : World} {B : Nat} {o : Obj} (h : w.heap[B]? = some o) (hb : Below w.heap.size w w') : w'.heap[B]? = some o := (hb.block B (Array.getElem?_eq_some_iff.1 h).1).trans h
section
variable {P : Program} {l : List Oper} {Q : Exit → Act → World → Prop} {md : Region.Mode} {S : World → Prop}
def rdyB (md : Region.Mode) (ops : Array Oper) (fin : Array Bool) : Nat → Array Bool → List Nat → List Nat → Bool
 | 0, L, cs, ps => cs.isEmpty && ps.isEmpty && L.toList == fin.toList
 | n + 1, L, cs, ps =>
   !(Region.ready md ops L).isEmpty && (Region.ready md ops L).all fun j =>
     (match cs with | c :: cs' => c == j && rdyB md ops fin n (L.setIfInBounds j true) cs' ps | [] => false) || (ps.contains j && rdyB md ops fin n (L.setIfInBounds j true) cs (ps.erase j))
def callsB (P : Program) (ops : Array Oper) (zs : List BoxS) (w : World) (R : List Value → World → Prop) (K : Act → List Value → Prop) : List (Nat × Tmp) → Act → List Value → Prop
 | [], A, vs => K A vs
 | c :: cs, A, vs => ∃ o f args, ops[c.1]? = some o ∧ o.dst = some c.2 ∧ (zs.all fun z => !(o.looksAt ops).contains z.d && z.d != c.2) = true ∧ Region.wanted o (yielded ops A.tmps) = true ∧
     (∀ w', (execOp A.eval o).run P w' = .ok (.enter f args) w') ∧
     (∀ w', Below w.heap.size w w' → R vs w' → Calls P f args w' fun e w'' => ∃ v, e = .returned v ∧ Below w'.heap.size w' w'' ∧ R (vs ++ [v]) w'') ∧ ∀ v, callsB P ops zs w R K cs (A.put (some c.2) v) (vs ++ [v])
theorem callsB_cons {ops : Array Oper} {zs : List BoxS} {w : World} {R : List Value → World → Prop} {K : Act → List Value → Prop} {c : Nat × Tmp} {cs : List (Nat × Tmp)} {A : Act} {vs : List Value} {o : Oper} {f : FuncId} {args : Array Value} (ho : ops[c.1]? = some o) (hd : o.dst = some c.2) (hap : (zs.all fun z => !(o.looksAt ops).contains z.d && z.d != c.2) = true) (hw : Region.wanted o (yielded ops A.tmps) = true)
  (hrun : ∀ w', (execOp A.eval o).run P w' = .ok (.enter f args) w') (hcall : ∀ w', Below w.heap.size w w' → R vs w' → Calls P f args w' fun e w'' => ∃ v, e = .returned v ∧ Below w'.heap.size w' w'' ∧ R (vs ++ [v]) w'') (h : ∀ v, callsB P ops zs w R K cs (A.put (some c.2) v) (vs ++ [v])) : callsB P ops zs w R K (c :: cs) A vs :=
 ⟨o, f, args, ho, hd, hap, hw, hrun, hcall, h⟩
theorem wanted_putB {o : Oper} {ops : Array Oper} (bs : List (BoxS × Nat)) : ∀ (a : Act), (∀ x ∈ bs, x.1.d ∉ o.looksAt ops) → Region.wanted o (yielded ops (putB a bs).tmps) = Region.wanted o (yielded ops a.tmps) := by
 induction bs with
 | nil => intro a _; rfl
 | cons x r ih =>
   intro a h
   show Region.wanted o (yielded ops (putB (a.put _ _) r).tmps) = _
   rw [ih _ (fun y hy => h y (List.mem_cons_of_mem _ hy)), wanted_put o a _ _ (fun d hd => by obtain rfl := Option.some.inj hd; exact h x (by simp))]
theorem execOp_putB {o : Oper} {ops : Array Oper} (hs : ∀ cs b, o.op ≠ .select cs b) (bs : List (BoxS × Nat)) : ∀ (a : Act), (∀ x ∈ bs, x.1.d ∉ o.looksAt ops) → execOp (putB a bs).eval o = execOp a.eval o := by
 induction bs with
 | nil => intro a _; rfl
 | cons x r ih =>
   intro a h
   show execOp (putB (a.put _ _) r).eval o = _
   rw [ih _ (fun y hy => h y (List.mem_cons_of_mem _ hy)), execOp_put (ops := ops) o hs a _ _ (fun d hd => by obtain rfl := Option.some.inj hd; exact h x (by simp))]
theorem callsBoxes {zs : List BoxS} {w : World} {R : List Value → World → Prop} {fuel : Nat} {fin : Array Bool} (hsel : Region.noSelect l.toArray = true) (hnd : (zs.map (·.d)).Nodup)
  (hstab : ∀ vs w' w'', R vs w' → Below w'.heap.size w' w'' → R vs w'') (hS : ∀ w', Below w.heap.size w w' → S w')
  (hz : ∀ z ∈ zs, ∃ o, l.toArray[z.i]? = some o ∧ o.dst = some z.d ∧ o.guard = none ∧ ∀ (a : Act) w, (execOp a.eval o).run P w = .ok (.value (.pointer (some ⟨w.heap.size, 0, none⟩))) (w.alloc z.obj)) :
  ∀ (n : Nat) (listed : Array Bool) (cs : List (Nat × Tmp)) (ps : List BoxS) (A : Act) (vs : List Value) (bs : List (BoxS × Nat)) (w' : World),
    rdyB md l.toArray fin n listed (cs.map (·.1)) (ps.map (·.i)) = true → (bs.map (·.1) ++ ps).Perm zs → Below w.heap.size w w' → R vs w' →
    (∀ x ∈ bs, w'.heap[x.2]? = some x.1.obj ∧ w.heap.size ≤ x.2) → (bs.map (·.2)).Nodup →
    callsB P l.toArray zs w R (fun A vs => ∀ (bs : List (BoxS × Nat)) w', bs.map (·.1) = zs → Below w.heap.size w w' → R vs w' → (∀ x ∈ bs, w'.heap[x.2]? = some x.1.obj ∧ w.heap.size ≤ x.2) → (bs.map (·.2)).Nodup → wpAnyH P md l.toArray Q S fuel fin (putB A bs) w') cs A vs →
    wpAnyH P md l.toArray Q S (fuel + n) listed (putB A bs) w' := by
 intro n
 induction n with
 | zero =>
   intro listed cs ps A vs bs w' hr hp hb hR hbx hnb hc
   simp only [rdyB, Bool.and_eq_true, List.isEmpty_iff, List.map_eq_nil_iff, beq_iff_eq] at hr
   obtain ⟨⟨rfl, rfl⟩, hl⟩ := hr
   have hl' : listed = fin := by cases listed; cases fin; simp at hl; rw [hl]
   rw [List.append_nil] at hp
   obtain ⟨cs', h1, h2⟩ := perm_lift zs bs hp
   have hnd' : (bs.map (·.1.d)).Nodup := by
    have : (bs.map (·.1.d)).Perm (zs.map (·.d)) := by have h := hp.map (·.d); rw [List.map_map] at h; exact h
    exact this.symm.nodup hnd
   rw [putB_perm h1 hnd' A, hl']
   exact hc cs' w' h2 hb hR (fun x hx => hbx x (h1.symm.subset hx)) ((h1.map (·.2)).nodup hnb)
 | succ n ih =>
   intro listed cs ps A vs bs w' hr hp hb hR hbx hnb hc
   simp only [rdyB, Bool.and_eq_true, Bool.not_eq_true', List.all_eq_true, Bool.or_eq_true] at hr
   refine wpAnyH_all rfl (fun h => by rw [h] at hr; simp at hr) fun j hj => ?_
   have hbz : ∀ x ∈ bs, x.1 ∈ zs := fun x hx => hp.subset (List.mem_append_left _ (List.mem_map.2 ⟨x, hx, rfl⟩))
   rcases hr.2 j hj with h | h
   · cases cs with
     | nil => cases h
     | cons c cs =>
       simp only [List.map_cons, Bool.and_eq_true, beq_iff_eq] at h
       obtain ⟨hcj, hr'⟩ := h
       obtain ⟨o, f, args, ho, hd, hap, hw, hrun, hcall, hrest⟩ := hc
       rw [hcj] at ho
       simp only [List.all_eq_true, Bool.and_eq_true, Bool.not_eq_true', bne_iff_ne] at hap
       have h1 : ∀ x ∈ bs, x.1.d ∉ o.looksAt l.toArray := fun x hx => by have := (hap _ (hbz x hx)).1; simpa using this
       have h2 : ∀ x ∈ bs, x.1.d ≠ c.2 := fun x hx => (hap _ (hbz x hx)).2
       unfold wpOp
       simp only [ho, wanted_putB bs A h1, hw, if_true]
       refine .inl ?_
       unfold Oper.wp
       rw [execOp_putB (fun cs b => Region.noSelect_spec hsel j o cs b ho) bs A h1, hrun]
       refine (hcall w' hb hR).mono fun e w'' ⟨v, he, hb2, hR2⟩ => ?_
       subst he
       rw [hd]
       have hb3 := below_trans hb hb2 hb.size
       refine ⟨hS _ hb3, ?_⟩
       rw [putB_put bs c.2 v A h2]
       exact ih _ cs ps _ _ bs w'' hr' hp hb3 hR2 (fun x hx => ⟨boxB (hbx x hx).1 hb2, (hbx x hx).2⟩) hnb (hrest v)
   · simp only [List.contains_eq_mem, decide_eq_true_eq] at h
     obtain ⟨hm, hr'⟩ := h
     obtain ⟨s, z, t, rfl, hzi, hse⟩ := erase_split ps j hm
     rw [hse] at hr'
     obtain ⟨o, ho, hd, hg, hrun⟩ := hz z (hp.subset (List.mem_append_right _ (by simp)))
     rw [hzi] at ho
     have hw : ∀ y, Region.wanted o y = true := fun y => by unfold Region.wanted; rw [hg]
     unfold wpOp
     simp only [ho, hw, if_true]
     refine .inl ?_
     unfold Oper.wp
     rw [hrun]
     have hal := (Below.refl w'.heap.size w').alloc (Nat.le_refl _) z.obj
     have hb3 := below_trans hb hal hb.size
     refine ⟨hS _ hb3, ?_⟩
     rw [hd, show (putB A bs).put (some z.d) (.pointer (some ⟨w'.heap.size, 0, none⟩)) = putB A (bs ++ [(z, w'.heap.size)]) by simp [putB]]
     have hlt : ∀ x ∈ bs, x.2 < w'.heap.size := fun x hx => (Array.getElem?_eq_some_iff.1 (hbx x hx).1).1
     refine ih _ cs (s ++ t) A vs _ _ hr' ?_ hb3 (hstab _ _ _ hR hal) (fun x hx => ?_) ?_ hc
     · refine List.Perm.trans ?_ hp
       simp only [List.map_append, List.map_cons, List.map_nil, List.append_assoc, List.cons_append, List.nil_append]
       exact (List.perm_middle.symm).append_left _
     · rcases List.mem_append.1 hx with hx | hx
       · exact ⟨boxB (hbx x hx).1 hal, (hbx x hx).2⟩
       · obtain rfl := List.mem_singleton.1 hx
         exact ⟨heap_alloc_new w' z.obj, hb.size⟩
     · simp only [List.map_append, List.map_cons, List.map_nil]
       rw [List.nodup_append]
       refine ⟨hnb, by simp, fun x hx y hy => ?_⟩
       obtain ⟨q, hq, rfl⟩ := List.mem_map.1 hx
       have := hlt q hq
       have := List.mem_singleton.1 hy
       omega
end
theorem isDelay_any (k : Int) (w : World) : Calls Tryz.prog 65 #[.int .i64 k] w fun e w' => e = .returned (.bool (!noDl k)) ∧ w' = w := by
 unfold noDl
 by_cases h8 : k = 8
 · subst h8
   go_enter Tryz.func65, Tryz.ntmps65
   go_wp2_with (fail)
   go_ret
   exact ⟨rfl, rfl⟩
 · have b8 : (k == 8) = false := by rw [beq_eq_false_iff_ne]; exact h8
   by_cases h14 : k = 14
   · subst h14
     go_enter Tryz.func65, Tryz.ntmps65
     go_wp2_with (fail)
     go_ret
     exact ⟨rfl, rfl⟩
   · have b14 : (k == 14) = false := by rw [beq_eq_false_iff_ne]; exact h14
     go_enter Tryz.func65, Tryz.ntmps65
     go_wp2_with (fail)
     go_ret
     exact ⟨by simp [h8, h14], rfl⟩
abbrev tBool : TypeId := 4
abbrev tBools : TypeId := 160
theorem info_bool : (Tryz.prog.info? tBool).map (fun i => (i.zero, i.size, i.bytes)) = some (some (.bool false), 1, 1) := by kernel_rfl
def bls (l : List Bool) : List Value := l.map Value.bool
theorem bls_get {l : List Bool} {j : Nat} {b : Bool} (h : l[j]? = some b) : (bls l)[j]? = some (.bool b) := by simp [bls, h]
theorem bls_set (l : List Bool) (j : Nat) (b : Bool) : (bls l).set j (.bool b) = bls (l.set j b) := by simp [bls, List.map_set]
theorem madeBls (m : Nat) : (madeCells (Value.bool false).cells (m * 1)).toList.take (m * 1) = bls (List.replicate m false) := by
 rw [Nat.mul_one]; simp [Value.cells, toList_madeCells_one, bls]
abbrev tWiresG : TypeId := 147
theorem run_eq_intG (d : Nat) (x y : Int) (W : World) : (Op.equalIn (d + 1) tInt (.int .i64 x) (.int .i64 y)).run Tryz.prog W = .ok (x == y) W := by
 unfold Op.equalIn
 simp [run_underlying Tryz.underlying3]
theorem part_g0 (a b : Int) (W : World) : (part tInt #[.int .i64 a, .int .i64 b] 0).run Tryz.prog W = .ok (.int .i64 a) W := by kernel_rfl
theorem part_g1 (a b : Int) (W : World) : (part tInt #[.int .i64 a, .int .i64 b] 1).run Tryz.prog W = .ok (.int .i64 b) W := by kernel_rfl
theorem wires_eq (a b c d : Int) (W : World) : (binOp .eql tWiresG (.agg #[.int .i64 a, .int .i64 b]) (.agg #[.int .i64 c, .int .i64 d])).run Tryz.prog W = .ok (.bool (decide (a = c ∧ b = d))) W := by
 have hk : ∀ m, (Op.equalIn (m + 1 + 1) tWiresG (.agg #[.int .i64 a, .int .i64 b]) (.agg #[.int .i64 c, .int .i64 d])).run Tryz.prog W = .ok (decide (a = c ∧ b = d)) W := by
  intro m
  conv => lhs; unfold Op.equalIn
  simp only [Sem.run_bind, run_underlying Tryz.underlying147, Result.andThen_ok]
  simp [part_g0, part_g1, run_eq_intG]
  by_cases h1 : a = c <;> by_cases h2 : b = d <;> simp [h1, h2]
 have e0 : Op.maxDepth = (Op.maxDepth - 2) + 1 + 1 := rfl
 simp only [binOp, Op.equal, Sem.run_bind]
 rw [e0, hk]
 simp
def egH (k v : Int) (p q : Nat) : Bool := t_inB k 3 14 && (gvB k v && decide (((p : Int), (q : Int)) = kindTy k))
set_option maxRecDepth 100000 in
set_option maxHeartbeats 4000000 in
theorem isEdge_any (k v : Int) (B C : Option Addr) (b c p q : Nat) (w : World) :
  Calls Tryz.prog 150 #[.agg #[.int .i64 k, .int .i64 v, .slice B p b, .slice C q c]] w fun e w' => e = .returned (.bool (egH k v p q)) ∧ Below w.heap.size w w' := by
 obtain ⟨D, hD⟩ : ∃ D, D = egH k v p q := ⟨_, rfl⟩
 have hDD := hD
 unfold egH at hDD
 rw [← hD]
 have hG := fun (W : World) => isGenerator_any k W
 have hV := fun (W : World) => isGeneratorValue_any k v W
 obtain ⟨W, hW, bW, k0⟩ := (⟨_, rfl, t_below_alloc _ _, heap_alloc_new _ _⟩ : ∃ W, W = w.alloc (.cells #[.int .i64 k, .int .i64 v, .slice B p b, .slice C q c] tEd) ∧ Below w.heap.size w W ∧ W.heap[w.heap.size]? = some (.cells #[.int .i64 k, .int .i64 v, .slice B p b, .slice C q c] tEd))
 obtain ⟨⟨c0, c1, c2, c3⟩, f0, f1, f2, f3⟩ := t_box4 k0
 by_cases h0 : t_inB k 3 14 = true
 case neg =>
  have h0' : t_inB k 3 14 = false := by simpa using h0
  obtain rfl : D = false := by rw [hDD, h0']; rfl
  simp only [h0'] at hG
  clear h0 h0' hDD; have hG_h := lH hG; have hV_h := lH hV; have k0_h := lH k0; have bW_h := lH bW; have hD_h := lH hD; clear hG hV k0 bW hD
  go_enter Tryz.func150, Tryz.ntmps150
  go_upto_region 1 with (fail)
  rw [← hW]
  clear hW
  go_wp2_with (fail)
  refine (hG_h.out _).mono ?_
  rintro e w1 ⟨rfl, rfl⟩
  go_wp2_with (fail)
  go_ret
  exact ⟨rfl, bW_h.out⟩
 have hkb : 3 ≤ k ∧ k ≤ 14 := of_decide_eq_true h0
 simp only [h0] at hG
 rw [h0, Bool.true_and] at hDD
 by_cases h1 : gvB k v = true
 case neg =>
  have h1' : gvB k v = false := by simpa using h1
  obtain rfl : D = false := by rw [hDD, h1']; rfl
  simp only [h1'] at hV
  clear h0 h1 h1' hDD; have hG_h := lH hG; have hV_h := lH hV; have k0_h := lH k0; have bW_h := lH bW; have hD_h := lH hD; clear hG hV k0 bW hD
  go_enter Tryz.func150, Tryz.ntmps150
  go_upto_region 1 with (fail)
  rw [← hW]
  clear hW
  go_wp2_with (fail)
  refine (hG_h.out _).mono ?_
  rintro e w1 ⟨rfl, rfl⟩
  go_wp2_with (fail)
  refine (hV_h.out _).mono ?_
  rintro e w1 ⟨rfl, rfl⟩
  go_wp2_with (fail)
  go_ret
  exact ⟨rfl, bW_h.out⟩
 simp only [h1] at hV
 rw [h1, Bool.true_and] at hDD
 have hgw := fun (W : World) => generatorWires_any k W hkb.1 hkb.2
 obtain ⟨i1, hi1⟩ : ∃ i, i = (kindTy k).1 := ⟨_, rfl⟩
 obtain ⟨i2, hi2⟩ : ∃ i, i = (kindTy k).2 := ⟨_, rfl⟩
 have hDw : D = decide (i1 = (p : Int) ∧ i2 = (q : Int)) := by
  rw [hDD, Bool.eq_iff_iff, decide_eq_true_eq, decide_eq_true_eq, hi1, hi2]
  exact ⟨fun h => ⟨(congrArg Prod.fst h).symm, (congrArg Prod.snd h).symm⟩, fun h => Prod.ext h.1.symm h.2.symm⟩
 simp only [← hi1, ← hi2] at hgw
 have hwe := fun (W : World) => wires_eq i1 i2 (p : Int) (q : Int) W
 simp only [← hDw] at hwe
 clear h0 h1 hDD hkb hi1 hi2; have hG_h := lH hG; have hV_h := lH hV; have hgw_h := lH hgw; have k0_h := lH k0; have bW_h := lH bW; have hD_h := lH hD; have hDw_h := lH hDw; clear hG hV hgw k0 bW hD hDw
 go_enter Tryz.func150, Tryz.ntmps150
 go_upto_region 1 with (fail)
 rw [← hW]
 clear hW
 go_wp2_with (fail)
 refine (hG_h.out _).mono ?_
 rintro e w1 ⟨rfl, rfl⟩
 go_wp2_with (fail)
 refine (hV_h.out _).mono ?_
 rintro e w1 ⟨rfl, rfl⟩
 go_wp2_with (fail)
 obtain ⟨W, rfl⟩ : ∃ x, x = w1 := ⟨_, rfl⟩
 clear c0 c1 c2 c3 f0 f1 f2 f3
 refine beginB (by kernel_rfl) (fun W1 hW1 => ?_)
 have hbw : Below W.heap.size W W1 := by rw [hW1]; exact below_drew (Below.refl _ _)
 clear hW1
 have k1 := t_box_below k0_h.out hbw
 have k1_h := lH k1; clear k1
 refine tkH 0 ?_ rfl (Below.refl _ _) (fun W' hW' => ?_) ?_; rotate_left; · (obtain ⟨⟨a0, a1, a2, a3⟩, b0, b1, b2, b3⟩ := t_box4 (t_box_below k1_h.out hW'); clear hW'; go_simp; first | done | with_reducible rfl)
 simp only [Act.put, nS]
 refine tkH 1 ?_ rfl (Below.refl _ _) (fun W' hW' => ?_) ?_; rotate_left; · (obtain ⟨⟨a0, a1, a2, a3⟩, b0, b1, b2, b3⟩ := t_box4 (t_box_below k1_h.out hW'); clear hW'; go_simp; first | done | with_reducible rfl)
 simp only [Act.put, nS]
 refine tkH 3 ?_ rfl (Below.refl _ _) (fun W' hW' => ?_) ?_; rotate_left; · (obtain ⟨⟨a0, a1, a2, a3⟩, b0, b1, b2, b3⟩ := t_box4 (t_box_below k1_h.out hW'); clear hW'; go_simp; first | done | with_reducible rfl)
 simp only [Act.put, nS]
 refine tkH 4 ?_ rfl (Below.refl _ _) (fun W' hW' => ?_) ?_; rotate_left; · (obtain ⟨⟨a0, a1, a2, a3⟩, b0, b1, b2, b3⟩ := t_box4 (t_box_below k1_h.out hW'); clear hW'; go_simp; first | done | with_reducible rfl)
 simp only [Act.put, nS]
 refine tkH 5 ?_ rfl (Below.refl _ _) (fun W' hW' => ?_) ?_; rotate_left; · (obtain ⟨⟨a0, a1, a2, a3⟩, b0, b1, b2, b3⟩ := t_box4 (t_box_below k1_h.out hW'); clear hW'; go_simp; first | done | with_reducible rfl)
 simp only [Act.put, nS]
 refine tkH 6 ?_ rfl (Below.refl _ _) (fun W' hW' => ?_) ?_; rotate_left; · (obtain ⟨⟨a0, a1, a2, a3⟩, b0, b1, b2, b3⟩ := t_box4 (t_box_below k1_h.out hW'); clear hW'; go_simp; first | done | with_reducible rfl)
 simp only [Act.put, nS]
 refine tkH 7 ?_ rfl (Below.refl _ _) (fun W' hW' => ?_) ?_; rotate_left; · (obtain ⟨⟨a0, a1, a2, a3⟩, b0, b1, b2, b3⟩ := t_box4 (t_box_below k1_h.out hW'); clear hW'; go_simp; first | done | with_reducible rfl)
 simp only [Act.put, nS]
 refine tkH 8 ?_ rfl (Below.refl _ _) (fun W' hW' => ?_) ?_; rotate_left; · (obtain ⟨⟨a0, a1, a2, a3⟩, b0, b1, b2, b3⟩ := t_box4 (t_box_below k1_h.out hW'); clear hW'; go_simp; first | done | with_reducible rfl)
 simp only [Act.put, nS]
 refine tkH 9 ?_ rfl (Below.refl _ _) (fun W' hW' => ?_) ?_; rotate_left; · (obtain ⟨⟨a0, a1, a2, a3⟩, b0, b1, b2, b3⟩ := t_box4 (t_box_below k1_h.out hW'); clear hW'; go_simp; first | done | with_reducible rfl)
 simp only [Act.put, nS]
 refine' callH 2 (f := _) (args := _) rfl (by kernel_rfl) (by rfl) ?_ ?_; rotate_left 2; · (go_simp; first | done | with_reducible rfl | (constructor <;> with_reducible rfl))
 refine (hgw_h.out _).mono ?_
 rintro e w2 ⟨rfl, hb2⟩
 refine ⟨_, rfl, hb2, ?_⟩
 simp only [Act.put, nS]
 refine tkH 10 ?_ rfl hb2 (fun W' hW' => ?_) ?_; rotate_left; · (have hwe' := hwe W'; clear hW'; go_simp; first | done | with_reducible rfl)
 simp only [Act.put, nS]
 refine tkH 11 ?_ rfl hb2 (fun W' hW' => ?_) ?_; rotate_left; · (have hwe' := hwe W'; clear hW'; go_simp; first | done | with_reducible rfl)
 simp only [Act.put, nS]
 refine doneH (by kernel_rfl) ?_
 have hB2 := below_trans (below_trans bW_h.out hbw bW_h.out.size) hb2 (Nat.le_trans bW_h.out.size hbw.size)
 have hB2_h := lH hB2; clear hB2
 go_wp2_with (fail)
 go_ret
 exact ⟨rfl, hB2_h.out⟩
set_option maxRecDepth 100000 in
set_option maxHeartbeats 4000000 in
theorem lists_any {v : Value} {g : Gr} (wE : World) (h : RdGr wE v g) (ok : OkG g) (F : FuncId) (cap : Array Value) (hE : ∀ (args : Array Value) (w : World), (callFunc F args).run Tryz.prog w = .ok (.enter F args) w)
  (I : List Int → World → Prop) (S : List Nat) (hS : ∀ b, b ∈ S → wE.heap.size ≤ b) (hal : ∀ l W W', I l W → Below W.heap.size W W' → I l W')
  (hF : ∀ l B c (m : List Int) W, I l W → (∀ W', Keeps (· ∈ S) W W' → RdI W' B m) → (∀ x, x ∈ m → x ∈ t_allW g) → m.length ≤ 1048576 → Calls Tryz.prog F (#[.slice B m.length c] ++ cap) W fun e w' => e = .returned (.tuple #[]) ∧ I (l ++ m) w' ∧ Keeps (· ∈ S) W w')
  (w : World) (hw : I [] w) (hbw : Below wE.heap.size wE w) (hSw : ∀ b, b ∈ S → b < w.heap.size) :
  Calls Tryz.prog 151 #[v, .func (.func F) #[] cap] w fun e w' => e = .returned (.tuple #[]) ∧ I (t_allW g) w' ∧ Keeps (· ∈ S) w w' := by
 obtain ⟨A, c, hs, ⟨B, b, s⟩, ⟨C, d, t⟩, rfl, e1, e2, e3, hEd, hRa, hRb⟩ := h
 obtain ⟨z, es, s0, t0⟩ := g
 have a1 : es = hs.map egOf := e1
 have a2 : s = s0 := e2
 have a3 : t = t0 := e3
 subst a2 a3
 have hlen1 : es.length ≤ 1048576 := ok.1.1
 have hlen2 : s.length ≤ 1048576 := ok.1.2.1
 have hlen3 : t.length ≤ 1048576 := ok.1.2.2
 have hlE : ∀ x, x ∈ es → x.2.2.1.length ≤ 1048576 ∧ x.2.2.2.length ≤ 1048576 := ok.2.1
 have hall : t_allW (z, es, s, t) = s ++ (t ++ edW es) := rfl
 rw [hall] at hF ⊢
 have hRa0 : RdI wE B s := hRa
 have hRb0 : RdI wE C t := hRb
 obtain ⟨m, hm⟩ : ∃ m, m = hs.length := ⟨_, rfl⟩
 obtain ⟨p, hp⟩ : ∃ p, p = s.length := ⟨_, rfl⟩
 obtain ⟨r, hr⟩ : ∃ r, r = t.length := ⟨_, rfl⟩
 have hmes : es.length = m := by rw [a1, List.length_map, hm]
 show Calls Tryz.prog _ #[.agg #[.int .i64 z, .slice A hs.length c, .slice B s.length b, .slice C t.length d], .func (.func F) #[] cap] w _
 rw [← hm, ← hp, ← hr]
 obtain ⟨W, hW, bW, k0⟩ := (⟨_, rfl, t_below_alloc _ _, heap_alloc_new _ _⟩ : ∃ W, W = w.alloc (.cells #[.int .i64 z, .slice A m c, .slice B p b, .slice C r d] tGr) ∧ Below w.heap.size w W ∧ W.heap[w.heap.size]? = some (.cells #[.int .i64 z, .slice A m c, .slice B p b, .slice C r d] tGr))
 have hbW := below_trans hbw bW hbw.size
 have hI0 := hal _ _ _ hw bW
 have hC1 := hF [] B b s W hI0 (fun W' hk => hRa0.below (below_keeps hbW hk hbW.size hS)) (fun x hx => by simp [hx]) hlen2
 rw [← hp, List.nil_append] at hC1
 obtain ⟨⟨c0, c1, c2, c3⟩, f0, f1, f2, f3⟩ := t_box4 k0
 have hmb : (m : Int) ≤ 1048576 := by omega
 have hE1 := hE (#[.slice B p b] ++ cap) W
 have hnS : ¬ w.heap.size ∈ S := fun hh => by have := hSw _ hh; omega
 clear hRa hRb ok e1 e2 e3 hlen1 hlen2 hall hw hI0; have hS_h := lH hS; have hal_h := lH hal; have hF_h := lH hF; have hSw_h := lH hSw; have hbw_h := lH hbw; have hbW_h := lH hbW; have bW_h := lH bW; have k0_h := lH k0; have hC1_h := lH hC1; have hEd_h := lH hEd; have hRa0_h := lH hRa0; have hRb0_h := lH hRb0; have a1_h := lH a1; have hlE_h := lH hlE; have hm_h := lH hm; have hp_h := lH hp; have hr_h := lH hr; have hmes_h := lH hmes; have hE_h := lH hE; have hnS_h := lH hnS; clear hS hal hF hSw hbw hbW bW k0 hC1 hEd hRa0 hRb0 a1 hlE hm hp hr hmes hE hnS
 go_enter Tryz.func151, Tryz.ntmps151
 go_upto_region 1 with (fail)
 rw [← hW]
 clear hW
 go_wp2_with (fail)
 refine (hC1_h.out).mono ?_
 rintro e w1 ⟨rfl, hI1, hk1⟩
 have k1 := t_box_keeps k0_h.out hk1 hnS_h.out
 have hb1 := below_keeps hbW_h.out hk1 hbW_h.out.size hS_h.out
 have hC2 := hF_h.out s C d t w1 hI1 (fun W' hk => hRb0_h.out.below (below_keeps hb1 hk hb1.size hS_h.out)) (fun x hx => by simp [hx]) hlen3
 rw [← hr_h.out] at hC2
 clear c0 c1 c2 c3 f0 f1 f2 f3 hI1 hE1
 obtain ⟨⟨c0, c1, c2, c3⟩, f0, f1, f2, f3⟩ := t_box4 k1
 have hE1 := hE_h.out (#[.slice C r d] ++ cap) w1
 have hk1_h := lH hk1; have k1_h := lH k1; have hb1_h := lH hb1; have hC2_h := lH hC2; clear hk1 k1 hb1 hC2
 go_wp2_with (fail)
 refine (hC2_h.out).mono ?_
 rintro e w2 ⟨rfl, hI2, hk2⟩
 have k2 := t_box_keeps k1_h.out hk2 hnS_h.out
 have hb2 := below_keeps hb1_h.out hk2 hb1_h.out.size hS_h.out
 have hk02 := hk1_h.out.trans hk2
 clear c0 c1 c2 c3 f0 f1 f2 f3 hE1 hk2
 obtain ⟨⟨c0, c1, c2, c3⟩, f0, f1, f2, f3⟩ := t_box4 k2
 have hI20 : I (s ++ (t ++ edW (es.take 0))) w2 := by simpa [edW] using hI2
 have hk02_h := lH hk02; have k2_h := lH k2; have hb2_h := lH hb2; have hI20_h := lH hI20; clear hk02 k2 hb2 hI20; clear hI2
 go_wp2_with (fail)
 clear c0 c1 c2 c3 f0 f1 f2 f3
 go_loopw [17] (fun i wr => ∃ k : Nat, k ≤ m ∧ i = .int .i64 k ∧ I (s ++ (t ++ edW (es.take k))) wr ∧ Keeps (· ∈ S) W wr) (fun i _ => m - (intOf i).toNat)
 case atStart => exact ⟨0, Nat.zero_le _, rfl, hI20_h.out, hk02_h.out⟩
 case round =>
  clear hI20_h hk02_h
  obtain ⟨k, hk, rfl, hI3, hk3⟩ := hrel
  have hb3 := below_keeps hbW_h.out hk3 hbW_h.out.size hS_h.out
  by_cases hlt : k < m
  · obtain ⟨ad, κ, vv, B1, b1, s1, C1, b2, t1, rfl, hn, ⟨d0, d1, d2, d3⟩, hr1, hr2⟩ := (hEd_h.out.below hb3).at_ (j := k) (by rw [← hm_h.out]; exact hlt)
    have hek : es[k]? = some (κ, vv, s1, t1) := by rw [a1_h.out, List.getElem?_map, hn]; rfl
    have hln := hlE_h.out _ (List.mem_of_getElem? hek)
    obtain ⟨hm1, hm2⟩ := mem_edW_of (List.mem_of_getElem? hek)
    obtain ⟨wo, rfl⟩ : ∃ x, x = wr := ⟨_, rfl⟩
    obtain ⟨p1, hp1⟩ : ∃ p1, p1 = s1.length := ⟨_, rfl⟩
    obtain ⟨r1, hr1'⟩ : ∃ r1, r1 = t1.length := ⟨_, rfl⟩
    rw [← hp1] at d2
    rw [← hr1'] at d3
    obtain ⟨W6, hW6, bW6, k6⟩ := (⟨_, rfl, t_below_alloc _ _, heap_alloc_new _ _⟩ : ∃ W, W = wo.alloc (.cells #[.int .i64 κ, .int .i64 vv, .slice B1 p1 b1, .slice C1 r1 b2] tEd) ∧ Below wo.heap.size wo W ∧ W.heap[wo.heap.size]? = some (.cells #[.int .i64 κ, .int .i64 vv, .slice B1 p1 b1, .slice C1 r1 b2] tEd))
    have hb6 := below_trans hb3 bW6 hb3.size
    have hI6 := hal_h.out _ _ _ hI3 bW6
    have hRB : RdI wE B1 s1 := (hEd_h.out.2 _ (List.mem_of_getElem? hn)).1
    have hC3 := hF_h.out _ B1 b1 s1 W6 hI6 (fun W' hk => hRB.below (below_keeps hb6 hk hb6.size hS_h.out)) (fun x hx => by simp [hm1 x hx]) hln.1
    rw [← hp1] at hC3
    have hk6 := hk3.trans (Keeps.of_below bW6 _)
    have hnS6 : ¬ wo.heap.size ∈ S := fun hh => by have := hSw_h.out _ hh; have := hk3.size; have := bW_h.out.size; omega
    have hRC : RdI wE C1 t1 := (hEd_h.out.2 _ (List.mem_of_getElem? hn)).2
    have hkI : (k : Int) < (m : Int) := by omega
    obtain ⟨⟨c0, c1, c2, c3⟩, f0, f1, f2, f3⟩ := t_box4 k6
    have hE1 := hE_h.out (#[.slice B1 p1 b1] ++ cap) W6
    have hr1_h := lH hr1'; clear hr1' hI6 hI3 hr1 hr2 hn hm1 hb3 hk3 hRB; have hek_h := lH hek; have hp1_h := lH hp1; have bW6_h := lH bW6; have k6_h := lH k6; have hC3_h := lH hC3; have hk6_h := lH hk6; have hnS6_h := lH hnS6; have hb6_h := lH hb6; have hRC_h := lH hRC; have hm2_h := lH hm2; have hln_h := lH hln; clear hek hp1 bW6 k6 hC3 hk6 hnS6 hb6 hRC hm2 hln
    go_upto_region 6 with (fail)
    rw [← hW6]
    clear hW6
    go_wp2_with (fail)
    refine (hC3_h.out).mono ?_
    rintro e w7 ⟨rfl, hI7, hk7⟩
    have k7 := t_box_keeps k6_h.out hk7 hnS6_h.out
    have hb7 := below_keeps hb6_h.out hk7 hb6_h.out.size hS_h.out
    have hC4 := hF_h.out _ C1 b2 t1 w7 hI7 (fun W' hk => hRC_h.out.below (below_keeps hb7 hk hb7.size hS_h.out)) (fun x hx => by simp [hm2_h.out x hx]) hln_h.out.2
    rw [← hr1_h.out] at hC4
    have hk8 := hk6_h.out.trans hk7
    clear c0 c1 c2 c3 f0 f1 f2 f3 hE1 hI7 hk7 d0 d1 d2 d3
    obtain ⟨⟨c0, c1, c2, c3⟩, f0, f1, f2, f3⟩ := t_box4 k7
    have hE1 := hE_h.out (#[.slice C1 r1 b2] ++ cap) w7
    have k7_h := lH k7; have hb7_h := lH hb7; have hC4_h := lH hC4; have hk8_h := lH hk8; clear k7 hb7 hC4 hk8
    go_wp2_with (fail)
    refine (hC4_h.out).mono ?_
    rintro e w8 ⟨rfl, hI8, hk9⟩
    have hk10 := hk8_h.out.trans hk9
    have hI9 : I (s ++ (t ++ edW (es.take (k + 1)))) w8 := by
     have e : s ++ (t ++ edW (es.take (k + 1))) = s ++ (t ++ edW (es.take k)) ++ s1 ++ t1 := by
      rw [List.take_add_one, hek_h.out, edW_append]; simp [edW]
     rw [e]; exact hI8
    clear c0 c1 c2 c3 f0 f1 f2 f3 hE1 hI8 hk9; have hk10_h := lH hk10; have hI9_h := lH hI9; clear hk10 hI9
    go_wp2_with (fail)
    go_roundw
    case rel => exact ⟨k + 1, by omega, by go_num, hI9_h.out, hk10_h.out⟩
    case measure => simp [intOf]; omega
  · obtain rfl : m = k := by omega
    rw [List.take_of_length_le (by rw [hmes_h.out]; exact Nat.le_refl _)] at hI3
    have hkf := (Keeps.of_below bW_h.out (· ∈ S)).trans hk3
    have hI3_h := lH hI3; have hkf_h := lH hkf; clear hI3 hkf; clear hk3
    go_wp2_with (fail)
    go_end0
    exact ⟨rfl, hI3_h.out, hkf_h.out⟩
theorem boxg1 {w : World} {B : Nat} {x : Value} {t : TypeId} (h : w.heap[B]? = some (.cells #[x] t)) : w.cell? ⟨B, 0, none⟩ = some x ∧ w.frozen? ⟨B, 0, none⟩ = false := by simp [World.cell?, World.frozen?, h]
theorem seenM_step {n : Nat} {l : List Int} {q : Nat} (hq : q < n) (hs : l.contains (q : Int) = true) : seenC n (l ++ [(q : Int)]) = seenC n l := by unfold seenC; rw [seenM_old hq hs]
theorem inW_snoc (n : Int) (l : List Int) (x : Int) : inW n (l ++ [x]) = (inW n l && t_inB x 0 (n - 1)) := by rw [inW_append]; simp [inW]
structure GI (n gB bG bS bC : Nat) (Gs : Addr) (V1 V2 V3 : Value) (l : List Int) (W : World) : Prop where
 hg : W.heap[gB]? = some (.cells #[.int .i64 (n : Int), V1, V2, V3] tGr)
 hgd : W.heap[bG]? = some (.cells #[.bool (inW n l)] tBool)
 hsl : W.heap[bS]? = some (.cells #[.slice (some Gs) n n] tBools)
 hct : W.heap[bC]? = some (.cells #[.int .i64 (seenC n l : Int)] tInt)
 hse : Sl W tBool 1 (some Gs) n n (bls (seenM n l))
theorem GI.below {n gB bG bS bC : Nat} {Gs : Addr} {V1 V2 V3 : Value} {l : List Int} {W W' : World} (h : GI n gB bG bS bC Gs V1 V2 V3 l W) (hb : Below W.heap.size W W') : GI n gB bG bS bC Gs V1 V2 V3 l W' :=
 ⟨t_box_below h.hg hb, t_box_below h.hgd hb, t_box_below h.hsl hb, t_box_below h.hct hb, h.hse.below hb⟩
set_option maxRecDepth 100000 in
set_option maxHeartbeats 4000000 in
theorem isGraphC_any (n gB bG bS bC : Nat) (Gs : Addr) (V1 V2 V3 : Value) (l : List Int) (B : Option Addr) (c : Nat) (m : List Int) (W : World) (hn : n ≤ 100) (hml : m.length ≤ 1048576)
  (h1 : bG ≠ bC) (h2 : bG ≠ Gs.block) (h3 : bC ≠ Gs.block) (h4 : gB ≠ bG ∧ gB ≠ bC ∧ gB ≠ Gs.block) (h5 : bS ≠ bG ∧ bS ≠ bC ∧ bS ≠ Gs.block)
  (hI : GI n gB bG bS bC Gs V1 V2 V3 l W) (hm : ∀ W', Keeps (· ∈ [bG, bC, Gs.block]) W W' → RdI W' B m) :
  Calls Tryz.prog 152 #[.slice B m.length c, .pointer (some ⟨gB, 0, none⟩), .pointer (some ⟨bG, 0, none⟩), .pointer (some ⟨bS, 0, none⟩), .pointer (some ⟨bC, 0, none⟩)] W fun e w' => e = .returned (.tuple #[]) ∧ GI n gB bG bS bC Gs V1 V2 V3 (l ++ m) w' ∧ Keeps (· ∈ [bG, bC, Gs.block]) W w' := by
 obtain ⟨p, hp⟩ : ∃ p, p = m.length := ⟨_, rfl⟩
 rw [← hp] at hml ⊢
 have hp_h := lH hp; have hm_h := lH hm; have hI_h := lH hI; clear hp hm hI
 go_enter Tryz.func152, Tryz.ntmps152
 go_wp2_with (fail)
 go_loopw [10] (fun i wr => ∃ k : Nat, k ≤ p ∧ i = .int .i64 k ∧ GI n gB bG bS bC Gs V1 V2 V3 (l ++ m.take k) wr ∧ Keeps (· ∈ [bG, bC, Gs.block]) W wr) (fun i _ => p - (intOf i).toNat)
 case atStart => exact ⟨0, Nat.zero_le _, rfl, by simpa using hI_h.out, Keeps.refl _ _⟩
 case round =>
  clear hI_h
  obtain ⟨k, hk, rfl, hI, hkp⟩ := hrel
  by_cases hlt : k < p
  · obtain ⟨xd, x, rfl, hx, hxc⟩ := (hm_h.out wr hkp).at_ (j := k) (by rw [← hp_h.out]; exact hlt)
    have hkI : (k : Int) < (p : Int) := by omega
    have htk : m.take (k + 1) = m.take k ++ [x] := by rw [List.take_add_one, hx]; rfl
    have hlx : l ++ m.take (k + 1) = (l ++ m.take k) ++ [x] := by rw [htk, List.append_assoc]
    obtain ⟨L, hL⟩ : ∃ L, L = l ++ m.take k := ⟨_, rfl⟩
    rw [← hL] at hI hlx
    have hC := fun (W : World) => t_within_any x 0 ((n : Int) - 1) W
    have wn : IntKind.i64.wrap ((n : Int) - 1) = (n : Int) - 1 := IntWalk.i64_in _ (by omega)
    obtain ⟨⟨c0, c1, c2, c3⟩, f0, f1, f2, f3⟩ := t_box4 hI.hg
    by_cases hin : t_inB x 0 ((n : Int) - 1) = true
    · have hb : 0 ≤ x ∧ x ≤ (n : Int) - 1 := of_decide_eq_true hin
      obtain ⟨q, rfl⟩ : ∃ q : Nat, x = (q : Int) := ⟨x.toNat, by omega⟩
      have hqn : q < n := by omega
      simp only [hin] at hC
      have hinL : inW n (L ++ [(q : Int)]) = inW n L := by rw [inW_snoc, hin, Bool.and_true]
      obtain ⟨gd, hgd, hgb, hgc, hgf⟩ := Sl.cell hI.hse (bls_get (seenM_get hqn))
      obtain rfl := Option.some.inj hgd
      obtain ⟨s0, s1⟩ := boxg1 hI.hsl
      have hqI : (q : Int) < (n : Int) := by omega
      have hq0 : (0 : Int) ≤ (q : Int) := by omega
      by_cases hc : L.contains (q : Int) = true
      · have hI2 : GI n gB bG bS bC Gs V1 V2 V3 (l ++ m.take (k + 1)) wr := by
         rw [hlx]
         exact ⟨hI.hg, by rw [hinL]; exact hI.hgd, hI.hsl, by rw [seenM_step hqn hc]; exact hI.hct, by rw [seenM_old hqn hc]; exact hI.hse⟩
        rw [hc] at hgc
        clear hI hin hb hx htk hlx hL hinL hgf hgd; have hC_h := lH hC; have hI2_h := lH hI2; have hkp_h := lH hkp; have hc_h := lH hc; clear hC hI2 hkp hc
        go_wp2_with (fail)
        refine (hC_h.out _).mono ?_
        rintro e w1 ⟨rfl, rfl⟩
        go_wp2_with (fail)
        go_roundw
        case rel => exact ⟨k + 1, by omega, by go_num, hI2_h.out, hkp_h.out⟩
        case measure => simp [intOf]; omega
      · have hc' : L.contains (q : Int) = false := by simpa using hc
        rw [hc'] at hgc
        have hfq := hgf q
        obtain ⟨W1, hW1⟩ : ∃ W1, W1 = wr.setCell (Gs.add q) (.bool true) := ⟨_, rfl⟩
        have hset := Sl.set hI.hse rfl q (.bool true) (by simp [bls]; omega)
        rw [bls_set, ← seenM_in hqn, ← hW1] at hset
        have hk1 : Keeps (· = Gs.block) wr W1 := by rw [hW1]; exact (Keeps.refl (fun b => b = Gs.block) wr).setCell (p := Gs.add q) (by rw [block_of_add]) _
        have g1 := t_box_keeps hI.hg hk1 h4.2.2
        have g2 := t_box_keeps hI.hgd hk1 h2
        have g3 := t_box_keeps hI.hsl hk1 h5.2.2
        have g4 := t_box_keeps hI.hct hk1 h3
        obtain ⟨t0, t1⟩ := boxg1 g4
        obtain ⟨W2, hW2⟩ : ∃ W2, W2 = W1.setCell ⟨bC, 0, none⟩ (.int .i64 ((seenC n L : Int) + 1)) := ⟨_, rfl⟩
        obtain ⟨n4, hk2⟩ := box_set g4 0 (.int .i64 ((seenC n L : Int) + 1))
        rw [← hW2] at n4 hk2
        have n4' : W2.heap[bC]? = some (.cells #[.int .i64 ((seenC n L : Int) + 1)] tInt) := n4
        have hcle := seenC_le n L
        have hI2 : GI n gB bG bS bC Gs V1 V2 V3 (l ++ m.take (k + 1)) W2 := by
         rw [hlx]
         refine ⟨t_box_keeps g1 hk2 h4.2.1, by rw [hinL]; exact t_box_keeps g2 hk2 h1, t_box_keeps g3 hk2 h5.2.1, ?_, hset.keeps hk2 (fun b hb e => by simp at hb; omega)⟩
         rw [seenC_new hqn hc', show ((seenC n L + 1 : Nat) : Int) = (seenC n L : Int) + 1 by omega]; exact n4'
        have hkf : Keeps (· ∈ [bG, bC, Gs.block]) W W2 := (hkp.trans (hk1.mono fun b _ hb => by simp [hb])).trans (hk2.mono fun b _ hb => by simp [hb])
        have hsz : (seenC n L : Int) ≤ 100 := by omega
        have hsz0 : (0 : Int) ≤ (seenC n L : Int) := by omega
        clear hI hin hb hx htk hlx hL hinL hgf hgd hset hk1 g1 g2 g3 g4 n4 hk2 n4' hkp hcle; have hC_h := lH hC; have hI2_h := lH hI2; have hc_h := lH hc; have hc'_h := lH hc'; have hkf_h := lH hkf; clear hC hI2 hc hc' hkf
        go_wp2_with (fail)
        refine (hC_h.out _).mono ?_
        rintro e w1 ⟨rfl, rfl⟩
        go_upto_region 7 with (fail)
        rw [← hW1]
        clear hW1
        go_upto_region 8 with (fail)
        rw [← hW2]
        clear hW2
        go_wp2_with (fail)
        go_roundw
        case rel => exact ⟨k + 1, by omega, by go_num, hI2_h.out, hkf_h.out⟩
        case measure => simp [intOf]; omega
    · have hin' : t_inB x 0 ((n : Int) - 1) = false := by simpa using hin
      simp only [hin'] at hC
      have hinL : inW n (L ++ [x]) = false := by rw [inW_snoc, hin', Bool.and_false]
      have hxo : ¬ (0 ≤ x ∧ x < (n : Int)) := fun hh => by
       rw [show t_inB x 0 ((n : Int) - 1) = true from decide_eq_true ⟨hh.1, by omega⟩] at hin'; cases hin'
      obtain ⟨s0, s1⟩ := boxg1 hI.hgd
      obtain ⟨W1, hW1⟩ : ∃ W1, W1 = wr.setCell ⟨bG, 0, none⟩ (.bool false) := ⟨_, rfl⟩
      obtain ⟨n2, hk1⟩ := box_set hI.hgd 0 (.bool false)
      rw [← hW1] at n2 hk1
      have n2' : W1.heap[bG]? = some (.cells #[.bool false] tBool) := n2
      have hI2 : GI n gB bG bS bC Gs V1 V2 V3 (l ++ m.take (k + 1)) W1 := by
       rw [hlx]
       refine ⟨t_box_keeps hI.hg hk1 h4.1, by rw [hinL]; exact n2', t_box_keeps hI.hsl hk1 h5.1, ?_, ?_⟩
       · have e : seenC n (L ++ [x]) = seenC n L := by unfold seenC; rw [seenM_out hxo]
         rw [e]; exact t_box_keeps hI.hct hk1 (fun e => h1 e.symm)
       · rw [seenM_out hxo]; exact hI.hse.keeps hk1 (fun b hb e => by simp at hb; omega)
      have hkf : Keeps (· ∈ [bG, bC, Gs.block]) W W1 := hkp.trans (hk1.mono fun b _ hb => by simp [hb])
      clear hI hin hin' hx htk hlx hL hinL n2 hk1 n2' hkp; have hC_h := lH hC; have hI2_h := lH hI2; have hkf_h := lH hkf; have hxo_h := lH hxo; clear hC hI2 hkf hxo
      go_wp2_with (fail)
      refine (hC_h.out _).mono ?_
      rintro e w1 ⟨rfl, rfl⟩
      go_upto_region 8 with (fail)
      rw [← hW1]
      clear hW1
      go_wp2_with (fail)
      go_roundw
      case rel => exact ⟨k + 1, by omega, by go_num, hI2_h.out, hkf_h.out⟩
      case measure => simp [intOf]; omega
  · obtain rfl : p = k := by omega
    rw [List.take_of_length_le (by rw [← hp_h.out]; exact Nat.le_refl _)] at hI
    have hI_h := lH hI; have hkp_h := lH hkp; clear hI hkp
    go_wp2_with (fail)
    go_end0
    exact ⟨rfl, hI_h.out, hkp_h.out⟩
theorem egH_eg (k v : Int) (l m : List Int) : egH k v l.length m.length = egB (k, v, l, m) := rfl
theorem madeSeen (n : Nat) : bls (List.replicate n false) = bls (seenM n []) := by rw [seenM_nil]
set_option maxRecDepth 100000 in
set_option maxHeartbeats 8000000 in
theorem isGraph_any {v : Value} {g : Gr} (w : World) (h : RdGr w v g) (ok : OkG g) :
  Calls Tryz.prog 108 #[v] w fun e w' => e = .returned (.bool (grB g)) ∧ Below w.heap.size w w' := by
 have hG0 := h
 obtain ⟨A, c, hs, ⟨B, b, s⟩, ⟨C, d, t⟩, rfl, e1, e2, e3, hE, hRa, hRb⟩ := h
 obtain ⟨z, es, s0, t0⟩ := g
 have a1 : es = hs.map egOf := e1
 have a2 : s = s0 := e2
 have a3 : t = t0 := e3
 subst a2 a3
 have hok := ok
 have hlen1 : es.length ≤ 1048576 := ok.1.1
 have hlen2 : s.length ≤ 1048576 := ok.1.2.1
 have hlen3 : t.length ≤ 1048576 := ok.1.2.2
 have hlE : ∀ x, x ∈ hs → x.2.2.1.2.2.length ≤ 1048576 ∧ x.2.2.2.2.2.length ≤ 1048576 := fun x hx => ok.2.1 _ (by show egOf x ∈ es; rw [a1]; exact List.mem_map_of_mem hx)
 obtain ⟨D, hD⟩ : ∃ D, D = grB (z, es, s, t) := ⟨_, rfl⟩
 have hDD := hD
 unfold grB at hDD
 simp only [Bool.and_assoc] at hDD
 rw [← hD]
 obtain ⟨m, hm⟩ : ∃ m, m = hs.length := ⟨_, rfl⟩
 obtain ⟨p, hp⟩ : ∃ p, p = s.length := ⟨_, rfl⟩
 obtain ⟨r, hr⟩ : ∃ r, r = t.length := ⟨_, rfl⟩
 have hmes : es.length = m := by rw [a1, List.length_map, hm]
 have hRa0 : RdI w B s := hRa
 have hRb0 : RdI w C t := hRb
 rw [hmes, ← hp, ← hr] at hDD
 change RdGr w (.agg #[.int .i64 z, .slice A hs.length c, .slice B s.length b, .slice C t.length d]) (z, es, s, t) at hG0
 rw [← hm, ← hp, ← hr] at hG0
 show Calls Tryz.prog _ #[.agg #[.int .i64 z, .slice A hs.length c, .slice B s.length b, .slice C t.length d]] w _
 rw [← hm, ← hp, ← hr]
 obtain ⟨W, hW, bW, k0⟩ := (⟨_, rfl, t_below_alloc _ _, heap_alloc_new _ _⟩ : ∃ W, W = w.alloc (.cells #[.int .i64 z, .slice A m c, .slice B p b, .slice C r d] tGr) ∧ Below w.heap.size w W ∧ W.heap[w.heap.size]? = some (.cells #[.int .i64 z, .slice A m c, .slice B p b, .slice C r d] tGr))
 obtain ⟨⟨c0, c1, c2, c3⟩, f0, f1, f2, f3⟩ := t_box4 k0
 have hI := fun (W : World) => t_within_any z 0 100 W
 clear hRa hRb ok e1 e2 e3 hRa0 hRb0
 by_cases h0 : t_inB z 0 100 = true
 case neg =>
  have h0' : t_inB z 0 100 = false := by simpa using h0
  obtain rfl : D = false := by rw [hDD, h0']; rfl
  simp only [h0'] at hI
  clear h0 h0'; have hI_h := lH hI; have k0_h := lH k0; have bW_h := lH bW; have hm_h := lH hm; have hp_h := lH hp; have hr_h := lH hr; have hD_h := lH hD; have hDD_h := lH hDD; have hmes_h := lH hmes; have hlE_h := lH hlE; have hok_h := lH hok; have a1_h := lH a1; have hE_h := lH hE; have hG0_h := lH hG0; clear hI k0 bW hm hp hr hD hDD hmes hlE hok a1 hE hG0
  go_enter Tryz.func108, Tryz.ntmps108
  go_upto_region 1 with (fail)
  rw [← hW]
  clear hW
  go_wp2_with (fail)
  refine (hI_h.out _).mono ?_
  rintro e w1 ⟨rfl, rfl⟩
  go_wp2_with (fail)
  go_ret
  exact ⟨rfl, bW_h.out⟩
 have hz : 0 ≤ z ∧ z ≤ 100 := of_decide_eq_true h0
 simp only [h0] at hI
 rw [h0, Bool.true_and] at hDD
 clear h0
 have wz : IntKind.i64.wrap (z - 1) = z - 1 := IntWalk.i64_in _ (by omega)
 by_cases h1 : m ≤ 60
 case neg =>
  obtain rfl : D = false := by rw [hDD, decide_eq_false h1]; rfl
  have h1' : ¬ ((m : Int) ≤ 60) := by omega
  have hI_h := lH hI; have k0_h := lH k0; have bW_h := lH bW; have hm_h := lH hm; have hp_h := lH hp; have hr_h := lH hr; have hD_h := lH hD; have hDD_h := lH hDD; have hmes_h := lH hmes; have hlE_h := lH hlE; have hok_h := lH hok; have a1_h := lH a1; have hE_h := lH hE; have hG0_h := lH hG0; clear hI k0 bW hm hp hr hD hDD hmes hlE hok a1 hE hG0
  go_enter Tryz.func108, Tryz.ntmps108
  go_upto_region 1 with (fail)
  rw [← hW]
  clear hW
  go_wp2_with (fail)
  refine (hI_h.out _).mono ?_
  rintro e w1 ⟨rfl, rfl⟩
  go_wp2_with (fail)
  go_ret
  exact ⟨rfl, bW_h.out⟩
 rw [decide_eq_true h1, Bool.true_and] at hDD
 have h1' : (m : Int) ≤ 60 := by omega
 by_cases h2 : p ≤ 12
 case neg =>
  obtain rfl : D = false := by rw [hDD, decide_eq_false h2]; rfl
  have h2' : ¬ ((p : Int) ≤ 12) := by omega
  have hI_h := lH hI; have k0_h := lH k0; have bW_h := lH bW; have hm_h := lH hm; have hp_h := lH hp; have hr_h := lH hr; have hD_h := lH hD; have hDD_h := lH hDD; have hmes_h := lH hmes; have hlE_h := lH hlE; have hok_h := lH hok; have a1_h := lH a1; have hE_h := lH hE; have hG0_h := lH hG0; clear hI k0 bW hm hp hr hD hDD hmes hlE hok a1 hE hG0
  go_enter Tryz.func108, Tryz.ntmps108
  go_upto_region 1 with (fail)
  rw [← hW]
  clear hW
  go_wp2_with (fail)
  refine (hI_h.out _).mono ?_
  rintro e w1 ⟨rfl, rfl⟩
  go_wp2_with (fail)
  go_ret
  exact ⟨rfl, bW_h.out⟩
 rw [decide_eq_true h2, Bool.true_and] at hDD
 have h2' : (p : Int) ≤ 12 := by omega
 by_cases h3 : r ≤ 12
 case neg =>
  obtain rfl : D = false := by rw [hDD, decide_eq_false h3]; rfl
  have h3' : ¬ ((r : Int) ≤ 12) := by omega
  have hI_h := lH hI; have k0_h := lH k0; have bW_h := lH bW; have hm_h := lH hm; have hp_h := lH hp; have hr_h := lH hr; have hD_h := lH hD; have hDD_h := lH hDD; have hmes_h := lH hmes; have hlE_h := lH hlE; have hok_h := lH hok; have a1_h := lH a1; have hE_h := lH hE; have hG0_h := lH hG0; clear hI k0 bW hm hp hr hD hDD hmes hlE hok a1 hE hG0
  go_enter Tryz.func108, Tryz.ntmps108
  go_upto_region 1 with (fail)
  rw [← hW]
  clear hW
  go_wp2_with (fail)
  refine (hI_h.out _).mono ?_
  rintro e w1 ⟨rfl, rfl⟩
  go_wp2_with (fail)
  go_ret
  exact ⟨rfl, bW_h.out⟩
 rw [decide_eq_true h3, Bool.true_and] at hDD
 have h3' : (r : Int) ≤ 12 := by omega
 have hI_h := lH hI; have k0_h := lH k0; have bW_h := lH bW; have hm_h := lH hm; have hp_h := lH hp; have hr_h := lH hr; have hD_h := lH hD; have hDD_h := lH hDD; have hmes_h := lH hmes; have hlE_h := lH hlE; have hok_h := lH hok; have a1_h := lH a1; have hE_h := lH hE; have hG0_h := lH hG0; clear hI k0 bW hm hp hr hD hDD hmes hlE hok a1 hE hG0
 go_enter Tryz.func108, Tryz.ntmps108
 go_upto_region 1 with (fail)
 rw [← hW]
 clear hW
 go_wp2_with (fail)
 refine (hI_h.out _).mono ?_
 rintro e w1 ⟨rfl, rfl⟩
 obtain ⟨W, rfl⟩ : ∃ x, x = w1 := ⟨_, rfl⟩
 go_wp2_with (fail)
 clear c0 c1 c2 c3 f0 f1 f2 f3
 go_loopw [33] (fun i wr => ∃ k : Nat, k ≤ m ∧ i = .int .i64 k ∧ (es.take k).all egB = true ∧ Below W.heap.size W wr) (fun i _ => m - (intOf i).toNat)
 case atStart => exact ⟨0, Nat.zero_le _, rfl, by simp, Below.refl _ _⟩
 case round =>
  obtain ⟨k, hk, rfl, hall, hB1⟩ := hrel
  have kr := t_box_below k0_h.out hB1
  have hBw := below_trans bW_h.out hB1 bW_h.out.size
  by_cases hlt : k < m
  · obtain ⟨ad, κ, vv, B1, b1, s1, C1, b2, t1, rfl, hn, ⟨d0, d1, d2, d3⟩, hr1, hr2⟩ := (hE_h.out.below hBw).at_ (j := k) (by rw [← hm_h.out]; exact hlt)
    have hek : es[k]? = some (κ, vv, s1, t1) := by rw [a1_h.out, List.getElem?_map, hn]; rfl
    have hln := hlE_h.out _ (List.mem_of_getElem? hn)
    obtain ⟨wo, rfl⟩ : ∃ x, x = wr := ⟨_, rfl⟩
    have hC := fun (W' : World) (_ : Below wo.heap.size wo W') => isEdge_any κ vv B1 C1 b1 b2 s1.length t1.length W'
    obtain ⟨p1, hp1⟩ : ∃ p1, p1 = s1.length := ⟨_, rfl⟩
    obtain ⟨r1, hr1'⟩ : ∃ r1, r1 = t1.length := ⟨_, rfl⟩
    simp only [egH_eg] at hC
    simp only [← hp1, ← hr1'] at hC
    rw [← hp1] at d2
    rw [← hr1'] at d3
    obtain ⟨W6, hW6, bW6, k6⟩ := (⟨_, rfl, t_below_alloc _ _, heap_alloc_new _ _⟩ : ∃ W, W = wo.alloc (.cells #[.int .i64 κ, .int .i64 vv, .slice B1 p1 b1, .slice C1 r1 b2] tEd) ∧ Below wo.heap.size wo W ∧ W.heap[wo.heap.size]? = some (.cells #[.int .i64 κ, .int .i64 vv, .slice B1 p1 b1, .slice C1 r1 b2] tEd))
    have hCW := hC W6 bW6
    have hkI : (k : Int) < (m : Int) := by omega
    have kr6 := t_box_below kr bW6
    have hBW6 := below_trans hB1 bW6 hB1.size
    obtain ⟨⟨c0, c1, c2, c3⟩, f0, f1, f2, f3⟩ := t_box4 k6
    obtain ⟨⟨y0, y1, y2, y3⟩, g0, g1, g2, g3⟩ := t_box4 kr6
    obtain ⟨H, hH⟩ : ∃ H, H = egB (κ, vv, s1, t1) := ⟨_, rfl⟩
    rw [← hH] at hCW
    have hr1_h := lH hr1'; clear hr1' hr1 hr2 hn hln hC kr hB1 kr6; have hCW_h := lH hCW; have hek_h := lH hek; have hall_h := lH hall; have hp1_h := lH hp1; have bW6_h := lH bW6; have k6_h := lH k6; have hBW6_h := lH hBW6; have hBw_h := lH hBw; have hH_h := lH hH; clear hCW hek hall hp1 bW6 k6 hBW6 hBw hH
    go_upto_region 6 with (fail)
    rw [← hW6]
    clear hW6
    go_wp2_with (fail)
    refine (hCW_h.out).mono ?_
    rintro e w7 ⟨rfl, hb7⟩
    have hB8 := below_trans hBW6_h.out hb7 hBW6_h.out.size
    clear hb7 c0 c1 c2 c3 f0 f1 f2 f3 y0 y1 y2 y3 g0 g1 g2 g3 d0 d1 d2 d3
    cases H
    · have hf : D = false := by
       rw [hDD_h.out, show es.all egB = false from ?_]; rfl
       rw [Bool.eq_false_iff]
       intro hh
       have := List.all_eq_true.1 hh _ (List.mem_of_getElem? hek_h.out)
       rw [← hH_h.out] at this; cases this
      subst hf
      have hBz := below_trans bW_h.out hB8 bW_h.out.size
      have hB8_h := lH hB8; have hBz_h := lH hBz; clear hB8 hBz
      go_wp2_with (fail)
      go_ret
      exact ⟨rfl, hBz_h.out⟩
    · have hall2 : (es.take (k + 1)).all egB = true := by rw [List.take_add_one, hek_h.out, List.all_append, hall_h.out]; simp [← hH_h.out]
      have hB8_h := lH hB8; have hall2_h := lH hall2; clear hB8 hall2
      go_wp2_with (fail)
      go_roundw
      case rel => exact ⟨k + 1, by omega, by go_num, hall2_h.out, hB8_h.out⟩
      case measure => simp [intOf]; omega
  · obtain rfl : m = k := by omega
    rw [List.take_of_length_le (by rw [hmes_h.out]; exact Nat.le_refl _)] at hall
    have hD3 := hDD_h.out
    rw [hall, Bool.true_and] at hD3
    obtain ⟨n, rfl⟩ : ∃ n : Nat, z = (n : Int) := ⟨z.toNat, by omega⟩
    obtain ⟨⟨y0, y1, y2, y3⟩, g0, g1, g2, g3⟩ := t_box4 kr
    have hn100 : n ≤ 100 := by omega
    clear hall hDD_h hB1; have hD3_h := lH hD3; have kr_h := lH kr; have hBw_h := lH hBw; clear hD3 kr hBw
    go_upto_region 10 with (at_make; refine wpList_make_Sl _ rfl _ _ _ rfl tBool Tryz.underlying160 info_bool n n rfl rfl rfl rfl (Nat.le_refl _) (by omega) (by unfold maxLen; omega) ?_; intro Gs w2 hs2 hG2 hb2)
    have hsn : Sl w2 tBool 1 (some Gs) n n (bls (seenM n [])) := by rw [← madeSeen, ← madeBls]; exact hs2
    have hB2 := below_trans hBw_h.out hb2 hBw_h.out.size
    have kr2 := t_box_below kr_h.out hb2
    have hGl : Gs.block < w2.heap.size := hsn.lt Gs.block (by simp)
    obtain ⟨W3, hW3, bW3, j0, j1, j2⟩ := allocs3 w2 (.cells #[.slice (some Gs) n n] tBools) (.cells #[.bool true] tBool) (.cells #[.int .i64 0] tInt)
    have hB3 := below_trans hB2 bW3 hB2.size
    have hws := hBw_h.out.size
    have hw1 := t_box_lt kr_h.out
    have hI0 : GI n w.heap.size (w2.heap.size + 1) w2.heap.size (w2.heap.size + 1 + 1) Gs (.slice A m c) (.slice B p b) (.slice C r d) [] W3 :=
     ⟨t_box_below kr2 bW3, j1, j0, by
      have e : seenC n [] = 0 := by unfold seenC; rw [seenM_nil]; simp [List.count_replicate]
      rw [e]; exact j2, hsn.below bW3⟩
    have hLI := lists_any w hG0_h.out hok_h.out 152 #[.pointer (some ⟨w.heap.size, 0, none⟩), .pointer (some ⟨w2.heap.size + 1, 0, none⟩), .pointer (some ⟨w2.heap.size, 0, none⟩), .pointer (some ⟨w2.heap.size + 1 + 1, 0, none⟩)] (fun _ _ => rfl)
     (fun l W => GI n w.heap.size (w2.heap.size + 1) w2.heap.size (w2.heap.size + 1 + 1) Gs (.slice A m c) (.slice B p b) (.slice C r d) l W) [w2.heap.size + 1, w2.heap.size + 1 + 1, Gs.block]
     (fun x hx => by simp at hx; omega) (fun l W W' h hb => h.below hb)
     (fun l B' c' m' W' hI hm' _ hml => isGraphC_any n w.heap.size (w2.heap.size + 1) w2.heap.size (w2.heap.size + 1 + 1) Gs (.slice A m c) (.slice B p b) (.slice C r d) l B' c' m' W' hn100 hml (by omega) (by omega) (by omega) ⟨by omega, by omega, by omega⟩ ⟨by omega, by omega, by omega⟩ hI hm')
     W3 hI0 hB3 (fun x hx => by have := t_box_lt j2; simp at hx; omega)
    have hmf : ∀ (fn : Fn) (first cap : Array Value) (w : World), (Instr.makeFunc fn first cap).run Tryz.prog w = .ok (.func fn first cap) w := fun _ _ _ _ => rfl
    have kr3 := t_box_below kr2 bW3
    obtain ⟨L, hL⟩ : ∃ L, L = t_allW ((n : Int), es, s, t) := ⟨_, rfl⟩
    have hsf := seenC_full n L
    have hD5 : D = (inW (n : Int) L && decide (seenC n L = n)) := by rw [hD3_h.out, hsf, hL]; rfl
    rw [← hL] at hLI
    have hSge : ∀ x, x ∈ [w2.heap.size + 1, w2.heap.size + 1 + 1, Gs.block] → w.heap.size ≤ x := fun x hx => by simp at hx; omega
    clear hs2 hsn hB2 kr2 hI0 hsf y0 y1 y2 y3 g0 g1 g2 g3 j0 j1 j2
    obtain ⟨⟨y0, y1, y2, y3⟩, g0, g1, g2, g3⟩ := t_box4 kr3
    have hB3_h := lH hB3; have kr3_h := lH kr3; have hLI_h := lH hLI; have hL_h := lH hL; have hD5_h := lH hD5; have bW3_h := lH bW3; have hSge_h := lH hSge; clear hB3 kr3 hLI hL hD5 bW3 hSge
    rw [← hW3]
    clear hW3
    go_wp2_with (fail)
    refine (hLI_h.out).mono ?_
    rintro e w9 ⟨rfl, hI9, hk9⟩
    have hB9 := below_keeps hB3_h.out hk9 hB3_h.out.size hSge_h.out
    clear y0 y1 y2 y3 g0 g1 g2 g3 hmf
    obtain ⟨⟨y0, y1, y2, y3⟩, g0, g1, g2, g3⟩ := t_box4 hI9.hg
    obtain ⟨z0, z1⟩ := boxg1 hI9.hgd
    obtain ⟨z2, z3⟩ := boxg1 hI9.hct
    have hD6 := hD5_h.out
    clear hI9 hk9
    cases hiw : inW (n : Int) L
    · rw [hiw] at hD6 z0
      obtain rfl : D = false := hD6
      have hB9_h := lH hB9; have hiw_h := lH hiw; clear hB9 hiw
      go_wp2_with (fail)
      go_ret
      exact ⟨rfl, hB9_h.out⟩
    · rw [hiw, Bool.true_and] at hD6
      rw [hiw] at z0
      obtain ⟨x, hx⟩ : ∃ x, x = seenC n L := ⟨_, rfl⟩
      rw [← hx] at z2 hD6
      by_cases hxn : x = n
      · subst hxn
        obtain rfl : D = true := by rw [hD6]; exact decide_eq_true rfl
        have hbe : ((x : Int) == (x : Int)) = true := by simp
        clear hD6; have hB9_h := lH hB9; have hiw_h := lH hiw; have hx_h := lH hx; clear hB9 hiw hx
        go_wp2_with (fail)
        go_ret
        exact ⟨rfl, hB9_h.out⟩
      · obtain rfl : D = false := by rw [hD6]; exact decide_eq_false hxn
        have hbe : ((x : Int) == (n : Int)) = false := by rw [beq_eq_false_iff_ne]; omega
        clear hD6; have hB9_h := lH hB9; have hiw_h := lH hiw; have hx_h := lH hx; clear hB9 hiw hx
        go_wp2_with (fail)
        go_ret
        exact ⟨rfl, hB9_h.out⟩
def ovB (p : Int) (e : Eg) : Bool := !(hvB e.1 && decide (p ≤ e.2.1))
theorem gOver_eq {p : Int} {g : Gr} : gOverB p g = (fieldB p && (grB g && g.2.1.all (ovB p))) := by
 unfold gOverB
 cases hf : fieldB p
 · rfl
 · have hpb := fieldB_bounds hf
   cases hg : grB g
   · rfl
   · simp only [Bool.true_and]
     have he : g.2.1.all egB = true := by
      unfold grB at hg
      simp only [Bool.and_eq_true] at hg
      exact hg.2.1
     have h : ∀ e, e ∈ g.2.1 → decide (e.2.1 < p) = ovB p e := fun e hm => by
      have h1 := List.all_eq_true.1 he e hm
      unfold egB gvB at h1
      simp only [Bool.and_eq_true] at h1
      have h2 := h1.2.1
      unfold ovB
      cases hv : hvB e.1
      · rw [hv] at h2
        simp at h2
        rw [h2]
        simp
        omega
      · simp only [Bool.true_and]
        by_cases hp : e.2.1 < p
        · rw [decide_eq_true hp, decide_eq_false (by omega)]; rfl
        · rw [decide_eq_false hp, decide_eq_true (by omega)]; rfl
     rw [Bool.eq_iff_iff, List.all_eq_true, List.all_eq_true]
     exact ⟨fun hh e hm => by rw [← h e hm]; exact hh e hm, fun hh e hm => by rw [h e hm]; exact hh e hm⟩
set_option maxRecDepth 100000 in
set_option maxHeartbeats 4000000 in
theorem isGraphOver_any (p : Int) {v : Value} {g : Gr} (w : World) (h : RdGr w v g) (ok : OkG g) (hT : Tab w) :
  Calls Tryz.prog 64 #[.int .i64 p, v] w fun e w' => e = .returned (.bool (gOverB p g)) ∧ Below w.heap.size w w' := by
 rw [gOver_eq]
 obtain ⟨A, c, hs, ⟨B, b, s⟩, ⟨C, d, t⟩, rfl, e1, e2, e3, hE, hRa, hRb⟩ := id h
 obtain ⟨z, es, s0, t0⟩ := g
 have a1 : es = hs.map egOf := e1
 have a2 : s = s0 := e2
 have a3 : t = t0 := e3
 subst a2 a3
 clear e1 e2 e3
 obtain ⟨m, hm⟩ : ∃ m, m = hs.length := ⟨_, rfl⟩
 have hmes : es.length = m := by rw [a1, List.length_map, hm]
 have hm20 : m ≤ 1048576 := by rw [← hmes]; exact ok.1.1
 change RdGr w (.agg #[.int .i64 z, .slice A hs.length c, .slice B s.length b, .slice C t.length d]) (z, es, s, t) at h
 show Calls Tryz.prog _ #[.int .i64 p, .agg #[.int .i64 z, .slice A hs.length c, .slice B s.length b, .slice C t.length d]] w _
 rw [← hm] at h ⊢
 obtain ⟨W, hW, bW, k0⟩ := (⟨_, rfl, below_alloc _ _, heap_alloc_new _ _⟩ : ∃ W, W = w.alloc (.cells #[.int .i64 z, .slice A m c, .slice B s.length b, .slice C t.length d] tGr) ∧ Below w.heap.size w W ∧ W.heap[w.heap.size]? = some (.cells #[.int .i64 z, .slice A m c, .slice B s.length b, .slice C t.length d] tGr))
 obtain ⟨⟨c0, c1, c2, c3⟩, f0, f1, f2, f3⟩ := box4 k0
 have hV := fun W' (hb : Below w.heap.size w W') => isGraph_any W' (h.below hb) ok
 have hG := isField_any p W (hT.below bW hT.lt)
 obtain ⟨D, hD⟩ : ∃ D, D = (fieldB p && (grB (z, es, s, t) && es.all (ovB p))) := ⟨_, rfl⟩
 show Calls Tryz.prog _ _ w fun e w' => e = .returned (.bool (fieldB p && (grB (z, es, s, t) && es.all (ovB p)))) ∧ _
 rw [← hD]
 clear h hT
 by_cases hf : fieldB p = true
 case neg =>
  have hf' : fieldB p = false := by simpa using hf
  simp only [hf'] at hG
  rw [hf', Bool.false_and] at hD
  subst hD
  clear hf hf' ok hV; have hG_h := lH hG; have k0_h := lH k0; have bW_h := lH bW; have hm_h := lH hm; have hmes_h := lH hmes; have a1_h := lH a1; have hE_h := lH hE; clear hG k0 bW hm hmes a1 hE
  go_enter Tryz.func64, Tryz.ntmps64
  go_upto_region 1 with (fail)
  rw [← hW]
  clear hW
  go_wp2_with (fail)
  refine (hG_h.out).mono ?_
  rintro e w' ⟨rfl, hw'⟩
  subst hw'
  go_wp2_with (fail)
  go_ret
  exact ⟨rfl, bW_h.out⟩
 simp only [hf] at hG
 rw [hf, Bool.true_and] at hD
 by_cases hg : grB (z, es, s, t) = true
 case neg =>
  have hg' : grB (z, es, s, t) = false := by simpa using hg
  simp only [hg'] at hV
  rw [hg', Bool.false_and] at hD
  subst hD
  clear hf hg hg' ok; have hV_h := lH hV; have hG_h := lH hG; have k0_h := lH k0; have bW_h := lH bW; have hm_h := lH hm; have hmes_h := lH hmes; have a1_h := lH a1; have hE_h := lH hE; clear hV hG k0 bW hm hmes a1 hE
  go_enter Tryz.func64, Tryz.ntmps64
  go_upto_region 1 with (fail)
  rw [← hW]
  clear hW
  go_wp2_with (fail)
  refine (hG_h.out).mono ?_
  rintro e w' ⟨rfl, hw'⟩
  subst hw'
  go_wp2_with (fail)
  refine (hV_h.out _ bW_h.out).mono ?_
  rintro e wq ⟨rfl, hb1⟩
  go_wp2_with (fail)
  go_ret
  exact ⟨rfl, below_trans bW_h.out hb1 bW_h.out.size⟩
 simp only [hg] at hV
 rw [hg, Bool.true_and] at hD
 have hDD : (es.all (ovB p) = true) → D = true := fun h => by rw [hD]; exact h
 have hDN : (es.all (ovB p) = false) → D = false := fun h => by rw [hD]; exact h
 clear hf hg hD ok; have hV_h := lH hV; have hG_h := lH hG; have hm_h := lH hm; have hmes_h := lH hmes; have a1_h := lH a1; have hE_h := lH hE; have k0_h := lH k0; have bW_h := lH bW; have hDD_h := lH hDD; have hDN_h := lH hDN; clear hV hG hm hmes a1 hE k0 bW hDD hDN
 go_enter Tryz.func64, Tryz.ntmps64
 go_upto_region 1 with (fail)
 rw [← hW]
 clear hW
 go_wp2_with (fail)
 refine (hG_h.out).mono ?_
 rintro e w' ⟨rfl, hw'⟩
 subst hw'
 go_wp2_with (fail)
 refine (hV_h.out _ bW_h.out).mono ?_
 rintro e wq ⟨rfl, hb1⟩
 clear c0 c1 c2 c3 f0 f1 f2 f3
 have hbq := below_trans bW_h.out hb1 bW_h.out.size
 have hE := hE_h.out.below hbq
 replace k0_h := lH (box_below k0_h.out hb1)
 clear hb1; have hbq_h := lH hbq; have hE_h := lH hE; clear hbq hE
 obtain ⟨⟨c0, c1, c2, c3⟩, f0, f1, f2, f3⟩ := box4 k0_h.out
 go_wp2_with (fail)
 clear c0 c1 c2 c3 f0 f1 f2 f3
 go_loopw [18] (fun i wr => ∃ k : Nat, k ≤ m ∧ i = .int .i64 k ∧ Below wq.heap.size wq wr ∧ ∀ (j : Nat) (e : Eg), es[j]? = some e → j < k → (ovB p) e = true) (fun i _ => m - (intOf i).toNat)
 case atStart => exact ⟨0, Nat.zero_le _, rfl, Below.refl _ _, fun j e _ h => absurd h (Nat.not_lt_zero j)⟩
 case round =>
  obtain ⟨k, hk, rfl, hbr, hall⟩ := hrel
  obtain ⟨wo, rfl⟩ : ∃ x, x = wr := ⟨_, rfl⟩
  by_cases hlt : k < m
  · obtain ⟨ad, κ, v, B', b', l, C', c', mm, rfl, hx, ⟨d0, d1, d2, d3⟩, _, _⟩ := (hE_h.out.below hbr).at_ (j := k) (by rw [← hm_h.out]; exact hlt)
    have hxe : es[k]? = some (κ, v, l, mm) := by rw [a1_h.out, List.getElem?_map, hx]; rfl
    have hkI : (k : Int) < (m : Int) := by omega
    have hbo := below_trans hbq_h.out hbr hbq_h.out.size
    obtain ⟨wN, hwN⟩ : ∃ wN, wN = wo.alloc (.cells #[.int .i64 κ, .int .i64 v, .slice B' l.length b', .slice C' mm.length c'] tEd) := ⟨_, rfl⟩
    have hbN : Below wo.heap.size wo wN := by rw [hwN]; exact below_alloc _ _
    have kN : wN.heap[wo.heap.size]? = some (.cells #[.int .i64 κ, .int .i64 v, .slice B' l.length b', .slice C' mm.length c'] tEd) := by rw [hwN]; exact heap_alloc_new _ _
    have hba := below_trans hbo hbN hbo.size
    have hbr2 := below_trans hbr hbN hbr.size
    have hnx : ∀ (e : Eg), (ovB p) (κ, v, l, mm) = true → es[k]? = some e → (ovB p) e = true := fun e he h2 => by rw [hxe] at h2; obtain rfl := Option.some.inj h2; exact he
    have hall2 : (ovB p) (κ, v, l, mm) = true → ∀ (j : Nat) (e : Eg), es[j]? = some e → j < k + 1 → (ovB p) e = true := fun he j e h2 h3 => by
     rcases Nat.lt_or_ge j k with h4 | h4
     · exact hall j e h2 h4
     · obtain rfl : j = k := by omega
       exact hnx e he h2
    obtain ⟨⟨e0, e1, e2, e3⟩, j0, j1, j2, j3⟩ := box4 kN
    have hCV := fun W' => hasValue_any κ W'
    clear hx hall hnx kN hbN
    cases hh : hvB κ
    · rw [hh] at hCV
      have hall3 := hall2 (by unfold ovB; simp [hh])
      clear hall2; have hall3_h := lH hall3; have hbr2_h := lH hbr2; have hbr_h := lH hbr; have hba_h := lH hba; have hbo_h := lH hbo; have hxe_h := lH hxe; have hCV_h := lH hCV; clear hall3 hbr2 hbr hba hbo hxe hCV
      go_upto_region 6 with (fail)
      rw [← hwN]
      clear hwN d0 d1 d2 d3
      go_wp2_with (fail)
      refine (hCV_h.out _).mono ?_
      rintro e w' ⟨rfl, hw'⟩
      subst hw'
      go_wp2_with (fail)
      go_roundw
      case rel => exact ⟨k + 1, by omega, by go_num, hbr2_h.out, hall3_h.out⟩
      case measure => simp [intOf]; omega
    · rw [hh] at hCV
      by_cases hv : p ≤ v
      · have hvn : v ≥ p := hv
        have hfin := hDN_h.out (allE_no hxe (by unfold ovB; simp [hh, hv]))
        clear hv
        subst hfin
        clear hall2; have hbr2_h := lH hbr2; have hbr_h := lH hbr; have hba_h := lH hba; have hbo_h := lH hbo; have hxe_h := lH hxe; have hCV_h := lH hCV; clear hbr2 hbr hba hbo hxe hCV
        go_upto_region 6 with (fail)
        rw [← hwN]
        clear hwN d0 d1 d2 d3
        go_wp2_with (fail)
        refine (hCV_h.out _).mono ?_
        rintro e w' ⟨rfl, hw'⟩
        subst hw'
        go_wp2_with (fail)
        go_ret
        exact ⟨rfl, hba_h.out⟩
      · have hvn : ¬ v ≥ p := hv
        have hall3 := hall2 (by unfold ovB; simp [hh, hv])
        clear hall2 hv; have hall3_h := lH hall3; have hbr2_h := lH hbr2; have hbr_h := lH hbr; have hba_h := lH hba; have hbo_h := lH hbo; have hxe_h := lH hxe; have hCV_h := lH hCV; clear hall3 hbr2 hbr hba hbo hxe hCV
        go_upto_region 6 with (fail)
        rw [← hwN]
        clear hwN d0 d1 d2 d3
        go_wp2_with (fail)
        refine (hCV_h.out _).mono ?_
        rintro e w' ⟨rfl, hw'⟩
        subst hw'
        go_wp2_with (fail)
        go_roundw
        case rel => exact ⟨k + 1, by omega, by go_num, hbr2_h.out, hall3_h.out⟩
        case measure => simp [intOf]; omega
  · obtain rfl : m = k := by omega
    have hyes := allE_yes (f := (ovB p)) (l := es) fun j e h1 h2 => hall j e h1 (by rw [← hmes_h.out]; exact h2)
    have hbo := below_trans hbq_h.out hbr hbq_h.out.size
    have hfin := hDD_h.out hyes
    subst hfin
    clear hall; have hbo_h := lH hbo; clear hbo
    go_wp2_with (fail)
    go_ret
    exact ⟨rfl, hbo_h.out⟩
set_option maxRecDepth 100000 in
set_option maxHeartbeats 4000000 in
theorem gStatic_any (p : Int) {v : Value} {g : Gr} (w : World) (h : RdGr w v g) (ok : OkG g) (hT : Tab w) :
  Calls Tryz.prog 37 #[v, .int .i64 p] w fun e w' => e = .returned (.bool (dnAskB p g)) ∧ Below w.heap.size w w' := by
 obtain ⟨A, c, hs, ⟨B, b, s⟩, ⟨C, d, t⟩, rfl, e1, e2, e3, hE, hRa, hRb⟩ := id h
 obtain ⟨z, es, s0, t0⟩ := g
 have a1 : es = hs.map egOf := e1
 have a2 : s = s0 := e2
 have a3 : t = t0 := e3
 subst a2 a3
 clear e1 e2 e3
 obtain ⟨m, hm⟩ : ∃ m, m = hs.length := ⟨_, rfl⟩
 have hmes : es.length = m := by rw [a1, List.length_map, hm]
 have hm20 : m ≤ 1048576 := by rw [← hmes]; exact ok.1.1
 change RdGr w (.agg #[.int .i64 z, .slice A hs.length c, .slice B s.length b, .slice C t.length d]) (z, es, s, t) at h
 show Calls Tryz.prog _ #[.agg #[.int .i64 z, .slice A hs.length c, .slice B s.length b, .slice C t.length d], .int .i64 p] w _
 rw [← hm] at h ⊢
 obtain ⟨W, hW, bW, k0⟩ := (⟨_, rfl, below_alloc _ _, heap_alloc_new _ _⟩ : ∃ W, W = w.alloc (.cells #[.int .i64 z, .slice A m c, .slice B s.length b, .slice C t.length d] tGr) ∧ Below w.heap.size w W ∧ W.heap[w.heap.size]? = some (.cells #[.int .i64 z, .slice A m c, .slice B s.length b, .slice C t.length d] tGr))
 obtain ⟨⟨c0, c1, c2, c3⟩, f0, f1, f2, f3⟩ := box4 k0
 have hV := isGraphOver_any p W (h.below bW) ok (hT.below bW hT.lt)
 obtain ⟨D, hD⟩ : ∃ D, D = dnAskB p (z, es, s, t) := ⟨_, rfl⟩
 rw [← hD]
 unfold dnAskB at hD
 clear h hT
 by_cases hg : gOverB p (z, es, s, t) = true
 case neg =>
  have hg' : gOverB p (z, es, s, t) = false := by simpa using hg
  simp only [hg'] at hV
  rw [hg', Bool.false_and] at hD
  subst hD
  clear hg hg' ok; have hV_h := lH hV; have k0_h := lH k0; have bW_h := lH bW; have hm_h := lH hm; have hmes_h := lH hmes; have a1_h := lH a1; have hE_h := lH hE; clear hV k0 bW hm hmes a1 hE
  go_enter Tryz.func37, Tryz.ntmps37
  go_upto_region 1 with (fail)
  rw [← hW]
  clear hW
  go_wp2_with (fail)
  refine (hV_h.out).mono ?_
  rintro e wq ⟨rfl, hb1⟩
  go_wp2_with (fail)
  go_ret
  exact ⟨rfl, below_trans bW_h.out hb1 bW_h.out.size⟩
 simp only [hg] at hV
 rw [hg, Bool.true_and] at hD
 have hDD : (es.all (fun e : Eg => noDl e.1) = true) → D = true := fun h => by rw [hD]; exact h
 have hDN : (es.all (fun e : Eg => noDl e.1) = false) → D = false := fun h => by rw [hD]; exact h
 clear hg hD ok; have hV_h := lH hV; have hm_h := lH hm; have hmes_h := lH hmes; have a1_h := lH a1; have hE_h := lH hE; have k0_h := lH k0; have bW_h := lH bW; have hDD_h := lH hDD; have hDN_h := lH hDN; clear hV hm hmes a1 hE k0 bW hDD hDN
 go_enter Tryz.func37, Tryz.ntmps37
 go_upto_region 1 with (fail)
 rw [← hW]
 clear hW
 go_wp2_with (fail)
 refine (hV_h.out).mono ?_
 rintro e wq ⟨rfl, hb1⟩
 clear c0 c1 c2 c3 f0 f1 f2 f3
 have hbq := below_trans bW_h.out hb1 bW_h.out.size
 have hE := hE_h.out.below hbq
 replace k0_h := lH (box_below k0_h.out hb1)
 clear hb1; have hbq_h := lH hbq; have hE_h := lH hE; clear hbq hE
 obtain ⟨⟨c0, c1, c2, c3⟩, f0, f1, f2, f3⟩ := box4 k0_h.out
 go_wp2_with (fail)
 clear c0 c1 c2 c3 f0 f1 f2 f3
 go_loopw [14] (fun i wr => ∃ k : Nat, k ≤ m ∧ i = .int .i64 k ∧ Below wq.heap.size wq wr ∧ ∀ (j : Nat) (e : Eg), es[j]? = some e → j < k → (fun e : Eg => noDl e.1) e = true) (fun i _ => m - (intOf i).toNat)
 case atStart => exact ⟨0, Nat.zero_le _, rfl, Below.refl _ _, fun j e _ h => absurd h (Nat.not_lt_zero j)⟩
 case round =>
  obtain ⟨k, hk, rfl, hbr, hall⟩ := hrel
  obtain ⟨wo, rfl⟩ : ∃ x, x = wr := ⟨_, rfl⟩
  by_cases hlt : k < m
  · obtain ⟨ad, κ, v, B', b', l, C', c', mm, rfl, hx, ⟨d0, d1, d2, d3⟩, _, _⟩ := (hE_h.out.below hbr).at_ (j := k) (by rw [← hm_h.out]; exact hlt)
    have hxe : es[k]? = some (κ, v, l, mm) := by rw [a1_h.out, List.getElem?_map, hx]; rfl
    have hkI : (k : Int) < (m : Int) := by omega
    have hbo := below_trans hbq_h.out hbr hbq_h.out.size
    obtain ⟨wN, hwN⟩ : ∃ wN, wN = wo.alloc (.cells #[.int .i64 κ, .int .i64 v, .slice B' l.length b', .slice C' mm.length c'] tEd) := ⟨_, rfl⟩
    have hbN : Below wo.heap.size wo wN := by rw [hwN]; exact below_alloc _ _
    have kN : wN.heap[wo.heap.size]? = some (.cells #[.int .i64 κ, .int .i64 v, .slice B' l.length b', .slice C' mm.length c'] tEd) := by rw [hwN]; exact heap_alloc_new _ _
    have hba := below_trans hbo hbN hbo.size
    have hbr2 := below_trans hbr hbN hbr.size
    have hnx : ∀ (e : Eg), (fun e : Eg => noDl e.1) (κ, v, l, mm) = true → es[k]? = some e → (fun e : Eg => noDl e.1) e = true := fun e he h2 => by rw [hxe] at h2; obtain rfl := Option.some.inj h2; exact he
    have hall2 : (fun e : Eg => noDl e.1) (κ, v, l, mm) = true → ∀ (j : Nat) (e : Eg), es[j]? = some e → j < k + 1 → (fun e : Eg => noDl e.1) e = true := fun he j e h2 h3 => by
     rcases Nat.lt_or_ge j k with h4 | h4
     · exact hall j e h2 h4
     · obtain rfl : j = k := by omega
       exact hnx e he h2
    obtain ⟨⟨e0, e1, e2, e3⟩, j0, j1, j2, j3⟩ := box4 kN
    have hCV := fun W' => isDelay_any κ W'
    clear hx hall hnx kN hbN
    cases hh : noDl κ
    · rw [hh] at hCV
      have hfin := hDN_h.out (allE_no hxe hh)
      subst hfin
      clear hall2; have hbr2_h := lH hbr2; have hbr_h := lH hbr; have hba_h := lH hba; have hbo_h := lH hbo; have hxe_h := lH hxe; have hCV_h := lH hCV; clear hbr2 hbr hba hbo hxe hCV
      go_upto_region 6 with (fail)
      rw [← hwN]
      clear hwN d0 d1 d2 d3
      go_wp2_with (fail)
      refine (hCV_h.out _).mono ?_
      rintro e w' ⟨rfl, hw'⟩
      subst hw'
      go_wp2_with (fail)
      go_ret
      exact ⟨rfl, hba_h.out⟩
    · rw [hh] at hCV
      have hall3 := hall2 hh
      clear hall2; have hall3_h := lH hall3; have hbr2_h := lH hbr2; have hbr_h := lH hbr; have hba_h := lH hba; have hbo_h := lH hbo; have hxe_h := lH hxe; have hCV_h := lH hCV; clear hall3 hbr2 hbr hba hbo hxe hCV
      go_upto_region 6 with (fail)
      rw [← hwN]
      clear hwN d0 d1 d2 d3
      go_wp2_with (fail)
      refine (hCV_h.out _).mono ?_
      rintro e w' ⟨rfl, hw'⟩
      subst hw'
      go_wp2_with (fail)
      go_roundw
      case rel => exact ⟨k + 1, by omega, by go_num, hbr2_h.out, hall3_h.out⟩
      case measure => simp [intOf]; omega
  · obtain rfl : m = k := by omega
    have hyes := allE_yes (f := (fun e : Eg => noDl e.1)) (l := es) fun j e h1 h2 => hall j e h1 (by rw [← hmes_h.out]; exact h2)
    have hbo := below_trans hbq_h.out hbr hbq_h.out.size
    have hfin := hDD_h.out hyes
    subst hfin
    clear hall; have hbo_h := lH hbo; clear hbo
    go_wp2_with (fail)
    go_ret
    exact ⟨rfl, hbo_h.out⟩
end Go.Proofs.YtahnhblodfdfhaaGreatDoor
namespace Go.Proofs.YtahnhblodfdfhaaGreatDoor
open Go.RowKit Go.Shelf
structure CellsKept (n0 : Nat) (A B : World) : Prop where
 os : B.os = A.os
 tape : B.tape = A.tape
 output : B.output = A.output
 size : A.heap.size ≤ B.heap.size
 same : ∀ (b : Nat) (o : Obj), A.heap[b]? = some o → o.isCells = true → B.heap[b]? = some o
 low : ∀ b, b < n0 → b < A.heap.size → B.heap[b]? = A.heap[b]?
theorem CellsKept.of_below {n0 : Nat} {A B : World} (h : Below A.heap.size A B) : CellsKept n0 A B := ⟨h.os, h.tape, h.output, h.size, fun b _ hb _ => (h.block b (Array.getElem?_eq_some_iff.1 hb).1).trans hb, fun b _ hb => h.block b hb⟩
theorem CellsKept.putObj {n0 : Nat} {W : World} {l : Nat} {o : Obj} (o' : Obj) (hl : W.heap[l]? = some o) (ho : o.isCells = false) (hn : n0 ≤ l) : CellsKept n0 W (W.putObj l o') := by
 refine ⟨rfl, rfl, rfl, ?_, fun b x hb hx => ?_, fun b hb _ => World.putObj_heap_other (by omega)⟩
 · exact (grownBy_putObj' W l o').size
 · rw [World.putObj_heap_other]
   · exact hb
   · intro e
     subst e
     rw [hl] at hb
     cases hb
     rw [ho] at hx
     cases hx
theorem CellsKept.below {n0 : Nat} {w A B : World} (h : CellsKept n0 A B) (hb : Below n0 w A) (hn : n0 ≤ w.heap.size) : Below n0 w B :=
 ⟨h.os.trans hb.os, h.tape.trans hb.tape, h.output.trans hb.output, Nat.le_trans hb.size h.size, fun b hk => (h.low b hk (Nat.lt_of_lt_of_le hk (Nat.le_trans hn hb.size))).trans (hb.block b hk)⟩
theorem CellsKept.mono0 {n0 m0 : Nat} {A B : World} (h : CellsKept n0 A B) (hm : m0 ≤ n0) : CellsKept m0 A B := ⟨h.os, h.tape, h.output, h.size, h.same, fun b hb => h.low b (Nat.lt_of_lt_of_le hb hm)⟩
theorem CellsKept.sl {n0 : Nat} {A B : World} (h : CellsKept n0 A B) {e : TypeId} {sz n cap : Nat} {C : Option Addr} {xs : List Value} (hs : Sl A e sz C n cap xs) : Sl B e sz C n cap xs := by
 obtain ⟨h1, h2, h3, h4⟩ := hs
 refine ⟨h1, h2, h3, ?_⟩
 rcases h4 with h4 | ⟨g, off, cur, h5, h6, h7⟩
 · exact .inl h4
 · exact .inr ⟨g, off, cur, h5, h.same _ _ h6 rfl, h7⟩
def blk : Value → List Nat
 | .slice A _ _ => fpA A
 | _ => []
theorem Sl.is_cells {w : World} {e : TypeId} {sz n cap : Nat} {A : Option Addr} {xs : List Value} (h : Sl w e sz A n cap xs) : ∀ b, b ∈ fpA A → ∃ o : Obj, w.heap[b]? = some o ∧ o.isCells = true := by
 intro b hb
 rcases h.2.2.2 with ⟨rfl, _⟩ | ⟨g, off, cur, rfl, hg, _⟩
 · simp at hb
 · simp at hb
   subst hb
   exact ⟨_, hg, rfl⟩
def SeqT (F : Fence) (n : Nat) (P : Program) (g : Nat) (lb : Array Value) (X : Nat → Prop) (E : Nat → World → (Nat → Prop) → Value → Prop) (N : Nat) (w : World) : Prop :=
 ∀ (l : Nat) (J : Nat → (Nat → Prop) → World → Prop) (Jx : World → Prop) (W : World) (T : Nat → Prop), Below w.heap.size w W → (∀ b, T b → ¬ X b ∧ b < W.heap.size) →
   (∀ k T A B, J k T A → Below A.heap.size A B → J k T B) →
   (∀ k T A v, k < N → J k T A → E k A T v → YieldAt F (n - 1) P l #[v] A fun e B =>
    (e = .returned (.bool true) ∧ ∃ T', J (k + 1) T' B ∧ Keeps T A B ∧ ∀ b, T' b → (T b ∨ A.heap.size ≤ b ∨ b ∈ blk v) ∧ b < B.heap.size) ∨ (e = .returned (.bool false) ∧ Jx B)) →
   J 0 T W → CallsIn F n P g (#[.func (.yield l) #[] #[]] ++ lb) W fun e B => (∃ v, e = .returned v) ∧ ((∃ T', J N T' B) ∨ Jx B)
def postT (I : Nat → (Nat → Prop) → World → Prop) (Ix : Code → World → Prop) (k : Nat) (T : Nat → Prop) (v : Value) (W : World) : Exit → Act → World → Prop
 | .normal, _, W' => KeepsOthers W W' ∧ ∃ T', I (k + 1) T' W' ∧ Keeps T W W' ∧ ∀ b, T' b → (T b ∨ W.heap.size ≤ b ∨ b ∈ blk v) ∧ b < W'.heap.size
 | .ret, _, W' => KeepsOthers W W' ∧ Ix .ret W'
 | .exit id, _, W' => KeepsOthers W W' ∧ Ix (.exit id) W'
 | .goto t, _, W' => KeepsOthers W W' ∧ Ix (.goto t) W'
 | .panic _, _, _ => False
 | .outgrown, _, _ => False
theorem wpIn_rangeFuncT {F : Fence} {n : Nat} {P : Program} {g : Operand} {ps : Array Tmp} {assign body : Code} {Q : Exit → Act → World → Prop} {a : Act} {w : World}
  (hro : F.round = none) (h1 : 1 ≤ n) {gf : Nat} {lb : Array Value} (hg : a.eval g = .func (.func gf) #[] lb) (hFg : F.fn gf) (eg : ∀ args w, (callFunc gf args).run P w = .ok (.enter gf args) w)
  {X : Nat → Prop} {E : Nat → World → (Nat → Prop) → Value → Prop} {N : Nat} (hseq : SeqT F (n - 1) P gf lb X E N w) (hps : ps.size = 1)
  (I : Nat → (Nat → Prop) → World → Prop) (Ix : Code → World → Prop) (hI : ∀ k T A B, I k T A → CellsKept w.heap.size A B → I k T B) (hIx : ∀ c A B, Ix c A → CellsKept w.heap.size A B → Ix c B)
  (hE : ∀ k T A B v, E k A T v → CellsKept w.heap.size A B → E k B T v)
  (hEb : ∀ k T A v, E k A T v → ∀ b, b ∈ blk v → ∃ o : Obj, A.heap[b]? = some o ∧ o.isCells = true)
  (T0 : Nat → Prop) (hT0 : ∀ b, T0 b → ¬ X b ∧ b < w.heap.size) (h0 : I 0 T0 w)
  (hround : ∀ (l : Nat) (k : Nat) (T : Nat → Prop) (x : Value) (W : World), k < N → I k T W → E k W T x → ∀ (K : Act → World → Prop),
   (∀ a1, (∀ W', I k T W' → E k W' T x → body.wpIn (F.inRound l) (n - 1 - 1) P (postT I Ix k T x W') a1 W') → K a1 W) →
   assign.wpIn (F.inRound l) (n - 1 - 1) P (Exit.then K (fun _ _ _ => False)) { tmps := (ps.zip #[x]).foldl (fun t (p, v) => t.setIfInBounds p v) a.tmps, defers := [] } W)
  (hdone : ∀ (D : Nat) (T : Nat → Prop) (W : World), I N T W → W.heap[D]? = some (.deferred (some [])) → w.heap.size ≤ D → Q .normal { a with defers := { target := .collected D, args := #[] } :: a.defers } W)
  (hstop : ∀ (D : Nat) (c : Code) (W : World), Ix c W → W.heap[D]? = some (.deferred (some [])) → w.heap.size ≤ D → c.wpIn F n P Q { a with defers := { target := .collected D, args := #[] } :: a.defers } W) :
  (Code.rangeFunc g ps assign body).wpIn F n P Q a w := by
 refine wpIn_rangeFunc ?_
 intro fn hfn
 rw [hro]
 obtain ⟨rec, hrec⟩ : ∃ rec : LoopState → Option Code → Loop, rec = fun st pe => { state := st, pending := pe, fn, tmps := a.tmps, params := ps, assign, body, defers := w.heap.size } := ⟨_, rfl⟩
 obtain ⟨W1, hW1⟩ : ∃ W1, (w.alloc (.deferred (some []))).alloc (.loop (rec .ready none)) = W1 := ⟨_, rfl⟩
 have hb1 : Below w.heap.size w W1 := by
  rw [← hW1]; exact ((Below.refl _ w).alloc (Nat.le_refl _) _).alloc (by simp) _
 have hz1 : W1.heap.size = w.heap.size + 1 + 1 := by rw [← hW1]; simp
 have hL1 : W1.heap[w.heap.size + 1]? = some (.loop (rec .ready none)) := by
  rw [← hW1]; have := World.alloc_heap_new (w.alloc (.deferred (some []))) (.loop (rec .ready none)); rwa [World.size_alloc] at this
 have hK1 : W1.heap[w.heap.size]? = some (.deferred (some [])) := by
  rw [← hW1]; exact (Below.heap_alloc _ _ _ (by simp)).trans (World.alloc_heap_new w _)
 have hI1 : I 0 T0 W1 := hI _ _ _ _ h0 (CellsKept.of_below hb1)
 refine ⟨w.heap.size + 1, [{ target := .collected w.heap.size, args := #[] }], W1, { target := .fn (.func gf) lb, args := #[.func (.yield (w.heap.size + 1)) #[] #[]] }, W1, gf,
  #[.func (.yield (w.heap.size + 1)) #[] #[]] ++ lb, W1, ?_, ?_, ?_, ?_, fun _ => h1, ?_⟩
 · rw [← hW1, hrec]; exact run_enterLoop_outer _ _ _ _ _
 · simp only [resolve, hg]
   simp [go_sem]
 · intro f' hf'; simp [Target.leads] at hf'; subst hf'; exact hFg
 · simp [invoke, go_sem, eg]
 · refine (hseq (w.heap.size + 1)
    (fun k T W => I k T W ∧ W.heap[w.heap.size + 1]? = some (.loop (rec .ready none)) ∧ W.heap[w.heap.size]? = some (.deferred (some [])) ∧ ∀ b, T b → b ≠ w.heap.size ∧ b ≠ w.heap.size + 1)
    (fun W => ∃ c, Ix c W ∧ W.heap[w.heap.size + 1]? = some (.loop (rec .done (some c))) ∧ W.heap[w.heap.size]? = some (.deferred (some [])))
    W1 T0 hb1 (fun b hb => ⟨(hT0 b hb).1, by have := (hT0 b hb).2; omega⟩)
    (fun k T A B h hb => ⟨hI _ _ _ _ h.1 (CellsKept.of_below hb), (hb.block _ (Array.getElem?_eq_some_iff.1 h.2.1).1).trans h.2.1, (hb.block _ (Array.getElem?_eq_some_iff.1 h.2.2.1).1).trans h.2.2.1, h.2.2.2⟩)
    ?_ ⟨hI1, hL1, hK1, fun b hb => by have := (hT0 b hb).2; omega⟩).mono ?_
   · -- one round
     rintro k T W v hk ⟨hi, hl, hd, hTn⟩ hEv
     have hlt : w.heap.size + 1 < W.heap.size := (Array.getElem?_eq_some_iff.1 hl).1
     have hy := run_yield (P := P) (args := #[v]) hl (by rw [hrec]; simp [hps])
     rw [hrec] at hy
     refine ⟨fn, _, assign, body, hy, roundIn_of_wpIn hfn (hround _ k T v W hk hi hEv _ (fun a1 hbody => ⟨_, run_beginRound hl (by rw [hrec]), ?_⟩))⟩
     have hl2 : (W.putObj (w.heap.size + 1) (.loop { rec .ready none with state := .busy })).heap[w.heap.size + 1]? = some (.loop { rec .ready none with state := .busy }) := World.putObj_heap_same hlt
     have hk2 : (W.putObj (w.heap.size + 1) (.loop { rec .ready none with state := .busy })).heap[w.heap.size]? = some (.deferred (some [])) := (World.putObj_heap_other (by omega)).trans hd
     have hC2 := CellsKept.putObj (n0 := w.heap.size) (.loop { rec .ready none with state := .busy }) hl rfl (by omega)
     refine wpIn_mono (hbody _ (hI _ _ _ _ hi hC2) (hE _ _ _ _ _ hEv hC2)) ?_
     have fin : ∀ (jump : Option Code) (W3 : World), KeepsOthers (W.putObj (w.heap.size + 1) (.loop { rec .ready none with state := .busy })) W3 →
       (Instr.endRound (w.heap.size + 1) jump).run P W3 = .ok (.bool jump.isNone) (W3.putObj (w.heap.size + 1) (.loop (rec (if jump.isNone then .ready else .done) jump))) ∧
       W3.heap[w.heap.size + 1]? = some (.loop { rec .ready none with state := .busy }) ∧
       (W3.putObj (w.heap.size + 1) (.loop (rec (if jump.isNone then .ready else .done) jump))).heap[w.heap.size + 1]? = some (.loop (rec (if jump.isNone then .ready else .done) jump)) ∧
       (W3.putObj (w.heap.size + 1) (.loop (rec (if jump.isNone then .ready else .done) jump))).heap[w.heap.size]? = some (.deferred (some [])) := fun jump W3 hk3 => by
      have hl3 := hk3.same _ _ hl2 rfl
      have := run_endRound (P := P) jump hl3
      rw [hrec] at this ⊢
      exact ⟨this, by rw [hrec] at hl3; exact hl3, World.putObj_heap_same (Array.getElem?_eq_some_iff.1 hl3).1, (World.putObj_heap_other (by omega)).trans (hk3.same _ _ hk2 rfl)⟩
     rintro e a3 W3 hp
     cases e with
     | normal =>
       obtain ⟨hk3, T', hi3, hkT, hT'⟩ := hp
       obtain ⟨hr, hl3, hl4, hk4⟩ := fin none W3 hk3
       have hzW : ∀ o, (W.putObj (w.heap.size + 1) o).heap.size = W.heap.size := fun o => by simp [World.putObj]
       have hz3 : (W3.putObj (w.heap.size + 1) (.loop (rec .ready none))).heap.size = W3.heap.size := by simp [World.putObj]
       have hT2 : ∀ b, T' b → (T b ∨ W.heap.size ≤ b ∨ b ∈ blk v) ∧ b < W3.heap.size := fun b hb => by have := hT' b hb; rwa [hzW] at this
       refine ⟨_, _, hr, .inl ⟨rfl, T', ⟨hI _ _ _ _ hi3 (CellsKept.putObj _ hl3 rfl (by omega)), hl4, hk4, fun b hb => ?_⟩, ?_, fun b hb => ?_⟩⟩
       · rcases (hT2 b hb).1 with h | h | h
         · exact hTn b h
         · omega
         · obtain ⟨o, ho, hc⟩ := hEb _ _ _ _ hEv b h
           exact ⟨fun e => (by subst e; rw [hd] at ho; cases ho; cases hc), fun e => (by subst e; rw [hl] at ho; cases ho; cases hc)⟩
       · refine ⟨hkT.os, hkT.tape, hkT.output, ?_, fun b hb hnT => ?_⟩
         · have h3 := hkT.size
           rw [hzW] at h3
           show _ ≤ (W3.putObj (w.heap.size + 1) (.loop (rec .ready none))).heap.size
           omega
         · by_cases e : b = w.heap.size + 1
           · subst e
             exact hl4.trans hl.symm
           · show (W3.putObj (w.heap.size + 1) (.loop (rec .ready none))).heap[b]? = _
             rw [World.putObj_heap_other e, hkT.block b (by rw [hzW]; exact hb) hnT, World.putObj_heap_other e]
       · have := hT2 b hb
         exact ⟨this.1, by show b < (W3.putObj (w.heap.size + 1) (.loop (rec .ready none))).heap.size; omega⟩
     | ret =>
       obtain ⟨hk3, hi3⟩ := hp
       obtain ⟨hr, hl3, hl4, hk4⟩ := fin (some .ret) W3 hk3
       exact ⟨_, _, hr, .inr ⟨rfl, .ret, hIx _ _ _ hi3 (CellsKept.putObj _ hl3 rfl (by omega)), hl4, hk4⟩⟩
     | exit id =>
       obtain ⟨hk3, hi3⟩ := hp
       obtain ⟨hr, hl3, hl4, hk4⟩ := fin (some (.exit id)) W3 hk3
       exact ⟨_, _, hr, .inr ⟨rfl, .exit id, hIx _ _ _ hi3 (CellsKept.putObj _ hl3 rfl (by omega)), hl4, hk4⟩⟩
     | goto t =>
       obtain ⟨hk3, hi3⟩ := hp
       obtain ⟨hr, hl3, hl4, hk4⟩ := fin (some (.goto t)) W3 hk3
       exact ⟨_, _, hr, .inr ⟨rfl, .goto t, hIx _ _ _ hi3 (CellsKept.putObj _ hl3 rfl (by omega)), hl4, hk4⟩⟩
     | panic ch => exact hp.elim
     | outgrown => exact hp.elim
   · -- behind the iterator
     rintro e W2 ⟨⟨v, rfl⟩, (⟨T', hi, hl, hk, _⟩ | ⟨c, hi, hl, hk⟩)⟩
     · exact ⟨none, _, by have := run_endLoop (P := P) hl (by rw [hrec]; simp); rw [hrec] at this; exact this, hdone _ T' _ (hI _ _ _ _ hi (CellsKept.putObj _ hl rfl (by omega))) ((World.putObj_heap_other (by omega)).trans hk) (Nat.le_refl _)⟩
     · exact ⟨some c, _, by have := run_endLoop (P := P) hl (by rw [hrec]; simp); rw [hrec] at this; exact this, hstop _ c _ (hIx _ _ _ hi (CellsKept.putObj _ hl rfl (by omega))) ((World.putObj_heap_other (by omega)).trans hk) (Nat.le_refl _)⟩
theorem postM_mark {F : Fence} {n : Nat} {P : Program} {fn : Func} {R : Ending → World → Prop} {a : Act} {w : World} {v : Value} {D : Nat} (hd : a.defers = [{ target := .collected D, args := #[] }]) (hD : w.heap[D]? = some (.deferred (some [])))
  (h : (results fn a.tmps).run P (w.putObj D (.deferred none)) = .ok v (w.putObj D (.deferred none))) (hR : R (.returned v) (w.putObj D (.deferred none))) : bodyPostM F n P fn R .ret a w := by
 show LeavesInM F n P fn a.tmps R a.defers .returning w
 rw [hd]
 exact ⟨by simp, .inl ⟨D, _, rfl, run_takeDeferred hD, v, h, hR⟩⟩
end Go.Proofs.YtahnhblodfdfhaaGreatDoor
