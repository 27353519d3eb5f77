/-
  What the texts above it need, part 3.
-/
import Derived.Test.YtpkmjenoniedjaaKImageGraph2
import Derived.RangeFuncNested
import Derived.RangeFuncBound
import Derived.RangeFuncCalls
import Derived.RangeFuncLeaves
import Derived.RangeFuncBox
import Derived.Shelf.Abstract
import Derived.Shelf.RegionOpen
import Derived.OwnWalkIn
import Derived.TacticsInMore
import Derived.LoopNIn
import Derived.LoopIn
import Derived.Maps.AppendAt
import Derived.Shelf.Sort.Plain
import Derived.Shelf.Slices.In.SortNone
namespace Go.Proofs.Ytpkmjenoniedjaa
def rankL (l : List Int) (x : Nat) : Nat := ((List.range x).filter fun y : Nat => l.contains (y : Int)).length
def memL (l : List Int) (n : Nat) : List Nat := (List.range n).filter fun y : Nat => l.contains (y : Int)
theorem rankL_succ (l : List Int) (x : Nat) : rankL l (x + 1) = rankL l x + (if l.contains (x : Int) then 1 else 0) := by
 unfold rankL
 rw [List.range_succ, List.filter_append, List.length_append]
 congr 1
 by_cases h : l.contains (x : Int) = true
 · simp only [List.filter_cons, h, if_true, List.filter_nil, List.length_singleton]
 · rw [if_neg h]; simp only [List.filter_cons, h, List.filter_nil]; rfl
theorem memL_rank {l : List Int} {n x : Nat} (hx : x < n) (h : l.contains (x : Int) = true) : (memL l n)[rankL l x]? = some x := by
 induction n with
 | zero => omega
 | succ n ih =>
   unfold memL
   rw [List.range_succ, List.filter_append]
   by_cases e : x = n
   · subst e
     rw [List.getElem?_append_right (by unfold rankL; exact Nat.le_refl _)]
     have : rankL l x - ((List.range x).filter fun y : Nat => l.contains (y : Int)).length = 0 := by unfold rankL; omega
     rw [this]
     simp only [List.filter_cons, h, if_true, List.filter_nil, List.getElem?_cons_zero]
   · have hxn : x < n := by omega
     have := ih hxn
     unfold memL at this
     have hlt : rankL l x < ((List.range n).filter fun y : Nat => l.contains (y : Int)).length := (List.getElem?_eq_some_iff.1 this).1
     rw [List.getElem?_append_left hlt]
     exact this
theorem rankL_lt {l : List Int} {n x : Nat} (hx : x < n) (h : l.contains (x : Int) = true) : rankL l x < rankL l n := (List.getElem?_eq_some_iff.1 (memL_rank hx h)).1
theorem memL_len {l : List Int} {n : Nat} (hn : l.Nodup) (h : ∀ x, x ∈ l → 0 ≤ x ∧ x < (n : Int)) : (memL l n).length = l.length := by
 have hp : (memL l n).map (fun y : Nat => (y : Int)) |>.Perm l := by
  rw [List.perm_ext_iff_of_nodup ?_ hn]
  · intro a
    simp only [memL, List.mem_map, List.mem_filter, List.mem_range, List.contains_iff_mem]
    constructor
    · rintro ⟨y, ⟨_, h2⟩, rfl⟩; exact h2
    · intro ha; have := h a ha; exact ⟨a.toNat, ⟨by omega, by rw [show ((a.toNat : Nat) : Int) = a by omega]; exact ha⟩, by omega⟩
  · have hr : ((List.range n).filter fun y : Nat => l.contains (y : Int)).Nodup := List.nodup_range.filter _
    rw [List.nodup_iff_pairwise_ne, List.pairwise_map]
    exact (List.nodup_iff_pairwise_ne.1 hr).imp fun {a b} hab e => hab (by omega)
 have := hp.length_eq
 rwa [List.length_map] at this
def plcL (l : List Int) : List Int := l.map fun x => (rankL l x.toNat : Int)
def numL (l : List Int) (n : Nat) : List Int := (List.range n).map fun w : Nat => if l.contains (w : Int) then (rankL l w : Int) else 0
theorem rankL_inj {l : List Int} {x y : Nat} (hx : l.contains (x : Int) = true) (hy : l.contains (y : Int) = true) (h : rankL l x = rankL l y) : x = y := by
 have h1 := memL_rank (n := max x y + 1) (by omega) hx
 have h2 := memL_rank (n := max x y + 1) (by omega) hy
 rw [h, h2] at h1
 exact (Option.some.inj h1).symm
section
variable {l : List Int} {n : Nat}
theorem plcL_perm (hn : l.Nodup) (h : ∀ x, x ∈ l → 0 ≤ x ∧ x < (n : Int)) : permB (plcL l) = true := by
 refine permB_of ?_ fun k hk => ?_
 · unfold plcL
   rw [List.nodup_iff_pairwise_ne, List.pairwise_map]
   refine (List.nodup_iff_pairwise_ne.1 hn).imp_of_mem fun {a b} ha hb hab e => hab ?_
   have h1 := h a ha; have h2 := h b hb
   have := rankL_inj (l := l) (x := a.toNat) (y := b.toNat) (by rw [List.contains_iff_mem, show ((a.toNat : Nat) : Int) = a by omega]; exact ha) (by rw [List.contains_iff_mem, show ((b.toNat : Nat) : Int) = b by omega]; exact hb) (by omega)
   omega
 · unfold plcL at hk ⊢
   obtain ⟨x, hx, rfl⟩ := List.mem_map.1 hk
   have h1 := h x hx
   have := rankL_lt (l := l) (n := n) (x := x.toNat) (by omega) (by rw [List.contains_iff_mem, show ((x.toNat : Nat) : Int) = x by omega]; exact hx)
   have h2 := memL_len hn h
   rw [List.length_map]
   unfold memL at h2
   unfold rankL at this ⊢
   omega
theorem numL_mem {x : Int} (hx : x ∈ l) (h : 0 ≤ x ∧ x < (n : Int)) : (numL l n).getD x.toNat 0 = (rankL l x.toNat : Int) := by
 have e : ((x.toNat : Nat) : Int) = x := by omega
 rw [List.getD_eq_getElem?_getD, numL, List.getElem?_map, List.getElem?_range (by omega)]
 simp only [Option.map_some, Option.getD_some]
 rw [if_pos (by rw [List.contains_iff_mem, e]; exact hx)]
theorem mapL_plc (h : ∀ x, x ∈ l → 0 ≤ x ∧ x < (n : Int)) {s : List Int} (hs : ∀ w, w ∈ s → 0 ≤ w ∧ w < (l.length : Int)) : mapL (plcL l) s = mapL (numL l n) (mapL l s) := by
 unfold mapL
 rw [List.map_map]
 refine List.map_congr_left fun w hw => ?_
 have h1 := hs w hw
 have hlt : w.toNat < l.length := by omega
 show (plcL l).getD w.toNat 0 = (numL l n).getD (l.getD w.toNat 0).toNat 0
 have e : l.getD w.toNat 0 = l[w.toNat] := by rw [List.getD_eq_getElem?_getD, List.getElem?_eq_getElem hlt]; rfl
 have hm : l[w.toNat] ∈ l := List.getElem_mem hlt
 rw [e, numL_mem hm (h _ hm), plcL, List.getD_eq_getElem?_getD, List.getElem?_map, List.getElem?_eq_getElem hlt]
 rfl
end
theorem lay_get {α : Type} {d : α} {p : List Int} {xs : List α} (hp : permB p = true) (hl : p.length = xs.length) : ∀ k, k ≤ xs.length → ∀ i, i < k → (lay d p xs k)[(p.getD i 0).toNat]? = xs[i]?
 | 0, _, i, hi => by omega
 | k + 1, hk, i, hi => by
   have hin := perm_in hp
   have hnd := perm_nodup hp
   have hlen : (lay d p xs k).length = xs.length := by
    exact lay_length k
   have hpk : k < p.length := by omega
   have hpi : i < p.length := by omega
   have ek : p.getD k 0 = p[k] := by rw [List.getD_eq_getElem?_getD, List.getElem?_eq_getElem hpk]; rfl
   have ei : p.getD i 0 = p[i] := by rw [List.getD_eq_getElem?_getD, List.getElem?_eq_getElem hpi]; rfl
   have bk := hin _ (List.getElem_mem hpk)
   have bi := hin _ (List.getElem_mem hpi)
   have hxk : k < xs.length := by omega
   unfold lay
   by_cases e : i = k
   · subst e
     rw [List.getElem?_set_self (by rw [hlen, ek]; omega), List.getD_eq_getElem?_getD, List.getElem?_eq_getElem hxk]; rfl
   · have hne : (p.getD k 0).toNat ≠ (p.getD i 0).toNat := fun ee => by
      rw [ek, ei] at ee
      exact e ((List.getElem_inj (i := i) (j := k) hnd).1 (by omega))
     rw [List.getElem?_set_ne hne]
     exact lay_get hp hl k (by omega) i (by omega)
theorem lay_eq {α : Type} {d : α} {p : List Int} {xs ys : List α} (hp : permB p = true) (hl : p.length = xs.length) (hy : ys.length = xs.length) (h : ∀ i, i < xs.length → ys[(p.getD i 0).toNat]? = xs[i]?) : lay d p xs xs.length = ys := by
 have hlen : (lay d p xs xs.length).length = xs.length := (lay_all (d := d) hp hl).length_eq
 refine List.ext_getElem? fun j => ?_
 by_cases hj : j < xs.length
 · have hm := perm_full (n := xs.length) (perm_nodup hp) (fun k hk => by have := perm_in hp k hk; omega) hl hj
   obtain ⟨i, hi, e⟩ := List.mem_iff_getElem.1 hm
   have ei : (p.getD i 0).toNat = j := by rw [List.getD_eq_getElem?_getD, List.getElem?_eq_getElem hi, e]; simp
   have h1 := lay_get (d := d) hp hl xs.length (Nat.le_refl _) i (by omega)
   have h2 := h i (by omega)
   rw [ei] at h1 h2
   rw [h1, h2]
 · rw [List.getElem?_eq_none (by omega), List.getElem?_eq_none (by omega)]
theorem edW_in : ∀ {l : List Eg} {e : Eg} {x : Int}, e ∈ l → x ∈ e.2.2.1 ++ e.2.2.2 → x ∈ edW l
 | [], e, x, he, _ => by cases he
 | a :: r, e, x, he, hx => by
   simp only [edW, List.mem_append]
   rcases List.mem_cons.1 he with rfl | he
   · rcases List.mem_append.1 hx with hx | hx
     · exact .inl hx
     · exact .inr (.inl hx)
   · exact .inr (.inr (edW_in he hx))
def partG (g pt : Gr) (m : Ma) : Gr := (g.1, (memL m.2 g.2.1.length).map fun f => g.2.1.getD f eg0, mapL m.1 pt.2.2.1, mapL m.1 pt.2.2.2)
def imgG (pt : Gr) (m : Ma) : Gr := renG pt (plcL m.1) (plcL m.2)
theorem img_eq {g pt : Gr} {m : Ma} {n : Nat} (hn : g.1 = (n : Int)) (hp : grB pt = true) (hm : maB g pt m = true) : imgG pt m = mapG (numL m.1 n) (rankL m.1 n : Int) (partG g pt m) := by
 unfold maB at hm
 simp only [Bool.and_eq_true, decide_eq_true_eq] at hm
 obtain ⟨⟨l1, l2⟩, ⟨d1, d2⟩, hat⟩ := hm
 rw [hn] at d1
 obtain ⟨b1, nd1⟩ := difB_iff.1 d1
 obtain ⟨b2, nd2⟩ := difB_iff.1 d2
 have hW : ∀ x, x ∈ t_allW pt → 0 ≤ x ∧ x < (m.1.length : Int) := by
  unfold grB at hp
  simp only [Bool.and_eq_true] at hp
  rw [l1]
  exact inW_iff.1 hp.2.2.1
 have hedge : ∀ e, e ∈ pt.2.1 → mapE (plcL m.1) e = mapE (numL m.1 n) (mapE m.1 e) := fun e he => by
  have h1 : ∀ x, x ∈ e.2.2.1 ++ e.2.2.2 → 0 ≤ x ∧ x < (m.1.length : Int) := fun x hx => by
   refine hW x ?_
   unfold t_allW
   refine List.mem_append_right _ (List.mem_append_right _ ?_)
   exact edW_in he hx
  unfold mapE
  rw [mapL_plc b1 fun w hw => h1 w (List.mem_append_left _ hw), mapL_plc b1 fun w hw => h1 w (List.mem_append_right _ hw)]
 unfold imgG renG mapG partG
 have e1 : pt.1 = (rankL m.1 n : Int) := by
  rw [← l1, ← memL_len nd1 b1]; rfl
 have e3 : mapL (plcL m.1) pt.2.2.1 = mapL (numL m.1 n) (mapL m.1 pt.2.2.1) := mapL_plc b1 fun w hw => hW w (List.mem_append_left _ hw)
 have e4 : mapL (plcL m.1) pt.2.2.2 = mapL (numL m.1 n) (mapL m.1 pt.2.2.2) := mapL_plc b1 fun w hw => hW w (List.mem_append_right _ (List.mem_append_left _ hw))
 have e2 : lay eg0 (plcL m.2) (pt.2.1.map (mapE (plcL m.1))) pt.2.1.length = ((memL m.2 g.2.1.length).map fun f => g.2.1.getD f eg0).map (mapE (numL m.1 n)) := by
  have hl : (plcL m.2).length = (pt.2.1.map (mapE (plcL m.1))).length := by unfold plcL; simp [l2]
  have := lay_eq (d := eg0) (xs := pt.2.1.map (mapE (plcL m.1))) (ys := ((memL m.2 g.2.1.length).map fun f => g.2.1.getD f eg0).map (mapE (numL m.1 n))) (plcL_perm nd2 b2) hl (by simp [memL_len nd2 b2, l2]) fun i hi => ?_
  · rw [List.length_map] at this; exact this
  · rw [List.length_map] at hi
    have hi2 : i < m.2.length := by omega
    have hmem : m.2[i] ∈ m.2 := List.getElem_mem hi2
    have hb := b2 _ hmem
    have ex : ((m.2[i].toNat : Nat) : Int) = m.2[i] := by omega
    have hp1 : (plcL m.2).getD i 0 = (rankL m.2 m.2[i].toNat : Int) := by
     unfold plcL; rw [List.getD_eq_getElem?_getD, List.getElem?_map, List.getElem?_eq_getElem hi2]; rfl
    have hr := memL_rank (l := m.2) (n := g.2.1.length) (x := m.2[i].toNat) (by omega) (by rw [List.contains_iff_mem, ex]; exact hmem)
    have hai := List.all_eq_true.1 hat i (List.mem_range.2 hi)
    unfold atB at hai
    rw [decide_eq_true_eq] at hai
    have hgi : m.2.getD i 0 = m.2[i] := by rw [List.getD_eq_getElem?_getD, List.getElem?_eq_getElem hi2]; rfl
    have hpi : pt.2.1.getD i eg0 = pt.2.1[i] := by rw [List.getD_eq_getElem?_getD, List.getElem?_eq_getElem hi]; rfl
    rw [hgi, hpi] at hai
    rw [hp1, Int.toNat_natCast, List.getElem?_map, List.getElem?_map, hr, List.getElem?_map, List.getElem?_eq_getElem hi]
    simp only [Option.map_some]
    rw [hedge _ (List.getElem_mem hi), hai]
 rw [e2, e3, e4, e1]
open Go.RowKit
set_option maxHeartbeats 2000000 in
theorem l1Has_any (A : Option Addr) (c m : Nat) (l : List Int) (x : Int) (w : World) (h : RdI w A l) (hm : l.length = m) (hl : m ≤ 1048576) :
  Calls Try.prog 19 #[.slice A m c, .int .i64 x] w fun e w' => e = .returned (.bool (l.contains x)) ∧ w' = w := by
 obtain ⟨T, hT⟩ : ∃ T, T = l.contains x := ⟨_, rfl⟩
 rw [← hT]
 have hT_h := lH hT; have hm_h := lH hm; clear hT hm
 go_enter Try.func19, Try.ntmps19
 go_wp2_with (fail)
 go_loopw [9] (fun i wr => ∃ k : Nat, k ≤ m ∧ i = .int .i64 k ∧ (l.take k).contains x = false ∧ wr = w) (fun i _ => m - (intOf i).toNat)
 case atStart => exact ⟨0, Nat.zero_le _, rfl, by simp, rfl⟩
 case round =>
  obtain ⟨k, hk, rfl, hno, rfl⟩ := hrel
  by_cases hlt : k < m
  · obtain ⟨ad, y, rfl, hy, hc⟩ := h.at_ (j := k) (by rw [hm_h.out]; exact hlt)
    have hkI : (k : Int) < (m : Int) := by omega
    by_cases hyx : y = x
    · subst hyx
      have ht : T = true := by rw [hT_h.out, List.contains_iff_mem]; exact List.mem_of_getElem? hy
      subst ht
      have hy_h := lH hy; have hno_h := lH hno; clear hy hno
      go_wp2_with (fail)
      go_ret
      exact ⟨rfl, rfl⟩
    · have hbq : (y == x) = false := by rw [beq_eq_false_iff_ne]; exact hyx
      have hno2 : (l.take (k + 1)).contains x = false := by
       rw [List.take_add_one, hy, Bool.eq_false_iff, ne_eq, List.contains_iff_mem]
       rw [Bool.eq_false_iff, ne_eq, List.contains_iff_mem] at hno
       intro hh
       rcases List.mem_append.1 hh with hh | hh
       · exact hno hh
       · simp at hh; exact hyx hh.symm
      have hy_h := lH hy; have hno_h := lH hno; have hno2_h := lH hno2; clear hy hno hno2
      go_wp2_with (fail)
      go_roundw
      case rel => exact ⟨k + 1, by omega, by go_num, hno2_h.out, trivial⟩
      case measure => simp [intOf]; omega
  · obtain rfl : m = k := by omega
    rw [List.take_of_length_le (by rw [hm_h.out]; exact Nat.le_refl _), ← hT_h.out] at hno
    subst hno
    go_wp2_with (fail)
    go_ret
    exact ⟨rfl, rfl⟩
set_option maxHeartbeats 4000000 in
theorem l1Same_any (A B : Option Addr) (c d p q : Nat) (l m : List Int) (w : World) (h : RdI w A l) (h' : RdI w B m) (hp : l.length = p) (hq : m.length = q) (hl : p ≤ 1048576) (hl' : q ≤ 1048576) :
  Calls Try.prog 38 #[.slice A p c, .slice B q d] w fun e w' => e = .returned (.bool (decide (l = m))) ∧ Below w.heap.size w w' := by
 obtain ⟨T, hT⟩ : ∃ T, T = decide (l = m) := ⟨_, rfl⟩
 rw [← hT]
 by_cases hpq : p = q
 case neg =>
  have ht : T = false := by rw [hT]; exact decide_eq_false fun e => hpq (by rw [← hp, ← hq, e])
  subst ht
  have hnI : ¬ (p : Int) = (q : Int) := by omega
  have hbq : ((p : Int) == (q : Int)) = false := by rw [beq_eq_false_iff_ne]; exact hnI
  have hT_h := lH hT; have hp_h := lH hp; have hq_h := lH hq; clear hT hp hq
  go_enter Try.func38, Try.ntmps38
  go_wp2_with (fail)
  go_ret
  exact ⟨rfl, Below.refl _ _⟩
 subst hpq
 have hT_h := lH hT; have hp_h := lH hp; have hq_h := lH hq; clear hT hp hq
 go_enter Try.func38, Try.ntmps38
 go_wp2_with (fail)
 go_loopw [13] (fun i wr => ∃ (k nq : Nat), k ≤ p ∧ i = .int .i64 k ∧ l.take k = m.take k ∧ wr = w.drewN nq) (fun i _ => p - (intOf i).toNat)
 case atStart => exact ⟨0, 0, Nat.zero_le _, rfl, by simp, rfl⟩
 case round =>
  obtain ⟨k, nq, hk, rfl, htk, hwr⟩ := hrel
  have hBw : Below w.heap.size w wr := by rw [hwr]; exact below_drewN (Below.refl _ _) nq
  by_cases hlt : k < p
  · obtain ⟨ad, x, rfl, hx, hc⟩ := (RdI.below' h hBw).at_ (j := k) (by rw [hp_h.out]; exact hlt)
    obtain ⟨bd, y, rfl, hy, hc'⟩ := (RdI.below' h' hBw).at_ (j := k) (by rw [hq_h.out]; exact hlt)
    have hkI : (k : Int) < (p : Int) := by omega
    by_cases hxy : x = y
    · subst hxy
      have htk2 : l.take (k + 1) = m.take (k + 1) := by rw [List.take_add_one, List.take_add_one, hx, hy, htk]
      have hbq : (x == x) = true := by simp
      have hx_h := lH hx; have hy_h := lH hy; have htk_h := lH htk; have htk2_h := lH htk2; have hwr_h := lH hwr; have hBw_h := lH hBw; clear hx hy htk htk2 hwr hBw
      go_wp2_with (fail)
      go_quiet (fail)
      go_wp2_with (fail)
      go_roundw
      case rel => exact ⟨k + 1, _, by omega, by go_num, htk2_h.out, by rw [hwr_h.out]; exact World.drewN_drewN _ _ _⟩
      case measure => simp [intOf]; omega
    · have ht : T = false := by
       rw [hT_h.out]
       refine decide_eq_false fun e => hxy ?_
       rw [e, hy] at hx
       exact (Option.some.inj hx).symm
      subst ht
      have hbq : (x == y) = false := by rw [beq_eq_false_iff_ne]; exact hxy
      have hx_h := lH hx; have hy_h := lH hy; have htk_h := lH htk; have hwr_h := lH hwr; have hBw_h := lH hBw; clear hx hy htk hwr hBw
      go_wp2_with (fail)
      go_quiet (fail)
      go_wp2_with (fail)
      go_ret
      exact ⟨rfl, below_drewN hBw_h.out _⟩
  · obtain rfl : p = k := by omega
    rw [List.take_of_length_le (by rw [hp_h.out]; exact Nat.le_refl _), List.take_of_length_le (by rw [hq_h.out]; exact Nat.le_refl _)] at htk
    have ht : T = true := by rw [hT_h.out]; exact decide_eq_true htk
    subst ht
    have htk_h := lH htk; have hwr_h := lH hwr; have hBw_h := lH hBw; clear htk hwr hBw
    go_wp2_with (fail)
    go_ret
    exact ⟨rfl, hBw_h.out⟩
section
variable {P : Program} {w : World} {e : TypeId} {sz n cap : Nat} {A : Option Addr} {xs : List Value}
theorem Sl.slicedG (hs : Sl w e sz A n cap xs) (t : TypeId) {z : Option Value} {bytes : Nat} (ht : P.underlying t = some (.slice e)) (hinfo : (P.info? e).map (fun i => (i.zero, i.size, i.bytes)) = some (z, sz, bytes))
  (lo hi mx : Option Value) (l hgh m : Nat) (hlo : OptIs lo l (l = 0)) (hhi : OptIs hi hgh (hgh = n ∧ mx = none)) (hmx : OptIs mx m (m = cap)) (h1 : l ≤ hgh) (h2 : hgh ≤ n) (h3 : hgh ≤ m) (h4 : m ≤ cap) :
  ∃ A', (∀ w', (Instr.sliceAt t (.slice A n cap) lo hi mx).run P w' = .ok (.slice A' (hgh - l) (m - l)) w') ∧ Sl w e sz A' (hgh - l) (m - l) ((xs.drop (l * sz)).take ((hgh - l) * sz)) ∧ (∀ b, b ∈ fpA A' → b ∈ fpA A) := by
 obtain ⟨hcut, hfp, hsub⟩ := hs.cut h1 h2 h3 h4
 refine ⟨_, fun w => ?_, hcut, hfp⟩
 unfold OptIs at hlo hhi hmx
 obtain ⟨i, hi', hzz⟩ := Option.map_eq_some_iff.1 hinfo
 simp only [Prod.mk.injEq] at hzz
 have hb : ∀ (k : IntKind) (i : Int) (j y : Nat) (code : BoundsCode), i = (j : Int) → j ≤ y → (Instr.sliceBound (.int k i) y code).run P w = .ok j w := by
  intro k i j y code e hj
  subst e
  rw [run_sliceBound w k _ y code (by omega) (by omega)]; simp
 have hsb : (Instr.sliceBounds true n cap lo hi mx).run P w = .ok (l, hgh, m) w := by
  unfold Instr.sliceBounds
  cases mx with
  | none =>
    subst hmx
    cases hi with
    | none =>
      obtain ⟨rfl, _⟩ := hhi
      cases lo with
      | none => subst hlo; simp
      | some v => obtain ⟨k, L, rfl, hL⟩ := hlo; simp [hb k L l _ _ hL h1]
    | some v =>
      obtain ⟨k, L, rfl, hL⟩ := hhi
      have hb1 := hb k L hgh m .sliceAcap hL h3
      cases lo with
      | none => subst hlo; simp [hb1]
      | some v => obtain ⟨k', L', rfl, hL'⟩ := hlo; simp [hb1, hb k' L' l _ _ hL' h1]
  | some vm =>
    obtain ⟨km, M, rfl, hM⟩ := hmx
    have hb0 := hb km M m cap .slice3Acap hM h4
    cases hi with
    | none => obtain ⟨_, h0⟩ := hhi; cases h0
    | some v =>
      obtain ⟨k, L, rfl, hL⟩ := hhi
      have hb1 := hb k L hgh m .slice3B hL h3
      cases lo with
      | none => subst hlo; simp [hb0, hb1]
      | some v => obtain ⟨k', L', rfl, hL'⟩ := hlo; simp [hb0, hb1, hb k' L' l _ _ hL' h1]
 have hrun : (Instr.slice t (.slice A n cap) lo hi mx).run P w = .ok (.slice (if m = l then A else A.map (·.add (l * sz))) (hgh - l) (m - l)) w := by
  simp only [Instr.slice, Sem.run_bind, run_underlying ht, Result.andThen_ok, hsb]
  simp [sizeOf, typeInfo, hi', hzz.2.1]
 simp [Instr.sliceAt, run_underlying ht, hrun]
end
theorem sliced_take {w : World} {A : Option Addr} {m c k : Nat} {l : List Int} (h : Sl w tInt 1 A m c (ints l)) (hm : l.length = m) (hk : k ≤ m) :
  ∃ A', (∀ w', (Instr.sliceAt 23 (.slice A m c) none (some (.int .i64 (k : Int))) none).run Try.prog w' = .ok (.slice A' k c) w') ∧ IS w A' c (l.take k) := by
 obtain ⟨A', h1, h2, _⟩ := Sl.slicedG h 23 (P := Try.prog) Try.underlying23 info_int none (some (.int .i64 (k : Int))) none 0 k c (optNone rfl) (optSome rfl) (optNone rfl) (Nat.zero_le _) hk (by have := h.2.1; omega) (Nat.le_refl _)
 refine ⟨A', h1, ?_⟩
 have hlk : (l.take k).length = k := by rw [List.length_take, hm]; omega
 unfold IS
 rw [hlk]
 have e : ints (l.take k) = ((ints l).drop (0 * 1)).take ((k - 0) * 1) := by simp [ints, List.map_take]
 rw [e]
 exact h2
set_option maxRecDepth 8000 in
set_option maxHeartbeats 2000000 in
theorem mtDifferent_any (A : Option Addr) (c n : Nat) (l : List Int) (w : World) (h : IS w A c l) (hl : l.length ≤ 1048576) (hn : n ≤ 1048576) :
  Calls Try.prog 37 #[.slice A l.length c, .int .i64 n] w fun e w' => e = .returned (.bool (difB (n : Int) l)) ∧ Below w.heap.size w w' := by
 obtain ⟨m, hm⟩ : ∃ m, m = l.length := ⟨_, rfl⟩
 obtain ⟨T, hT⟩ : ∃ T, T = difB (n : Int) l := ⟨_, rfl⟩
 have hsl : Sl w tInt 1 A m c (ints l) := by rw [hm]; exact h
 have hrd := h.rd
 rw [← hm] at hl ⊢
 rw [← hT]
 have hp0 : difGo (n : Int) (l.take 0) (l.drop 0) = T := by rw [hT]; rfl
 have hsc : ∀ k, k ≤ m → _ := fun k (hk : k ≤ m) => sliced_take hsl hm.symm hk
 clear h hsl; have hm_h := lH hm; have hT_h := lH hT; have hp0_h := lH hp0; have hsc_h := lH hsc; clear hm hT hp0 hsc
 go_enter Try.func37, Try.ntmps37
 go_wp2_with (fail)
 go_loopw [9] (fun iv wr => ∃ k : Nat, k ≤ m ∧ iv = .int .i64 k ∧ difGo (n : Int) (l.take k) (l.drop k) = T ∧ Below w.heap.size w wr) (fun iv _ => m - (intOf iv).toNat)
 case atStart => exact ⟨0, Nat.zero_le _, rfl, hp0_h.out, Below.refl _ _⟩
 case round =>
  obtain ⟨k, hk, rfl, hp, hB⟩ := hrel
  obtain ⟨wo, rfl⟩ : ∃ x, x = wr := ⟨_, rfl⟩
  clear hp0_h
  by_cases hlt : k < m
  · obtain ⟨ad, x, rfl, hx, hc⟩ := (hrd.below hB).at_ (j := k) (by rw [← hm_h.out]; exact hlt)
    have hkI : (k : Int) < (m : Int) := by omega
    have htk : l.take (k + 1) = l.take k ++ [x] := by rw [List.take_add_one, hx]; rfl
    rw [drop_of hx] at hp
    unfold difGo at hp
    have wn : IntKind.i64.wrap ((n : Int) - 1) = (n : Int) - 1 := IntWalk.i64_in _ (by omega)
    obtain ⟨A', hrun, hIS'⟩ := hsc_h.out k hk
    have hrd' := (hIS'.rd).below hB
    have hH := fun (W : World) (hb : Below wo.heap.size wo W) => l1Has_any A' c k (l.take k) x W (hrd'.below hb) (by rw [List.length_take, ← hm_h.out]; omega) (by omega)
    obtain ⟨T1, hT1⟩ : ∃ T1, T1 = t_inB x 0 ((n : Int) - 1) := ⟨_, rfl⟩
    obtain ⟨T2, hT2⟩ : ∃ T2, T2 = (l.take k).contains x := ⟨_, rfl⟩
    have hI := fun (W : World) => t_l1In_any x 0 ((n : Int) - 1) W
    simp only [← hT1] at hI
    simp only [← hT2] at hH
    rw [← hT1, ← hT2, ← htk] at hp
    clear hIS' hrd' htk
    cases T1
    case false =>
     have ht : T = false := hp.symm
     subst ht
     have hx_h := lH hx; have hp_h := lH hp; have hB_h := lH hB; have hI_h := lH hI; have hT1_h := lH hT1; have hT2_h := lH hT2; have hH_h := lH hH; have hrun_h := lH hrun; clear hx hp hB hI hT1 hT2 hH hrun
     go_wp2_with (fail)
     refine (hI_h.out _).mono ?_
     rintro e w' ⟨rfl, rfl⟩
     go_wp2_with (fail)
     go_ret
     exact ⟨rfl, hB_h.out⟩
    case true =>
     cases T2
     case true =>
      have ht : T = false := hp.symm
      subst ht
      have hx_h := lH hx; have hp_h := lH hp; have hB_h := lH hB; have hI_h := lH hI; have hT1_h := lH hT1; have hT2_h := lH hT2; have hH_h := lH hH; clear hx hp hB hI hT1 hT2 hH
      go_wp2_with (fail)
      refine (hI_h.out _).mono ?_
      rintro e w' ⟨rfl, rfl⟩
      go_wp2_with (fail)
      refine ((hH_h.out _ (Below.refl _ _))).mono ?_
      rintro e w2 ⟨rfl, rfl⟩
      go_wp2_with (fail)
      go_ret
      exact ⟨rfl, hB_h.out⟩
     case false =>
      have hp' : difGo (n : Int) (l.take (k + 1)) (l.drop (k + 1)) = T := hp
      have hx_h := lH hx; have hp'_h := lH hp'; have hB_h := lH hB; have hI_h := lH hI; have hT1_h := lH hT1; have hT2_h := lH hT2; have hH_h := lH hH; clear hx hp' hB hI hT1 hT2 hH; clear hp
      go_wp2_with (fail)
      refine (hI_h.out _).mono ?_
      rintro e w' ⟨rfl, rfl⟩
      go_wp2_with (fail)
      refine ((hH_h.out _ (Below.refl _ _))).mono ?_
      rintro e w2 ⟨rfl, rfl⟩
      go_wp2_with (fail)
      go_roundw
      case rel => exact ⟨k + 1, by omega, by go_num, hp'_h.out, hB_h.out⟩
      case measure => simp [intOf]; omega
  · obtain rfl : k = m := by omega
    rw [List.drop_of_length_le (by rw [← hm_h.out]; exact Nat.le_refl _)] at hp
    obtain rfl : T = true := by rw [← hp]; unfold difGo; rfl
    have hp_h := lH hp; have hB_h := lH hB; clear hp hB
    go_wp2_with (fail)
    go_ret
    exact ⟨rfl, hB_h.out⟩
end Go.Proofs.Ytpkmjenoniedjaa
namespace Go.Proofs.Ytpkmjenoniedjaa
open Go.RowKit Go.Shelf
attribute [local go_sem] Oper.semAt_some
abbrev fVal1 : FuncId := 59
set_option maxRecDepth 100000 in
set_option maxHeartbeats 2000000 in
theorem values1_in (F : Fence) (n : Nat) (hf : F.fn fVal1) (hro : F.round = none) (hn : 1 ≤ n) (l Bs n₀ : Nat) (ad : Addr) (cap : Nat) (zs : List Int) (hlen : zs.length ≤ 1048576) (hb : ad.block < n₀) (J Jx : List Int → World → Prop)
  (hY : ∀ pre x W, J pre W → pre.length < zs.length → YieldAt F (n - 1) Try.prog l #[.int .i64 x] W fun e W' =>
   (e = .returned (.bool true) ∧ J (pre ++ [x]) W' ∧ Below n₀ W W') ∨ (e = .returned (.bool false) ∧ Jx (pre ++ [x]) W'))
  (W : World) (hBs : W.cell? ⟨Bs, 0, none⟩ = some (.slice (some ad) zs.length cap)) (hc : ∀ j, j < zs.length → W.cell? (ad.add j) = some (.int .i64 (zs[j]?.getD 0))) (h0 : J [] W) :
  CallsIn F n Try.prog 59 #[.func (.yield l) #[] #[], .pointer (some ⟨Bs, 0, none⟩)] W fun e W' => (∃ v, e = .returned v) ∧
   ((∃ ys, ys = zs ∧ J ys W') ∨ (∃ pre, pre <+: zs ∧ Jx pre W')) := by
 obtain ⟨len, hl⟩ : ∃ q, zs.length = q := ⟨_, rfl⟩
 rw [hl] at hBs hlen
 refine callsIn_of_wp Try.func59 rfl hf ?_ hro
 simp only [Try.ntmps59, List.size_toArray, List.length_cons, List.length_nil, Nat.reduceAdd, Nat.reduceSub, Array.replicate_succ, Array.replicate_zero, List.push_toArray, List.append_toArray, List.nil_append, List.cons_append]
 gi_wp2
 gi_loopw [7] (fun i wr => ∃ k : Nat, k ≤ len ∧ i = .int .i64 k ∧ J (zs.take k) wr ∧ Below n₀ W wr) (fun i _ => len - (intOf i).toNat)
 case atStart => exact ⟨0, Nat.zero_le _, rfl, h0, Below.refl _ _⟩
 case round =>
  obtain ⟨k, hk, rfl, hJs, hnx⟩ := hrel
  by_cases hlt : k < len
  · have hcx := (hnx.cell (p := ad.add k) (by rw [block_of_add]; exact hb)).trans (hc k (by omega))
    obtain ⟨x, hx⟩ : ∃ x, zs[k]? = some x := ⟨_, List.getElem?_eq_getElem (by omega)⟩
    rw [hx, Option.getD_some] at hcx
    obtain ⟨fn, tmps, assign, body, hy, hR⟩ := hY _ x wr hJs (by rw [List.length_take]; omega)
    have hst : zs.take k ++ [x] = zs.take (k + 1) := by rw [List.take_add_one, hx]; rfl
    rw [hst] at hR
    have hkI : (k : Int) < (len : Int) := by omega
    have HK := lH hnx; have HX := lH hx; clear hnx hx hst
    gi_wp2
    refine hR.mono ?_
    rintro e W3 (⟨rfl, hJ3, hk3⟩ | ⟨rfl, hJx3⟩)
    · gi_wp2
      go_roundw
      case rel => exact ⟨k + 1, by omega, by go_num, hJ3, HK.out.trans hk3⟩
      case measure => simp [intOf]; omega
    · gi_wp2
      refine bodyPost_ret (results_none rfl _ _ _) rfl ?_
      exact ⟨⟨_, rfl⟩, .inr ⟨_, List.take_prefix _ _, hJx3⟩⟩
  · obtain rfl : len = k := by omega
    rw [List.take_of_length_le (by omega)] at hJs
    gi_wp2
    go_end0
    exact ⟨⟨_, rfl⟩, .inl ⟨_, rfl, hJs⟩⟩
set_option maxRecDepth 100000 in
set_option maxHeartbeats 1000000 in
theorem values1_nil_in (F : Fence) (n : Nat) (hf : F.fn fVal1) (hro : F.round = none) (l Bs : Nat) (A : Option Addr) (cap : Nat) (J : List Int → World → Prop) (W : World) (hBs : W.cell? ⟨Bs, 0, none⟩ = some (.slice A 0 cap)) (h0 : J [] W) :
  CallsIn F n Try.prog 59 #[.func (.yield l) #[] #[], .pointer (some ⟨Bs, 0, none⟩)] W fun e W' => (∃ v, e = .returned v) ∧ J [] W' := by
 refine callsIn_of_wp Try.func59 rfl hf ?_ hro
 simp only [Try.ntmps59, List.size_toArray, List.length_cons, List.length_nil, Nat.reduceAdd, Nat.reduceSub, Array.replicate_succ, Array.replicate_zero, List.push_toArray, List.append_toArray, List.nil_append, List.cons_append]
 gi_wp2
 gi_loopw [7] (fun i wr => i = .int .i64 0 ∧ J [] wr) (fun _ _ => 0)
 case atStart => exact ⟨rfl, h0⟩
 case round =>
  obtain ⟨rfl, hJs⟩ := hrel
  gi_wp2
  go_end0
  exact ⟨⟨_, rfl⟩, hJs⟩
theorem values_stops (F : Fence) (n : Nat) (hf : F.fn fVal1) (hro : F.round = none) (hn : 1 ≤ n) (Bs n₀ : Nat) (A : Option Addr) (cap : Nat) (zs : List Int) (hlen : zs.length ≤ 1048576) (w : World) (hBs : Bs < w.heap.size) (hA : RdI w A zs) (hAb : ∀ b, b ∈ fpA A → 0 < zs.length → b < n₀)
  (hc : w.cell? ⟨Bs, 0, none⟩ = some (.slice A zs.length cap)) :
  SeqStopsK F n Try.prog 59 #[.pointer (some ⟨Bs, 0, none⟩)] (fun x : Int => #[Value.int .i64 x]) (Below n₀) (fun ys => ys = zs) (fun pre => pre <+: zs) zs.length w := fun l J Jx W hW _ _ hY h0 => by
 have hc' := (hW.cell (p := ⟨Bs, 0, none⟩) hBs).trans hc
 by_cases hl : 0 < zs.length
 · obtain ⟨ad, x, rfl, hx, _⟩ := hA.at_ hl
   refine values1_in F n hf hro hn l Bs n₀ ad cap zs hlen (hAb _ (by simp) hl) J Jx hY W hc' (fun j hj => ?_) h0
   obtain ⟨ad', y, hA', hy, hcy⟩ := (hA.below hW).at_ hj
   obtain rfl := Option.some.inj hA'
   rw [hy]; exact hcy
 · obtain rfl : zs = [] := List.length_eq_zero_iff.1 (by omega)
   exact (values1_nil_in F n hf hro l Bs A cap J W hc' h0).mono fun e W' ⟨he, hj⟩ => ⟨he, .inl ⟨_, rfl, hj⟩⟩
set_option maxRecDepth 100000 in
set_option maxHeartbeats 2000000 in
theorem appendSeq_in (F : Fence) (n : Nat) (h1' : F.fn 68) (h3 : F.fn fVal1) (hro : F.round = none) (hn : 3 ≤ n) (Bs : Nat) (A : Option Addr) (cap : Nat) (zs : List Int) (hlen : zs.length ≤ 1048576) (w : World) (hBs : Bs < w.heap.size) (hA : RdI w A zs) (hAb : ∀ b, b ∈ fpA A → 0 < zs.length → b < w.heap.size)
  (hc0 : w.cell? ⟨Bs, 0, none⟩ = some (.slice A zs.length cap)) :
  CallsIn F n Try.prog 68 #[.slice none 0 0, .func (.func 59) #[] #[.pointer (some ⟨Bs, 0, none⟩)]] w fun e W' => ∃ v, e = .returned v ∧ W'.ownsRow w.heap.size tInt 1 v zs.length (zs.map (Value.int .i64)) ∧ Below w.heap.size w W' := by
 have h1 : 1 ≤ n := by omega
 obtain ⟨i0, hi, hz0, hz1, hz2⟩ := info_parts info_int
 refine callsIn_of_wp_marks Try.func68 rfl h1' ?_ hro
 simp only [Try.ntmps68, List.size_toArray, List.length_cons, List.length_nil, Nat.reduceAdd, Nat.reduceSub, Array.replicate_succ, Array.replicate_zero, List.push_toArray, List.append_toArray, List.nil_append, List.cons_append]
 gi_wp2
 have bO := Boxed.new w 23 (.slice none 0 0)
 have hB0 : Below w.heap.size w (w.alloc (.cells #[.slice none 0 0] 23)) := t_below_alloc _ _
 have hc1 := (hB0.cell (p := ⟨Bs, 0, none⟩) hBs).trans hc0
 refine wpIn_rangeFunc_ownG hro h1 (gf := 59) (lb := #[.pointer (some ⟨Bs, 0, none⟩)]) rfl h3 (enters_of Try.func59 (by kernel_rfl) rfl)
  (values_stops F (n - 1) h3 hro (by omega) Bs w.heap.size A cap zs hlen _ (by simp; omega) (hA.below hB0) hAb hc1) belowK_t (belowK_b (by simp)) (Below.refl _ _) (fun _ => rfl)
  (fun (pre : List Int) W => (∃ v, Boxed W w.heap.size 23 v ∧ W.ownsRow w.heap.size tInt 1 v pre.length (pre.map (Value.int .i64)) ∧ True) ∧ Below w.heap.size w W)
  (fun _ _ _ => False)
  (OwnFrom.and (Own.from (holdsRow_own w.heap.size w.heap.size 23 tInt 1 (fun pre : List Int => pre.length) (fun pre : List Int => pre.map (Value.int .i64)) (fun _ _ => True)) _) (ownFrom_below (Nat.le_refl _) (by simp)))
  (fun _ _ _ _ _ hs _ _ => hs)
  ⟨⟨_, bO, World.ownsRow_nil _ _ _ _, trivial⟩, hB0⟩
  (fun x => { tmps := #[.slice none 0 0, .func (.func 59) #[] #[.pointer (some ⟨Bs, 0, none⟩)], .pointer (some ⟨w.heap.size, 0, none⟩), undef, .slice none 0 0, .int .i64 x, .func (.func 59) #[] #[.pointer (some ⟨Bs, 0, none⟩)], .int .i64 x, undef, undef, undef, undef, undef], defers := [] }) ?assign ?body ?done ?stop
 case assign =>
  intro l x W K hK
  gi_wp2
  exact hK
 case body =>
  rintro l pre x W ⟨⟨v, hv, hrow, -⟩, hB⟩ hlt
  have hc := hv.cell
  gi_wp2_with (gi_at_builtin; refine wpListIn_append_own _ rfl _ _ 23 rfl w.heap.size tInt i0 (.int .i64 0) 1 8 Try.underlying23 hi hz0 hz1 hz2 rfl (by decide) _ _ _ rfl (hrow.alloc _) ⟨W.heap.size, 0, none⟩ 1 1 [.int .i64 x] rfl rfl (cell_one_new _ _ _) (by simp [Value.oneCell']) (by unfold maxLen; omega) (by omega) (by have := hB.size; simp; omega) ?_; intro v' w1 hown' hgrow _; obtain ⟨g', cap', rfl⟩ := ownsRow_succ hown'; obtain ⟨hv1, hv2, hr2, hk2, hb2⟩ := hv.appended (by decide) hrow hB.size (Nat.le_refl _) hown' hgrow; have hc1 := hv1.cell; have hf1 := hv1.frozen)
  exact ⟨hk2.from _, hb2, ⟨_, hv2, by simpa using hr2, trivial⟩, hB.trans hb2⟩
 case done =>
  rintro D ys W hD rfl ⟨⟨v, hv, hrow, -⟩, hB⟩ hK
  have hc := hv.cell
  gi_wp2
  refine ⟨by simp, .inl ⟨_, _, rfl, run_takeDeferred hK, ?_⟩⟩
  exact ⟨_, results_tmp rfl _ _ _, v, rfl, ownsRow_putObj hrow _ hK rfl, hB.trans (belowK_b (w := w) (Nat.le_refl _) W D _ _ (by simp at hD; omega) hK rfl rfl)⟩
 case stop =>
  rintro D c pre W _ _ h _
  exact h.elim
end Go.Proofs.Ytpkmjenoniedjaa
namespace Go.Proofs.Ytpkmjenoniedjaa
open Go.RowKit Go.Shelf
def rnI : Ren := ⟨fun | 125 => 70 | 128 => 85 | 129 => 86 | 189 => 58 | 215 => 93 | 216 => 82 | 257 => 69 | 294 => 76 | 295 => 77 | 296 => 78 | 297 => 79 | 298 => 80 | 299 => 81 | 300 => 83 | 301 => 84 | 328 => 88 | 329 => 89 | 330 => 90 | 331 => 91 | 332 => 92 | 343 => 94 | n => n,
 fun | 0 => 0 | 3 => 3 | 4 => 4 | 5 => 5 | 9 => 9 | 28 => 23 | 46 => 85 | 51 => 103 | 53 => 105 | 131 => 100 | 182 => 96 | 183 => 97 | 218 => 107 | 222 => 111 | 228 => 113 | 229 => 89 | n => n, fun n => n⟩
theorem layI : Lays.n189 Try.prog rnI where
 mixed := by kernel_rfl
 f125 := Try.func70.trans (congrArg some (by kernel_rfl))
 f128 := Try.func85.trans (congrArg some (by kernel_rfl))
 f129 := Try.func86.trans (congrArg some (by kernel_rfl))
 f189 := Try.func58.trans (congrArg some (by kernel_rfl))
 f215 := Try.func93.trans (congrArg some (by kernel_rfl))
 f216 := Try.func82.trans (congrArg some (by kernel_rfl))
 f257 := Try.func69.trans (congrArg some (by kernel_rfl))
 f294 := Try.func76.trans (congrArg some (by kernel_rfl))
 f295 := Try.func77.trans (congrArg some (by kernel_rfl))
 f296 := Try.func78.trans (congrArg some (by kernel_rfl))
 f297 := Try.func79.trans (congrArg some (by kernel_rfl))
 f298 := Try.func80.trans (congrArg some (by kernel_rfl))
 f299 := Try.func81.trans (congrArg some (by kernel_rfl))
 f300 := Try.func83.trans (congrArg some (by kernel_rfl))
 f301 := Try.func84.trans (congrArg some (by kernel_rfl))
 f328 := Try.func88.trans (congrArg some (by kernel_rfl))
 f329 := Try.func89.trans (congrArg some (by kernel_rfl))
 f330 := Try.func90.trans (congrArg some (by kernel_rfl))
 f331 := Try.func91.trans (congrArg some (by kernel_rfl))
 f332 := Try.func92.trans (congrArg some (by kernel_rfl))
 f343 := Try.func94.trans (congrArg some (by kernel_rfl))
 t0 := by kernel_rfl
 a0 := fun _ => by kernel_rfl
 z0 := fun _ => by kernel_rfl
 v0 := fun _ => by kernel_rfl
 t3 := by kernel_rfl
 a3 := fun _ => by kernel_rfl
 z3 := fun _ => by kernel_rfl
 v3 := fun _ => by kernel_rfl
 t4 := by kernel_rfl
 a4 := fun _ => by kernel_rfl
 z4 := fun _ => by kernel_rfl
 v4 := fun _ => by kernel_rfl
 t5 := by kernel_rfl
 a5 := fun _ => by kernel_rfl
 z5 := fun _ => by kernel_rfl
 v5 := fun _ => by kernel_rfl
 t9 := by kernel_rfl
 a9 := fun _ => by kernel_rfl
 z9 := fun _ => by kernel_rfl
 v9 := fun _ => by kernel_rfl
 t28 := by kernel_rfl
 a28 := fun _ => by kernel_rfl
 z28 := fun _ => by kernel_rfl
 v28 := fun _ => by kernel_rfl
 t46 := by kernel_rfl
 a46 := fun _ => by kernel_rfl
 z46 := fun _ => by kernel_rfl
 v46 := fun _ => by kernel_rfl
 t51 := by kernel_rfl
 a51 := fun _ => by kernel_rfl
 z51 := fun _ => by kernel_rfl
 v51 := fun _ => by kernel_rfl
 t53 := by kernel_rfl
 a53 := fun _ => by kernel_rfl
 z53 := fun _ => by kernel_rfl
 v53 := fun _ => by kernel_rfl
 t131 := by kernel_rfl
 a131 := fun _ => by kernel_rfl
 z131 := fun _ => by kernel_rfl
 v131 := fun _ => by kernel_rfl
 t182 := by kernel_rfl
 a182 := fun _ => by kernel_rfl
 z182 := fun _ => by kernel_rfl
 v182 := fun _ => by kernel_rfl
 t183 := by kernel_rfl
 a183 := fun _ => by kernel_rfl
 z183 := fun _ => by kernel_rfl
 v183 := fun _ => by kernel_rfl
 t218 := by kernel_rfl
 a218 := fun _ => by kernel_rfl
 z218 := fun _ => by kernel_rfl
 v218 := fun _ => by kernel_rfl
 t222 := by kernel_rfl
 a222 := fun _ => by kernel_rfl
 z222 := fun _ => by kernel_rfl
 v222 := fun _ => by kernel_rfl
 t228 := by kernel_rfl
 a228 := fun _ => by kernel_rfl
 z228 := fun _ => by kernel_rfl
 v228 := fun _ => by kernel_rfl
 t229 := by kernel_rfl
 a229 := fun _ => by kernel_rfl
 z229 := fun _ => by kernel_rfl
 v229 := fun _ => by kernel_rfl
end Go.Proofs.Ytpkmjenoniedjaa
namespace Go.Proofs.Ytpkmjenoniedjaa
open Go.RowKit Go.Shelf
theorem putI_keeps (w : World) (blk off m : Nat) (d : Array Int) (os : Array Obj) : Keeps (fun b => b = blk) w (Sort.grow (Sort.putRow (Value.int .i64) (Sort.ahead w m) blk off d) os) := by
 refine ⟨rfl, rfl, rfl, ?_, fun i hi hne => ?_⟩
 · show w.heap.size ≤ ((w.heap.modify blk _) ++ os).size
   simp
 · show ((w.heap.modify blk (Sort.onCells (Sort.putCells (Value.int .i64) off d))) ++ os)[i]? = _
   rw [Array.getElem?_append_left (by simpa using hi), Array.getElem?_modify, if_neg (fun e => hne e.symm)]
theorem putI_sl {w : World} {blk off n cap : Nat} {xs : List Value} (hs : Sl w tInt 1 (some ⟨blk, off, none⟩) n cap xs) (m : Nat) (d : Array Int) (hd : d.size = n) (os : Array Obj) :
  Sl (Sort.grow (Sort.putRow (Value.int .i64) (Sort.ahead w m) blk off d) os) tInt 1 (some ⟨blk, off, none⟩) n cap (ints d.toList) := by
 obtain ⟨hl, hn, hm, hh⟩ := hs
 refine ⟨by simp [ints, hd], hn, hm, .inr ?_⟩
 rcases hh with ⟨h, _⟩ | ⟨g, off', cur, hA, hg, hc, ht⟩
 · cases h
 · obtain ⟨rfl, rfl⟩ : blk = g ∧ off = off' := by simpa using hA
   have hlt : blk < w.heap.size := (Array.getElem?_eq_some_iff.1 hg).1
   refine ⟨blk, off, Sort.putCells (Value.int .i64) off d cur, rfl, ?_, ?_, ?_⟩
   · show ((w.heap.modify blk (Sort.onCells (Sort.putCells (Value.int .i64) off d))) ++ os)[blk]? = _
     rw [Array.getElem?_append_left (by simpa using hlt), Array.getElem?_modify, if_pos rfl, hg]
     rfl
   · unfold Sort.putCells
     rw [Array.size_mapIdx]
     exact hc
   · apply List.ext_getElem?
     intro j
     unfold Sort.putCells
     rw [List.getElem?_take]
     by_cases hj : j < n
     · rw [if_pos (by omega), List.getElem?_drop, Array.getElem?_toList, Array.getElem?_mapIdx, Array.getElem?_eq_getElem (by omega), Option.map_some, if_pos (by omega), show off + j - off = j by omega, getElem!_pos d j (by omega)]
       simp [ints, List.getElem?_eq_getElem (show j < d.toList.length by simpa [hd] using hj)]
     · rw [if_neg (by omega), List.getElem?_eq_none (by simp [ints, hd]; omega)]
theorem holds_of_is {w : World} {blk off cap : Nat} {zs : List Int} (hs : Sl w tInt 1 (some ⟨blk, off, none⟩) zs.length cap (ints zs)) : Sort.Holds (Value.int .i64) w blk off zs.toArray := by
 intro j hj
 have hj' : j < zs.length := by simpa using hj
 have h1 : (ints zs)[j]? = some (.int .i64 (zs.toArray[j]!)) := by
  rw [getElem!_pos zs.toArray j hj]
  simp [ints, List.getElem?_eq_getElem hj']
 obtain ⟨ad, hA, _, hc, hf⟩ := hs.cell h1
 obtain rfl := Option.some.inj hA
 have hf' := hf j
 rw [addr_lit] at hc hf'
 exact ⟨hc, hf'⟩
theorem sl_of_owns {w : World} {base n : Nat} {v : Value} {xs : List Value} (h : w.ownsRow base tInt 1 v n xs) : ∃ A cap, v = .slice A n cap ∧ Sl w tInt 1 A n cap xs ∧ (∀ b, b ∈ fpA A → base ≤ b) ∧ ((A = none ∧ n = 0) ∨ ∃ blk, A = some ⟨blk, 0, none⟩) := by
 obtain ⟨hl, ⟨rfl, rfl⟩ | ⟨g, cap, cur, rfl, hb, hg, hn, hm, hs, ht⟩⟩ := h
 · refine ⟨none, 0, rfl, ⟨hl, Nat.le_refl _, Nat.zero_le _, .inl ⟨rfl, rfl⟩⟩, fun b hb => (by cases hb), .inl ⟨rfl, rfl⟩⟩
 · refine ⟨some ⟨g, 0, none⟩, cap, rfl, ⟨hl, hn, hm, .inr ⟨g, 0, cur, rfl, hg, by omega, by simpa using ht⟩⟩, fun b hb' => ?_, .inr ⟨g, rfl⟩⟩
   obtain rfl : b = g := by simpa using hb'
   exact hb
set_option maxRecDepth 100000 in
set_option maxHeartbeats 2000000 in
theorem collect_any (Bs : Nat) (A : Option Addr) (cap : Nat) (zs : List Int) (hlen : zs.length ≤ 1048576) (w : World) (hBs : Bs < w.heap.size) (hA : RdI w A zs) (hAb : ∀ b, b ∈ fpA A → 0 < zs.length → b < w.heap.size)
  (hc0 : w.cell? ⟨Bs, 0, none⟩ = some (.slice A zs.length cap)) :
  Calls Try.prog 57 #[.func (.func 59) #[] #[.pointer (some ⟨Bs, 0, none⟩)]] w fun e W' => ∃ v, e = .returned v ∧ W'.ownsRow w.heap.size tInt 1 v zs.length (ints zs) ∧ Below w.heap.size w W' := by
 have hC := (callsIn_wide (n := 3)).1 (appendSeq_in Fence.wide 3 trivial trivial rfl (Nat.le_refl _) Bs A cap zs hlen w hBs hA hAb hc0)
 have hC_h := lH hC; have hA_h := lH hA; have hAb_h := lH hAb; clear hC hA hAb
 go_enter Try.func57, Try.ntmps57
 go_wp2_with (fail)
 refine (hC_h.out).mono ?_
 rintro e w1 ⟨v, rfl, hO, hb⟩
 have hO_h := lH hO; have hb_h := lH hb; clear hO hb
 go_wp2_with (fail)
 go_ret
 exact ⟨v, rfl, hO_h.out, hb_h.out⟩
theorem cellU {w : World} {B : Nat} {x : Value} {t : TypeId} (h : w.heap[B]? = some (.cells #[x] t)) : w.cell? ⟨B, 0, none⟩ = some x := by simp [World.cell?, h]
def srt (zs : List Int) : List Int := zs.mergeSort fun x y => decide (x ≤ y)
theorem srt_len (zs : List Int) : (srt zs).length = zs.length := List.length_mergeSort ..
set_option maxRecDepth 100000 in
set_option maxHeartbeats 2000000 in
theorem sorted1_any (Bs : Nat) (A : Option Addr) (cap q : Nat) (zs : List Int) (hq : zs.length = q) (hlen : q ≤ 1048576) (w : World) (hBs : Bs < w.heap.size) (hA : RdI w A zs) (hAb : ∀ b, b ∈ fpA A → 0 < zs.length → b < w.heap.size)
  (hc0 : w.cell? ⟨Bs, 0, none⟩ = some (.slice A q cap)) :
  Calls Try.prog 45 #[.func (.func 59) #[] #[.pointer (some ⟨Bs, 0, none⟩)]] w fun e w' => ∃ B c, e = .returned (.slice B q c) ∧ IS w' B c (srt zs) ∧ Fresh w.heap.size B ∧ Below w.heap.size w w' := by
 rw [← hq] at hc0 hlen
 have hC := collect_any Bs A cap zs hlen w hBs hA hAb hc0
 rw [hq] at hC
 clear hc0; have hC_h := lH hC; have hA_h := lH hA; have hAb_h := lH hAb; have hq_h := lH hq; clear hC hA hAb hq
 go_enter Try.func45, Try.ntmps45
 go_wp2_with (fail)
 refine (hC_h.out).mono ?_
 rintro e w1 ⟨v, rfl, hO, hb⟩
 obtain ⟨B, c, rfl, hsl, hbB, hcs⟩ := sl_of_owns hO
 have hS : Calls Try.prog 58 #[.slice B q c] w1 fun e w' => e = .returned (.tuple #[]) ∧ IS w' B c (srt zs) ∧ Below w.heap.size w w' := by
  rcases hcs with ⟨e1, e2⟩ | ⟨blk, e⟩
  · subst e1 e2
    have h1 := Any.slices_Sort_int_none layI none c w1
    refine h1.mono ?_
    rintro e w' ⟨rfl, rfl⟩
    refine ⟨rfl, ?_, hb⟩
    have h0 : srt zs = [] := List.length_eq_zero_iff.1 ((srt_len zs).trans hq_h.out)
    have h2 : zs = [] := List.length_eq_zero_iff.1 hq_h.out
    rw [h0]
    rw [h2] at hsl
    exact hsl
  · subst e
    have hsl' := hsl
    rw [← hq_h.out] at hsl'
    have hH := holds_of_is hsl'
    have hlt := hsl.lt blk (by simp)
    have h1 := Any.slices_Sort_int layI blk 0 c zs w1 hH hlt (by omega)
    rw [hq_h.out] at h1
    refine h1.mono ?_
    rintro e w' ⟨rfl, n, os, rfl⟩
    have h2 := putI_sl hsl n (srt zs).toArray (by simp [srt_len, hq_h.out]) os
    refine ⟨rfl, ?_, below_keeps hb (putI_keeps _ _ _ _ _ _) hb.size fun b e => by rw [e]; exact hbB blk (by simp)⟩
    unfold IS
    rw [srt_len, hq_h.out]
    exact h2
 clear hcs hsl hb hO hC_h hA_h hAb_h; have hbB_h := lH hbB; have hS_h := lH hS; clear hbB hS
 go_wp2_with (fail)
 refine (hS_h.out).mono ?_
 rintro e w2 ⟨rfl, hI, hb2⟩
 have hI_h := lH hI; have hb2_h := lH hb2; clear hI hb2
 go_wp2_with (fail)
 go_ret
 exact ⟨B, c, rfl, hI_h.out, hbB_h.out, hb2_h.out⟩
set_option maxRecDepth 100000 in
set_option maxHeartbeats 2000000 in
theorem sorted_any (A : Option Addr) (cap q : Nat) (zs : List Int) (hq : zs.length = q) (hlen : q ≤ 1048576) (w : World) (hA : RdI w A zs) (hAb : ∀ b, b ∈ fpA A → b < w.heap.size) :
  Calls Try.prog 27 #[.slice A q cap] w fun e w' => ∃ B c, e = .returned (.slice B q c) ∧ IS w' B c (srt zs) ∧ Fresh w.heap.size B ∧ Below w.heap.size w w' := by
 have hV : Calls Try.prog 46 #[.slice A q cap] w fun e w' => e = .returned (.func (.func 59) #[] #[.pointer (some ⟨w.heap.size, 0, none⟩)]) ∧ w' = w.alloc (.cells #[.slice A q cap] 23) := by
  clear hA hAb
  go_enter Try.func46, Try.ntmps46
  go_wp2_with (fail)
  go_ret
  exact ⟨rfl, rfl⟩
 have hb0 := t_below_alloc w (.cells #[.slice A q cap] 23)
 have hS := sorted1_any w.heap.size A cap q zs hq hlen (w.alloc (.cells #[.slice A q cap] 23)) (by simp) (hA.below hb0) (fun b hb _ => by have := hAb b hb; simp; omega) (cellU (heap_alloc_new w (.cells #[.slice A q cap] 23)))
 clear hA hAb; have hV_h := lH hV; have hS_h := lH hS; have hb0_h := lH hb0; clear hV hS hb0
 go_enter Try.func27, Try.ntmps27
 go_wp2_with (fail)
 refine (hV_h.out).mono ?_
 rintro e w1 ⟨rfl, rfl⟩
 go_wp2_with (fail)
 refine (hS_h.out).mono ?_
 rintro e w2 ⟨B, c, rfl, hI, hf, hb⟩
 have hbe := below_trans hb0_h.out hb hb0_h.out.size
 have hf' : Fresh w.heap.size B := fun b hb => by have := hf b hb; simp at this; omega
 clear hb hf; have hI_h := lH hI; have hbe_h := lH hbe; have hf'_h := lH hf'; clear hI hbe hf'
 go_wp2_with (fail)
 go_ret
 exact ⟨B, c, rfl, hI_h.out, hf'_h.out, hbe_h.out⟩
end Go.Proofs.Ytpkmjenoniedjaa
namespace Go.Proofs.Ytpkmjenoniedjaa
open Go.RowKit
set_option maxHeartbeats 400000 in
theorem slicesEqual_any (A B : Option Addr) (c d : Nat) (l m : List Int) (w : World) (ha : RdI w A l) (hb : RdI w B m) (hl : l.length ≤ 17592186044416) :
  Calls Try.prog 56 #[.slice A l.length c, .slice B m.length d] w fun e w' => e = .returned (.bool (decide (l = m))) ∧ Qt w w' := by
 by_cases hlen : l.length = m.length
 · have h0 : ((l.length : Int) != (m.length : Int)) = false := by rw [hlen]; simp
   go_enter Try.func56, Try.ntmps56
   go_wp2
   go_loopw [13] (fun i wr => ∃ k n : Nat, k ≤ l.length ∧ i = .int .i64 k ∧ l.take k = m.take k ∧ wr = w.drewN n)
    (fun i _ => l.length - (intOf i).toNat)
   case atStart => exact ⟨0, 0, Nat.zero_le _, rfl, by simp, rfl⟩
   case round =>
    obtain ⟨k, n, hk, rfl, htk, rfl⟩ := hrel
    by_cases hlt : k < l.length
    · obtain ⟨ad, x, rfl, hx, hc⟩ := ha.at_ hlt
      obtain ⟨ad', y, rfl, hy, hc'⟩ := hb.at_ (j := k) (by omega)
      have hlt2 : (k : Int) < (m.length : Int) := by omega
      have HT := lH htk; have HL := lH hlen; have HX := lH hx; have HY := lH hy; clear htk hlen hx hy ha hb h0
      go_wp2
      go_quiet (fail)
      go_wp2
      · have hne : (x != y) = true := by assumption
        go_ret
        refine ⟨ret_bool ?_, _, World.drewN_drewN _ _ _⟩
        have : ¬ l = m := by
         intro e
         have h1 := HX.out; have h2 := HY.out
         rw [e, h2] at h1
         simp at hne; exact hne (Option.some.inj h1).symm
        simp [this]
      · have heq : (x != y) = false := by assumption
        go_roundw
        case rel =>
         refine ⟨k + 1, _, by omega, by go_num, ?_, rfl⟩
         have e : x = y := by simpa using heq
         rw [List.take_add_one, List.take_add_one, HT.out, HX.out, HY.out, e]
        case measure => simp [intOf]; omega
    · obtain rfl : k = l.length := by omega
      have HT := lH htk; clear htk
      go_wp2
      go_ret
      refine ⟨ret_bool ?_, _, rfl⟩
      have := HT.out
      rw [List.take_of_length_le (Nat.le_refl _), List.take_of_length_le (by omega)] at this
      simp [this]
 · have h0 : ((l.length : Int) != (m.length : Int)) = true := by simp; omega
   go_enter Try.func56, Try.ntmps56
   go_wp2
   go_ret
   refine ⟨ret_bool ?_, 0, rfl⟩
   have : ¬ l = m := fun e => hlen (by rw [e])
   simp [this]
set_option maxRecDepth 100000 in
set_option maxHeartbeats 4000000 in
theorem equalEdges_any (k v : Int) (B C : Option Addr) (b c : Nat) (l m : List Int) (k' v' : Int) (B' C' : Option Addr) (b' c' : Nat) (l' m' : List Int) (w : World) (h1 : RdI w B l) (h2 : RdI w C m) (h1' : RdI w B' l') (h2' : RdI w C' m') (hl : l.length ≤ 1048576) (hm : m.length ≤ 1048576) :
  Calls Try.prog 43 #[.agg #[.int .i64 k, .int .i64 v, .slice B l.length b, .slice C m.length c], .agg #[.int .i64 k', .int .i64 v', .slice B' l'.length b', .slice C' m'.length c']] w fun e w' => e = .returned (.bool (decide (((k, v, l, m) : Eg) = (k', v', l', m')))) ∧ Below w.heap.size w w' := by
 obtain ⟨D, hD⟩ : ∃ D, D = decide (((k, v, l, m) : Eg) = (k', v', l', m')) := ⟨_, rfl⟩
 rw [← hD]
 obtain ⟨E1, hE1⟩ : ∃ E, E = decide (l = l') := ⟨_, rfl⟩
 obtain ⟨E2, hE2⟩ : ∃ E, E = decide (m = m') := ⟨_, rfl⟩
 have hDD : D = (decide (k = k') && (decide (v = v') && (E1 && E2))) := by
  rw [hD, hE1, hE2, Bool.eq_iff_iff]
  simp
 have hS1 := fun (W : World) (hb : Below w.heap.size w W) => slicesEqual_any B B' b b' l l' W (h1.below hb) (h1'.below hb) (by omega)
 have hS2 := fun (W : World) (hb : Below w.heap.size w W) => slicesEqual_any C C' c c' m m' W (h2.below hb) (h2'.below hb) (by omega)
 obtain ⟨p, hp⟩ : ∃ p, p = l.length := ⟨_, rfl⟩
 obtain ⟨q, hq⟩ : ∃ p, p = m.length := ⟨_, rfl⟩
 obtain ⟨p', hp'⟩ : ∃ p, p = l'.length := ⟨_, rfl⟩
 obtain ⟨q', hq'⟩ : ∃ p, p = m'.length := ⟨_, rfl⟩
 simp only [← hp, ← hp', ← hE1] at hS1
 simp only [← hq, ← hq', ← hE2] at hS2
 rw [← hp, ← hq, ← hp', ← hq']
 obtain ⟨W, hW, bW, k0, k1⟩ := allocs2 w (.cells #[.int .i64 k, .int .i64 v, .slice B p b, .slice C q c] tEd) (.cells #[.int .i64 k', .int .i64 v', .slice B' p' b', .slice C' q' c'] tEd)
 obtain ⟨⟨c0, c1, c2, c3⟩, f0, f1, f2, f3⟩ := t_box4 k0
 obtain ⟨⟨d0, d1, d2, d3⟩, g0, g1, g2, g3⟩ := t_box4 k1
 clear hD hE1 hE2 h1 h2 h1' h2' hl hm hp hq hp' hq'; have hS1_h := lH hS1; have hS2_h := lH hS2; have bW_h := lH bW; have k0_h := lH k0; have k1_h := lH k1; have hDD_h := lH hDD; clear hS1 hS2 bW k0 k1 hDD
 by_cases hk : k = k'
 case neg =>
  have hbq : (k == k') = false := by rw [beq_eq_false_iff_ne]; exact hk
  obtain rfl : D = false := by rw [hDD_h.out, decide_eq_false hk]; rfl
  go_enter Try.func43, Try.ntmps43
  go_upto_region 1 with (fail)
  rw [← hW]
  clear hW
  go_wp2_with (fail)
  go_ret
  exact ⟨rfl, bW_h.out⟩
 subst hk
 by_cases hv : v = v'
 case neg =>
  have hbq : (v == v') = false := by rw [beq_eq_false_iff_ne]; exact hv
  obtain rfl : D = false := by rw [hDD_h.out, decide_eq_false hv]; simp
  go_enter Try.func43, Try.ntmps43
  go_upto_region 1 with (fail)
  rw [← hW]
  clear hW
  go_wp2_with (fail)
  go_ret
  exact ⟨rfl, bW_h.out⟩
 subst hv
 have hDE : D = (E1 && E2) := by rw [hDD_h.out]; simp
 have hDE_h := lH hDE; clear hDE
 go_enter Try.func43, Try.ntmps43
 go_upto_region 1 with (fail)
 rw [← hW]
 clear hW
 go_wp2_with (fail)
 refine ((hS1_h.out _ bW_h.out)).mono ?_
 rintro e w1 ⟨rfl, hq1⟩
 have hb1 : Below W.heap.size W w1 := Qt.below hq1
 have hB1 := below_trans bW_h.out hb1 bW_h.out.size
 have k01 := t_box_below k0_h.out hb1
 have k11 := t_box_below k1_h.out hb1
 clear c0 c1 c2 c3 f0 f1 f2 f3 d0 d1 d2 d3 g0 g1 g2 g3 hq1
 obtain ⟨⟨c0, c1, c2, c3⟩, f0, f1, f2, f3⟩ := t_box4 k01
 obtain ⟨⟨d0, d1, d2, d3⟩, g0, g1, g2, g3⟩ := t_box4 k11
 clear k01 k11 hb1
 cases E1
 case false =>
  obtain rfl : D = false := hDE_h.out
  have hB1_h := lH hB1; clear hB1
  go_wp2_with (fail)
  go_ret
  exact ⟨rfl, hB1_h.out⟩
 case true =>
  obtain rfl : D = E2 := hDE_h.out.trans (Bool.true_and _)
  have hB1_h := lH hB1; clear hB1
  go_wp2_with (fail)
  refine ((hS2_h.out _ hB1_h.out)).mono ?_
  rintro e w2 ⟨rfl, hq2⟩
  have hB2 := below_trans hB1_h.out (Qt.below hq2) hB1_h.out.size
  clear hq2; have hB2_h := lH hB2; clear hB2
  go_wp2_with (fail)
  go_ret
  exact ⟨rfl, hB2_h.out⟩
set_option maxRecDepth 8000 in
set_option maxHeartbeats 2000000 in
theorem areDifferent_any (A : Option Addr) (c n : Nat) (l : List Int) (w : World) (h : RdI w A l) (hl : l.length ≤ 1048576) (hn : n ≤ 1048576) :
  Calls Try.prog 41 #[.slice A l.length c, .int .i64 n] w fun e w' => e = .returned (.bool (difB (n : Int) l)) ∧ Below w.heap.size w w' := by
 obtain ⟨m, hm⟩ : ∃ m, m = l.length := ⟨_, rfl⟩
 obtain ⟨T, hT⟩ : ∃ T, T = difB (n : Int) l := ⟨_, rfl⟩
 rw [← hm] at hl ⊢
 rw [← hT]
 have hm_h := lH hm; have hT_h := lH hT; clear hm hT
 go_enter Try.func41, Try.ntmps41
 go_wp2_with (at_make; refine wpList_make_Sl _ rfl _ _ _ rfl tBool Try.underlying73 info_bool n n rfl rfl rfl rfl (Nat.le_refl _) (by omega) (by unfold maxLen; omega) ?_; intro G w1 hs hG hb1)
 have hs0 : Sl w1 tBool 1 (some G) n n (bls (seenM n (l.take 0))) := by
  have e : (madeCells (Value.bool false).cells (n * 1)).toList.take (n * 1) = bls (List.replicate n false) := by
   rw [Nat.mul_one]; simp [Value.cells, toList_madeCells_one, bls]
  rw [List.take_zero, seenM_nil, ← e]; exact hs
 have hp0 : difGo (n : Int) (l.take 0) (l.drop 0) = T := by rw [hT_h.out]; rfl
 clear hs; have hs0_h := lH hs0; have hp0_h := lH hp0; have hb1_h := lH hb1; clear hs0 hp0 hb1
 go_loopw [12] (fun iv wr => ∃ k : Nat, k ≤ m ∧ iv = .int .i64 k ∧ Sl wr tBool 1 (some G) n n (bls (seenM n (l.take k))) ∧ difGo (n : Int) (l.take k) (l.drop k) = T ∧ Below w.heap.size w wr) (fun iv _ => m - (intOf iv).toNat)
 case atStart => exact ⟨0, Nat.zero_le _, rfl, hs0_h.out, hp0_h.out, hb1_h.out⟩
 case round =>
  obtain ⟨k, hk, rfl, hS, hp, hB⟩ := hrel
  clear hs0_h hp0_h
  by_cases hlt : k < m
  · obtain ⟨ad, x, rfl, hx, hc⟩ := (h.below' hB).at_ (j := k) (by rw [← hm_h.out]; exact hlt)
    have hkI : (k : Int) < (m : Int) := by omega
    have htk : l.take (k + 1) = l.take k ++ [x] := by rw [List.take_add_one, hx]; rfl
    rw [drop_of hx] at hp
    unfold difGo at hp
    have wn : IntKind.i64.wrap ((n : Int) - 1) = (n : Int) - 1 := IntWalk.i64_in _ (by omega)
    by_cases hin : t_inB x 0 ((n : Int) - 1) = true
    · have hb0 : 0 ≤ x ∧ x ≤ (n : Int) - 1 := of_decide_eq_true hin
      obtain ⟨j, rfl⟩ : ∃ j : Nat, x = (j : Int) := ⟨x.toNat, by omega⟩
      have hjm : j < n := by omega
      have hI := fun (W : World) => t_within_any (j : Int) 0 ((n : Int) - 1) W
      simp only [hin] at hI
      obtain ⟨b, hb⟩ : ∃ b, b = (l.take k).contains (j : Int) := ⟨_, rfl⟩
      have hsn := seenM_get (n := n) (l := l.take k) hjm
      rw [← hb] at hsn
      obtain ⟨ad2, e2, -, y0, y1⟩ := Sl.cell hS (bls_get hsn)
      obtain rfl := Option.some.inj e2
      have y1j := y1 j
      have hj0 : (0 : Int) ≤ (j : Int) := by omega
      have hjc : (j : Int) < (n : Int) := by omega
      rw [hin, ← hb, Bool.true_and] at hp
      cases b
      · rw [if_pos (by rfl), ← htk] at hp
        have hset := Sl.set hS rfl j (.bool true) (by simp [bls]; omega)
        rw [bls_set, ← seenM_in hjm, ← htk] at hset
        have hks : Keeps (fun b => b = G.block) wr (wr.setCell (G.add j) (.bool true)) := Keeps.setCell (S := fun b => b = G.block) (Keeps.refl _ wr) (p := G.add j) (by rw [block_of_add]) _
        have hB2 := below_keeps hB hks hB.size (fun b hb => by omega)
        clear hks hin hb0 hsn e2 y1; have hx_h := lH hx; have hp_h := lH hp; have hset_h := lH hset; have hB2_h := lH hB2; have hB_h := lH hB; have hS_h := lH hS; have hb_h := lH hb; have hI_h := lH hI; have htk_h := lH htk; clear hx hp hset hB2 hB hS hb hI htk
        go_wp2_with (fail)
        refine (hI_h.out _).mono ?_
        rintro e w' ⟨rfl, rfl⟩
        go_wp2_with (fail)
        go_roundw
        case rel => exact ⟨k + 1, by omega, by go_num, hset_h.out, hp_h.out, hB2_h.out⟩
        case measure => simp [intOf]; omega
      · rw [if_neg (by decide)] at hp
        obtain rfl : T = false := hp.symm
        clear hin hb0 hsn e2 y1; have hx_h := lH hx; have hp_h := lH hp; have hB_h := lH hB; have hS_h := lH hS; have hb_h := lH hb; have hI_h := lH hI; have htk_h := lH htk; clear hx hp hB hS hb hI htk
        go_wp2_with (fail)
        refine (hI_h.out _).mono ?_
        rintro e w' ⟨rfl, rfl⟩
        go_wp2_with (fail)
        go_ret
        exact ⟨rfl, hB_h.out⟩
    · have hin' : t_inB x 0 ((n : Int) - 1) = false := by simpa using hin
      have hI := fun (W : World) => t_within_any x 0 ((n : Int) - 1) W
      simp only [hin'] at hI
      rw [hin', Bool.false_and, if_neg (by decide)] at hp
      obtain rfl : T = false := hp.symm
      clear hin hin'; have hx_h := lH hx; have hp_h := lH hp; have hB_h := lH hB; have hS_h := lH hS; have hI_h := lH hI; have htk_h := lH htk; clear hx hp hB hS hI htk
      go_wp2_with (fail)
      refine (hI_h.out _).mono ?_
      rintro e w' ⟨rfl, rfl⟩
      go_wp2_with (fail)
      go_ret
      exact ⟨rfl, hB_h.out⟩
  · obtain rfl : k = m := by omega
    rw [List.drop_of_length_le (by rw [← hm_h.out]; exact Nat.le_refl _)] at hp
    obtain rfl : T = true := by rw [← hp]; unfold difGo; rfl
    have hp_h := lH hp; have hB_h := lH hB; have hS_h := lH hS; clear hp hB hS
    go_wp2_with (fail)
    go_ret
    exact ⟨rfl, hB_h.out⟩
set_option maxRecDepth 100000 in
set_option maxHeartbeats 2000000 in
theorem szMatch_law {v : Value} {m : Ma} (left : Int) {w : World} (h : RdMa w v m) (hB : BigMatch m) (h0 : 0 ≤ left) (h1 : left ≤ 1048576) :
  Calls Try.prog 5 #[v, .int .i64 left] w fun e w' => e = .returned (.int .i64 (szMa m left)) ∧ Below w.heap.size w w' := by
 obtain ⟨hl1, hl2⟩ := hB
 obtain ⟨⟨B, b, s⟩, ⟨C, d, t⟩, rfl, e2, e3, -, -⟩ := h
 obtain ⟨s', t'⟩ := m
 have e2' : s = s' := e2
 have e3' : t = t' := e3
 subst e2' e3'
 have hl1' : s.length ≤ maxLen := hl1
 have hl2' : t.length ≤ maxLen := hl2
 obtain ⟨sl, hsl⟩ : ∃ sl, sl = s.length := ⟨_, rfl⟩
 obtain ⟨tl, htl⟩ : ∃ tl, tl = t.length := ⟨_, rfl⟩
 show Calls Try.prog _ #[.agg #[.slice B s.length b, .slice C t.length d], .int .i64 left] w fun e w' => e = .returned (.int .i64 (szMa (s, t) left)) ∧ Below w.heap.size w w'
 obtain ⟨S, hS⟩ : ∃ S, S = szMa (s, t) left := ⟨_, rfl⟩
 rw [← hS]
 unfold szMa at hS
 simp only [← hsl, ← htl] at hS
 rw [← hsl] at hl1' ⊢
 rw [← htl] at hl2' ⊢
 obtain ⟨W, hW, bW, k0⟩ : ∃ W, W = w.alloc (.cells #[.slice B sl b, .slice C tl d] 27) ∧ Below w.heap.size w W ∧ W.heap[w.heap.size]? = some (.cells #[.slice B sl b, .slice C tl d] 27) := ⟨_, rfl, t_below_alloc _ _, heap_alloc_new _ _⟩
 have hC1 := szIntL_any B b sl left W h0 h1 hl1'
 obtain ⟨y, hy⟩ : ∃ y, y = t_szL left sl := ⟨_, rfl⟩
 rw [← hy] at hC1 hS
 obtain ⟨⟨c0, c1⟩, f0, f1⟩ := t_box2 k0
 by_cases hyn : y < 0
 · have hy1 : y = -1 := by rw [hy]; exact szL_neg (by rw [← hy]; exact hyn)
   rw [if_pos hyn] at hS
   subst hS
   subst hy1
   have hC1_h := lH hC1; have hy_h := lH hy; have hsl_h := lH hsl; have htl_h := lH htl; have bW_h := lH bW; have k0_h := lH k0; clear hC1 hy hsl htl bW k0; clear hl1 hl2 e2 e3
   go_enter Try.func5, Try.ntmps5
   go_upto_region 1 with (fail)
   rw [← hW]
   clear hW
   go_wp2_with (fail)
   refine (hC1_h.out).mono ?_
   rintro e w1 ⟨rfl, rfl⟩
   go_wp2_with (fail)
   go_ret
   exact ⟨rfl, bW_h.out⟩
 · rw [if_neg hyn] at hS
   have hyx : y ≤ 1048576 := by have := szL_nn (show 0 ≤ t_szL left sl by rw [← hy]; omega); omega
   have hC2 := szIntL_any C d tl y W (by omega) hyx hl2'
   rw [← hS] at hC2
   by_cases hSn : S < 0
   · have hS1 : S = -1 := by rw [hS]; exact szL_neg (by rw [← hS]; exact hSn)
     subst hS1
     have hC1_h := lH hC1; have hC2_h := lH hC2; have hy_h := lH hy; have hS_h := lH hS; have hsl_h := lH hsl; have htl_h := lH htl; have bW_h := lH bW; have k0_h := lH k0; clear hC1 hC2 hy hS hsl htl bW k0; clear hl1 hl2 e2 e3
     go_enter Try.func5, Try.ntmps5
     go_upto_region 1 with (fail)
     rw [← hW]
     clear hW
     go_wp2_with (fail)
     refine (hC1_h.out).mono ?_
     rintro e w1 ⟨rfl, rfl⟩
     go_wp2_with (fail)
     refine (hC2_h.out).mono ?_
     rintro e w1 ⟨rfl, rfl⟩
     go_wp2_with (fail)
     go_ret
     exact ⟨rfl, bW_h.out⟩
   · have hC1_h := lH hC1
     have hC2_h := lH hC2; have hy_h := lH hy; have hS_h := lH hS; have hsl_h := lH hsl; have htl_h := lH htl; have bW_h := lH bW; have k0_h := lH k0; clear hC1 hC2 hy hS hsl htl bW k0; clear hl1 hl2 e2 e3
     go_enter Try.func5, Try.ntmps5
     go_upto_region 1 with (fail)
     rw [← hW]
     clear hW
     go_wp2_with (fail)
     refine (hC1_h.out).mono ?_
     rintro e w1 ⟨rfl, rfl⟩
     go_wp2_with (fail)
     refine (hC2_h.out).mono ?_
     rintro e w1 ⟨rfl, rfl⟩
     go_wp2_with (fail)
     go_ret
     exact ⟨rfl, bW_h.out⟩
set_option maxRecDepth 100000 in
set_option maxHeartbeats 2000000 in
theorem toMatch_law {v : Value} {m : Ma} {w : World} (h : RdMa w v m) (ok : OkMa m) :
  Calls Try.prog 8 #[v] w fun e w' => ∃ v' fp, e = .returned v' ∧ OwMa w' v' m fp ∧ FreshL w.heap.size fp ∧ Below w.heap.size w w' := by
 obtain ⟨⟨B, b, s⟩, ⟨C, d, t⟩, rfl, e2, e3, hRa, hRb⟩ := h
 obtain ⟨s', t'⟩ := m
 have e2' : s = s' := e2
 have e3' : t = t' := e3
 subst e2' e3'
 obtain ⟨ok2, ok3, -⟩ := ok
 have ok2' : s.length ≤ 1048576 := ok2
 have ok3' : t.length ≤ 1048576 := ok3
 obtain ⟨p, hp⟩ : ∃ p, p = s.length := ⟨_, rfl⟩
 obtain ⟨q, hq⟩ : ∃ q, q = t.length := ⟨_, rfl⟩
 have hC1 := fun (W : World) (hb : Below w.heap.size w W) => toIntS_any B b s W (RdI.below hRa hb) (by omega)
 have hC2 := fun (W : World) (hb : Below w.heap.size w W) => toIntS_any C d t W (RdI.below hRb hb) (by omega)
 simp only [← hp] at hC1
 simp only [← hq] at hC2
 show Calls Try.prog _ #[.agg #[.slice B s.length b, .slice C t.length d]] w fun e w' => ∃ v' fp, e = .returned v' ∧ OwMa w' v' (s, t) fp ∧ FreshL w.heap.size fp ∧ Below w.heap.size w w'
 rw [← hp, ← hq]
 obtain ⟨W1, hW, bW1, j0, j1, j2'⟩ := allocs3 w (.cells #[.slice B p b, .slice C q d] 27) (.cells #[.slice none 0 0, .slice none 0 0] tMa) (.cells #[.slice none 0 0, .slice none 0 0] tMa)
 have hz1 := t_box_lt j2'
 obtain ⟨⟨c0, c1⟩, f0, f1⟩ := t_box2 j0
 clear hRa hRb e2 e3 ok2 ok3; have hC1_h := lH hC1; have hC2_h := lH hC2; have hp_h := lH hp; have hq_h := lH hq; have j0_h := lH j0; have j1_h := lH j1; have j2'_h := lH j2'; have bW1_h := lH bW1; clear hC1 hC2 hp hq j0 j1 j2' bW1
 go_enter Try.func8, Try.ntmps8
 go_upto_region 2 with (fail)
 rw [← hW]
 clear hW
 go_wp2_with (fail)
 refine (hC1_h.out W1 bW1_h.out).mono ?_
 rintro e w5 ⟨A5, q5, rfl, hi5, hf5, hb5⟩
 rw [← hp_h.out]
 have m0 := t_box_below j0_h.out hb5
 have m1 := t_box_below j1_h.out hb5
 have m2 := t_box_below j2'_h.out hb5
 obtain ⟨W6, hW6⟩ : ∃ W6, W6 = w5.setCell ⟨w.heap.size + 1 + 1, 0, none⟩ (.slice A5 p q5) := ⟨_, rfl⟩
 obtain ⟨n2, s5⟩ := box_set m2 0 (.slice A5 p q5)
 rw [← hW6] at n2 s5
 have n2' : W6.heap[w.heap.size + 1 + 1]? = some (.cells #[.slice A5 p q5, .slice none 0 0] tMa) := n2
 have n0 := t_box_keeps m0 s5 (by omega)
 have n1 := t_box_keeps m1 s5 (by omega)
 have hz6 : W1.heap.size ≤ W6.heap.size := Nat.le_trans hb5.size s5.size
 have hi6 := hi5.keeps s5 (fun x hx e => by have := hf5 x hx; omega)
 have bW6 := below_keeps (below_trans bW1_h.out hb5 bW1_h.out.size) s5 (Nat.le_trans bW1_h.out.size hb5.size) (fun x hx => by omega)
 clear c0 c1 f0 f1 n2 hb5 s5 m0 m1 hi5
 obtain ⟨⟨d0, d1⟩, g0, g1⟩ := t_box2 m2
 have m2_h := lH m2; have n0_h := lH n0; have n1_h := lH n1; have n2'_h := lH n2'; have hi6_h := lH hi6; have bW6_h := lH bW6; have hf5_h := lH hf5; clear m2 n0 n1 n2' hi6 bW6 hf5
 go_upto_region 3 with (fail)
 rw [← hW6]
 clear hW6 d0 d1 g0 g1
 obtain ⟨⟨c0, c1⟩, f0, f1⟩ := t_box2 n0_h.out
 go_wp2_with (fail)
 refine (hC2_h.out W6 bW6_h.out).mono ?_
 rintro e w7 ⟨A7, q7, rfl, hi7, hf7, hb7⟩
 rw [← hq_h.out]
 have o1 := t_box_below n1_h.out hb7
 have o2 := t_box_below n2'_h.out hb7
 obtain ⟨W8, hW8⟩ : ∃ W8, W8 = w7.setCell ⟨w.heap.size + 1 + 1, 1, none⟩ (.slice A7 q q7) := ⟨_, rfl⟩
 obtain ⟨r2, s7⟩ := box_set o2 1 (.slice A7 q q7)
 rw [← hW8] at r2 s7
 have r2' : W8.heap[w.heap.size + 1 + 1]? = some (.cells #[.slice A5 p q5, .slice A7 q q7] tMa) := r2
 have r1 := t_box_keeps o1 s7 (by omega)
 have hO7 := OwLs.two (x := (A5, q5, s)) (y := (A7, q7, t)) hi6_h.out hb7 hi7 hf7
 have hff7 : FreshL W1.heap.size (fpR [((A5, q5, s) : Hd), (A7, q7, t)]) := fun x hx => by
  rw [fpR_cons, fpR_cons] at hx
  rcases List.mem_append.1 hx with hx | hx
  · exact hf5_h.out x hx
  · rcases List.mem_append.1 hx with hx | hx
    · have := hf7 x hx; omega
    · simp [fpR] at hx
 have hO8 := hO7.keeps s7 (fun x hx e => by have := hff7 x hx; omega)
 have bW8 := below_keeps (below_trans bW6_h.out hb7 bW6_h.out.size) s7 (Nat.le_trans bW6_h.out.size hb7.size) (fun x hx => by omega)
 obtain ⟨t1, t2⟩ := t_set2 (a := .slice A5 p q5) (b := .slice A7 q q7) r1
 have hO9 := hO8.keeps t2 (fun x hx e => by have := hff7 x hx; omega)
 have bW9 := below_keeps bW8 t2 bW8.size (fun x hx => by omega)
 have hffw := hff7.mono bW1_h.out.size
 clear c0 c1 f0 f1 r2 hb7 s7 o1 hi7 hf7 hO7 hO8 bW8 t2 hff7
 obtain ⟨⟨d0, d1⟩, g0, g1⟩ := t_box2 o2
 have o2_h := lH o2; have r1_h := lH r1; have r2'_h := lH r2'; have hO9_h := lH hO9; have bW9_h := lH bW9; have hffw_h := lH hffw; have t1_h := lH t1; clear o2 r1 r2' hO9 bW9 hffw t1
 go_upto_region 4 with (fail)
 rw [← hW8]
 clear hW8 d0 d1 g0 g1
 obtain ⟨⟨d0, d1⟩, g0, g1⟩ := t_box2 r2'_h.out
 obtain ⟨⟨c0, c1⟩, f0, f1⟩ := t_box2 r1_h.out
 go_wp2_with (fail)
 refine bodyPost_ret (results_cell_row rfl _ _ (w.heap.size + 1) _ _ (0, 0) _ rfl t1_h.out Try.underlying36 rfl (by kernel_rfl)) rfl ?_
 refine ⟨_, fpR [((A5, q5, s) : Hd), (A7, q7, t)], rfl, ⟨(A5, q5, s), (A7, q7, t), ?_, rfl, rfl, hO9_h.out, rfl⟩, hffw_h.out, bW9_h.out⟩
 rw [hp_h.out, hq_h.out]
set_option maxRecDepth 100000 in
set_option maxHeartbeats 2000000 in
theorem eqMatch_law {v v' : Value} {m m' : Ma} {w : World} (h : RdMa w v m) (h' : RdMa w v' m') (ok : OkMa m) :
  Calls Try.prog 11 #[v, v'] w fun e w' => e = .returned (.bool (decide (m = m'))) ∧ Below w.heap.size w w' := by
 obtain ⟨⟨B, b, s⟩, ⟨C, d, t⟩, rfl, e2, e3, hRa, hRb⟩ := h
 obtain ⟨⟨B', b', s'⟩, ⟨C', d', t'⟩, rfl, e2', e3', hRa', hRb'⟩ := h'
 obtain ⟨s0, t0⟩ := m
 obtain ⟨s0', t0'⟩ := m'
 have a2 : s = s0 := e2
 have a3 : t = t0 := e3
 have b2 : s' = s0' := e2'
 have b3 : t' = t0' := e3'
 subst a2 a3 b2 b3
 obtain ⟨ok2, ok3, -⟩ := ok
 have ok2' : s.length ≤ 1048576 := ok2
 have ok3' : t.length ≤ 1048576 := ok3
 have hQ1 := fun (W : World) (hb : Below w.heap.size w W) => eqIntS_any B B' b b' s s' W (RdI.below hRa hb) (RdI.below hRa' hb) (by omega)
 have hQ2 := fun (W : World) (hb : Below w.heap.size w W) => eqIntS_any C C' d d' t t' W (RdI.below hRb hb) (RdI.below hRb' hb) (by omega)
 show Calls Try.prog _ #[.agg #[.slice B s.length b, .slice C t.length d], .agg #[.slice B' s'.length b', .slice C' t'.length d']] w fun e w' => e = .returned (.bool (decide (((s, t) : Ma) = (s', t')))) ∧ Below w.heap.size w w'
 obtain ⟨D, hD⟩ : ∃ D, D = decide (((s, t) : Ma) = (s', t')) := ⟨_, rfl⟩
 obtain ⟨D1, hD1⟩ : ∃ D, D = decide (s = s') := ⟨_, rfl⟩
 obtain ⟨D2, hD2⟩ : ∃ D, D = decide (t = t') := ⟨_, rfl⟩
 rw [← hD]
 simp only [← hD1] at hQ1
 simp only [← hD2] at hQ2
 have hDD : D = (D1 && D2) := by
  rw [hD, hD1, hD2, Bool.eq_iff_iff]; simp
 obtain ⟨p, hp⟩ : ∃ p, p = s.length := ⟨_, rfl⟩
 obtain ⟨q, hq⟩ : ∃ q, q = t.length := ⟨_, rfl⟩
 obtain ⟨p', hp'⟩ : ∃ p, p = s'.length := ⟨_, rfl⟩
 obtain ⟨q', hq'⟩ : ∃ q, q = t'.length := ⟨_, rfl⟩
 simp only [← hp, ← hp'] at hQ1
 simp only [← hq, ← hq'] at hQ2
 rw [← hp, ← hq, ← hp', ← hq']
 obtain ⟨W, hW, bW, k0, k1⟩ := allocs2 w (.cells #[.slice B p b, .slice C q d] tMa) (.cells #[.slice B' p' b', .slice C' q' d'] tMa)
 obtain ⟨⟨c0, c1⟩, f0, f1⟩ := t_box2 k0
 obtain ⟨⟨d0, d1⟩, g0, g1⟩ := t_box2 k1
 clear hRa hRa' hRb hRb' hD hD1 hD2 hp hq hp' hq' e2 e3 e2' e3' ok2 ok3
 cases D1
 · obtain rfl : D = false := by rw [hDD]; rfl
   clear hDD; have hQ1_h := lH hQ1; have hQ2_h := lH hQ2; have k0_h := lH k0; have k1_h := lH k1; have bW_h := lH bW; clear hQ1 hQ2 k0 k1 bW
   go_enter Try.func11, Try.ntmps11
   go_upto_region 1 with (fail)
   rw [← hW]
   clear hW
   go_wp2_with (fail)
   refine (hQ1_h.out W bW_h.out).mono ?_
   rintro e w2 ⟨rfl, hq2⟩
   have hB2 := below_trans bW_h.out hq2.below bW_h.out.size
   clear hq2; have hB2_h := lH hB2; clear hB2
   go_wp2_with (fail)
   go_ret
   exact ⟨rfl, hB2_h.out⟩
 · obtain rfl : D = D2 := by rw [hDD]; rfl
   clear hDD; have hQ1_h := lH hQ1; have hQ2_h := lH hQ2; have k0_h := lH k0; have k1_h := lH k1; have bW_h := lH bW; clear hQ1 hQ2 k0 k1 bW
   go_enter Try.func11, Try.ntmps11
   go_upto_region 1 with (fail)
   rw [← hW]
   clear hW
   go_wp2_with (fail)
   refine (hQ1_h.out W bW_h.out).mono ?_
   rintro e w2 ⟨rfl, hq2⟩
   clear c0 c1 f0 f1 d0 d1 g0 g1
   obtain ⟨⟨c0, c1⟩, f0, f1⟩ := t_box2 (box_qt k0_h.out hq2)
   obtain ⟨⟨d0, d1⟩, g0, g1⟩ := t_box2 (box_qt k1_h.out hq2)
   have hB2 := below_trans bW_h.out hq2.below bW_h.out.size
   clear hq2; have hB2_h := lH hB2; clear hB2
   go_wp2_with (fail)
   refine (hQ2_h.out w2 hB2_h.out).mono ?_
   rintro e w3 ⟨rfl, hq3⟩
   have hB3 := below_trans hB2_h.out hq3.below hB2_h.out.size
   clear hq3; have hB3_h := lH hB3; clear hB3
   cases D
   · go_wp2_with (fail)
     go_ret
     exact ⟨rfl, hB3_h.out⟩
   · go_wp2_with (fail)
     go_ret
     exact ⟨rfl, hB3_h.out⟩
theorem cell_below {w w' : World} {ad : Addr} {u : Value} (h : w.cell? ad = some u) (hb : Below w.heap.size w w') : w'.cell? ad = some u := (hb.cell (World.block_lt_of_cell? w _ h)).trans h
theorem egB_all {g : Gr} (h : grB g = true) : ∀ e, e ∈ g.2.1 → egB e = true := by
 unfold grB at h
 simp only [Bool.and_eq_true] at h
 exact List.all_eq_true.1 h.2.1
theorem IS.ne_box {w : World} {A : Option Addr} {c b : Nat} {l : List Int} {cs : Array Value} (h : IS w A c l) (hb : w.heap[b]? = some (.cells cs tEd)) : ∀ x, x ∈ fpA A → x ≠ b := by
 intro x hx e
 subst e
 rcases h.2.2.2 with ⟨rfl, _⟩ | ⟨g, off, cur, rfl, hg, _⟩
 · simp at hx
 · simp at hx
   subst hx
   rw [hb] at hg
   injection hg with hg
   injection hg with _ h2 _
   exact absurd h2 (by decide)
set_option maxRecDepth 100000 in
set_option maxHeartbeats 4000000 in
theorem isMatch_any {vg vp vm : Value} {g pt : Gr} {ma : Ma} {fp : List Nat} (w : World) (hg : RdGr w vg g) (hp : RdGr w vp pt) (hm : OwMa w vm ma fp) (bg : grB g = true) (bp : grB pt = true) (okm : OkMa ma) :
  Calls Try.prog 25 #[vg, vp, vm] w fun e w' => e = .returned (.bool (maB g pt ma)) ∧ Below w.heap.size w w' := by
 obtain ⟨n, e1, hn, hq60, _, _, hin⟩ := grB_parts bg
 obtain ⟨n', e1', hn', hq60', _, _, hin'⟩ := grB_parts bp
 have hegB := egB_all bp
 obtain ⟨A, c, hs, ⟨B, b, s⟩, ⟨C, d, t⟩, rfl, f1, _, _, hE, _, _⟩ := hg
 obtain ⟨A', c', hs', ⟨B', b', s'⟩, ⟨C', d', t'⟩, rfl, f1', _, _, hE', _, _⟩ := hp
 obtain ⟨⟨X, x, u⟩, ⟨Y, y, v⟩, rfl, e4, e5, hOw, _⟩ := hm
 have hUI : IS w X x u := hOw.rows (X, x, u) (List.mem_cons_self ..)
 have hVI : IS w Y y v := hOw.rows (Y, y, v) (List.mem_cons_of_mem _ (List.mem_cons_self ..))
 have hU := hUI.rd
 have hV := hVI.rd
 obtain ⟨u0, v0⟩ := ma
 have a4 : u = u0 := e4
 have a5 : v = v0 := e5
 subst a4 a5
 have lu : u.length ≤ 1048576 := okm.1
 have lv : v.length ≤ 1048576 := okm.2.1
 obtain ⟨T, hT⟩ : ∃ T, T = maB g pt (u, v) := ⟨_, rfl⟩
 have hTT := hT
 unfold maB at hTT
 rw [← hT]
 show Calls Try.prog _ #[.agg #[.int .i64 g.1, .slice A hs.length c, .slice B s.length b, .slice C t.length d], .agg #[.int .i64 pt.1, .slice A' hs'.length c', .slice B' s'.length b', .slice C' t'.length d'], .agg #[.slice X u.length x, .slice Y v.length y]] w _
 rw [e1, e1']
 have hin1 := inW_iff.1 (inW_app_right (inW_app_right (show inW (n' : Int) (pt.2.2.1 ++ (pt.2.2.2 ++ edW pt.2.1)) = true from hin')))
 have hql : g.2.1.length = hs.length := by rw [f1, List.length_map]
 have hql' : pt.2.1.length = hs'.length := by rw [f1', List.length_map]
 rw [e1, e1', hql, hql'] at hTT
 obtain ⟨W, hW, bW, k3, k4, k5⟩ := allocs3 w (.cells #[.int .i64 (n : Int), .slice A hs.length c, .slice B s.length b, .slice C t.length d] tGr) (.cells #[.int .i64 (n' : Int), .slice A' hs'.length c', .slice B' s'.length b', .slice C' t'.length d'] tGr) (.cells #[.slice X u.length x, .slice Y v.length y] tMa)
 have hD1 := fun (W' : World) (hb : Below w.heap.size w W') => areDifferent_any X x n u W' (hU.below hb) lu (by omega)
 have hD2 := fun (W' : World) (hb : Below w.heap.size w W') => areDifferent_any Y y hs.length v W' (hV.below hb) lv (by omega)
 obtain ⟨D1, hD1e⟩ : ∃ D, D = difB (n : Int) u := ⟨_, rfl⟩
 obtain ⟨D2, hD2e⟩ : ∃ D, D = difB (hs.length : Int) v := ⟨_, rfl⟩
 obtain ⟨AL, hAL⟩ : ∃ D, D = (List.range hs'.length).all (atB g pt (u, v)) := ⟨_, rfl⟩
 have hTT' : T = ((decide ((u.length : Int) = (n' : Int)) && decide (v.length = hs'.length)) && ((D1 && D2) && AL)) := by rw [hTT, hD1e, hD2e, hAL]
 rw [show decide (v.length = hs'.length) = decide ((v.length : Int) = (hs'.length : Int)) from decide_eq_decide.2 Int.ofNat_inj.symm] at hTT'
 simp only [← hD1e] at hD1
 simp only [← hD2e] at hD2
 clear hTT hT
 have hTT := hTT'
 clear hTT'
 have hq60 : hs.length ≤ 60 := by rw [← hql]; exact hq60
 have hq60' : hs'.length ≤ 60 := by rw [← hql']; exact hq60'
 obtain ⟨q, hq⟩ : ∃ q, q = hs.length := ⟨_, rfl⟩
 obtain ⟨q', hq'⟩ : ∃ q, q = hs'.length := ⟨_, rfl⟩
 obtain ⟨nu, hnu⟩ : ∃ q, q = u.length := ⟨_, rfl⟩
 obtain ⟨nv, hnv⟩ : ∃ q, q = v.length := ⟨_, rfl⟩
 rw [← hq] at hq60
 rw [← hq'] at hq60'
 rw [← hq] at hD2e hW k3 hD2
 rw [← hq'] at hAL hW k4 hTT
 rw [← hnu] at hTT hW k5 hD1 lu
 rw [← hnv] at hTT hW k5 hD2 lv
 rw [← hq, ← hq', ← hnu, ← hnv]
 generalize s.length = p at *
 generalize t.length = r at *
 generalize s'.length = p' at *
 generalize t'.length = r' at *
 obtain ⟨B1, hB1⟩ : ∃ D, D = decide ((nu : Int) = (n' : Int)) := ⟨_, rfl⟩
 obtain ⟨B2, hB2⟩ : ∃ D, D = decide ((nv : Int) = (q' : Int)) := ⟨_, rfl⟩
 rw [← hB1, ← hB2] at hTT
 obtain ⟨⟨c0, c1, c2, c3⟩, c4, c5, c6, c7⟩ := t_box4 k3
 obtain ⟨⟨d0, d1, d2, d3⟩, d4, d5, d6, d7⟩ := t_box4 k4
 obtain ⟨⟨i0, i1⟩, i2, i3⟩ := t_box2 k5
 clear hOw okm e1 e1' bg bp hin hin' e4 e5 hql hql'; have hE_h := lH hE; have hE'_h := lH hE'; have hU_h := lH hU; have hV_h := lH hV; have f1_h := lH f1; have f1'_h := lH f1'; have hegB_h := lH hegB; have hUI_h := lH hUI; have hVI_h := lH hVI; have hin1_h := lH hin1; have hD1_h := lH hD1; have hD2_h := lH hD2; have hD1e_h := lH hD1e; have hD2e_h := lH hD2e; have hAL_h := lH hAL; have hTT_h := lH hTT; have hq_h := lH hq; have hq'_h := lH hq'; have hnu_h := lH hnu; have hnv_h := lH hnv; have hB1_h := lH hB1; have hB2_h := lH hB2; have bW_h := lH bW; have k3_h := lH k3; have k4_h := lH k4; have k5_h := lH k5; clear hE hE' hU hV f1 f1' hegB hUI hVI hin1 hD1 hD2 hD1e hD2e hAL hTT hq hq' hnu hnv hB1 hB2 bW k3 k4 k5
 go_enter Try.func25, Try.ntmps25
 go_upto_region 1 with (fail)
 rw [← hW]
 clear hW
 go_cut [41] (fun sv wx => sv = .bool (!((B1 && B2) && (D1 && D2))) ∧ Below W.heap.size W wx)
 case first =>
  by_cases x1 : (nu : Int) = (n' : Int)
  case neg =>
   have hB1' : B1 = false := by rw [hB1_h.out, decide_eq_false x1]
   subst hB1'
   go_wp2_with (fail)
   go_meet
   exact ⟨rfl, Below.refl _ _⟩
  by_cases x2 : (nv : Int) = (q' : Int)
  case neg =>
   have hB2' : B2 = false := by rw [hB2_h.out, decide_eq_false x2]
   subst hB2'
   go_wp2_with (fail)
   go_meet
   exact ⟨by cases B1 <;> rfl, Below.refl _ _⟩
  have hB1' : B1 = true := by rw [hB1_h.out, decide_eq_true x1]
  have hB2' : B2 = true := by rw [hB2_h.out, decide_eq_true x2]
  subst hB1' hB2'
  go_wp2_with (fail)
  refine ((hD1_h.out _ bW_h.out)).mono ?_
  rintro e w1 ⟨rfl, hb1⟩
  cases D1
  case false =>
   have hb1_h := lH hb1; clear hb1
   go_wp2_with (fail)
   go_meet
   exact ⟨rfl, hb1_h.out⟩
  case true =>
   have k3a := t_box_below k3_h.out hb1
   have k5a := t_box_below k5_h.out hb1
   have hBw1 := below_trans bW_h.out hb1 bW_h.out.size
   clear c0 c1 c2 c3 c4 c5 c6 c7 i0 i1 i2 i3
   obtain ⟨⟨c0, c1, c2, c3⟩, c4, c5, c6, c7⟩ := t_box4 k3a
   obtain ⟨⟨i0, i1⟩, i2, i3⟩ := t_box2 k5a
   have hb1_h := lH hb1; have k3a_h := lH k3a; have k5a_h := lH k5a; have hBw1_h := lH hBw1; clear hb1 k3a k5a hBw1
   go_wp2_with (fail)
   refine ((hD2_h.out _ hBw1_h.out)).mono ?_
   rintro e w2 ⟨rfl, hb2⟩
   have hb2' := below_trans hb1_h.out hb2 hb1_h.out.size
   clear hb2; have hb2'_h := lH hb2'; clear hb2'
   go_wp2_with (fail)
   go_meet
   exact ⟨by cases D2 <;> rfl, hb2'_h.out⟩
 case rest =>
  obtain ⟨rfl, hWc⟩ := hcut
  obtain ⟨w5, rfl⟩ : ∃ x, x = wc := ⟨_, rfl⟩
  have k4c := t_box_below k4_h.out hWc
  clear c0 c1 c2 c3 c4 c5 c6 c7 d0 d1 d2 d3 d4 d5 d6 d7 i0 i1 i2 i3
  have hB5 := below_trans bW_h.out hWc bW_h.out.size
  obtain ⟨F, hF⟩ : ∃ F, F = ((B1 && B2) && (D1 && D2)) := ⟨_, rfl⟩
  rw [← hF]
  cases F
  case false =>
   have hT0 : T = false := by
    rw [hTT_h.out]
    cases B1 <;> cases B2 <;> cases D1 <;> cases D2 <;> first | rfl | cases hF
   subst hT0
   have hF_h := lH hF; have hB5_h := lH hB5; clear hF hB5
   go_wp2_with (fail)
   go_ret
   exact ⟨rfl, hB5_h.out⟩
  case true =>
   have hT1 : T = AL := by
    rw [hTT_h.out]
    cases B1 <;> cases B2 <;> cases D1 <;> cases D2 <;> first | rfl | cases hF
   have hD1t : D1 = true := by cases B1 <;> cases B2 <;> cases D1 <;> cases D2 <;> first | rfl | cases hF
   have hD2t : D2 = true := by cases B1 <;> cases B2 <;> cases D1 <;> cases D2 <;> first | rfl | cases hF
   have hB1t : B1 = true := by cases B1 <;> cases B2 <;> cases D1 <;> cases D2 <;> first | rfl | cases hF
   have hB2t : B2 = true := by cases B1 <;> cases B2 <;> cases D1 <;> cases D2 <;> first | rfl | cases hF
   have hvb := (difB_iff.1 (hD2e_h.out.symm.trans hD2t)).1
   have hnn : nu = n' := by have := of_decide_eq_true (hB1_h.out.symm.trans hB1t); omega
   have hnq : nv = q' := by have := of_decide_eq_true (hB2_h.out.symm.trans hB2t); omega
   clear hTT_h hB1_h hB2_h hD1_h hD2_h hD1e_h hD2e_h hD1t hD2t hB1t hB2t hF
   subst hT1
   have hal0 : (List.range 0).all (atB g pt (u, v)) = true := rfl
   obtain ⟨⟨d0, d1, d2, d3⟩, d4, d5, d6, d7⟩ := t_box4 k4c
   have hWc_h := lH hWc; have hB5_h := lH hB5; have k4c_h := lH k4c; have hvb_h := lH hvb; have hnn_h := lH hnn; have hnq_h := lH hnq; clear hWc hB5 k4c hvb hnn hnq
   go_wp2_with (fail)
   go_loopw [45] (fun i wr => ∃ k : Nat, k ≤ q' ∧ i = .int .i64 k ∧ (List.range k).all (atB g pt (u, v)) = true ∧ Below W.heap.size W wr) (fun i _ => q' - (intOf i).toNat)
   case atStart => exact ⟨0, Nat.zero_le _, rfl, rfl, hWc_h.out⟩
   case round =>
    clear hal0 d0 d1 d2 d3 d4 d5 d6 d7 k4c_h hWc_h hB5_h
    obtain ⟨k, hk, rfl, hal, hB⟩ := hrel
    obtain ⟨wo, rfl⟩ : ∃ x, x = wr := ⟨_, rfl⟩
    have hBw := below_trans bW_h.out hB bW_h.out.size
    by_cases hlt : k < q'
    case neg =>
     obtain rfl : q' = k := by omega
     obtain rfl : T = true := by rw [hAL_h.out]; exact hal
     have hBw_h := lH hBw; have hal_h := lH hal; have hB_h := lH hB; clear hBw hal hB
     go_wp2_with (fail)
     go_ret
     exact ⟨rfl, hBw_h.out⟩
    case pos =>
     obtain ⟨ad, κ, vv, B1', b1, s1, C1, b2, t1, rfl, hn2, ⟨d0, d1, d2, d3⟩, hr1, hr2⟩ := (hE'_h.out.below hBw).at_ (j := k) (by rw [← hq'_h.out]; exact hlt)
     have hek : pt.2.1[k]? = some (κ, vv, s1, t1) := by rw [f1'_h.out, List.getElem?_map, hn2]; rfl
     obtain ⟨ad2, f0, rfl, hx2, hc2⟩ := (hV_h.out.below hBw).at_ (j := k) (by rw [← hnv_h.out, hnq_h.out]; exact hlt)
     have hfb := hvb_h.out f0 (List.mem_of_getElem? hx2)
     obtain ⟨f, rfl⟩ : ∃ f : Nat, f0 = (f : Int) := ⟨f0.toNat, by omega⟩
     have hfq : f < q := by omega
     obtain ⟨ad3, κ', vv', B3, b3, s3, C3, b4, t3, rfl, hn3, ⟨y0, y1, y2, y3⟩, hr3, hr4⟩ := (hE_h.out.below hBw).at_ (j := f) (by rw [← hq_h.out]; exact hfq)
     have hef : g.2.1[f]? = some (κ', vv', s3, t3) := by rw [f1_h.out, List.getElem?_map, hn3]; rfl
     have hat : atB g pt (u, v) k = decide (((κ, vv, mapL u s1, mapL u t1) : Eg) = (κ', vv', s3, t3)) := by
      unfold atB
      simp only [List.getD_eq_getElem?_getD, hek, hx2, Option.getD_some, Int.toNat_natCast, hef]
      rfl
     obtain ⟨⟨l1, l2⟩, l3⟩ := egB_len (hegB_h.out _ (List.mem_of_getElem? hek))
     simp only at l1 l2 l3
     obtain ⟨hm1, hm2⟩ := mem_edW_of (List.mem_of_getElem? hek)
     have hi1 : ∀ z, z ∈ s1 → 0 ≤ z ∧ z < (nu : Int) := fun z hz => by rw [hnn_h.out]; exact hin1_h.out z (hm1 z hz)
     have hi2 : ∀ z, z ∈ t1 → 0 ≤ z ∧ z < (nu : Int) := fun z hz => by rw [hnn_h.out]; exact hin1_h.out z (hm2 z hz)
     have hUw := hU_h.out.below hBw
     have hCa := fun (W' : World) (hb : Below wo.heap.size wo W') => mapped_any B1' X b1 x s1.length nu s1 u W' (hr1.below hb) (hUw.below hb) rfl hnu_h.out.symm hi1 (by omega)
     have hCb := fun (W' : World) (hb : Below wo.heap.size wo W') => mapped_any C1 X b2 x t1.length nu t1 u W' (hr2.below hb) (hUw.below hb) rfl hnu_h.out.symm hi2 (by omega)
     obtain ⟨AT, hAT⟩ : ∃ D, D = atB g pt (u, v) k := ⟨_, rfl⟩
     rw [← hAT] at hat
     have hl1 : (mapL u s1).length = s1.length := mapL_length _ _
     have hl2 : (mapL u t1).length = t1.length := mapL_length _ _
     have hkI : (k : Int) < (q' : Int) := by omega
     have hkv : (k : Int) < (nv : Int) := by have := hnq_h.out; omega
     have hfI : (f : Int) < (q : Int) := by omega
     have hal1 : AT = true → (List.range (k + 1)).all (atB g pt (u, v)) = true := fun hh => by
      rw [List.range_succ, List.all_append, hal]
      simp [← hAT, hh]
     have hal0 : AT = false → T = false := fun hh => by
      rw [hAL_h.out, List.all_eq_false]
      exact ⟨k, List.mem_range.2 hlt, by rw [← hAT, hh]; decide⟩
     obtain ⟨p1, hp1⟩ : ∃ p1, p1 = s1.length := ⟨_, rfl⟩
     obtain ⟨r1, hr1'⟩ : ∃ r1, r1 = t1.length := ⟨_, rfl⟩
     obtain ⟨p3, hp3⟩ : ∃ p1, p1 = s3.length := ⟨_, rfl⟩
     obtain ⟨r3, hr3'⟩ : ∃ r1, r1 = t3.length := ⟨_, rfl⟩
     have hr3w := fun (W' : World) (hb : Below wo.heap.size wo W') => hr3.below hb
     have hr4w := fun (W' : World) (hb : Below wo.heap.size wo W') => hr4.below hb
     simp only [← hp1] at hCa hl1 l1
     simp only [← hr1'] at hCb hl2 l2
     rw [← hp1] at d2
     rw [← hr1'] at d3
     rw [← hp3] at y2
     rw [← hr3'] at y3
     have k3r := t_box_below k3_h.out hB
     have k4r := t_box_below k4_h.out hB
     have k5r := t_box_below k5_h.out hB
     obtain ⟨W6, hW6, bW6, k6⟩ := (⟨_, rfl, t_below_alloc _ _, heap_alloc_new _ _⟩ : ∃ W, W = wo.alloc (.cells #[.int .i64 κ, .int .i64 vv, .slice B1' p1 b1, .slice C1 r1 b2] tEd) ∧ Below wo.heap.size wo W ∧ W.heap[wo.heap.size]? = some (.cells #[.int .i64 κ, .int .i64 vv, .slice B1' p1 b1, .slice C1 r1 b2] tEd))
     have k3s := t_box_below k3r bW6
     have k5s := t_box_below k5r bW6
     have hc2s := cell_below hc2 bW6
     have z0 := cell_below y0 bW6
     have z1 := cell_below y1 bW6
     have z2 := cell_below y2 bW6
     have z3 := cell_below y3 bW6
     obtain ⟨⟨x0, x1, x2, x3⟩, x4, x5, x6, x7⟩ := t_box4 k4r
     have hBW6 := below_trans hB bW6 hB.size
     clear hr1 hr2 hr3 hr4 hek hx2 hn2 hn3 hef hfb hm1 hm2 hi1 hi2 hUw l3 k3r k4r k5r hc2 y0 y1 y2 y3; have hal_h := lH hal; have hat_h := lH hat; have hAT_h := lH hAT; have hCa_h := lH hCa; have hCb_h := lH hCb; have hl1_h := lH hl1; have hl2_h := lH hl2; have hal1_h := lH hal1; have hal0_h := lH hal0; have hp1_h := lH hp1; have hr1'_h := lH hr1'; have hp3_h := lH hp3; have hr3'_h := lH hr3'; have hr3w_h := lH hr3w; have hr4w_h := lH hr4w; have bW6_h := lH bW6; have k6_h := lH k6; have k3s_h := lH k3s; have k5s_h := lH k5s; have hc2s_h := lH hc2s; have z0_h := lH z0; have z1_h := lH z1; have z2_h := lH z2; have z3_h := lH z3; have hB_h := lH hB; have hBw_h := lH hBw; have hBW6_h := lH hBW6; clear hal hat hAT hCa hCb hl1 hl2 hal1 hal0 hp1 hr1' hp3 hr3' hr3w hr4w bW6 k6 k3s k5s hc2s z0 z1 z2 z3 hB hBw hBW6
     go_upto_region 6 with (fail)
     rw [← hW6]
     clear hW6 d0 d1 d2 d3 x0 x1 x2 x3 x4 x5 x6 x7
     have hk6 := t_box_lt k6_h.out
     go_cut [9] (fun sv wx => ∃ (bx : Nat) (X1 : Option Addr) (X2 : Nat) (Y1 : Option Addr) (Y2 : Nat), sv = .pointer (some ⟨bx, 0, none⟩) ∧ wx.heap[bx]? = some (.cells #[.int .i64 κ, .int .i64 vv, .slice X1 p1 X2, .slice Y1 r1 Y2] tEd) ∧ RdI wx X1 (mapL u s1) ∧ RdI wx Y1 (mapL u t1) ∧ Below W6.heap.size W6 wx)
     case first =>
      refine beginH (fun w' => Below W6.heap.size W6 w') (by kernel_rfl) ?_
      have hbd : Below W6.heap.size W6 W6.drew := below_drew (Below.refl _ _)
      generalize W6.drew = W7 at hbd ⊢
      have hbd_h := lH hbd; clear hbd
      refine tkH 0 ?_ rfl hbd_h.out (fun W' hW' => ?_) ?_; rotate_left; · (have j0 := t_box_below k6_h.out hW'; obtain ⟨⟨a0, a1, a2, a3⟩, a4, a5, a6, a7⟩ := t_box4 j0; have j1 := t_box_below k5s_h.out hW'; obtain ⟨⟨e0, e1⟩, e2, e3⟩ := t_box2 j1; clear hW'; go_simp; first | done | with_reducible rfl)
      simp only [Act.put, nS]
      refine tkH 1 ?_ rfl hbd_h.out (fun W' hW' => ?_) ?_; rotate_left; · (have j0 := t_box_below k6_h.out hW'; obtain ⟨⟨a0, a1, a2, a3⟩, a4, a5, a6, a7⟩ := t_box4 j0; have j1 := t_box_below k5s_h.out hW'; obtain ⟨⟨e0, e1⟩, e2, e3⟩ := t_box2 j1; clear hW'; go_simp; first | done | with_reducible rfl)
      simp only [Act.put, nS]
      refine tkH 2 ?_ rfl hbd_h.out (fun W' hW' => ?_) ?_; rotate_left; · (have j0 := t_box_below k6_h.out hW'; obtain ⟨⟨a0, a1, a2, a3⟩, a4, a5, a6, a7⟩ := t_box4 j0; have j1 := t_box_below k5s_h.out hW'; obtain ⟨⟨e0, e1⟩, e2, e3⟩ := t_box2 j1; clear hW'; go_simp; first | done | with_reducible rfl)
      simp only [Act.put, nS]
      refine tkH 3 ?_ rfl hbd_h.out (fun W' hW' => ?_) ?_; rotate_left; · (have j0 := t_box_below k6_h.out hW'; obtain ⟨⟨a0, a1, a2, a3⟩, a4, a5, a6, a7⟩ := t_box4 j0; have j1 := t_box_below k5s_h.out hW'; obtain ⟨⟨e0, e1⟩, e2, e3⟩ := t_box2 j1; clear hW'; go_simp; first | done | with_reducible rfl)
      simp only [Act.put, nS]
      refine tkH 4 ?_ rfl hbd_h.out (fun W' hW' => ?_) ?_; rotate_left; · (have j0 := t_box_below k6_h.out hW'; obtain ⟨⟨a0, a1, a2, a3⟩, a4, a5, a6, a7⟩ := t_box4 j0; have j1 := t_box_below k5s_h.out hW'; obtain ⟨⟨e0, e1⟩, e2, e3⟩ := t_box2 j1; clear hW'; go_simp; first | done | with_reducible rfl)
      simp only [Act.put, nS]
      refine tkH 5 ?_ rfl hbd_h.out (fun W' hW' => ?_) ?_; rotate_left; · (have j0 := t_box_below k6_h.out hW'; obtain ⟨⟨a0, a1, a2, a3⟩, a4, a5, a6, a7⟩ := t_box4 j0; have j1 := t_box_below k5s_h.out hW'; obtain ⟨⟨e0, e1⟩, e2, e3⟩ := t_box2 j1; clear hW'; go_simp; first | done | with_reducible rfl)
      simp only [Act.put, nS]
      refine tkH 6 ?_ rfl hbd_h.out (fun W' hW' => ?_) ?_; rotate_left; · (have j0 := t_box_below k6_h.out hW'; obtain ⟨⟨a0, a1, a2, a3⟩, a4, a5, a6, a7⟩ := t_box4 j0; have j1 := t_box_below k5s_h.out hW'; obtain ⟨⟨e0, e1⟩, e2, e3⟩ := t_box2 j1; clear hW'; go_simp; first | done | with_reducible rfl)
      simp only [Act.put, nS]
      refine tkH 7 ?_ rfl hbd_h.out (fun W' hW' => ?_) ?_; rotate_left; · (have j0 := t_box_below k6_h.out hW'; obtain ⟨⟨a0, a1, a2, a3⟩, a4, a5, a6, a7⟩ := t_box4 j0; have j1 := t_box_below k5s_h.out hW'; obtain ⟨⟨e0, e1⟩, e2, e3⟩ := t_box2 j1; clear hW'; go_simp; first | done | with_reducible rfl)
      simp only [Act.put, nS]
      refine tkH 9 ?_ rfl hbd_h.out (fun W' hW' => ?_) ?_; rotate_left; · (have j0 := t_box_below k6_h.out hW'; obtain ⟨⟨a0, a1, a2, a3⟩, a4, a5, a6, a7⟩ := t_box4 j0; have j1 := t_box_below k5s_h.out hW'; obtain ⟨⟨e0, e1⟩, e2, e3⟩ := t_box2 j1; clear hW'; go_simp; first | done | with_reducible rfl)
      simp only [Act.put, nS]
      refine tkH 10 ?_ rfl hbd_h.out (fun W' hW' => ?_) ?_; rotate_left; · (have j0 := t_box_below k6_h.out hW'; obtain ⟨⟨a0, a1, a2, a3⟩, a4, a5, a6, a7⟩ := t_box4 j0; have j1 := t_box_below k5s_h.out hW'; obtain ⟨⟨e0, e1⟩, e2, e3⟩ := t_box2 j1; clear hW'; go_simp; first | done | with_reducible rfl)
      simp only [Act.put, nS]
      refine tkH 11 ?_ rfl hbd_h.out (fun W' hW' => ?_) ?_; rotate_left; · (have j0 := t_box_below k6_h.out hW'; obtain ⟨⟨a0, a1, a2, a3⟩, a4, a5, a6, a7⟩ := t_box4 j0; have j1 := t_box_below k5s_h.out hW'; obtain ⟨⟨e0, e1⟩, e2, e3⟩ := t_box2 j1; clear hW'; go_simp; first | done | with_reducible rfl)
      simp only [Act.put, nS]
      refine tkH 12 ?_ rfl hbd_h.out (fun W' hW' => ?_) ?_; rotate_left; · (have j0 := t_box_below k6_h.out hW'; obtain ⟨⟨a0, a1, a2, a3⟩, a4, a5, a6, a7⟩ := t_box4 j0; have j1 := t_box_below k5s_h.out hW'; obtain ⟨⟨e0, e1⟩, e2, e3⟩ := t_box2 j1; clear hW'; go_simp; first | done | with_reducible rfl)
      simp only [Act.put, nS]
      refine callOrH 8 15 (f := ?foa) (args := ?ara) (vj := ?vja) (wj := ?wja) rfl rfl (by kernel_rfl) (by rfl) (by rfl) ?hra ?hja ?h1a ?hSa ?h2a
      case hra => (go_simp; first | done | with_reducible rfl | (constructor <;> with_reducible rfl))
      case hja => (go_simp; first | done | with_reducible rfl | (constructor <;> with_reducible rfl))
      case hSa => exact below_trans hbd_h.out (t_below_alloc _ _) hbd_h.out.size
      case h1a =>
       refine ((hCa_h.out _ (below_trans bW6_h.out hbd_h.out bW6_h.out.size))).mono ?_
       rintro e w2 ⟨A2, c2', rfl, hO2⟩
       have hB2 := below_trans hbd_h.out hO2.below_ hbd_h.out.size
       have ho2 := hO2.is
       clear hO2; have hB2_h := lH hB2; have ho2_h := lH ho2; clear hB2 ho2
       refine ⟨_, rfl, hB2_h.out, ?_⟩
       simp only [Act.put, nS]
       refine callOrH 13 15 (f := ?fob) (args := ?arb) (vj := ?vjb) (wj := ?wjb) rfl rfl (by kernel_rfl) (by rfl) (by rfl) ?hrb ?hjb ?h1b ?hSb ?h2b
       case hrb => (go_simp; first | done | with_reducible rfl | (constructor <;> with_reducible rfl))
       case hjb => (go_simp; first | done | with_reducible rfl | (constructor <;> with_reducible rfl))
       case hSb => exact below_trans hB2_h.out (t_below_alloc _ _) hB2_h.out.size
       case h1b =>
        refine ((hCb_h.out _ (below_trans bW6_h.out hB2_h.out bW6_h.out.size))).mono ?_
        rintro e w3 ⟨A3, c3', rfl, hO3⟩
        have hB3 := below_trans hB2_h.out hO3.below_ hB2_h.out.size
        have ho3 := hO3.is
        have ho2b := ho2_h.out.below hO3.below_
        obtain ⟨W9, hW9, bW9, k9⟩ := alloc_box1g w3 (.cells #[.int .i64 0, .int .i64 0, .slice none 0 0, .slice none 0 0] tEd)
        have ho2c := ho2b.below bW9
        have ho3c := ho3.below bW9
        have hbc := below_trans hB3 bW9 hB3.size
        have hge := hB3.size
        obtain ⟨s1', s2'⟩ := set4 (a := .int .i64 κ) (b := .int .i64 vv) (c := .slice A2 p1 c2') (d := .slice A3 r1 c3') k9
        have ne1 := IS.ne_box ho2c k9
        have ne2 := IS.ne_box ho3c k9
        have rd1 := (IS.keeps ho2c s2' (fun z hz e => ne1 z hz e)).rd
        have rd2 := (IS.keeps ho3c s2' (fun z hz e => ne2 z hz e)).rd
        have hBf := below_keeps hbc s2' hbc.size (fun z hz => by omega)
        obtain ⟨⟨g0, g1, g2, g3⟩, g4, g5, g6, g7⟩ := t_box4 k9
        clear hO3 ho3 ho2b bW9 ho2c ho3c ne1 ne2 hge; have hB3_h := lH hB3; have s1'_h := lH s1'; have s2'_h := lH s2'; have rd1_h := lH rd1; have rd2_h := lH rd2; have hBf_h := lH hBf; have k9_h := lH k9; have hbc_h := lH hbc; clear hB3 s1' s2' rd1 rd2 hBf k9 hbc
        refine ⟨_, rfl, hB3_h.out, ?_⟩
        simp only [Act.put, nS]
        refine tkH 14 ?_ rfl hB3_h.out (fun W' hW' => ?_) ?_; rotate_left; · (skip; clear hW'; go_simp; first | done | with_reducible rfl)
        simp only [Act.put, nS]
        refine oneH 15 rfl (by kernel_rfl) (by rfl) (fun K hK => ?_)
        go_simp
        rw [← hW9]
        refine hK _ _ hbc_h.out ?_
        clear hK K hW9
        refine oneH 16 rfl (by kernel_rfl) (by rfl) (fun K hK => ?_)
        go_simp
        refine hK _ _ hBf_h.out ?_
        clear hK K
        refine doneH (by kernel_rfl) ?_
        go_wp2_with (fail)
        go_meet
        exact ⟨w3.heap.size, A2, c2', A3, c3', rfl, s1'_h.out, rd1_h.out, rd2_h.out, hBf_h.out⟩
       case h2b =>
        have bAq := t_below_alloc w2 (.cells #[.int .i64 0, .int .i64 0, .slice none 0 0, .slice none 0 0] tEd)
        have kAq := heap_alloc_new w2 (.cells #[.int .i64 0, .int .i64 0, .slice none 0 0, .slice none 0 0] tEd)
        have hBq := below_trans hB2_h.out bAq hB2_h.out.size
        have hge := hB2_h.out.size
        simp only [Act.put, nS]
        refine' callH 13 (f := _) (args := _) rfl (by kernel_rfl) (by rfl) ?_ ?_; rotate_left 2; · (go_simp; first | done | with_reducible rfl | (constructor <;> with_reducible rfl))
        refine ((hCb_h.out _ (below_trans bW6_h.out hBq bW6_h.out.size))).mono ?_
        rintro e w3 ⟨A3, c3', rfl, hO3⟩
        have hbc := below_trans hBq hO3.below_ hBq.size
        have ho3 := hO3.is
        have ho2c := (ho2_h.out.below bAq).below hO3.below_
        have k9 := t_box_below kAq hO3.below_
        obtain ⟨s1', s2'⟩ := set4 (a := .int .i64 κ) (b := .int .i64 vv) (c := .slice A2 p1 c2') (d := .slice A3 r1 c3') k9
        have ne1 := IS.ne_box ho2c k9
        have ne2 := IS.ne_box ho3 k9
        have rd1 := (IS.keeps ho2c s2' (fun z hz e => ne1 z hz e)).rd
        have rd2 := (IS.keeps ho3 s2' (fun z hz e => ne2 z hz e)).rd
        have hBf := below_keeps hbc s2' hbc.size (fun z hz => by omega)
        obtain ⟨⟨g0, g1, g2, g3⟩, g4, g5, g6, g7⟩ := t_box4 k9
        refine ⟨_, rfl, hbc, ?_⟩
        clear hO3 ho3 ho2c k9 ne1 ne2 hge bAq kAq hBq; have hbc_h := lH hbc; have s1'_h := lH s1'; have s2'_h := lH s2'; have rd1_h := lH rd1; have rd2_h := lH rd2; have hBf_h := lH hBf; clear hbc s1' s2' rd1 rd2 hBf
        simp only [Act.put, nS]
        refine tkH 14 ?_ rfl hbc_h.out (fun W' hW' => ?_) ?_; rotate_left; · (skip; clear hW'; go_simp; first | done | with_reducible rfl)
        simp only [Act.put, nS]
        refine oneH 16 rfl (by kernel_rfl) (by rfl) (fun K hK => ?_)
        go_simp
        refine hK _ _ hBf_h.out ?_
        clear hK K
        refine doneH (by kernel_rfl) ?_
        go_wp2_with (fail)
        go_meet
        exact ⟨w2.heap.size, A2, c2', A3, c3', rfl, s1'_h.out, rd1_h.out, rd2_h.out, hBf_h.out⟩
      case h2a =>
       have bAp := t_below_alloc W7 (.cells #[.int .i64 0, .int .i64 0, .slice none 0 0, .slice none 0 0] tEd)
       have kAp := heap_alloc_new W7 (.cells #[.int .i64 0, .int .i64 0, .slice none 0 0, .slice none 0 0] tEd)
       have hBp := below_trans hbd_h.out bAp hbd_h.out.size
       have hge := hbd_h.out.size
       simp only [Act.put, nS]
       refine' callH 8 (f := _) (args := _) rfl (by kernel_rfl) (by rfl) ?_ ?_; rotate_left 2; · (go_simp; first | done | with_reducible rfl | (constructor <;> with_reducible rfl))
       refine ((hCa_h.out _ (below_trans bW6_h.out hBp bW6_h.out.size))).mono ?_
       rintro e w2 ⟨A2, c2', rfl, hO2⟩
       have hB2 := below_trans hBp hO2.below_ hBp.size
       have ho2 := hO2.is
       have k8 := t_box_below kAp hO2.below_
       refine ⟨_, rfl, hB2, ?_⟩
       simp only [Act.put, nS]
       refine' callH 13 (f := _) (args := _) rfl (by kernel_rfl) (by rfl) ?_ ?_; rotate_left 2; · (go_simp; first | done | with_reducible rfl | (constructor <;> with_reducible rfl))
       refine ((hCb_h.out _ (below_trans bW6_h.out hB2 bW6_h.out.size))).mono ?_
       rintro e w3 ⟨A3, c3', rfl, hO3⟩
       have hbc := below_trans hB2 hO3.below_ hB2.size
       have ho3 := hO3.is
       have ho2c := ho2.below hO3.below_
       have k9 := t_box_below k8 hO3.below_
       obtain ⟨s1', s2'⟩ := set4 (a := .int .i64 κ) (b := .int .i64 vv) (c := .slice A2 p1 c2') (d := .slice A3 r1 c3') k9
       have ne1 := IS.ne_box ho2c k9
       have ne2 := IS.ne_box ho3 k9
       have rd1 := (IS.keeps ho2c s2' (fun z hz e => ne1 z hz e)).rd
       have rd2 := (IS.keeps ho3 s2' (fun z hz e => ne2 z hz e)).rd
       have hBf := below_keeps hbc s2' hbc.size (fun z hz => by omega)
       obtain ⟨⟨g0, g1, g2, g3⟩, g4, g5, g6, g7⟩ := t_box4 k9
       refine ⟨_, rfl, hbc, ?_⟩
       clear hO3 ho3 ho2c k9 ne1 ne2 hge bAp kAp hBp hO2 hB2 ho2 k8; have hbc_h := lH hbc; have s1'_h := lH s1'; have s2'_h := lH s2'; have rd1_h := lH rd1; have rd2_h := lH rd2; have hBf_h := lH hBf; clear hbc s1' s2' rd1 rd2 hBf
       simp only [Act.put, nS]
       refine tkH 14 ?_ rfl hbc_h.out (fun W' hW' => ?_) ?_; rotate_left; · (skip; clear hW'; go_simp; first | done | with_reducible rfl)
       simp only [Act.put, nS]
       refine oneH 16 rfl (by kernel_rfl) (by rfl) (fun K hK => ?_)
       go_simp
       refine hK _ _ hBf_h.out ?_
       clear hK K
       refine doneH (by kernel_rfl) ?_
       go_wp2_with (fail)
       go_meet
       exact ⟨W7.heap.size, A2, c2', A3, c3', rfl, s1'_h.out, rd1_h.out, rd2_h.out, hBf_h.out⟩
     case rest =>
      obtain ⟨bx, X1, X2, Y1, Y2, rfl, k9, rd1, rd2, hBc⟩ := hcut
      obtain ⟨w7, rfl⟩ : ∃ x, x = wc := ⟨_, rfl⟩
      have hBc' := below_trans bW6_h.out hBc bW6_h.out.size
      have hQ := fun (W' : World) (hb : Below w7.heap.size w7 W') => equalEdges_any κ vv X1 Y1 X2 Y2 (mapL u s1) (mapL u t1) κ' vv' B3 C3 b3 b4 s3 t3 W' (rd1.below hb) (rd2.below hb) (hr3w_h.out W' (below_trans hBc' hb hBc'.size)) (hr4w_h.out W' (below_trans hBc' hb hBc'.size)) (by rw [hl1_h.out]; omega) (by rw [hl2_h.out]; omega)
      simp only [hl1_h.out, hl2_h.out, ← hp3_h.out, ← hr3'_h.out, ← hat_h.out] at hQ
      clear rd1 rd2 hBc'; have hBc_h := lH hBc; have k9_h := lH k9; have hQ_h := lH hQ; clear hBc k9 hQ
      go_upto_region 7 with (fail)
      go_cut [76] (fun sv wx => sv = .bool (!AT) ∧ Below w7.heap.size w7 wx)
      case first =>
       refine beginH (fun w' => Below w7.heap.size w7 w') (by kernel_rfl) ?_
       have hbd : Below w7.heap.size w7 w7.drew := below_drew (Below.refl _ _)
       generalize w7.drew = W8 at hbd ⊢
       have hbd_h := lH hbd; clear hbd
       refine tkH 0 ?_ rfl hbd_h.out (fun W' hW' => ?_) ?_; rotate_left; · (have j0 := t_box_below k9_h.out hW'; obtain ⟨⟨a0, a1, a2, a3⟩, a4, a5, a6, a7⟩ := t_box4 j0; have j1 := t_box_below (t_box_below k5s_h.out hBc_h.out) hW'; obtain ⟨⟨e0, e1⟩, e2, e3⟩ := t_box2 j1; have j2 := t_box_below (t_box_below k3s_h.out hBc_h.out) hW'; obtain ⟨⟨g0, g1, g2, g3⟩, g4, g5, g6, g7⟩ := t_box4 j2; have m0 := cell_below (cell_below hc2s_h.out hBc_h.out) hW'; have m1 := cell_below (cell_below z0_h.out hBc_h.out) hW'; have m2 := cell_below (cell_below z1_h.out hBc_h.out) hW'; have m3 := cell_below (cell_below z2_h.out hBc_h.out) hW'; have m4 := cell_below (cell_below z3_h.out hBc_h.out) hW'; clear hW'; go_simp; first | done | with_reducible rfl)
       simp only [Act.put, nS]
       refine tkH 1 ?_ rfl hbd_h.out (fun W' hW' => ?_) ?_; rotate_left; · (have j0 := t_box_below k9_h.out hW'; obtain ⟨⟨a0, a1, a2, a3⟩, a4, a5, a6, a7⟩ := t_box4 j0; have j1 := t_box_below (t_box_below k5s_h.out hBc_h.out) hW'; obtain ⟨⟨e0, e1⟩, e2, e3⟩ := t_box2 j1; have j2 := t_box_below (t_box_below k3s_h.out hBc_h.out) hW'; obtain ⟨⟨g0, g1, g2, g3⟩, g4, g5, g6, g7⟩ := t_box4 j2; have m0 := cell_below (cell_below hc2s_h.out hBc_h.out) hW'; have m1 := cell_below (cell_below z0_h.out hBc_h.out) hW'; have m2 := cell_below (cell_below z1_h.out hBc_h.out) hW'; have m3 := cell_below (cell_below z2_h.out hBc_h.out) hW'; have m4 := cell_below (cell_below z3_h.out hBc_h.out) hW'; clear hW'; go_simp; first | done | with_reducible rfl)
       simp only [Act.put, nS]
       refine tkH 2 ?_ rfl hbd_h.out (fun W' hW' => ?_) ?_; rotate_left; · (have j0 := t_box_below k9_h.out hW'; obtain ⟨⟨a0, a1, a2, a3⟩, a4, a5, a6, a7⟩ := t_box4 j0; have j1 := t_box_below (t_box_below k5s_h.out hBc_h.out) hW'; obtain ⟨⟨e0, e1⟩, e2, e3⟩ := t_box2 j1; have j2 := t_box_below (t_box_below k3s_h.out hBc_h.out) hW'; obtain ⟨⟨g0, g1, g2, g3⟩, g4, g5, g6, g7⟩ := t_box4 j2; have m0 := cell_below (cell_below hc2s_h.out hBc_h.out) hW'; have m1 := cell_below (cell_below z0_h.out hBc_h.out) hW'; have m2 := cell_below (cell_below z1_h.out hBc_h.out) hW'; have m3 := cell_below (cell_below z2_h.out hBc_h.out) hW'; have m4 := cell_below (cell_below z3_h.out hBc_h.out) hW'; clear hW'; go_simp; first | done | with_reducible rfl)
       simp only [Act.put, nS]
       refine tkH 3 ?_ rfl hbd_h.out (fun W' hW' => ?_) ?_; rotate_left; · (have j0 := t_box_below k9_h.out hW'; obtain ⟨⟨a0, a1, a2, a3⟩, a4, a5, a6, a7⟩ := t_box4 j0; have j1 := t_box_below (t_box_below k5s_h.out hBc_h.out) hW'; obtain ⟨⟨e0, e1⟩, e2, e3⟩ := t_box2 j1; have j2 := t_box_below (t_box_below k3s_h.out hBc_h.out) hW'; obtain ⟨⟨g0, g1, g2, g3⟩, g4, g5, g6, g7⟩ := t_box4 j2; have m0 := cell_below (cell_below hc2s_h.out hBc_h.out) hW'; have m1 := cell_below (cell_below z0_h.out hBc_h.out) hW'; have m2 := cell_below (cell_below z1_h.out hBc_h.out) hW'; have m3 := cell_below (cell_below z2_h.out hBc_h.out) hW'; have m4 := cell_below (cell_below z3_h.out hBc_h.out) hW'; clear hW'; go_simp; first | done | with_reducible rfl)
       simp only [Act.put, nS]
       refine tkH 4 ?_ rfl hbd_h.out (fun W' hW' => ?_) ?_; rotate_left; · (have j0 := t_box_below k9_h.out hW'; obtain ⟨⟨a0, a1, a2, a3⟩, a4, a5, a6, a7⟩ := t_box4 j0; have j1 := t_box_below (t_box_below k5s_h.out hBc_h.out) hW'; obtain ⟨⟨e0, e1⟩, e2, e3⟩ := t_box2 j1; have j2 := t_box_below (t_box_below k3s_h.out hBc_h.out) hW'; obtain ⟨⟨g0, g1, g2, g3⟩, g4, g5, g6, g7⟩ := t_box4 j2; have m0 := cell_below (cell_below hc2s_h.out hBc_h.out) hW'; have m1 := cell_below (cell_below z0_h.out hBc_h.out) hW'; have m2 := cell_below (cell_below z1_h.out hBc_h.out) hW'; have m3 := cell_below (cell_below z2_h.out hBc_h.out) hW'; have m4 := cell_below (cell_below z3_h.out hBc_h.out) hW'; clear hW'; go_simp; first | done | with_reducible rfl)
       simp only [Act.put, nS]
       refine tkH 5 ?_ rfl hbd_h.out (fun W' hW' => ?_) ?_; rotate_left; · (have j0 := t_box_below k9_h.out hW'; obtain ⟨⟨a0, a1, a2, a3⟩, a4, a5, a6, a7⟩ := t_box4 j0; have j1 := t_box_below (t_box_below k5s_h.out hBc_h.out) hW'; obtain ⟨⟨e0, e1⟩, e2, e3⟩ := t_box2 j1; have j2 := t_box_below (t_box_below k3s_h.out hBc_h.out) hW'; obtain ⟨⟨g0, g1, g2, g3⟩, g4, g5, g6, g7⟩ := t_box4 j2; have m0 := cell_below (cell_below hc2s_h.out hBc_h.out) hW'; have m1 := cell_below (cell_below z0_h.out hBc_h.out) hW'; have m2 := cell_below (cell_below z1_h.out hBc_h.out) hW'; have m3 := cell_below (cell_below z2_h.out hBc_h.out) hW'; have m4 := cell_below (cell_below z3_h.out hBc_h.out) hW'; clear hW'; go_simp; first | done | with_reducible rfl)
       simp only [Act.put, nS]
       refine tkH 6 ?_ rfl hbd_h.out (fun W' hW' => ?_) ?_; rotate_left; · (have j0 := t_box_below k9_h.out hW'; obtain ⟨⟨a0, a1, a2, a3⟩, a4, a5, a6, a7⟩ := t_box4 j0; have j1 := t_box_below (t_box_below k5s_h.out hBc_h.out) hW'; obtain ⟨⟨e0, e1⟩, e2, e3⟩ := t_box2 j1; have j2 := t_box_below (t_box_below k3s_h.out hBc_h.out) hW'; obtain ⟨⟨g0, g1, g2, g3⟩, g4, g5, g6, g7⟩ := t_box4 j2; have m0 := cell_below (cell_below hc2s_h.out hBc_h.out) hW'; have m1 := cell_below (cell_below z0_h.out hBc_h.out) hW'; have m2 := cell_below (cell_below z1_h.out hBc_h.out) hW'; have m3 := cell_below (cell_below z2_h.out hBc_h.out) hW'; have m4 := cell_below (cell_below z3_h.out hBc_h.out) hW'; clear hW'; go_simp; first | done | with_reducible rfl)
       simp only [Act.put, nS]
       refine tkH 7 ?_ rfl hbd_h.out (fun W' hW' => ?_) ?_; rotate_left; · (have j0 := t_box_below k9_h.out hW'; obtain ⟨⟨a0, a1, a2, a3⟩, a4, a5, a6, a7⟩ := t_box4 j0; have j1 := t_box_below (t_box_below k5s_h.out hBc_h.out) hW'; obtain ⟨⟨e0, e1⟩, e2, e3⟩ := t_box2 j1; have j2 := t_box_below (t_box_below k3s_h.out hBc_h.out) hW'; obtain ⟨⟨g0, g1, g2, g3⟩, g4, g5, g6, g7⟩ := t_box4 j2; have m0 := cell_below (cell_below hc2s_h.out hBc_h.out) hW'; have m1 := cell_below (cell_below z0_h.out hBc_h.out) hW'; have m2 := cell_below (cell_below z1_h.out hBc_h.out) hW'; have m3 := cell_below (cell_below z2_h.out hBc_h.out) hW'; have m4 := cell_below (cell_below z3_h.out hBc_h.out) hW'; clear hW'; go_simp; first | done | with_reducible rfl)
       simp only [Act.put, nS]
       refine tkH 8 ?_ rfl hbd_h.out (fun W' hW' => ?_) ?_; rotate_left; · (have j0 := t_box_below k9_h.out hW'; obtain ⟨⟨a0, a1, a2, a3⟩, a4, a5, a6, a7⟩ := t_box4 j0; have j1 := t_box_below (t_box_below k5s_h.out hBc_h.out) hW'; obtain ⟨⟨e0, e1⟩, e2, e3⟩ := t_box2 j1; have j2 := t_box_below (t_box_below k3s_h.out hBc_h.out) hW'; obtain ⟨⟨g0, g1, g2, g3⟩, g4, g5, g6, g7⟩ := t_box4 j2; have m0 := cell_below (cell_below hc2s_h.out hBc_h.out) hW'; have m1 := cell_below (cell_below z0_h.out hBc_h.out) hW'; have m2 := cell_below (cell_below z1_h.out hBc_h.out) hW'; have m3 := cell_below (cell_below z2_h.out hBc_h.out) hW'; have m4 := cell_below (cell_below z3_h.out hBc_h.out) hW'; clear hW'; go_simp; first | done | with_reducible rfl)
       simp only [Act.put, nS]
       refine tkH 9 ?_ rfl hbd_h.out (fun W' hW' => ?_) ?_; rotate_left; · (have j0 := t_box_below k9_h.out hW'; obtain ⟨⟨a0, a1, a2, a3⟩, a4, a5, a6, a7⟩ := t_box4 j0; have j1 := t_box_below (t_box_below k5s_h.out hBc_h.out) hW'; obtain ⟨⟨e0, e1⟩, e2, e3⟩ := t_box2 j1; have j2 := t_box_below (t_box_below k3s_h.out hBc_h.out) hW'; obtain ⟨⟨g0, g1, g2, g3⟩, g4, g5, g6, g7⟩ := t_box4 j2; have m0 := cell_below (cell_below hc2s_h.out hBc_h.out) hW'; have m1 := cell_below (cell_below z0_h.out hBc_h.out) hW'; have m2 := cell_below (cell_below z1_h.out hBc_h.out) hW'; have m3 := cell_below (cell_below z2_h.out hBc_h.out) hW'; have m4 := cell_below (cell_below z3_h.out hBc_h.out) hW'; clear hW'; go_simp; first | done | with_reducible rfl)
       simp only [Act.put, nS]
       refine' callH 10 (f := _) (args := _) rfl (by kernel_rfl) (by rfl) ?_ ?_; rotate_left 2; · (go_simp; first | done | with_reducible rfl | (constructor <;> with_reducible rfl))
       refine ((hQ_h.out _ hbd_h.out)).mono ?_
       rintro e w9 ⟨rfl, hb9⟩
       have hb9' := below_trans hbd_h.out hb9 hbd_h.out.size
       clear hb9; have hb9'_h := lH hb9'; clear hb9'
       refine ⟨_, rfl, hb9'_h.out, ?_⟩
       simp only [Act.put, nS]
       refine tkH 11 ?_ rfl hb9'_h.out (fun W' hW' => ?_) ?_; rotate_left; · (skip; clear hW'; go_simp; first | done | with_reducible rfl)
       simp only [Act.put, nS]
       refine doneH (by kernel_rfl) ?_
       go_wp2_with (fail)
       go_meet
       exact ⟨rfl, hb9'_h.out⟩
      case rest =>
       obtain ⟨rfl, hBe⟩ := hcut
       obtain ⟨w8, rfl⟩ : ∃ x, x = wc := ⟨_, rfl⟩
       have hBo := below_trans hBc_h.out hBe hBc_h.out.size
       have hBn := below_trans hBW6_h.out hBo hBW6_h.out.size
       have hBm := below_trans bW_h.out hBn bW_h.out.size
       clear hBo hBe; have hBn_h := lH hBn; have hBm_h := lH hBm; clear hBn hBm
       cases AT
       case false =>
        obtain rfl : T = false := hal0_h.out rfl
        go_wp2_with (fail)
        go_ret
        exact ⟨rfl, hBm_h.out⟩
       case true =>
        have hal2 := hal1_h.out rfl
        have hal2_h := lH hal2; clear hal2
        go_wp2_with (fail)
        go_roundw
        case rel => exact ⟨k + 1, by omega, by go_num, hal2_h.out, hBn_h.out⟩
        case measure => simp [intOf]; omega
set_option maxRecDepth 100000 in
set_option maxHeartbeats 4000000 in
theorem mtIs_any {vg vp vm : Value} {g pt : Gr} {ma : Ma} {fp : List Nat} (w : World) (hg : RdGr w vg g) (hp : RdGr w vp pt) (hm : OwMa w vm ma fp) (bg : grB g = true) (bp : grB pt = true) (okm : OkMa ma) :
  Calls Try.prog 18 #[vg, vp, vm] w fun e w' => e = .returned (.bool (maB g pt ma)) ∧ Below w.heap.size w w' := by
 obtain ⟨n, e1, hn, hq60, _, _, hin⟩ := grB_parts bg
 obtain ⟨n', e1', hn', hq60', _, _, hin'⟩ := grB_parts bp
 have hegB := egB_all bp
 have hegG := egB_all bg
 obtain ⟨A, c, hs, ⟨B, b, s⟩, ⟨C, d, t⟩, rfl, f1, _, _, hE, _, _⟩ := hg
 obtain ⟨A', c', hs', ⟨B', b', s'⟩, ⟨C', d', t'⟩, rfl, f1', _, _, hE', _, _⟩ := hp
 obtain ⟨⟨X, x, u⟩, ⟨Y, y, v⟩, rfl, e4, e5, hOw, _⟩ := hm
 have hUI : IS w X x u := hOw.rows (X, x, u) (List.mem_cons_self ..)
 have hVI : IS w Y y v := hOw.rows (Y, y, v) (List.mem_cons_of_mem _ (List.mem_cons_self ..))
 have hU := hUI.rd
 have hV := hVI.rd
 obtain ⟨u0, v0⟩ := ma
 have a4 : u = u0 := e4
 have a5 : v = v0 := e5
 subst a4 a5
 have lu : u.length ≤ 1048576 := okm.1
 have lv : v.length ≤ 1048576 := okm.2.1
 obtain ⟨T, hT⟩ : ∃ T, T = maB g pt (u, v) := ⟨_, rfl⟩
 have hTT := hT
 unfold maB at hTT
 rw [← hT]
 show Calls Try.prog _ #[.agg #[.int .i64 g.1, .slice A hs.length c, .slice B s.length b, .slice C t.length d], .agg #[.int .i64 pt.1, .slice A' hs'.length c', .slice B' s'.length b', .slice C' t'.length d'], .agg #[.slice X u.length x, .slice Y v.length y]] w _
 rw [e1, e1']
 have hin1 := inW_iff.1 (inW_app_right (inW_app_right (show inW (n' : Int) (pt.2.2.1 ++ (pt.2.2.2 ++ edW pt.2.1)) = true from hin')))
 have hql : g.2.1.length = hs.length := by rw [f1, List.length_map]
 have hql' : pt.2.1.length = hs'.length := by rw [f1', List.length_map]
 rw [e1, e1', hql, hql'] at hTT
 obtain ⟨W, hW, bW, k3, k4, k5⟩ := allocs3 w (.cells #[.int .i64 (n : Int), .slice A hs.length c, .slice B s.length b, .slice C t.length d] tGr) (.cells #[.int .i64 (n' : Int), .slice A' hs'.length c', .slice B' s'.length b', .slice C' t'.length d'] tGr) (.cells #[.slice X u.length x, .slice Y v.length y] tMa)
 have hD1 := fun (W' : World) (hb : Below w.heap.size w W') => mtDifferent_any X x n u W' (hUI.below hb) lu (by omega)
 have hD2 := fun (W' : World) (hb : Below w.heap.size w W') => mtDifferent_any Y y hs.length v W' (hVI.below hb) lv (by omega)
 obtain ⟨D1, hD1e⟩ : ∃ D, D = difB (n : Int) u := ⟨_, rfl⟩
 obtain ⟨D2, hD2e⟩ : ∃ D, D = difB (hs.length : Int) v := ⟨_, rfl⟩
 obtain ⟨AL, hAL⟩ : ∃ D, D = (List.range hs'.length).all (atB g pt (u, v)) := ⟨_, rfl⟩
 have hTT' : T = ((decide ((u.length : Int) = (n' : Int)) && decide (v.length = hs'.length)) && ((D1 && D2) && AL)) := by rw [hTT, hD1e, hD2e, hAL]
 rw [show decide (v.length = hs'.length) = decide ((v.length : Int) = (hs'.length : Int)) from decide_eq_decide.2 Int.ofNat_inj.symm] at hTT'
 simp only [← hD1e] at hD1
 simp only [← hD2e] at hD2
 clear hTT hT
 have hTT := hTT'
 clear hTT'
 have hq60 : hs.length ≤ 60 := by rw [← hql]; exact hq60
 have hq60' : hs'.length ≤ 60 := by rw [← hql']; exact hq60'
 obtain ⟨q, hq⟩ : ∃ q, q = hs.length := ⟨_, rfl⟩
 obtain ⟨q', hq'⟩ : ∃ q, q = hs'.length := ⟨_, rfl⟩
 obtain ⟨nu, hnu⟩ : ∃ q, q = u.length := ⟨_, rfl⟩
 obtain ⟨nv, hnv⟩ : ∃ q, q = v.length := ⟨_, rfl⟩
 rw [← hq] at hq60
 rw [← hq'] at hq60'
 rw [← hq] at hD2e hW k3 hD2
 rw [← hq'] at hAL hW k4 hTT
 rw [← hnu] at hTT hW k5 hD1 lu
 rw [← hnv] at hTT hW k5 hD2 lv
 rw [← hq, ← hq', ← hnu, ← hnv]
 generalize s.length = p at *
 generalize t.length = r at *
 generalize s'.length = p' at *
 generalize t'.length = r' at *
 obtain ⟨B1, hB1⟩ : ∃ D, D = decide ((nu : Int) = (n' : Int)) := ⟨_, rfl⟩
 obtain ⟨B2, hB2⟩ : ∃ D, D = decide ((nv : Int) = (q' : Int)) := ⟨_, rfl⟩
 rw [← hB1, ← hB2] at hTT
 obtain ⟨⟨c0, c1, c2, c3⟩, c4, c5, c6, c7⟩ := t_box4 k3
 obtain ⟨⟨d0, d1, d2, d3⟩, d4, d5, d6, d7⟩ := t_box4 k4
 obtain ⟨⟨i0, i1⟩, i2, i3⟩ := t_box2 k5
 clear hOw okm e1 e1' bg bp hin hin' e4 e5 hql hql'; have hE_h := lH hE; have hE'_h := lH hE'; have hU_h := lH hU; have hV_h := lH hV; have f1_h := lH f1; have f1'_h := lH f1'; have hegB_h := lH hegB; have hegG_h := lH hegG; have hUI_h := lH hUI; have hVI_h := lH hVI; have hin1_h := lH hin1; have hD1_h := lH hD1; have hD2_h := lH hD2; have hD1e_h := lH hD1e; have hD2e_h := lH hD2e; have hAL_h := lH hAL; have hTT_h := lH hTT; have hq_h := lH hq; have hq'_h := lH hq'; have hnu_h := lH hnu; have hnv_h := lH hnv; have hB1_h := lH hB1; have hB2_h := lH hB2; have bW_h := lH bW; have k3_h := lH k3; have k4_h := lH k4; have k5_h := lH k5; clear hE hE' hU hV f1 f1' hegB hegG hUI hVI hin1 hD1 hD2 hD1e hD2e hAL hTT hq hq' hnu hnv hB1 hB2 bW k3 k4 k5
 go_enter Try.func18, Try.ntmps18
 go_upto_region 1 with (fail)
 rw [← hW]
 clear hW
 go_cut [41] (fun sv wx => sv = .bool (!((B1 && B2) && (D1 && D2))) ∧ Below W.heap.size W wx)
 case first =>
  by_cases x1 : (nu : Int) = (n' : Int)
  case neg =>
   have hB1' : B1 = false := by rw [hB1_h.out, decide_eq_false x1]
   subst hB1'
   go_wp2_with (fail)
   go_meet
   exact ⟨rfl, Below.refl _ _⟩
  by_cases x2 : (nv : Int) = (q' : Int)
  case neg =>
   have hB2' : B2 = false := by rw [hB2_h.out, decide_eq_false x2]
   subst hB2'
   go_wp2_with (fail)
   go_meet
   exact ⟨by cases B1 <;> rfl, Below.refl _ _⟩
  have hB1' : B1 = true := by rw [hB1_h.out, decide_eq_true x1]
  have hB2' : B2 = true := by rw [hB2_h.out, decide_eq_true x2]
  subst hB1' hB2'
  go_wp2_with (fail)
  refine ((hD1_h.out _ bW_h.out)).mono ?_
  rintro e w1 ⟨rfl, hb1⟩
  cases D1
  case false =>
   have hb1_h := lH hb1; clear hb1
   go_wp2_with (fail)
   go_meet
   exact ⟨rfl, hb1_h.out⟩
  case true =>
   have k3a := t_box_below k3_h.out hb1
   have k5a := t_box_below k5_h.out hb1
   have hBw1 := below_trans bW_h.out hb1 bW_h.out.size
   clear c0 c1 c2 c3 c4 c5 c6 c7 i0 i1 i2 i3
   obtain ⟨⟨c0, c1, c2, c3⟩, c4, c5, c6, c7⟩ := t_box4 k3a
   obtain ⟨⟨i0, i1⟩, i2, i3⟩ := t_box2 k5a
   have hb1_h := lH hb1; have k3a_h := lH k3a; have k5a_h := lH k5a; have hBw1_h := lH hBw1; clear hb1 k3a k5a hBw1
   go_wp2_with (fail)
   refine ((hD2_h.out _ hBw1_h.out)).mono ?_
   rintro e w2 ⟨rfl, hb2⟩
   have hb2' := below_trans hb1_h.out hb2 hb1_h.out.size
   clear hb2; have hb2'_h := lH hb2'; clear hb2'
   go_wp2_with (fail)
   go_meet
   exact ⟨by cases D2 <;> rfl, hb2'_h.out⟩
 case rest =>
  obtain ⟨rfl, hWc⟩ := hcut
  obtain ⟨w5, rfl⟩ : ∃ x, x = wc := ⟨_, rfl⟩
  have k4c := t_box_below k4_h.out hWc
  clear c0 c1 c2 c3 c4 c5 c6 c7 d0 d1 d2 d3 d4 d5 d6 d7 i0 i1 i2 i3
  have hB5 := below_trans bW_h.out hWc bW_h.out.size
  obtain ⟨F, hF⟩ : ∃ F, F = ((B1 && B2) && (D1 && D2)) := ⟨_, rfl⟩
  rw [← hF]
  cases F
  case false =>
   have hT0 : T = false := by
    rw [hTT_h.out]
    cases B1 <;> cases B2 <;> cases D1 <;> cases D2 <;> first | rfl | cases hF
   subst hT0
   have hF_h := lH hF; have hB5_h := lH hB5; clear hF hB5
   go_wp2_with (fail)
   go_ret
   exact ⟨rfl, hB5_h.out⟩
  case true =>
   have hT1 : T = AL := by
    rw [hTT_h.out]
    cases B1 <;> cases B2 <;> cases D1 <;> cases D2 <;> first | rfl | cases hF
   have hD1t : D1 = true := by cases B1 <;> cases B2 <;> cases D1 <;> cases D2 <;> first | rfl | cases hF
   have hD2t : D2 = true := by cases B1 <;> cases B2 <;> cases D1 <;> cases D2 <;> first | rfl | cases hF
   have hB1t : B1 = true := by cases B1 <;> cases B2 <;> cases D1 <;> cases D2 <;> first | rfl | cases hF
   have hB2t : B2 = true := by cases B1 <;> cases B2 <;> cases D1 <;> cases D2 <;> first | rfl | cases hF
   have hvb := (difB_iff.1 (hD2e_h.out.symm.trans hD2t)).1
   have hnn : nu = n' := by have := of_decide_eq_true (hB1_h.out.symm.trans hB1t); omega
   have hnq : nv = q' := by have := of_decide_eq_true (hB2_h.out.symm.trans hB2t); omega
   clear hTT_h hB1_h hB2_h hD1_h hD2_h hD1e_h hD2e_h hD1t hD2t hB1t hB2t hF
   subst hT1
   have hal0 : (List.range 0).all (atB g pt (u, v)) = true := rfl
   obtain ⟨⟨d0, d1, d2, d3⟩, d4, d5, d6, d7⟩ := t_box4 k4c
   have hWc_h := lH hWc; have hB5_h := lH hB5; have k4c_h := lH k4c; have hvb_h := lH hvb; have hnn_h := lH hnn; have hnq_h := lH hnq; clear hWc hB5 k4c hvb hnn hnq
   go_wp2_with (fail)
   go_loopw [45] (fun i wr => ∃ k : Nat, k ≤ q' ∧ i = .int .i64 k ∧ (List.range k).all (atB g pt (u, v)) = true ∧ Below W.heap.size W wr) (fun i _ => q' - (intOf i).toNat)
   case atStart => exact ⟨0, Nat.zero_le _, rfl, rfl, hWc_h.out⟩
   case round =>
    clear hal0 d0 d1 d2 d3 d4 d5 d6 d7 k4c_h hWc_h hB5_h
    obtain ⟨k, hk, rfl, hal, hB⟩ := hrel
    obtain ⟨wo, rfl⟩ : ∃ x, x = wr := ⟨_, rfl⟩
    have hBw := below_trans bW_h.out hB bW_h.out.size
    by_cases hlt : k < q'
    case neg =>
     obtain rfl : q' = k := by omega
     obtain rfl : T = true := by rw [hAL_h.out]; exact hal
     have hBw_h := lH hBw; have hal_h := lH hal; have hB_h := lH hB; clear hBw hal hB
     go_wp2_with (fail)
     go_ret
     exact ⟨rfl, hBw_h.out⟩
    case pos =>
     obtain ⟨ad, κ, vv, B1', b1, s1, C1, b2, t1, rfl, hn2, ⟨d0, d1, d2, d3⟩, hr1, hr2⟩ := (hE'_h.out.below hBw).at_ (j := k) (by rw [← hq'_h.out]; exact hlt)
     have hek : pt.2.1[k]? = some (κ, vv, s1, t1) := by rw [f1'_h.out, List.getElem?_map, hn2]; rfl
     obtain ⟨ad2, f0, rfl, hx2, hc2⟩ := (hV_h.out.below hBw).at_ (j := k) (by rw [← hnv_h.out, hnq_h.out]; exact hlt)
     have hfb := hvb_h.out f0 (List.mem_of_getElem? hx2)
     obtain ⟨f, rfl⟩ : ∃ f : Nat, f0 = (f : Int) := ⟨f0.toNat, by omega⟩
     have hfq : f < q := by omega
     obtain ⟨ad3, κ', vv', B3, b3, s3, C3, b4, t3, rfl, hn3, ⟨y0, y1, y2, y3⟩, hr3, hr4⟩ := (hE_h.out.below hBw).at_ (j := f) (by rw [← hq_h.out]; exact hfq)
     have hef : g.2.1[f]? = some (κ', vv', s3, t3) := by rw [f1_h.out, List.getElem?_map, hn3]; rfl
     have hat : atB g pt (u, v) k = decide (((κ, vv, mapL u s1, mapL u t1) : Eg) = (κ', vv', s3, t3)) := by
      unfold atB
      simp only [List.getD_eq_getElem?_getD, hek, hx2, Option.getD_some, Int.toNat_natCast, hef]
      rfl
     obtain ⟨⟨l1, l2⟩, l3⟩ := egB_len (hegB_h.out _ (List.mem_of_getElem? hek))
     simp only at l1 l2 l3
     obtain ⟨hm1, hm2⟩ := mem_edW_of (List.mem_of_getElem? hek)
     have hi1 : ∀ z, z ∈ s1 → 0 ≤ z ∧ z < (nu : Int) := fun z hz => by rw [hnn_h.out]; exact hin1_h.out z (hm1 z hz)
     have hi2 : ∀ z, z ∈ t1 → 0 ≤ z ∧ z < (nu : Int) := fun z hz => by rw [hnn_h.out]; exact hin1_h.out z (hm2 z hz)
     have hUw := hU_h.out.below hBw
     have hp3b : s3.length ≤ 1048576 := by have := egB_len (hegG_h.out _ (List.mem_of_getElem? hef)); simp only at this; omega
     have hr3b : t3.length ≤ 1048576 := by have := egB_len (hegG_h.out _ (List.mem_of_getElem? hef)); simp only at this; omega
     have hCa := fun (W' : World) (hb : Below wo.heap.size wo W') => hgList_any B1' X b1 x s1.length nu s1 u W' (hr1.below hb) (hUw.below hb) rfl hnu_h.out.symm hi1 (by omega)
     have hCb := fun (W' : World) (hb : Below wo.heap.size wo W') => hgList_any C1 X b2 x t1.length nu t1 u W' (hr2.below hb) (hUw.below hb) rfl hnu_h.out.symm hi2 (by omega)
     obtain ⟨AT, hAT⟩ : ∃ D, D = atB g pt (u, v) k := ⟨_, rfl⟩
     rw [← hAT] at hat
     have hl1 : (mapL u s1).length = s1.length := mapL_length _ _
     have hl2 : (mapL u t1).length = t1.length := mapL_length _ _
     have hkI : (k : Int) < (q' : Int) := by omega
     have hkv : (k : Int) < (nv : Int) := by have := hnq_h.out; omega
     have hfI : (f : Int) < (q : Int) := by omega
     have hal1 : AT = true → (List.range (k + 1)).all (atB g pt (u, v)) = true := fun hh => by
      rw [List.range_succ, List.all_append, hal]
      simp [← hAT, hh]
     have hal0 : AT = false → T = false := fun hh => by
      rw [hAL_h.out, List.all_eq_false]
      exact ⟨k, List.mem_range.2 hlt, by rw [← hAT, hh]; decide⟩
     obtain ⟨p1, hp1⟩ : ∃ p1, p1 = s1.length := ⟨_, rfl⟩
     obtain ⟨r1, hr1'⟩ : ∃ r1, r1 = t1.length := ⟨_, rfl⟩
     obtain ⟨p3, hp3⟩ : ∃ p1, p1 = s3.length := ⟨_, rfl⟩
     obtain ⟨r3, hr3'⟩ : ∃ r1, r1 = t3.length := ⟨_, rfl⟩
     have hr3w := fun (W' : World) (hb : Below wo.heap.size wo W') => hr3.below hb
     have hr4w := fun (W' : World) (hb : Below wo.heap.size wo W') => hr4.below hb
     simp only [← hp1] at hCa hl1 l1
     simp only [← hr1'] at hCb hl2 l2
     rw [← hp1] at d2
     rw [← hr1'] at d3
     rw [← hp3] at y2 hp3b
     rw [← hr3'] at y3 hr3b
     have k3r := t_box_below k3_h.out hB
     have k4r := t_box_below k4_h.out hB
     have k5r := t_box_below k5_h.out hB
     obtain ⟨W6, hW6, bW6, k6⟩ := (⟨_, rfl, t_below_alloc _ _, heap_alloc_new _ _⟩ : ∃ W, W = wo.alloc (.cells #[.int .i64 κ, .int .i64 vv, .slice B1' p1 b1, .slice C1 r1 b2] tEd) ∧ Below wo.heap.size wo W ∧ W.heap[wo.heap.size]? = some (.cells #[.int .i64 κ, .int .i64 vv, .slice B1' p1 b1, .slice C1 r1 b2] tEd))
     have k3s := t_box_below k3r bW6
     have k5s := t_box_below k5r bW6
     have hc2s := cell_below hc2 bW6
     have z0 := cell_below y0 bW6
     have z1 := cell_below y1 bW6
     have z2 := cell_below y2 bW6
     have z3 := cell_below y3 bW6
     obtain ⟨⟨x0, x1, x2, x3⟩, x4, x5, x6, x7⟩ := t_box4 k4r
     have hBW6 := below_trans hB bW6 hB.size
     clear hr1 hr2 hr3 hr4 hek hx2 hn2 hn3 hef hfb hm1 hm2 hi1 hi2 hUw l3 k3r k4r k5r hc2 y0 y1 y2 y3; have hal_h := lH hal; have hat_h := lH hat; have hAT_h := lH hAT; have hCa_h := lH hCa; have hCb_h := lH hCb; have hl1_h := lH hl1; have hl2_h := lH hl2; have hal1_h := lH hal1; have hal0_h := lH hal0; have hp1_h := lH hp1; have hr1'_h := lH hr1'; have hp3_h := lH hp3; have hr3'_h := lH hr3'; have hr3w_h := lH hr3w; have hr4w_h := lH hr4w; have bW6_h := lH bW6; have k6_h := lH k6; have k3s_h := lH k3s; have k5s_h := lH k5s; have hc2s_h := lH hc2s; have z0_h := lH z0; have z1_h := lH z1; have z2_h := lH z2; have z3_h := lH z3; have hB_h := lH hB; have hBw_h := lH hBw; have hBW6_h := lH hBW6; clear hal hat hAT hCa hCb hl1 hl2 hal1 hal0 hp1 hr1' hp3 hr3' hr3w hr4w bW6 k6 k3s k5s hc2s z0 z1 z2 z3 hB hBw hBW6
     go_upto_region 6 with (fail)
     rw [← hW6]
     clear hW6 d0 d1 d2 d3 x0 x1 x2 x3 x4 x5 x6 x7
     go_cut [9] (fun sv wx => ∃ (bx : Nat), sv = .pointer (some ⟨bx, 0, none⟩) ∧ wx.heap[bx]? = some (.cells #[.int .i64 κ', .int .i64 vv', .slice B3 p3 b3, .slice C3 r3 b4] tEd) ∧ Below W6.heap.size W6 wx)
     case first =>
      refine beginH (fun w' => Below W6.heap.size W6 w') (by kernel_rfl) ?_
      have hbd : Below W6.heap.size W6 W6.drew := below_drew (Below.refl _ _)
      generalize W6.drew = W7 at hbd ⊢
      obtain ⟨W9, hW9, bW9, k9⟩ := alloc_box1g W7 (.cells #[.int .i64 0, .int .i64 0, .slice none 0 0, .slice none 0 0] tEd)
      have hbc := below_trans hbd bW9 hbd.size
      have hge := hbd.size
      obtain ⟨s1', s2'⟩ := set4 (a := .int .i64 κ') (b := .int .i64 vv') (c := .slice B3 p3 b3) (d := .slice C3 r3 b4) k9
      have hBf := below_keeps hbc s2' hbc.size (fun z hz => by omega)
      obtain ⟨⟨g0, g1, g2, g3⟩, g4, g5, g6, g7⟩ := t_box4 k9
      clear s2' bW9 hge k9; have hbd_h := lH hbd; have hbc_h := lH hbc; have s1'_h := lH s1'; have hBf_h := lH hBf; clear hbd hbc s1' hBf
      refine tkH 0 ?_ rfl hbd_h.out (fun W' hW' => ?_) ?_; rotate_left; · (have j0 := t_box_below k3s_h.out hW'; obtain ⟨⟨a0, a1, a2, a3⟩, a4, a5, a6, a7⟩ := t_box4 j0; have j1 := t_box_below k5s_h.out hW'; obtain ⟨⟨e0, e1⟩, e2, e3⟩ := t_box2 j1; have m0 := cell_below hc2s_h.out hW'; have m1 := cell_below z0_h.out hW'; have m2 := cell_below z1_h.out hW'; have m3 := cell_below z2_h.out hW'; have m4 := cell_below z3_h.out hW'; clear hW'; go_simp; first | done | with_reducible rfl)
      simp only [Act.put, nS]
      refine tkH 1 ?_ rfl hbd_h.out (fun W' hW' => ?_) ?_; rotate_left; · (have j0 := t_box_below k3s_h.out hW'; obtain ⟨⟨a0, a1, a2, a3⟩, a4, a5, a6, a7⟩ := t_box4 j0; have j1 := t_box_below k5s_h.out hW'; obtain ⟨⟨e0, e1⟩, e2, e3⟩ := t_box2 j1; have m0 := cell_below hc2s_h.out hW'; have m1 := cell_below z0_h.out hW'; have m2 := cell_below z1_h.out hW'; have m3 := cell_below z2_h.out hW'; have m4 := cell_below z3_h.out hW'; clear hW'; go_simp; first | done | with_reducible rfl)
      simp only [Act.put, nS]
      refine tkH 2 ?_ rfl hbd_h.out (fun W' hW' => ?_) ?_; rotate_left; · (have j0 := t_box_below k3s_h.out hW'; obtain ⟨⟨a0, a1, a2, a3⟩, a4, a5, a6, a7⟩ := t_box4 j0; have j1 := t_box_below k5s_h.out hW'; obtain ⟨⟨e0, e1⟩, e2, e3⟩ := t_box2 j1; have m0 := cell_below hc2s_h.out hW'; have m1 := cell_below z0_h.out hW'; have m2 := cell_below z1_h.out hW'; have m3 := cell_below z2_h.out hW'; have m4 := cell_below z3_h.out hW'; clear hW'; go_simp; first | done | with_reducible rfl)
      simp only [Act.put, nS]
      refine tkH 3 ?_ rfl hbd_h.out (fun W' hW' => ?_) ?_; rotate_left; · (have j0 := t_box_below k3s_h.out hW'; obtain ⟨⟨a0, a1, a2, a3⟩, a4, a5, a6, a7⟩ := t_box4 j0; have j1 := t_box_below k5s_h.out hW'; obtain ⟨⟨e0, e1⟩, e2, e3⟩ := t_box2 j1; have m0 := cell_below hc2s_h.out hW'; have m1 := cell_below z0_h.out hW'; have m2 := cell_below z1_h.out hW'; have m3 := cell_below z2_h.out hW'; have m4 := cell_below z3_h.out hW'; clear hW'; go_simp; first | done | with_reducible rfl)
      simp only [Act.put, nS]
      refine tkH 4 ?_ rfl hbd_h.out (fun W' hW' => ?_) ?_; rotate_left; · (have j0 := t_box_below k3s_h.out hW'; obtain ⟨⟨a0, a1, a2, a3⟩, a4, a5, a6, a7⟩ := t_box4 j0; have j1 := t_box_below k5s_h.out hW'; obtain ⟨⟨e0, e1⟩, e2, e3⟩ := t_box2 j1; have m0 := cell_below hc2s_h.out hW'; have m1 := cell_below z0_h.out hW'; have m2 := cell_below z1_h.out hW'; have m3 := cell_below z2_h.out hW'; have m4 := cell_below z3_h.out hW'; clear hW'; go_simp; first | done | with_reducible rfl)
      simp only [Act.put, nS]
      refine tkH 5 ?_ rfl hbd_h.out (fun W' hW' => ?_) ?_; rotate_left; · (have j0 := t_box_below k3s_h.out hW'; obtain ⟨⟨a0, a1, a2, a3⟩, a4, a5, a6, a7⟩ := t_box4 j0; have j1 := t_box_below k5s_h.out hW'; obtain ⟨⟨e0, e1⟩, e2, e3⟩ := t_box2 j1; have m0 := cell_below hc2s_h.out hW'; have m1 := cell_below z0_h.out hW'; have m2 := cell_below z1_h.out hW'; have m3 := cell_below z2_h.out hW'; have m4 := cell_below z3_h.out hW'; clear hW'; go_simp; first | done | with_reducible rfl)
      simp only [Act.put, nS]
      refine tkH 6 ?_ rfl hbd_h.out (fun W' hW' => ?_) ?_; rotate_left; · (have j0 := t_box_below k3s_h.out hW'; obtain ⟨⟨a0, a1, a2, a3⟩, a4, a5, a6, a7⟩ := t_box4 j0; have j1 := t_box_below k5s_h.out hW'; obtain ⟨⟨e0, e1⟩, e2, e3⟩ := t_box2 j1; have m0 := cell_below hc2s_h.out hW'; have m1 := cell_below z0_h.out hW'; have m2 := cell_below z1_h.out hW'; have m3 := cell_below z2_h.out hW'; have m4 := cell_below z3_h.out hW'; clear hW'; go_simp; first | done | with_reducible rfl)
      simp only [Act.put, nS]
      refine tkH 7 ?_ rfl hbd_h.out (fun W' hW' => ?_) ?_; rotate_left; · (have j0 := t_box_below k3s_h.out hW'; obtain ⟨⟨a0, a1, a2, a3⟩, a4, a5, a6, a7⟩ := t_box4 j0; have j1 := t_box_below k5s_h.out hW'; obtain ⟨⟨e0, e1⟩, e2, e3⟩ := t_box2 j1; have m0 := cell_below hc2s_h.out hW'; have m1 := cell_below z0_h.out hW'; have m2 := cell_below z1_h.out hW'; have m3 := cell_below z2_h.out hW'; have m4 := cell_below z3_h.out hW'; clear hW'; go_simp; first | done | with_reducible rfl)
      simp only [Act.put, nS]
      refine tkH 8 ?_ rfl hbd_h.out (fun W' hW' => ?_) ?_; rotate_left; · (have j0 := t_box_below k3s_h.out hW'; obtain ⟨⟨a0, a1, a2, a3⟩, a4, a5, a6, a7⟩ := t_box4 j0; have j1 := t_box_below k5s_h.out hW'; obtain ⟨⟨e0, e1⟩, e2, e3⟩ := t_box2 j1; have m0 := cell_below hc2s_h.out hW'; have m1 := cell_below z0_h.out hW'; have m2 := cell_below z1_h.out hW'; have m3 := cell_below z2_h.out hW'; have m4 := cell_below z3_h.out hW'; clear hW'; go_simp; first | done | with_reducible rfl)
      simp only [Act.put, nS]
      refine oneH 9 rfl (by kernel_rfl) (by rfl) (fun K hK => ?_)
      go_simp
      rw [← hW9]
      refine hK _ _ hbc_h.out ?_
      clear hK K hW9
      refine oneH 10 rfl (by kernel_rfl) (by rfl) (fun K hK => ?_)
      go_simp
      refine hK _ _ hBf_h.out ?_
      clear hK K
      refine doneH (by kernel_rfl) ?_
      go_wp2_with (fail)
      go_meet
      exact ⟨W7.heap.size, rfl, s1'_h.out, hBf_h.out⟩
     case rest =>
      obtain ⟨bx, rfl, k9, hBc⟩ := hcut
      obtain ⟨w7, rfl⟩ : ∃ x, x = wc := ⟨_, rfl⟩
      have hBc' := below_trans bW6_h.out hBc bW6_h.out.size
      have hBo' := below_trans hB_h.out hBc' hB_h.out.size
      have k6r := t_box_below k6_h.out hBc
      have k5r := t_box_below k5s_h.out hBc
      obtain ⟨E1, hE1⟩ : ∃ D, D = decide (mapL u s1 = s3) := ⟨_, rfl⟩
      obtain ⟨E2, hE2⟩ : ∃ D, D = decide (mapL u t1 = t3) := ⟨_, rfl⟩
      have hS1 := fun (A2 : Option Addr) (c2 : Nat) (W' : World) (hi : RdI W' A2 (mapL u s1)) (hb : Below wo.heap.size wo W') => l1Same_any A2 B3 c2 b3 p1 p3 (mapL u s1) s3 W' hi (hr3w_h.out W' hb) hl1_h.out hp3_h.out.symm (by omega) hp3b
      have hS2 := fun (A2 : Option Addr) (c2 : Nat) (W' : World) (hi : RdI W' A2 (mapL u t1)) (hb : Below wo.heap.size wo W') => l1Same_any A2 C3 c2 b4 r1 r3 (mapL u t1) t3 W' hi (hr4w_h.out W' hb) hl2_h.out hr3'_h.out.symm (by omega) hr3b
      simp only [← hE1] at hS1
      simp only [← hE2] at hS2
      have hATe : AT = (decide (κ = κ') && (decide (vv = vv') && (E1 && E2))) := by
       rw [hat_h.out, hE1, hE2, Bool.eq_iff_iff]
       simp
      have hBc_h := lH hBc; have k9_h := lH k9; have hBc'_h := lH hBc'; have hBo'_h := lH hBo'; have k6r_h := lH k6r; have k5r_h := lH k5r; have hE1_h := lH hE1; have hE2_h := lH hE2; have hS1_h := lH hS1; have hS2_h := lH hS2; have hATe_h := lH hATe; clear hBc k9 hBc' hBo' k6r k5r hE1 hE2 hS1 hS2 hATe
      go_upto_region 7 with (fail)
      go_cut [92] (fun sv wx => sv = .bool (!AT) ∧ Below w7.heap.size w7 wx)
      case first =>
       by_cases hκ : κ = κ'
       case neg =>
        have hbn : (κ != κ') = true := by rw [bne_iff_ne]; exact hκ
        obtain rfl : AT = false := by rw [hATe_h.out, decide_eq_false hκ]; rfl
        refine beginH (fun w' => Below w7.heap.size w7 w') (by kernel_rfl) ?_
        have hbd : Below w7.heap.size w7 w7.drew := below_drew (Below.refl _ _)
        generalize w7.drew = W8 at hbd ⊢
        have hbd_h := lH hbd; clear hbd
        refine tkH 0 ?_ rfl hbd_h.out (fun W' hW' => ?_) ?_; rotate_left; · (have j0 := t_box_below k6r_h.out hW'; obtain ⟨⟨a0, a1, a2, a3⟩, a4, a5, a6, a7⟩ := t_box4 j0; have j1 := t_box_below k5r_h.out hW'; obtain ⟨⟨e0, e1⟩, e2, e3⟩ := t_box2 j1; have j2 := t_box_below k9_h.out hW'; obtain ⟨⟨g0, g1, g2, g3⟩, g4, g5, g6, g7⟩ := t_box4 j2; clear hW'; go_simp; first | done | with_reducible rfl)
        simp only [Act.put, nS]
        refine tkH 1 ?_ rfl hbd_h.out (fun W' hW' => ?_) ?_; rotate_left; · (have j0 := t_box_below k6r_h.out hW'; obtain ⟨⟨a0, a1, a2, a3⟩, a4, a5, a6, a7⟩ := t_box4 j0; have j1 := t_box_below k5r_h.out hW'; obtain ⟨⟨e0, e1⟩, e2, e3⟩ := t_box2 j1; have j2 := t_box_below k9_h.out hW'; obtain ⟨⟨g0, g1, g2, g3⟩, g4, g5, g6, g7⟩ := t_box4 j2; clear hW'; go_simp; first | done | with_reducible rfl)
        simp only [Act.put, nS]
        refine tkH 2 ?_ rfl hbd_h.out (fun W' hW' => ?_) ?_; rotate_left; · (have j0 := t_box_below k6r_h.out hW'; obtain ⟨⟨a0, a1, a2, a3⟩, a4, a5, a6, a7⟩ := t_box4 j0; have j1 := t_box_below k5r_h.out hW'; obtain ⟨⟨e0, e1⟩, e2, e3⟩ := t_box2 j1; have j2 := t_box_below k9_h.out hW'; obtain ⟨⟨g0, g1, g2, g3⟩, g4, g5, g6, g7⟩ := t_box4 j2; clear hW'; go_simp; first | done | with_reducible rfl)
        simp only [Act.put, nS]
        refine tkH 3 ?_ rfl hbd_h.out (fun W' hW' => ?_) ?_; rotate_left; · (have j0 := t_box_below k6r_h.out hW'; obtain ⟨⟨a0, a1, a2, a3⟩, a4, a5, a6, a7⟩ := t_box4 j0; have j1 := t_box_below k5r_h.out hW'; obtain ⟨⟨e0, e1⟩, e2, e3⟩ := t_box2 j1; have j2 := t_box_below k9_h.out hW'; obtain ⟨⟨g0, g1, g2, g3⟩, g4, g5, g6, g7⟩ := t_box4 j2; clear hW'; go_simp; first | done | with_reducible rfl)
        simp only [Act.put, nS]
        refine tkH 4 ?_ rfl hbd_h.out (fun W' hW' => ?_) ?_; rotate_left; · (have j0 := t_box_below k6r_h.out hW'; obtain ⟨⟨a0, a1, a2, a3⟩, a4, a5, a6, a7⟩ := t_box4 j0; have j1 := t_box_below k5r_h.out hW'; obtain ⟨⟨e0, e1⟩, e2, e3⟩ := t_box2 j1; have j2 := t_box_below k9_h.out hW'; obtain ⟨⟨g0, g1, g2, g3⟩, g4, g5, g6, g7⟩ := t_box4 j2; clear hW'; go_simp; first | done | with_reducible rfl)
        simp only [Act.put, nS]
        refine tkH 5 ?_ rfl hbd_h.out (fun W' hW' => ?_) ?_; rotate_left; · (have j0 := t_box_below k6r_h.out hW'; obtain ⟨⟨a0, a1, a2, a3⟩, a4, a5, a6, a7⟩ := t_box4 j0; have j1 := t_box_below k5r_h.out hW'; obtain ⟨⟨e0, e1⟩, e2, e3⟩ := t_box2 j1; have j2 := t_box_below k9_h.out hW'; obtain ⟨⟨g0, g1, g2, g3⟩, g4, g5, g6, g7⟩ := t_box4 j2; clear hW'; go_simp; first | done | with_reducible rfl)
        simp only [Act.put, nS]
        refine offH 6 rfl (by kernel_rfl) (by kernel_rfl) (by kernel_rfl) (fun _ _ _ h => h) hbd_h.out (by rfl) ?_
        simp only [Act.put, nS]
        refine offH 7 rfl (by kernel_rfl) (by kernel_rfl) (by kernel_rfl) (fun _ _ _ h => h) hbd_h.out (by rfl) ?_
        simp only [Act.put, nS]
        refine offH 8 rfl (by kernel_rfl) (by kernel_rfl) (by kernel_rfl) (fun _ _ _ h => h) hbd_h.out (by rfl) ?_
        simp only [Act.put, nS]
        refine offH 9 rfl (by kernel_rfl) (by kernel_rfl) (by kernel_rfl) (fun _ _ _ h => h) hbd_h.out (by rfl) ?_
        simp only [Act.put, nS]
        refine offH 10 rfl (by kernel_rfl) (by kernel_rfl) (by kernel_rfl) (fun _ _ _ h => h) hbd_h.out (by rfl) ?_
        simp only [Act.put, nS]
        refine tkH 11 ?_ rfl hbd_h.out (fun W' hW' => ?_) ?_; rotate_left; · (skip; clear hW'; go_simp; first | done | with_reducible rfl)
        simp only [Act.put, nS]
        refine tkH 12 ?_ rfl hbd_h.out (fun W' hW' => ?_) ?_; rotate_left; · (skip; clear hW'; go_simp; first | done | with_reducible rfl)
        simp only [Act.put, nS]
        refine offH 13 rfl (by kernel_rfl) (by kernel_rfl) (by kernel_rfl) (fun _ _ _ h => h) hbd_h.out (by rfl) ?_
        simp only [Act.put, nS]
        refine offH 14 rfl (by kernel_rfl) (by kernel_rfl) (by kernel_rfl) (fun _ _ _ h => h) hbd_h.out (by rfl) ?_
        simp only [Act.put, nS]
        refine offH 15 rfl (by kernel_rfl) (by kernel_rfl) (by kernel_rfl) (fun _ _ _ h => h) hbd_h.out (by rfl) ?_
        simp only [Act.put, nS]
        refine offH 16 rfl (by kernel_rfl) (by kernel_rfl) (by kernel_rfl) (fun _ _ _ h => h) hbd_h.out (by rfl) ?_
        simp only [Act.put, nS]
        refine offH 18 rfl (by kernel_rfl) (by kernel_rfl) (by kernel_rfl) (fun _ _ _ h => h) hbd_h.out (by rfl) ?_
        simp only [Act.put, nS]
        refine offH 19 rfl (by kernel_rfl) (by kernel_rfl) (by kernel_rfl) (fun _ _ _ h => h) hbd_h.out (by rfl) ?_
        simp only [Act.put, nS]
        refine offOneH 17 rfl (by kernel_rfl) (by rfl) hbd_h.out ?_
        simp only [Act.put, nS]
        refine offOneH 20 rfl (by kernel_rfl) (by rfl) hbd_h.out ?_
        simp only [Act.put, nS]
        refine offH 21 rfl (by kernel_rfl) (by kernel_rfl) (by kernel_rfl) (fun _ _ _ h => h) hbd_h.out (by rfl) ?_
        simp only [Act.put, nS]
        refine tkH 22 ?_ rfl hbd_h.out (fun W' hW' => ?_) ?_; rotate_left; · (skip; clear hW'; go_simp; first | done | with_reducible rfl)
        simp only [Act.put, nS]
        refine tkH 23 ?_ rfl hbd_h.out (fun W' hW' => ?_) ?_; rotate_left; · (skip; clear hW'; go_simp; first | done | with_reducible rfl)
        simp only [Act.put, nS]
        refine offH 24 rfl (by kernel_rfl) (by kernel_rfl) (by kernel_rfl) (fun _ _ _ h => h) hbd_h.out (by rfl) ?_
        simp only [Act.put, nS]
        refine offH 25 rfl (by kernel_rfl) (by kernel_rfl) (by kernel_rfl) (fun _ _ _ h => h) hbd_h.out (by rfl) ?_
        simp only [Act.put, nS]
        refine offH 26 rfl (by kernel_rfl) (by kernel_rfl) (by kernel_rfl) (fun _ _ _ h => h) hbd_h.out (by rfl) ?_
        simp only [Act.put, nS]
        refine offH 27 rfl (by kernel_rfl) (by kernel_rfl) (by kernel_rfl) (fun _ _ _ h => h) hbd_h.out (by rfl) ?_
        simp only [Act.put, nS]
        refine offH 29 rfl (by kernel_rfl) (by kernel_rfl) (by kernel_rfl) (fun _ _ _ h => h) hbd_h.out (by rfl) ?_
        simp only [Act.put, nS]
        refine offH 30 rfl (by kernel_rfl) (by kernel_rfl) (by kernel_rfl) (fun _ _ _ h => h) hbd_h.out (by rfl) ?_
        simp only [Act.put, nS]
        refine offOneH 28 rfl (by kernel_rfl) (by rfl) hbd_h.out ?_
        simp only [Act.put, nS]
        refine offOneH 31 rfl (by kernel_rfl) (by rfl) hbd_h.out ?_
        simp only [Act.put, nS]
        refine offH 32 rfl (by kernel_rfl) (by kernel_rfl) (by kernel_rfl) (fun _ _ _ h => h) hbd_h.out (by rfl) ?_
        simp only [Act.put, nS]
        refine tkH 33 ?_ rfl hbd_h.out (fun W' hW' => ?_) ?_; rotate_left; · (skip; clear hW'; go_simp; first | done | with_reducible rfl)
        simp only [Act.put, nS]
        refine doneH (by kernel_rfl) ?_
        go_wp2_with (fail)
        go_meet
        exact ⟨rfl, hbd_h.out⟩
       have hbn : (κ != κ') = false := by rw [hκ]; simp
       by_cases hv : vv = vv'
       case neg =>
        have hbv : (vv != vv') = true := by rw [bne_iff_ne]; exact hv
        obtain rfl : AT = false := by rw [hATe_h.out, decide_eq_false hv]; simp
        refine beginH (fun w' => Below w7.heap.size w7 w') (by kernel_rfl) ?_
        have hbd : Below w7.heap.size w7 w7.drew := below_drew (Below.refl _ _)
        generalize w7.drew = W8 at hbd ⊢
        have hbd_h := lH hbd; clear hbd
        refine tkH 0 ?_ rfl hbd_h.out (fun W' hW' => ?_) ?_; rotate_left; · (have j0 := t_box_below k6r_h.out hW'; obtain ⟨⟨a0, a1, a2, a3⟩, a4, a5, a6, a7⟩ := t_box4 j0; have j1 := t_box_below k5r_h.out hW'; obtain ⟨⟨e0, e1⟩, e2, e3⟩ := t_box2 j1; have j2 := t_box_below k9_h.out hW'; obtain ⟨⟨g0, g1, g2, g3⟩, g4, g5, g6, g7⟩ := t_box4 j2; clear hW'; go_simp; first | done | with_reducible rfl)
        simp only [Act.put, nS]
        refine tkH 1 ?_ rfl hbd_h.out (fun W' hW' => ?_) ?_; rotate_left; · (have j0 := t_box_below k6r_h.out hW'; obtain ⟨⟨a0, a1, a2, a3⟩, a4, a5, a6, a7⟩ := t_box4 j0; have j1 := t_box_below k5r_h.out hW'; obtain ⟨⟨e0, e1⟩, e2, e3⟩ := t_box2 j1; have j2 := t_box_below k9_h.out hW'; obtain ⟨⟨g0, g1, g2, g3⟩, g4, g5, g6, g7⟩ := t_box4 j2; clear hW'; go_simp; first | done | with_reducible rfl)
        simp only [Act.put, nS]
        refine tkH 2 ?_ rfl hbd_h.out (fun W' hW' => ?_) ?_; rotate_left; · (have j0 := t_box_below k6r_h.out hW'; obtain ⟨⟨a0, a1, a2, a3⟩, a4, a5, a6, a7⟩ := t_box4 j0; have j1 := t_box_below k5r_h.out hW'; obtain ⟨⟨e0, e1⟩, e2, e3⟩ := t_box2 j1; have j2 := t_box_below k9_h.out hW'; obtain ⟨⟨g0, g1, g2, g3⟩, g4, g5, g6, g7⟩ := t_box4 j2; clear hW'; go_simp; first | done | with_reducible rfl)
        simp only [Act.put, nS]
        refine tkH 3 ?_ rfl hbd_h.out (fun W' hW' => ?_) ?_; rotate_left; · (have j0 := t_box_below k6r_h.out hW'; obtain ⟨⟨a0, a1, a2, a3⟩, a4, a5, a6, a7⟩ := t_box4 j0; have j1 := t_box_below k5r_h.out hW'; obtain ⟨⟨e0, e1⟩, e2, e3⟩ := t_box2 j1; have j2 := t_box_below k9_h.out hW'; obtain ⟨⟨g0, g1, g2, g3⟩, g4, g5, g6, g7⟩ := t_box4 j2; clear hW'; go_simp; first | done | with_reducible rfl)
        simp only [Act.put, nS]
        refine tkH 4 ?_ rfl hbd_h.out (fun W' hW' => ?_) ?_; rotate_left; · (have j0 := t_box_below k6r_h.out hW'; obtain ⟨⟨a0, a1, a2, a3⟩, a4, a5, a6, a7⟩ := t_box4 j0; have j1 := t_box_below k5r_h.out hW'; obtain ⟨⟨e0, e1⟩, e2, e3⟩ := t_box2 j1; have j2 := t_box_below k9_h.out hW'; obtain ⟨⟨g0, g1, g2, g3⟩, g4, g5, g6, g7⟩ := t_box4 j2; clear hW'; go_simp; first | done | with_reducible rfl)
        simp only [Act.put, nS]
        refine tkH 5 ?_ rfl hbd_h.out (fun W' hW' => ?_) ?_; rotate_left; · (have j0 := t_box_below k6r_h.out hW'; obtain ⟨⟨a0, a1, a2, a3⟩, a4, a5, a6, a7⟩ := t_box4 j0; have j1 := t_box_below k5r_h.out hW'; obtain ⟨⟨e0, e1⟩, e2, e3⟩ := t_box2 j1; have j2 := t_box_below k9_h.out hW'; obtain ⟨⟨g0, g1, g2, g3⟩, g4, g5, g6, g7⟩ := t_box4 j2; clear hW'; go_simp; first | done | with_reducible rfl)
        simp only [Act.put, nS]
        refine tkH 6 ?_ rfl hbd_h.out (fun W' hW' => ?_) ?_; rotate_left; · (have j0 := t_box_below k6r_h.out hW'; obtain ⟨⟨a0, a1, a2, a3⟩, a4, a5, a6, a7⟩ := t_box4 j0; have j1 := t_box_below k5r_h.out hW'; obtain ⟨⟨e0, e1⟩, e2, e3⟩ := t_box2 j1; have j2 := t_box_below k9_h.out hW'; obtain ⟨⟨g0, g1, g2, g3⟩, g4, g5, g6, g7⟩ := t_box4 j2; clear hW'; go_simp; first | done | with_reducible rfl)
        simp only [Act.put, nS]
        refine tkH 7 ?_ rfl hbd_h.out (fun W' hW' => ?_) ?_; rotate_left; · (have j0 := t_box_below k6r_h.out hW'; obtain ⟨⟨a0, a1, a2, a3⟩, a4, a5, a6, a7⟩ := t_box4 j0; have j1 := t_box_below k5r_h.out hW'; obtain ⟨⟨e0, e1⟩, e2, e3⟩ := t_box2 j1; have j2 := t_box_below k9_h.out hW'; obtain ⟨⟨g0, g1, g2, g3⟩, g4, g5, g6, g7⟩ := t_box4 j2; clear hW'; go_simp; first | done | with_reducible rfl)
        simp only [Act.put, nS]
        refine tkH 8 ?_ rfl hbd_h.out (fun W' hW' => ?_) ?_; rotate_left; · (have j0 := t_box_below k6r_h.out hW'; obtain ⟨⟨a0, a1, a2, a3⟩, a4, a5, a6, a7⟩ := t_box4 j0; have j1 := t_box_below k5r_h.out hW'; obtain ⟨⟨e0, e1⟩, e2, e3⟩ := t_box2 j1; have j2 := t_box_below k9_h.out hW'; obtain ⟨⟨g0, g1, g2, g3⟩, g4, g5, g6, g7⟩ := t_box4 j2; clear hW'; go_simp; first | done | with_reducible rfl)
        simp only [Act.put, nS]
        refine tkH 9 ?_ rfl hbd_h.out (fun W' hW' => ?_) ?_; rotate_left; · (have j0 := t_box_below k6r_h.out hW'; obtain ⟨⟨a0, a1, a2, a3⟩, a4, a5, a6, a7⟩ := t_box4 j0; have j1 := t_box_below k5r_h.out hW'; obtain ⟨⟨e0, e1⟩, e2, e3⟩ := t_box2 j1; have j2 := t_box_below k9_h.out hW'; obtain ⟨⟨g0, g1, g2, g3⟩, g4, g5, g6, g7⟩ := t_box4 j2; clear hW'; go_simp; first | done | with_reducible rfl)
        simp only [Act.put, nS]
        refine tkH 10 ?_ rfl hbd_h.out (fun W' hW' => ?_) ?_; rotate_left; · (have j0 := t_box_below k6r_h.out hW'; obtain ⟨⟨a0, a1, a2, a3⟩, a4, a5, a6, a7⟩ := t_box4 j0; have j1 := t_box_below k5r_h.out hW'; obtain ⟨⟨e0, e1⟩, e2, e3⟩ := t_box2 j1; have j2 := t_box_below k9_h.out hW'; obtain ⟨⟨g0, g1, g2, g3⟩, g4, g5, g6, g7⟩ := t_box4 j2; clear hW'; go_simp; first | done | with_reducible rfl)
        simp only [Act.put, nS]
        refine tkH 11 ?_ rfl hbd_h.out (fun W' hW' => ?_) ?_; rotate_left; · (have j0 := t_box_below k6r_h.out hW'; obtain ⟨⟨a0, a1, a2, a3⟩, a4, a5, a6, a7⟩ := t_box4 j0; have j1 := t_box_below k5r_h.out hW'; obtain ⟨⟨e0, e1⟩, e2, e3⟩ := t_box2 j1; have j2 := t_box_below k9_h.out hW'; obtain ⟨⟨g0, g1, g2, g3⟩, g4, g5, g6, g7⟩ := t_box4 j2; clear hW'; go_simp; first | done | with_reducible rfl)
        simp only [Act.put, nS]
        refine tkH 12 ?_ rfl hbd_h.out (fun W' hW' => ?_) ?_; rotate_left; · (have j0 := t_box_below k6r_h.out hW'; obtain ⟨⟨a0, a1, a2, a3⟩, a4, a5, a6, a7⟩ := t_box4 j0; have j1 := t_box_below k5r_h.out hW'; obtain ⟨⟨e0, e1⟩, e2, e3⟩ := t_box2 j1; have j2 := t_box_below k9_h.out hW'; obtain ⟨⟨g0, g1, g2, g3⟩, g4, g5, g6, g7⟩ := t_box4 j2; clear hW'; go_simp; first | done | with_reducible rfl)
        simp only [Act.put, nS]
        refine offH 13 rfl (by kernel_rfl) (by kernel_rfl) (by kernel_rfl) (fun _ _ _ h => h) hbd_h.out (by rfl) ?_
        simp only [Act.put, nS]
        refine offH 14 rfl (by kernel_rfl) (by kernel_rfl) (by kernel_rfl) (fun _ _ _ h => h) hbd_h.out (by rfl) ?_
        simp only [Act.put, nS]
        refine offH 15 rfl (by kernel_rfl) (by kernel_rfl) (by kernel_rfl) (fun _ _ _ h => h) hbd_h.out (by rfl) ?_
        simp only [Act.put, nS]
        refine offH 16 rfl (by kernel_rfl) (by kernel_rfl) (by kernel_rfl) (fun _ _ _ h => h) hbd_h.out (by rfl) ?_
        simp only [Act.put, nS]
        refine offH 18 rfl (by kernel_rfl) (by kernel_rfl) (by kernel_rfl) (fun _ _ _ h => h) hbd_h.out (by rfl) ?_
        simp only [Act.put, nS]
        refine offH 19 rfl (by kernel_rfl) (by kernel_rfl) (by kernel_rfl) (fun _ _ _ h => h) hbd_h.out (by rfl) ?_
        simp only [Act.put, nS]
        refine offOneH 17 rfl (by kernel_rfl) (by rfl) hbd_h.out ?_
        simp only [Act.put, nS]
        refine offOneH 20 rfl (by kernel_rfl) (by rfl) hbd_h.out ?_
        simp only [Act.put, nS]
        refine offH 21 rfl (by kernel_rfl) (by kernel_rfl) (by kernel_rfl) (fun _ _ _ h => h) hbd_h.out (by rfl) ?_
        simp only [Act.put, nS]
        refine tkH 22 ?_ rfl hbd_h.out (fun W' hW' => ?_) ?_; rotate_left; · (skip; clear hW'; go_simp; first | done | with_reducible rfl)
        simp only [Act.put, nS]
        refine tkH 23 ?_ rfl hbd_h.out (fun W' hW' => ?_) ?_; rotate_left; · (skip; clear hW'; go_simp; first | done | with_reducible rfl)
        simp only [Act.put, nS]
        refine offH 24 rfl (by kernel_rfl) (by kernel_rfl) (by kernel_rfl) (fun _ _ _ h => h) hbd_h.out (by rfl) ?_
        simp only [Act.put, nS]
        refine offH 25 rfl (by kernel_rfl) (by kernel_rfl) (by kernel_rfl) (fun _ _ _ h => h) hbd_h.out (by rfl) ?_
        simp only [Act.put, nS]
        refine offH 26 rfl (by kernel_rfl) (by kernel_rfl) (by kernel_rfl) (fun _ _ _ h => h) hbd_h.out (by rfl) ?_
        simp only [Act.put, nS]
        refine offH 27 rfl (by kernel_rfl) (by kernel_rfl) (by kernel_rfl) (fun _ _ _ h => h) hbd_h.out (by rfl) ?_
        simp only [Act.put, nS]
        refine offH 29 rfl (by kernel_rfl) (by kernel_rfl) (by kernel_rfl) (fun _ _ _ h => h) hbd_h.out (by rfl) ?_
        simp only [Act.put, nS]
        refine offH 30 rfl (by kernel_rfl) (by kernel_rfl) (by kernel_rfl) (fun _ _ _ h => h) hbd_h.out (by rfl) ?_
        simp only [Act.put, nS]
        refine offOneH 28 rfl (by kernel_rfl) (by rfl) hbd_h.out ?_
        simp only [Act.put, nS]
        refine offOneH 31 rfl (by kernel_rfl) (by rfl) hbd_h.out ?_
        simp only [Act.put, nS]
        refine offH 32 rfl (by kernel_rfl) (by kernel_rfl) (by kernel_rfl) (fun _ _ _ h => h) hbd_h.out (by rfl) ?_
        simp only [Act.put, nS]
        refine tkH 33 ?_ rfl hbd_h.out (fun W' hW' => ?_) ?_; rotate_left; · (skip; clear hW'; go_simp; first | done | with_reducible rfl)
        simp only [Act.put, nS]
        refine doneH (by kernel_rfl) ?_
        go_wp2_with (fail)
        go_meet
        exact ⟨rfl, hbd_h.out⟩
       have hbv : (vv != vv') = false := by rw [hv]; simp
       have hAE : AT = (E1 && E2) := by rw [hATe_h.out, decide_eq_true hκ, decide_eq_true hv]; rfl
       clear hκ hv; have hAE_h := lH hAE; clear hAE
       refine beginH (fun w' => Below w7.heap.size w7 w') (by kernel_rfl) ?_
       have hbd : Below w7.heap.size w7 w7.drew := below_drew (Below.refl _ _)
       generalize w7.drew = W8 at hbd ⊢
       have hbd_h := lH hbd; clear hbd
       refine tkH 0 ?_ rfl hbd_h.out (fun W' hW' => ?_) ?_; rotate_left; · (have j0 := t_box_below k6r_h.out hW'; obtain ⟨⟨a0, a1, a2, a3⟩, a4, a5, a6, a7⟩ := t_box4 j0; have j1 := t_box_below k5r_h.out hW'; obtain ⟨⟨e0, e1⟩, e2, e3⟩ := t_box2 j1; have j2 := t_box_below k9_h.out hW'; obtain ⟨⟨g0, g1, g2, g3⟩, g4, g5, g6, g7⟩ := t_box4 j2; clear hW'; go_simp; first | done | with_reducible rfl)
       simp only [Act.put, nS]
       refine tkH 1 ?_ rfl hbd_h.out (fun W' hW' => ?_) ?_; rotate_left; · (have j0 := t_box_below k6r_h.out hW'; obtain ⟨⟨a0, a1, a2, a3⟩, a4, a5, a6, a7⟩ := t_box4 j0; have j1 := t_box_below k5r_h.out hW'; obtain ⟨⟨e0, e1⟩, e2, e3⟩ := t_box2 j1; have j2 := t_box_below k9_h.out hW'; obtain ⟨⟨g0, g1, g2, g3⟩, g4, g5, g6, g7⟩ := t_box4 j2; clear hW'; go_simp; first | done | with_reducible rfl)
       simp only [Act.put, nS]
       refine tkH 2 ?_ rfl hbd_h.out (fun W' hW' => ?_) ?_; rotate_left; · (have j0 := t_box_below k6r_h.out hW'; obtain ⟨⟨a0, a1, a2, a3⟩, a4, a5, a6, a7⟩ := t_box4 j0; have j1 := t_box_below k5r_h.out hW'; obtain ⟨⟨e0, e1⟩, e2, e3⟩ := t_box2 j1; have j2 := t_box_below k9_h.out hW'; obtain ⟨⟨g0, g1, g2, g3⟩, g4, g5, g6, g7⟩ := t_box4 j2; clear hW'; go_simp; first | done | with_reducible rfl)
       simp only [Act.put, nS]
       refine tkH 3 ?_ rfl hbd_h.out (fun W' hW' => ?_) ?_; rotate_left; · (have j0 := t_box_below k6r_h.out hW'; obtain ⟨⟨a0, a1, a2, a3⟩, a4, a5, a6, a7⟩ := t_box4 j0; have j1 := t_box_below k5r_h.out hW'; obtain ⟨⟨e0, e1⟩, e2, e3⟩ := t_box2 j1; have j2 := t_box_below k9_h.out hW'; obtain ⟨⟨g0, g1, g2, g3⟩, g4, g5, g6, g7⟩ := t_box4 j2; clear hW'; go_simp; first | done | with_reducible rfl)
       simp only [Act.put, nS]
       refine tkH 4 ?_ rfl hbd_h.out (fun W' hW' => ?_) ?_; rotate_left; · (have j0 := t_box_below k6r_h.out hW'; obtain ⟨⟨a0, a1, a2, a3⟩, a4, a5, a6, a7⟩ := t_box4 j0; have j1 := t_box_below k5r_h.out hW'; obtain ⟨⟨e0, e1⟩, e2, e3⟩ := t_box2 j1; have j2 := t_box_below k9_h.out hW'; obtain ⟨⟨g0, g1, g2, g3⟩, g4, g5, g6, g7⟩ := t_box4 j2; clear hW'; go_simp; first | done | with_reducible rfl)
       simp only [Act.put, nS]
       refine tkH 5 ?_ rfl hbd_h.out (fun W' hW' => ?_) ?_; rotate_left; · (have j0 := t_box_below k6r_h.out hW'; obtain ⟨⟨a0, a1, a2, a3⟩, a4, a5, a6, a7⟩ := t_box4 j0; have j1 := t_box_below k5r_h.out hW'; obtain ⟨⟨e0, e1⟩, e2, e3⟩ := t_box2 j1; have j2 := t_box_below k9_h.out hW'; obtain ⟨⟨g0, g1, g2, g3⟩, g4, g5, g6, g7⟩ := t_box4 j2; clear hW'; go_simp; first | done | with_reducible rfl)
       simp only [Act.put, nS]
       refine tkH 6 ?_ rfl hbd_h.out (fun W' hW' => ?_) ?_; rotate_left; · (have j0 := t_box_below k6r_h.out hW'; obtain ⟨⟨a0, a1, a2, a3⟩, a4, a5, a6, a7⟩ := t_box4 j0; have j1 := t_box_below k5r_h.out hW'; obtain ⟨⟨e0, e1⟩, e2, e3⟩ := t_box2 j1; have j2 := t_box_below k9_h.out hW'; obtain ⟨⟨g0, g1, g2, g3⟩, g4, g5, g6, g7⟩ := t_box4 j2; clear hW'; go_simp; first | done | with_reducible rfl)
       simp only [Act.put, nS]
       refine tkH 7 ?_ rfl hbd_h.out (fun W' hW' => ?_) ?_; rotate_left; · (have j0 := t_box_below k6r_h.out hW'; obtain ⟨⟨a0, a1, a2, a3⟩, a4, a5, a6, a7⟩ := t_box4 j0; have j1 := t_box_below k5r_h.out hW'; obtain ⟨⟨e0, e1⟩, e2, e3⟩ := t_box2 j1; have j2 := t_box_below k9_h.out hW'; obtain ⟨⟨g0, g1, g2, g3⟩, g4, g5, g6, g7⟩ := t_box4 j2; clear hW'; go_simp; first | done | with_reducible rfl)
       simp only [Act.put, nS]
       refine tkH 8 ?_ rfl hbd_h.out (fun W' hW' => ?_) ?_; rotate_left; · (have j0 := t_box_below k6r_h.out hW'; obtain ⟨⟨a0, a1, a2, a3⟩, a4, a5, a6, a7⟩ := t_box4 j0; have j1 := t_box_below k5r_h.out hW'; obtain ⟨⟨e0, e1⟩, e2, e3⟩ := t_box2 j1; have j2 := t_box_below k9_h.out hW'; obtain ⟨⟨g0, g1, g2, g3⟩, g4, g5, g6, g7⟩ := t_box4 j2; clear hW'; go_simp; first | done | with_reducible rfl)
       simp only [Act.put, nS]
       refine tkH 9 ?_ rfl hbd_h.out (fun W' hW' => ?_) ?_; rotate_left; · (have j0 := t_box_below k6r_h.out hW'; obtain ⟨⟨a0, a1, a2, a3⟩, a4, a5, a6, a7⟩ := t_box4 j0; have j1 := t_box_below k5r_h.out hW'; obtain ⟨⟨e0, e1⟩, e2, e3⟩ := t_box2 j1; have j2 := t_box_below k9_h.out hW'; obtain ⟨⟨g0, g1, g2, g3⟩, g4, g5, g6, g7⟩ := t_box4 j2; clear hW'; go_simp; first | done | with_reducible rfl)
       simp only [Act.put, nS]
       refine tkH 10 ?_ rfl hbd_h.out (fun W' hW' => ?_) ?_; rotate_left; · (have j0 := t_box_below k6r_h.out hW'; obtain ⟨⟨a0, a1, a2, a3⟩, a4, a5, a6, a7⟩ := t_box4 j0; have j1 := t_box_below k5r_h.out hW'; obtain ⟨⟨e0, e1⟩, e2, e3⟩ := t_box2 j1; have j2 := t_box_below k9_h.out hW'; obtain ⟨⟨g0, g1, g2, g3⟩, g4, g5, g6, g7⟩ := t_box4 j2; clear hW'; go_simp; first | done | with_reducible rfl)
       simp only [Act.put, nS]
       refine tkH 11 ?_ rfl hbd_h.out (fun W' hW' => ?_) ?_; rotate_left; · (have j0 := t_box_below k6r_h.out hW'; obtain ⟨⟨a0, a1, a2, a3⟩, a4, a5, a6, a7⟩ := t_box4 j0; have j1 := t_box_below k5r_h.out hW'; obtain ⟨⟨e0, e1⟩, e2, e3⟩ := t_box2 j1; have j2 := t_box_below k9_h.out hW'; obtain ⟨⟨g0, g1, g2, g3⟩, g4, g5, g6, g7⟩ := t_box4 j2; clear hW'; go_simp; first | done | with_reducible rfl)
       simp only [Act.put, nS]
       refine tkH 12 ?_ rfl hbd_h.out (fun W' hW' => ?_) ?_; rotate_left; · (have j0 := t_box_below k6r_h.out hW'; obtain ⟨⟨a0, a1, a2, a3⟩, a4, a5, a6, a7⟩ := t_box4 j0; have j1 := t_box_below k5r_h.out hW'; obtain ⟨⟨e0, e1⟩, e2, e3⟩ := t_box2 j1; have j2 := t_box_below k9_h.out hW'; obtain ⟨⟨g0, g1, g2, g3⟩, g4, g5, g6, g7⟩ := t_box4 j2; clear hW'; go_simp; first | done | with_reducible rfl)
       simp only [Act.put, nS]
       refine tkH 13 ?_ rfl hbd_h.out (fun W' hW' => ?_) ?_; rotate_left; · (have j0 := t_box_below k6r_h.out hW'; obtain ⟨⟨a0, a1, a2, a3⟩, a4, a5, a6, a7⟩ := t_box4 j0; have j1 := t_box_below k5r_h.out hW'; obtain ⟨⟨e0, e1⟩, e2, e3⟩ := t_box2 j1; have j2 := t_box_below k9_h.out hW'; obtain ⟨⟨g0, g1, g2, g3⟩, g4, g5, g6, g7⟩ := t_box4 j2; clear hW'; go_simp; first | done | with_reducible rfl)
       simp only [Act.put, nS]
       refine tkH 14 ?_ rfl hbd_h.out (fun W' hW' => ?_) ?_; rotate_left; · (have j0 := t_box_below k6r_h.out hW'; obtain ⟨⟨a0, a1, a2, a3⟩, a4, a5, a6, a7⟩ := t_box4 j0; have j1 := t_box_below k5r_h.out hW'; obtain ⟨⟨e0, e1⟩, e2, e3⟩ := t_box2 j1; have j2 := t_box_below k9_h.out hW'; obtain ⟨⟨g0, g1, g2, g3⟩, g4, g5, g6, g7⟩ := t_box4 j2; clear hW'; go_simp; first | done | with_reducible rfl)
       simp only [Act.put, nS]
       refine tkH 15 ?_ rfl hbd_h.out (fun W' hW' => ?_) ?_; rotate_left; · (have j0 := t_box_below k6r_h.out hW'; obtain ⟨⟨a0, a1, a2, a3⟩, a4, a5, a6, a7⟩ := t_box4 j0; have j1 := t_box_below k5r_h.out hW'; obtain ⟨⟨e0, e1⟩, e2, e3⟩ := t_box2 j1; have j2 := t_box_below k9_h.out hW'; obtain ⟨⟨g0, g1, g2, g3⟩, g4, g5, g6, g7⟩ := t_box4 j2; clear hW'; go_simp; first | done | with_reducible rfl)
       simp only [Act.put, nS]
       refine tkH 16 ?_ rfl hbd_h.out (fun W' hW' => ?_) ?_; rotate_left; · (have j0 := t_box_below k6r_h.out hW'; obtain ⟨⟨a0, a1, a2, a3⟩, a4, a5, a6, a7⟩ := t_box4 j0; have j1 := t_box_below k5r_h.out hW'; obtain ⟨⟨e0, e1⟩, e2, e3⟩ := t_box2 j1; have j2 := t_box_below k9_h.out hW'; obtain ⟨⟨g0, g1, g2, g3⟩, g4, g5, g6, g7⟩ := t_box4 j2; clear hW'; go_simp; first | done | with_reducible rfl)
       simp only [Act.put, nS]
       refine tkH 18 ?_ rfl hbd_h.out (fun W' hW' => ?_) ?_; rotate_left; · (have j0 := t_box_below k6r_h.out hW'; obtain ⟨⟨a0, a1, a2, a3⟩, a4, a5, a6, a7⟩ := t_box4 j0; have j1 := t_box_below k5r_h.out hW'; obtain ⟨⟨e0, e1⟩, e2, e3⟩ := t_box2 j1; have j2 := t_box_below k9_h.out hW'; obtain ⟨⟨g0, g1, g2, g3⟩, g4, g5, g6, g7⟩ := t_box4 j2; clear hW'; go_simp; first | done | with_reducible rfl)
       simp only [Act.put, nS]
       refine tkH 19 ?_ rfl hbd_h.out (fun W' hW' => ?_) ?_; rotate_left; · (have j0 := t_box_below k6r_h.out hW'; obtain ⟨⟨a0, a1, a2, a3⟩, a4, a5, a6, a7⟩ := t_box4 j0; have j1 := t_box_below k5r_h.out hW'; obtain ⟨⟨e0, e1⟩, e2, e3⟩ := t_box2 j1; have j2 := t_box_below k9_h.out hW'; obtain ⟨⟨g0, g1, g2, g3⟩, g4, g5, g6, g7⟩ := t_box4 j2; clear hW'; go_simp; first | done | with_reducible rfl)
       simp only [Act.put, nS]
       refine' callH 17 (f := _) (args := _) rfl (by kernel_rfl) (by rfl) ?_ ?_; rotate_left 2; · (go_simp; first | done | with_reducible rfl | (constructor <;> with_reducible rfl))
       refine ((hCa_h.out _ (below_trans hBc'_h.out hbd_h.out hBc'_h.out.size))).mono ?_
       rintro e w9 ⟨A2, c2', rfl, hO2⟩
       have hB9 := below_trans hbd_h.out hO2.below_ hbd_h.out.size
       have hi9 := hO2.is.rd
       clear hO2; have hB9_h := lH hB9; have hi9_h := lH hi9; clear hB9 hi9
       refine ⟨_, rfl, hB9_h.out, ?_⟩
       simp only [Act.put, nS]
       refine' callH 20 (f := _) (args := _) rfl (by kernel_rfl) (by rfl) ?_ ?_; rotate_left 2; · (go_simp; first | done | with_reducible rfl | (constructor <;> with_reducible rfl))
       refine ((hS1_h.out A2 c2' w9 hi9_h.out (below_trans hBc'_h.out hB9_h.out hBc'_h.out.size))).mono ?_
       rintro e w10 ⟨rfl, hb10⟩
       have hB10 := below_trans hB9_h.out hb10 hB9_h.out.size
       clear hb10; have hB10_h := lH hB10; clear hB10
       refine ⟨_, rfl, hB10_h.out, ?_⟩
       simp only [Act.put, nS]
       cases E1
       case false =>
        obtain rfl : AT = false := hAE_h.out
        refine tkH 21 ?_ rfl hB10_h.out (fun W' hW' => ?_) ?_; rotate_left; · (skip; clear hW'; go_simp; first | done | with_reducible rfl)
        simp only [Act.put, nS]
        refine tkH 22 ?_ rfl hB10_h.out (fun W' hW' => ?_) ?_; rotate_left; · (skip; clear hW'; go_simp; first | done | with_reducible rfl)
        simp only [Act.put, nS]
        refine tkH 23 ?_ rfl hB10_h.out (fun W' hW' => ?_) ?_; rotate_left; · (skip; clear hW'; go_simp; first | done | with_reducible rfl)
        simp only [Act.put, nS]
        refine offH 24 rfl (by kernel_rfl) (by kernel_rfl) (by kernel_rfl) (fun _ _ _ h => h) hB10_h.out (by rfl) ?_
        simp only [Act.put, nS]
        refine offH 25 rfl (by kernel_rfl) (by kernel_rfl) (by kernel_rfl) (fun _ _ _ h => h) hB10_h.out (by rfl) ?_
        simp only [Act.put, nS]
        refine offH 26 rfl (by kernel_rfl) (by kernel_rfl) (by kernel_rfl) (fun _ _ _ h => h) hB10_h.out (by rfl) ?_
        simp only [Act.put, nS]
        refine offH 27 rfl (by kernel_rfl) (by kernel_rfl) (by kernel_rfl) (fun _ _ _ h => h) hB10_h.out (by rfl) ?_
        simp only [Act.put, nS]
        refine offH 29 rfl (by kernel_rfl) (by kernel_rfl) (by kernel_rfl) (fun _ _ _ h => h) hB10_h.out (by rfl) ?_
        simp only [Act.put, nS]
        refine offH 30 rfl (by kernel_rfl) (by kernel_rfl) (by kernel_rfl) (fun _ _ _ h => h) hB10_h.out (by rfl) ?_
        simp only [Act.put, nS]
        refine offOneH 28 rfl (by kernel_rfl) (by rfl) hB10_h.out ?_
        simp only [Act.put, nS]
        refine offOneH 31 rfl (by kernel_rfl) (by rfl) hB10_h.out ?_
        simp only [Act.put, nS]
        refine offH 32 rfl (by kernel_rfl) (by kernel_rfl) (by kernel_rfl) (fun _ _ _ h => h) hB10_h.out (by rfl) ?_
        simp only [Act.put, nS]
        refine tkH 33 ?_ rfl hB10_h.out (fun W' hW' => ?_) ?_; rotate_left; · (skip; clear hW'; go_simp; first | done | with_reducible rfl)
        simp only [Act.put, nS]
        refine doneH (by kernel_rfl) ?_
        go_wp2_with (fail)
        go_meet
        exact ⟨rfl, hB10_h.out⟩
       case true =>
        obtain rfl : AT = E2 := hAE_h.out.trans (Bool.true_and _)
        refine tkH 21 ?_ rfl hB10_h.out (fun W' hW' => ?_) ?_; rotate_left; · (skip; clear hW'; go_simp; first | done | with_reducible rfl)
        simp only [Act.put, nS]
        refine tkH 22 ?_ rfl hB10_h.out (fun W' hW' => ?_) ?_; rotate_left; · (skip; clear hW'; go_simp; first | done | with_reducible rfl)
        simp only [Act.put, nS]
        refine tkH 23 ?_ rfl hB10_h.out (fun W' hW' => ?_) ?_; rotate_left; · (skip; clear hW'; go_simp; first | done | with_reducible rfl)
        simp only [Act.put, nS]
        refine tkH 24 ?_ rfl hB10_h.out (fun W' hW' => ?_) ?_; rotate_left; · (have j0 := t_box_below k6r_h.out hW'; obtain ⟨⟨a0, a1, a2, a3⟩, a4, a5, a6, a7⟩ := t_box4 j0; have j1 := t_box_below k5r_h.out hW'; obtain ⟨⟨e0, e1⟩, e2, e3⟩ := t_box2 j1; have j2 := t_box_below k9_h.out hW'; obtain ⟨⟨g0, g1, g2, g3⟩, g4, g5, g6, g7⟩ := t_box4 j2; clear hW'; go_simp; first | done | with_reducible rfl)
        simp only [Act.put, nS]
        refine tkH 25 ?_ rfl hB10_h.out (fun W' hW' => ?_) ?_; rotate_left; · (have j0 := t_box_below k6r_h.out hW'; obtain ⟨⟨a0, a1, a2, a3⟩, a4, a5, a6, a7⟩ := t_box4 j0; have j1 := t_box_below k5r_h.out hW'; obtain ⟨⟨e0, e1⟩, e2, e3⟩ := t_box2 j1; have j2 := t_box_below k9_h.out hW'; obtain ⟨⟨g0, g1, g2, g3⟩, g4, g5, g6, g7⟩ := t_box4 j2; clear hW'; go_simp; first | done | with_reducible rfl)
        simp only [Act.put, nS]
        refine tkH 26 ?_ rfl hB10_h.out (fun W' hW' => ?_) ?_; rotate_left; · (have j0 := t_box_below k6r_h.out hW'; obtain ⟨⟨a0, a1, a2, a3⟩, a4, a5, a6, a7⟩ := t_box4 j0; have j1 := t_box_below k5r_h.out hW'; obtain ⟨⟨e0, e1⟩, e2, e3⟩ := t_box2 j1; have j2 := t_box_below k9_h.out hW'; obtain ⟨⟨g0, g1, g2, g3⟩, g4, g5, g6, g7⟩ := t_box4 j2; clear hW'; go_simp; first | done | with_reducible rfl)
        simp only [Act.put, nS]
        refine tkH 27 ?_ rfl hB10_h.out (fun W' hW' => ?_) ?_; rotate_left; · (have j0 := t_box_below k6r_h.out hW'; obtain ⟨⟨a0, a1, a2, a3⟩, a4, a5, a6, a7⟩ := t_box4 j0; have j1 := t_box_below k5r_h.out hW'; obtain ⟨⟨e0, e1⟩, e2, e3⟩ := t_box2 j1; have j2 := t_box_below k9_h.out hW'; obtain ⟨⟨g0, g1, g2, g3⟩, g4, g5, g6, g7⟩ := t_box4 j2; clear hW'; go_simp; first | done | with_reducible rfl)
        simp only [Act.put, nS]
        refine tkH 29 ?_ rfl hB10_h.out (fun W' hW' => ?_) ?_; rotate_left; · (have j0 := t_box_below k6r_h.out hW'; obtain ⟨⟨a0, a1, a2, a3⟩, a4, a5, a6, a7⟩ := t_box4 j0; have j1 := t_box_below k5r_h.out hW'; obtain ⟨⟨e0, e1⟩, e2, e3⟩ := t_box2 j1; have j2 := t_box_below k9_h.out hW'; obtain ⟨⟨g0, g1, g2, g3⟩, g4, g5, g6, g7⟩ := t_box4 j2; clear hW'; go_simp; first | done | with_reducible rfl)
        simp only [Act.put, nS]
        refine tkH 30 ?_ rfl hB10_h.out (fun W' hW' => ?_) ?_; rotate_left; · (have j0 := t_box_below k6r_h.out hW'; obtain ⟨⟨a0, a1, a2, a3⟩, a4, a5, a6, a7⟩ := t_box4 j0; have j1 := t_box_below k5r_h.out hW'; obtain ⟨⟨e0, e1⟩, e2, e3⟩ := t_box2 j1; have j2 := t_box_below k9_h.out hW'; obtain ⟨⟨g0, g1, g2, g3⟩, g4, g5, g6, g7⟩ := t_box4 j2; clear hW'; go_simp; first | done | with_reducible rfl)
        simp only [Act.put, nS]
        refine' callH 28 (f := _) (args := _) rfl (by kernel_rfl) (by rfl) ?_ ?_; rotate_left 2; · (go_simp; first | done | with_reducible rfl | (constructor <;> with_reducible rfl))
        refine ((hCb_h.out _ (below_trans hBc'_h.out hB10_h.out hBc'_h.out.size))).mono ?_
        rintro e w11 ⟨A3, c3', rfl, hO3⟩
        have hB11 := below_trans hB10_h.out hO3.below_ hB10_h.out.size
        have hi11 := hO3.is.rd
        clear hO3; have hB11_h := lH hB11; have hi11_h := lH hi11; clear hB11 hi11
        refine ⟨_, rfl, hB11_h.out, ?_⟩
        simp only [Act.put, nS]
        refine' callH 31 (f := _) (args := _) rfl (by kernel_rfl) (by rfl) ?_ ?_; rotate_left 2; · (go_simp; first | done | with_reducible rfl | (constructor <;> with_reducible rfl))
        refine ((hS2_h.out A3 c3' w11 hi11_h.out (below_trans hBc'_h.out hB11_h.out hBc'_h.out.size))).mono ?_
        rintro e w12 ⟨rfl, hb12⟩
        have hB12 := below_trans hB11_h.out hb12 hB11_h.out.size
        clear hb12; have hB12_h := lH hB12; clear hB12
        refine ⟨_, rfl, hB12_h.out, ?_⟩
        simp only [Act.put, nS]
        refine tkH 32 ?_ rfl hB12_h.out (fun W' hW' => ?_) ?_; rotate_left; · (skip; clear hW'; go_simp; first | done | with_reducible rfl)
        simp only [Act.put, nS]
        refine tkH 33 ?_ rfl hB12_h.out (fun W' hW' => ?_) ?_; rotate_left; · (skip; clear hW'; go_simp; first | done | with_reducible rfl)
        simp only [Act.put, nS]
        refine doneH (by kernel_rfl) ?_
        go_wp2_with (fail)
        go_meet
        exact ⟨rfl, hB12_h.out⟩
      case rest =>
       obtain ⟨rfl, hBe⟩ := hcut
       obtain ⟨w8, rfl⟩ : ∃ x, x = wc := ⟨_, rfl⟩
       have hBn := below_trans hBo'_h.out hBe (Nat.le_trans hBo'_h.out.size (Nat.le_refl _))
       have hBm := below_trans bW_h.out hBn bW_h.out.size
       clear hBe; have hBn_h := lH hBn; have hBm_h := lH hBm; clear hBn hBm
       cases AT
       case false =>
        obtain rfl : T = false := hal0_h.out rfl
        go_wp2_with (fail)
        go_ret
        exact ⟨rfl, hBm_h.out⟩
       case true =>
        have hal2 := hal1_h.out rfl
        have hal2_h := lH hal2; clear hal2
        go_wp2_with (fail)
        go_roundw
        case rel => exact ⟨k + 1, by omega, by go_num, hal2_h.out, hBn_h.out⟩
        case measure => simp [intOf]; omega
set_option maxRecDepth 100000 in
set_option maxHeartbeats 4000000 in
theorem sIsMonogamous_any {v : Value} {g : Gr} (w : World) (h : RdGr w v g) (ok : OkG g) :
  Calls Try.prog 36 #[v] w fun e w' => e = .returned (.bool (monoB g)) ∧ Below w.heap.size w w' := by
 obtain ⟨D, hD⟩ : ∃ D, D = monoB g := ⟨_, rfl⟩
 have hDD := hD
 unfold monoB at hDD
 rw [← hD]
 obtain ⟨A, n0, c, B, m0, d, C, k0', e0, rfl⟩ := h.shape
 obtain ⟨z, hz⟩ : ∃ z, z = g.1 := ⟨_, rfl⟩
 rw [← hz] at h ⊢
 obtain ⟨W, hW, bW, k0⟩ := (⟨_, rfl, t_below_alloc _ _, heap_alloc_new _ _⟩ : ∃ W, W = w.alloc (.cells #[.int .i64 z, .slice A n0 c, .slice B m0 d, .slice C k0' e0] tGr) ∧ Below w.heap.size w W ∧ W.heap[w.heap.size]? = some (.cells #[.int .i64 z, .slice A n0 c, .slice B m0 d, .slice C k0' e0] tGr))
 have hG := hgValid_any W (h.below bW) ok
 obtain ⟨T, hT⟩ : ∃ T, T = grB g := ⟨_, rfl⟩
 rw [← hT] at hG hDD
 obtain ⟨M, hM⟩ : ∃ M, M = (prmN g.1 (orgW g) && prmN g.1 (dstW g)) := ⟨_, rfl⟩
 rw [← hM] at hDD
 have hF : T = true → ∀ (W' : World), Below W.heap.size W W' → Calls Try.prog 50 #[.agg #[.int .i64 z, .slice A n0 c, .slice B m0 d, .slice C k0' e0]] W' fun e w' => e = .returned (.bool M) ∧ Below W'.heap.size W' w' := fun hh W' hb => by
  obtain ⟨n, e1, hn, _, _, _, hin⟩ := grB_parts (hT.symm.trans hh)
  have := hgMono_any W' n ((h.below bW).below hb) ok e1 (by omega) hin
  rw [← hM] at this
  exact this
 obtain ⟨⟨c0, c1, c2, c3⟩, f0, f1, f2, f3⟩ := t_box4 k0
 clear h hz hT hM ok hD; have bW_h := lH bW; have k0_h := lH k0; have hG_h := lH hG; have hF_h := lH hF; have hDD_h := lH hDD; clear bW k0 hG hF hDD
 go_enter Try.func36, Try.ntmps36
 go_upto_region 1 with (fail)
 rw [← hW]
 clear hW
 go_wp2_with (fail)
 refine (hG_h.out).mono ?_
 rintro e w1 ⟨rfl, hb1⟩
 have k1 := t_box_below k0_h.out hb1
 have hB := below_trans bW_h.out hb1 bW_h.out.size
 clear c0 c1 c2 c3 f0 f1 f2 f3
 obtain ⟨⟨c0, c1, c2, c3⟩, f0, f1, f2, f3⟩ := t_box4 k1
 cases T
 case false =>
  obtain rfl : D = false := hDD_h.out
  have hB_h := lH hB; clear hB
  go_wp2_with (fail)
  go_ret
  exact ⟨rfl, hB_h.out⟩
 case true =>
  obtain rfl : D = M := hDD_h.out.trans (Bool.true_and _)
  have hB_h := lH hB; have hb1_h := lH hb1; clear hB hb1
  go_wp2_with (fail)
  refine ((hF_h.out trivial _ hb1_h.out)).mono ?_
  rintro e w2 ⟨rfl, hb2⟩
  have hB2 := below_trans hB_h.out hb2 hB_h.out.size
  clear hb2; have hB2_h := lH hB2; clear hB2
  go_wp2_with (fail)
  go_ret
  exact ⟨rfl, hB2_h.out⟩
set_option maxRecDepth 100000 in
set_option maxHeartbeats 4000000 in
theorem mtTwo_any {v v' : Value} {g g' : Gr} (w : World) (h : RdGr w v g) (h' : RdGr w v' g') (ok : OkG g) (ok' : OkG g') :
  Calls Try.prog 17 #[v, v'] w fun e w' => e = .returned (.bool (monoB g && monoB g')) ∧ Below w.heap.size w w' := by
 obtain ⟨T1, hT1⟩ : ∃ D, D = monoB g := ⟨_, rfl⟩
 obtain ⟨T2, hT2⟩ : ∃ D, D = monoB g' := ⟨_, rfl⟩
 rw [← hT1, ← hT2]
 obtain ⟨A, n0, c, B, m0, d, C, k0', e0, rfl⟩ := h.shape
 obtain ⟨A', n0', c', B', m0', d', C', k0'', e0', rfl⟩ := h'.shape
 obtain ⟨z, hz⟩ : ∃ z, z = g.1 := ⟨_, rfl⟩
 obtain ⟨z', hz'⟩ : ∃ z, z = g'.1 := ⟨_, rfl⟩
 rw [← hz] at h ⊢
 rw [← hz'] at h' ⊢
 obtain ⟨W, hW, bW, k0, k1⟩ := allocs2 w (.cells #[.int .i64 z, .slice A n0 c, .slice B m0 d, .slice C k0' e0] tGr) (.cells #[.int .i64 z', .slice A' n0' c', .slice B' m0' d', .slice C' k0'' e0'] tGr)
 have hG := sIsMonogamous_any W (h.below bW) ok
 have hG' := fun (W' : World) (hb : Below W.heap.size W W') => sIsMonogamous_any W' ((h'.below bW).below hb) ok'
 rw [← hT1] at hG
 simp only [← hT2] at hG'
 obtain ⟨⟨c0, c1, c2, c3⟩, f0, f1, f2, f3⟩ := t_box4 k0
 clear h h' hz hz' hT1 hT2 ok ok'; have bW_h := lH bW; have k0_h := lH k0; have k1_h := lH k1; have hG_h := lH hG; have hG'_h := lH hG'; clear bW k0 k1 hG hG'
 go_enter Try.func17, Try.ntmps17
 go_upto_region 1 with (fail)
 rw [← hW]
 clear hW
 go_wp2_with (fail)
 refine (hG_h.out).mono ?_
 rintro e w1 ⟨rfl, hb1⟩
 have k2 := t_box_below k1_h.out hb1
 have hB := below_trans bW_h.out hb1 bW_h.out.size
 clear c0 c1 c2 c3 f0 f1 f2 f3
 obtain ⟨⟨c0, c1, c2, c3⟩, f0, f1, f2, f3⟩ := t_box4 k2
 cases T1
 case false =>
  have hB_h := lH hB; clear hB
  go_wp2_with (fail)
  go_ret
  exact ⟨rfl, hB_h.out⟩
 case true =>
  have hB_h := lH hB; have hb1_h := lH hb1; clear hB hb1
  go_wp2_with (fail)
  refine ((hG'_h.out _ hb1_h.out)).mono ?_
  rintro e w2 ⟨rfl, hb2⟩
  have hB2 := below_trans hB_h.out hb2 hB_h.out.size
  clear hb2; have hB2_h := lH hB2; clear hB2
  go_wp2_with (fail)
  go_ret
  exact ⟨by cases T2 <;> rfl, hB2_h.out⟩
theorem info_ints : (Try.prog.info? 23).map (fun i => (i.zero, i.size, i.bytes)) = some (some (.slice none 0 0), 1, 24) := by kernel_rfl
def rowsO (a : Hd) (hs : List EHd) (k : Nat) : List Hd := a :: (hs.take k).map fun h => h.2.2.2
def rowsI (a : Hd) (hs : List EHd) (k : Nat) : List Hd := a :: (hs.take k).map fun h => h.2.2.1
theorem rowsO_step {a : Hd} {hs : List EHd} {k : Nat} {x : EHd} (h : hs[k]? = some x) : rowsO a hs (k + 1) = rowsO a hs k ++ [x.2.2.2] := by
 unfold rowsO; rw [List.take_add_one, h]; simp
theorem rowsI_step {a : Hd} {hs : List EHd} {k : Nat} {x : EHd} (h : hs[k]? = some x) : rowsI a hs (k + 1) = rowsI a hs k ++ [x.2.2.1] := by
 unfold rowsI; rw [List.take_add_one, h]; simp
theorem outW_flat (hs : List EHd) : outW (hs.map egOf) = ((hs.map fun h => h.2.2.2).map fun h : Hd => h.2.2).flatten := by
 induction hs with
 | nil => rfl
 | cons x r ih => simp only [List.map_cons, outW, List.flatten_cons, ih]; rfl
theorem inpW_flat (hs : List EHd) : inpW (hs.map egOf) = ((hs.map fun h => h.2.2.1).map fun h : Hd => h.2.2).flatten := by
 induction hs with
 | nil => rfl
 | cons x r ih => simp only [List.map_cons, inpW, List.flatten_cons, ih]; rfl
theorem rows_rd {w : World} {A : Option Addr} {n c : Nat} {hs : List Hd} (h : Sl w 23 1 A n c (hs.map Hd.val)) (hr : ∀ x, x ∈ hs → RdI w x.1 x.2.2) : RdR w A hs :=
 ⟨fun i x hx => by
  obtain ⟨ad, hA, _, hc, _⟩ := Sl.cell h (show (hs.map Hd.val)[i]? = some x.val by rw [List.getElem?_map, hx]; rfl)
  exact ⟨ad, hA, hc⟩, hr⟩
set_option maxRecDepth 100000 in
set_option maxHeartbeats 8000000 in
theorem isMonogamous_any {v : Value} {g : Gr} (w : World) (h : RdGr w v g) (ok : OkG g) :
  Calls Try.prog 40 #[v] w fun e w' => e = .returned (.bool (monoB g)) ∧ Below w.heap.size w w' := by
 obtain ⟨D, hD⟩ : ∃ D, D = monoB g := ⟨_, rfl⟩
 have hDD := hD
 unfold monoB at hDD
 rw [← hD]
 have hG0 := h
 obtain ⟨A, c, hs, ⟨B, b, s⟩, ⟨C, d, t⟩, rfl, e1, e2, e3, hE, hRa, hRb⟩ := h
 obtain ⟨z, es, s0, t0⟩ := g
 have a1 : es = hs.map egOf := e1
 have a2 : s = s0 := e2
 have a3 : t = t0 := e3
 subst a2 a3
 obtain ⟨m, hm⟩ : ∃ m, m = hs.length := ⟨_, rfl⟩
 obtain ⟨p, hp⟩ : ∃ p, p = s.length := ⟨_, rfl⟩
 obtain ⟨r, hr⟩ : ∃ r, r = t.length := ⟨_, rfl⟩
 change RdGr w (.agg #[.int .i64 z, .slice A hs.length c, .slice B s.length b, .slice C t.length d]) (z, es, s, t) at hG0
 show Calls Try.prog _ #[.agg #[.int .i64 z, .slice A hs.length c, .slice B s.length b, .slice C t.length d]] w _
 rw [← hm, ← hp, ← hr] at hG0 ⊢
 obtain ⟨W, hW, bW, k0⟩ := (⟨_, rfl, t_below_alloc _ _, heap_alloc_new _ _⟩ : ∃ W, W = w.alloc (.cells #[.int .i64 z, .slice A m c, .slice B p b, .slice C r d] tGr) ∧ Below w.heap.size w W ∧ W.heap[w.heap.size]? = some (.cells #[.int .i64 z, .slice A m c, .slice B p b, .slice C r d] tGr))
 have hG := isGraph_any W (hG0.below bW) ok
 obtain ⟨T, hT⟩ : ∃ T, T = grB (z, es, s, t) := ⟨_, rfl⟩
 rw [← hT] at hG hDD
 have hol := out_len es
 have hOk := ok.2.2
 have hL1 : (s ++ outW es).length ≤ 16777216 := by
  have : cntE es + s.length + t.length ≤ 8388608 := hOk
  rw [List.length_append]; omega
 have hL2 : (t ++ inpW es).length ≤ 16777216 := by
  have : cntE es + s.length + t.length ≤ 8388608 := hOk
  rw [List.length_append]; omega
 have hEW := hE.below bW
 have hRaW : RdI W B s := RdI.below hRa bW
 have hRbW : RdI W C t := RdI.below hRb bW
 obtain ⟨⟨c0, c1, c2, c3⟩, f0, f1, f2, f3⟩ := t_box4 k0
 cases T
 case false =>
  obtain rfl : D = false := by rw [hDD]; rfl
  clear hDD hT hol hOk hL1 hL2; have hG_h := lH hG; have bW_h := lH bW; have k0_h := lH k0; have hD_h := lH hD; have hm_h := lH hm; have hp_h := lH hp; have hr_h := lH hr; clear hG bW k0 hD hm hp hr
  go_enter Try.func40, Try.ntmps40
  go_upto_region 1 with (fail)
  rw [← hW]
  clear hW
  go_wp2_with (fail)
  refine (hG_h.out).mono ?_
  rintro e w1 ⟨rfl, hb1⟩
  have hB := below_trans bW_h.out hb1 bW_h.out.size
  clear hb1; have hB_h := lH hB; clear hB
  go_wp2_with (fail)
  go_ret
  exact ⟨rfl, hB_h.out⟩
 case true =>
 obtain ⟨n, e1', hn1, hm60, hs12, ht12, hinW⟩ := grB_parts hT.symm
 have e1'' : z = (n : Int) := e1'
 subst e1''
 have hegB : ∀ e, e ∈ es → egB e = true := by
  have hv := hT.symm
  unfold grB at hv
  simp only [Bool.and_eq_true] at hv
  exact List.all_eq_true.1 hv.2.1
 have hm60' : m ≤ 60 := by have : es.length ≤ 60 := hm60; rw [a1, List.length_map] at this; omega
 have hsp : p ≤ 12 := by rw [hp]; exact hs12
 have htr : r ≤ 12 := by rw [hr]; exact ht12
 rw [Bool.true_and] at hDD
 have hO1 : ((rowsO (B, b, s) hs m).map fun h : Hd => h.2.2).flatten = orgW ((n : Int), es, s, t) := by
  unfold rowsO; rw [List.take_of_length_le (by omega), List.map_cons, List.flatten_cons, ← outW_flat, ← a1]; rfl
 have hI1 : ((rowsI (C, d, t) hs m).map fun h : Hd => h.2.2).flatten = dstW ((n : Int), es, s, t) := by
  unfold rowsI; rw [List.take_of_length_le (by omega), List.map_cons, List.flatten_cons, ← inpW_flat, ← a1]; rfl
 have hl1 : (rowsO (B, b, s) hs m).length = m + 1 := by unfold rowsO; simp; omega
 have hl2 : (rowsI (C, d, t) hs m).length = m + 1 := by unfold rowsI; simp; omega
 have hrd1 : ∀ W', Below W.heap.size W W' → ∀ x, x ∈ rowsO (B, b, s) hs m → RdI W' x.1 x.2.2 := fun W' hb x hx => by
  rcases List.mem_cons.1 hx with rfl | hx
  · exact hRaW.below hb
  · obtain ⟨y, hy, rfl⟩ := List.mem_map.1 hx
    exact ((hEW.below hb).2 y (List.mem_of_mem_take hy)).2
 have hrd2 : ∀ W', Below W.heap.size W W' → ∀ x, x ∈ rowsI (C, d, t) hs m → RdI W' x.1 x.2.2 := fun W' hb x hx => by
  rcases List.mem_cons.1 hx with rfl | hx
  · exact hRbW.below hb
  · obtain ⟨y, hy, rfl⟩ := List.mem_map.1 hx
    exact ((hEW.below hb).2 y (List.mem_of_mem_take hy)).1
 have hLo : (orgW ((n : Int), es, s, t)).length ≤ 1048576 ∧ (dstW ((n : Int), es, s, t)).length ≤ 1048576 := by
  have hb : ∀ l : List Eg, (∀ e, e ∈ l → egB e = true) → (outW l).length ≤ 2 * l.length ∧ (inpW l).length ≤ 2 * l.length := by
   intro l
   induction l with
   | nil => intro _; simp [outW, inpW]
   | cons e r ih =>
     intro h
     have h1 := egB_len (h e (by simp))
     have h2 := ih fun x hx => h x (by simp [hx])
     simp only [outW, inpW, List.length_append, List.length_cons]; omega
  have h2 := hb es hegB
  have h3 : es.length ≤ 60 := hm60
  have h4 : s.length ≤ 12 := hs12
  have h5 : t.length ≤ 12 := ht12
  constructor
  · show (s ++ outW es).length ≤ _
    rw [List.length_append]; omega
  · show (t ++ inpW es).length ≤ _
    rw [List.length_append]; omega
 have hU1 := fun (W' : World) (Q : Option Addr) (q : Nat) (hb : Below W.heap.size W W') (h : Sl W' 23 1 Q (m + 1) q ((rowsO (B, b, s) hs m).map Hd.val)) => occursOnce_any (n : Int) Q q (m + 1) (rowsO (B, b, s) hs m) (orgW ((n : Int), es, s, t)) W' (rows_rd h (hrd1 W' hb)) hl1 (by omega) hO1 hLo.1
 have hU2 := fun (W' : World) (Q : Option Addr) (q : Nat) (hb : Below W.heap.size W W') (h : Sl W' 23 1 Q (m + 1) q ((rowsI (C, d, t) hs m).map Hd.val)) => occursOnce_any (n : Int) Q q (m + 1) (rowsI (C, d, t) hs m) (dstW ((n : Int), es, s, t)) W' (rows_rd h (hrd2 W' hb)) hl2 (by omega) hI1 hLo.2
 obtain ⟨T1, hT1⟩ : ∃ T, T = prmN (n : Int) (orgW ((n : Int), es, s, t)) := ⟨_, rfl⟩
 obtain ⟨T2, hT2⟩ : ∃ T, T = prmN (n : Int) (dstW ((n : Int), es, s, t)) := ⟨_, rfl⟩
 simp only [← hT1] at hU1
 simp only [← hT2] at hU2
 have hDT : D = (T1 && T2) := by rw [hDD, hT1, hT2]
 have hsv : (Hd.val (B, b, s)) = .slice B p b := by unfold Hd.val; rw [hp]
 have htv : (Hd.val (C, d, t)) = .slice C r d := by unfold Hd.val; rw [hr]
 clear hDD hT hol hOk hL1 hL2 hegB hinW e1' hO1 hI1 hl1 hl2 hrd1 hrd2 hLo hT1 hT2 hD hRa hRb hE e1 e2 e3 hG0 ok hm60 hs12 ht12; have hG_h := lH hG; have bW_h := lH bW; have k0_h := lH k0; have hm_h := lH hm; have hp_h := lH hp; have hr_h := lH hr; have a1_h := lH a1; have hEW_h := lH hEW; have hRaW_h := lH hRaW; have hRbW_h := lH hRbW; have hU1_h := lH hU1; have hU2_h := lH hU2; have hDT_h := lH hDT; have hsv_h := lH hsv; have htv_h := lH htv; clear hG bW k0 hm hp hr a1 hEW hRaW hRbW hU1 hU2 hDT hsv htv
 go_enter Try.func40, Try.ntmps40
 go_upto_region 1 with (fail)
 rw [← hW]
 clear hW
 go_wp2_with (fail)
 refine (hG_h.out).mono ?_
 rintro e w1 ⟨rfl, hb1⟩
 have k1 := t_box_below k0_h.out hb1
 clear c0 c1 c2 c3 f0 f1 f2 f3; have hb1_h := lH hb1; have k1_h := lH k1; clear hb1 k1
 go_wp2_with (fail)
 go_cut [3, 4] (fun x y wx => ∃ Q1 Q2 : Nat, x = .slice (some ⟨Q1, 0, none⟩) 1 1 ∧ y = .slice (some ⟨Q2, 0, none⟩) 1 1 ∧ Sl wx 23 1 (some ⟨Q1, 0, none⟩) 1 1 [.slice B p b] ∧ Sl wx 23 1 (some ⟨Q2, 0, none⟩) 1 1 [.slice C r d] ∧ Q1 ≠ Q2 ∧ W.heap.size ≤ Q1 ∧ W.heap.size ≤ Q2 ∧ Below W.heap.size W wx)
 case first =>
  refine beginH (fun w' => w'.heap[w.heap.size]? = some (.cells #[.int .i64 (n : Int), .slice A m c, .slice B p b, .slice C r d] tGr)) (by kernel_rfl) ?_
  have hbd : Below w1.heap.size w1 w1.drew := below_drew (Below.refl _ _)
  generalize w1.drew = W4 at hbd ⊢
  have k4 := t_box_below k1_h.out hbd
  have hb4 := below_trans hb1_h.out hbd hb1_h.out.size
  have hz4 := hb4.size
  clear hbd; have k4_h := lH k4; have hb4_h := lH hb4; clear k4 hb4
  refine tkH 0 ?_ rfl k4_h.out (fun W' hW' => ?_) ?_; rotate_left; · (obtain ⟨⟨y0, y1, y2, y3⟩, y4, y5, y6, y7⟩ := t_box4 hW'; clear hW'; go_simp; first | done | with_reducible rfl)
  simp only [Act.put, nS]
  refine tkH 1 ?_ rfl k4_h.out (fun W' hW' => ?_) ?_; rotate_left; · (obtain ⟨⟨y0, y1, y2, y3⟩, y4, y5, y6, y7⟩ := t_box4 hW'; clear hW'; go_simp; first | done | with_reducible rfl)
  simp only [Act.put, nS]
  refine tkH 3 ?_ rfl k4_h.out (fun W' hW' => ?_) ?_; rotate_left; · (obtain ⟨⟨y0, y1, y2, y3⟩, y4, y5, y6, y7⟩ := t_box4 hW'; clear hW'; go_simp; first | done | with_reducible rfl)
  simp only [Act.put, nS]
  refine tkH 4 ?_ rfl k4_h.out (fun W' hW' => ?_) ?_; rotate_left; · (obtain ⟨⟨y0, y1, y2, y3⟩, y4, y5, y6, y7⟩ := t_box4 hW'; clear hW'; go_simp; first | done | with_reducible rfl)
  simp only [Act.put, nS]
  refine valOrH 2 5 (vi := .slice (some ⟨W4.heap.size, 0, none⟩) 1 1) (wi := W4.alloc (.cells #[.slice B p b] 23)) (vj := .slice (some ⟨W4.heap.size, 0, none⟩) 1 1) (wj := W4.alloc (.cells #[.slice C r d] 23)) rfl rfl (by kernel_rfl) (by rfl) (by rfl) ?hr1 ?hr2 ?hS1 ?h1 ?hS2 ?h2
  case hr1 => (go_simp; first | done | with_reducible rfl | (constructor <;> with_reducible rfl))
  case hr2 => (go_simp; first | done | with_reducible rfl | (constructor <;> with_reducible rfl))
  case hS1 => exact t_box_below k4_h.out (t_below_alloc _ _)
  case hS2 => exact t_box_below k4_h.out (t_below_alloc _ _)
  case h1 =>
   have hs1 : Sl (W4.alloc (.cells #[.slice B p b] 23)) 23 1 (some ⟨W4.heap.size, 0, none⟩) 1 1 [.slice B p b] := Sl.laid W4 23 1 1 #[.slice B p b] (by unfold maxLen; omega) rfl
   have bA := t_below_alloc W4 (.cells #[.slice B p b] 23)
   have hzA : (W4.alloc (.cells #[.slice B p b] 23)).heap.size = W4.heap.size + 1 := World.size_alloc _ _
   have kA := t_box_below k4_h.out bA
   have hbA := below_trans hb4_h.out bA hb4_h.out.size
   generalize W4.alloc (.cells #[.slice B p b] 23) = W5 at hs1 bA hzA kA hbA ⊢
   have bB := t_below_alloc W5 (.cells #[.slice C r d] 23)
   have kB := t_box_below kA bB
   have hs1' := hs1.below bB
   have hs2 : Sl (W5.alloc (.cells #[.slice C r d] 23)) 23 1 (some ⟨W5.heap.size, 0, none⟩) 1 1 [.slice C r d] := Sl.laid W5 23 1 1 #[.slice C r d] (by unfold maxLen; omega) rfl
   have hbB := below_trans hbA bB hbA.size
   clear hs1 bA bB hbA; have kA_h := lH kA; have kB_h := lH kB; have hs1'_h := lH hs1'; have hs2_h := lH hs2; have hbB_h := lH hbB; have hzA_h := lH hzA; clear kA kB hs1' hs2 hbB hzA
   simp only [Act.put, nS]
   refine tkH 6 ?_ rfl kA_h.out (fun W' hW' => ?_) ?_; rotate_left; · (skip; clear hW'; go_simp; first | done | with_reducible rfl)
   simp only [Act.put, nS]
   refine oneH 5 rfl (by kernel_rfl) (by rfl) (fun K hK => ?_)
   go_simp
   refine hK _ _ kB_h.out ?_
   clear hK K
   refine tkH 7 ?_ rfl kB_h.out (fun W' hW' => ?_) ?_; rotate_left; · (skip; clear hW'; go_simp; first | done | with_reducible rfl)
   simp only [Act.put, nS]
   refine doneH (by kernel_rfl) ?_
   go_wp2_with (fail)
   go_meet
   exact ⟨W4.heap.size, W5.heap.size, rfl, rfl, hs1'_h.out, hs2_h.out, by have := hzA_h.out; omega, hz4, by have := hzA_h.out; omega, hbB_h.out⟩
  case h2 =>
   have hs1 : Sl (W4.alloc (.cells #[.slice C r d] 23)) 23 1 (some ⟨W4.heap.size, 0, none⟩) 1 1 [.slice C r d] := Sl.laid W4 23 1 1 #[.slice C r d] (by unfold maxLen; omega) rfl
   have bA := t_below_alloc W4 (.cells #[.slice C r d] 23)
   have hzA : (W4.alloc (.cells #[.slice C r d] 23)).heap.size = W4.heap.size + 1 := World.size_alloc _ _
   have kA := t_box_below k4_h.out bA
   have hbA := below_trans hb4_h.out bA hb4_h.out.size
   generalize W4.alloc (.cells #[.slice C r d] 23) = W5 at hs1 bA hzA kA hbA ⊢
   have bB := t_below_alloc W5 (.cells #[.slice B p b] 23)
   have kB := t_box_below kA bB
   have hs1' := hs1.below bB
   have hs2 : Sl (W5.alloc (.cells #[.slice B p b] 23)) 23 1 (some ⟨W5.heap.size, 0, none⟩) 1 1 [.slice B p b] := Sl.laid W5 23 1 1 #[.slice B p b] (by unfold maxLen; omega) rfl
   have hbB := below_trans hbA bB hbA.size
   clear hs1 bA bB hbA; have kA_h := lH kA; have kB_h := lH kB; have hs1'_h := lH hs1'; have hs2_h := lH hs2; have hbB_h := lH hbB; have hzA_h := lH hzA; clear kA kB hs1' hs2 hbB hzA
   simp only [Act.put, nS]
   refine oneH 2 rfl (by kernel_rfl) (by rfl) (fun K hK => ?_)
   go_simp
   refine hK _ _ kB_h.out ?_
   clear hK K
   refine tkH 6 ?_ rfl kB_h.out (fun W' hW' => ?_) ?_; rotate_left; · (skip; clear hW'; go_simp; first | done | with_reducible rfl)
   simp only [Act.put, nS]
   refine tkH 7 ?_ rfl kB_h.out (fun W' hW' => ?_) ?_; rotate_left; · (skip; clear hW'; go_simp; first | done | with_reducible rfl)
   simp only [Act.put, nS]
   refine doneH (by kernel_rfl) ?_
   go_wp2_with (fail)
   go_meet
   exact ⟨W5.heap.size, W4.heap.size, rfl, rfl, hs2_h.out, hs1'_h.out, by have := hzA_h.out; omega, by have := hzA_h.out; omega, hz4, hbB_h.out⟩
 case rest =>
 obtain ⟨Q1, Q2, rfl, rfl, hs1, hs2, hne, hq1, hq2, hWc⟩ := hcut
 obtain ⟨w2, rfl⟩ : ∃ x, x = wc := ⟨_, rfl⟩
 have k2 := t_box_below k0_h.out hWc
 obtain ⟨⟨c0, c1, c2, c3⟩, f0, f1, f2, f3⟩ := t_box4 k2
 have hs1' : Sl w2 23 1 (some ⟨Q1, 0, none⟩) (0 + 1) 1 ((rowsO (B, b, s) hs 0).map Hd.val) := by unfold rowsO; simp only [List.take_zero, List.map_nil, List.map_cons]; rw [hsv_h.out]; exact hs1
 have hs2' : Sl w2 23 1 (some ⟨Q2, 0, none⟩) (0 + 1) 1 ((rowsI (C, d, t) hs 0).map Hd.val) := by unfold rowsI; simp only [List.take_zero, List.map_nil, List.map_cons]; rw [htv_h.out]; exact hs2
 have hap : ∀ x, x ∈ fpA (some (⟨Q1, 0, none⟩ : Addr)) → ¬ x ∈ fpA (some (⟨Q2, 0, none⟩ : Addr)) := fun x hx hx' => by simp at hx hx'; omega
 have hf1 : Fresh W.heap.size (some (⟨Q1, 0, none⟩ : Addr)) := fun x hx => by simp at hx; omega
 have hf2 : Fresh W.heap.size (some (⟨Q2, 0, none⟩ : Addr)) := fun x hx => by simp at hx; omega
 clear hs1 hs2 k2 hne hq1 hq2; have hs1'_h := lH hs1'; have hs2'_h := lH hs2'; have hap_h := lH hap; have hf1_h := lH hf1; have hf2_h := lH hf2; have hWc_h := lH hWc; clear hs1' hs2' hap hf1 hf2 hWc
 go_wp2_with (fail)
 clear c0 c1 c2 c3 f0 f1 f2 f3
 go_loopw [19, 3, 4] (fun i x y wr => ∃ (k c1 c2 : Nat) (A1 A2 : Option Addr), k ≤ m ∧ i = .int .i64 k ∧ x = .slice A1 (k + 1) c1 ∧ y = .slice A2 (k + 1) c2 ∧ Sl wr 23 1 A1 (k + 1) c1 ((rowsO (B, b, s) hs k).map Hd.val) ∧ Sl wr 23 1 A2 (k + 1) c2 ((rowsI (C, d, t) hs k).map Hd.val) ∧ (∀ x, x ∈ fpA A1 → ¬ x ∈ fpA A2) ∧ Fresh W.heap.size A1 ∧ Fresh W.heap.size A2 ∧ Below W.heap.size W wr) (fun i _ _ _ => m - (intOf i).toNat)
 case atStart => exact ⟨0, 1, 1, _, _, Nat.zero_le _, rfl, rfl, rfl, hs1'_h.out, hs2'_h.out, hap_h.out, hf1_h.out, hf2_h.out, hWc_h.out⟩
 case round =>
  clear hs1'_h hs2'_h hap_h hf1_h hf2_h hWc_h
  obtain ⟨k, e1, e2, A1, A2, hk, rfl, rfl, rfl, hS1, hS2, hap, hf1, hf2, hB1⟩ := hrel
  obtain ⟨wo, rfl⟩ : ∃ x, x = wr := ⟨_, rfl⟩
  have kr := t_box_below k0_h.out hB1
  by_cases hlt : k < m
  · obtain ⟨ad, κ, vv, B1, b1, s1, C1, b2, t1, rfl, hn, ⟨d0, d1, d2, d3⟩, -, -⟩ := (hEW_h.out.below hB1).at_ (j := k) (by rw [← hm_h.out]; exact hlt)
    have hst1 := rowsO_step (a := (B, b, s)) hn
    have hst2 := rowsI_step (a := (C, d, t)) hn
    simp only at hst1 hst2
    obtain ⟨p1, hp1⟩ : ∃ p1, p1 = s1.length := ⟨_, rfl⟩
    obtain ⟨r1, hr1'⟩ : ∃ r1, r1 = t1.length := ⟨_, rfl⟩
    rw [← hp1] at d2
    rw [← hr1'] at d3
    obtain ⟨W6, hW6, bW6, k6⟩ := (⟨_, rfl, t_below_alloc _ _, heap_alloc_new _ _⟩ : ∃ W, W = wo.alloc (.cells #[.int .i64 κ, .int .i64 vv, .slice B1 p1 b1, .slice C1 r1 b2] tEd) ∧ Below wo.heap.size wo W ∧ W.heap[wo.heap.size]? = some (.cells #[.int .i64 κ, .int .i64 vv, .slice B1 p1 b1, .slice C1 r1 b2] tEd))
    obtain ⟨⟨y0, y1, y2, y3⟩, g0, g1, g2, g3⟩ := t_box4 k6
    have hS1' := (hS1.below bW6).alloc (.cells #[.slice C1 r1 b2] 23)
    have hlt1 := hS1.lt
    have hlt2 := hS2.lt
    have hz6 := bW6.size
    have hz0 := hB1.size
    have hS26 := hS2.below bW6
    have hB6 := below_trans hB1 bW6 hB1.size
    have hr1_h := lH hr1'
    have hkI : (k : Int) < (m : Int) := by omega
    clear hr1' hn kr hS1 hS2 hB1; have hp1_h := lH hp1; have k6_h := lH k6; have hst1_h := lH hst1; have hst2_h := lH hst2; have hS1'_h := lH hS1'; have hS26_h := lH hS26; have hap_h := lH hap; have hf1_h := lH hf1; have hf2_h := lH hf2; have hB6_h := lH hB6; have hlt1_h := lH hlt1; have hlt2_h := lH hlt2; have bW6_h := lH bW6; clear hp1 k6 hst1 hst2 hS1' hS26 hap hf1 hf2 hB6 hlt1 hlt2 bW6
    go_upto_region 7 with (fail)
    rw [← hW6]
    clear hW6 d0 d1 d2 d3
    go_upto_region 8 with (at_builtin; refine wpList_append_Sl _ rfl _ _ _ rfl 23 Try.underlying71 info_ints rfl (by omega) rfl (hS1'_h.out) rfl (news := [.slice C1 r1 b2]) rfl (Sl.rdc (Sl.laid W6 23 1 1 #[.slice C1 r1 b2] (by unfold maxLen; omega) rfl)) (by intro u hu; simp at hu; subst hu; rfl) (by unfold maxLen; omega) (by omega) ?_; intro A3 c3 w3 hsA3 hA3 hkA3)
    have bal := t_below_alloc W6 (.cells #[.slice C1 r1 b2] 23)
    have hza : (W6.alloc (.cells #[.slice C1 r1 b2] 23)).heap.size = W6.heap.size + 1 := World.size_alloc _ _
    have hf1' := hf1_h.out
    have hf2' := hf2_h.out
    have hl1' := hlt1_h.out
    have hl2' := hlt2_h.out
    have hap' := hap_h.out
    have hS2a := (hS26_h.out.alloc (.cells #[.slice C1 r1 b2] 23)).keeps hkA3 (fun x hx e => hap' x e hx)
    have k6' := t_box_keeps (t_box_below k6_h.out bal) hkA3 (fun e => by have := hl1' _ e; omega)
    have hB7 := below_keeps (below_trans hB6_h.out bal hB6_h.out.size) hkA3 (Nat.le_trans hB6_h.out.size bal.size) hf1'
    have hsz3 := hkA3.size
    have hap3 : ∀ x, x ∈ fpA A3 → ¬ x ∈ fpA A2 := fun x hx hx' => by
     rcases hA3 x hx with h | h
     · exact hap' x h hx'
     · have := hl2' x hx'; omega
    have hf3 : Fresh W.heap.size A3 := fun x hx => by
     rcases hA3 x hx with h | h
     · exact hf1' x h
     · omega
    have hl3 := hsA3.lt
    have hl2b := hS2a.lt
    have hS2b := hS2a.alloc (.cells #[.slice B1 p1 b1] 23)
    clear y0 y1 y2 y3 g0 g1 g2 g3 hA3 hkA3 bal hf1' hl1' hl2' hap'
    obtain ⟨⟨y0, y1, y2, y3⟩, g0, g1, g2, g3⟩ := t_box4 k6'
    clear k6' hS2a hf2'; have hsA3_h := lH hsA3; have hS2b_h := lH hS2b; have hB7_h := lH hB7; have hap3_h := lH hap3; have hf3_h := lH hf3; have hl3_h := lH hl3; have hl2b_h := lH hl2b; clear hsA3 hS2b hB7 hap3 hf3 hl3 hl2b
    go_wp2_with (at_builtin; refine wpList_append_Sl _ rfl _ _ _ rfl 23 Try.underlying71 info_ints rfl (by omega) rfl (hS2b_h.out) rfl (news := [.slice B1 p1 b1]) rfl (Sl.rdc (Sl.laid w3 23 1 1 #[.slice B1 p1 b1] (by unfold maxLen; omega) rfl)) (by intro u hu; simp at hu; subst hu; rfl) (by unfold maxLen; omega) (by omega) ?_; intro A4 c4 w4 hsA4 hA4 hkA4)
    have bal := t_below_alloc w3 (.cells #[.slice B1 p1 b1] 23)
    have hzb : (w3.alloc (.cells #[.slice B1 p1 b1] 23)).heap.size = w3.heap.size + 1 := World.size_alloc _ _
    have hap3' := hap3_h.out
    have hl3' := hl3_h.out
    have hf2' := hf2_h.out
    have hS1c := (hsA3_h.out.alloc (.cells #[.slice B1 p1 b1] 23)).keeps hkA4 (fun x hx e => hap3' x hx e)
    have hB8 := below_keeps (below_trans hB7_h.out bal hB7_h.out.size) hkA4 (Nat.le_trans hB7_h.out.size bal.size) hf2'
    have hsz7 := hB7_h.out.size
    have hap4 : ∀ x, x ∈ fpA A3 → ¬ x ∈ fpA A4 := fun x hx hx' => by
     rcases hA4 x hx' with h | h
     · exact hap3' x hx h
     · have := hl3' x hx; omega
    have hf4 : Fresh W.heap.size A4 := fun x hx => by
     rcases hA4 x hx with h | h
     · exact hf2' x h
     · omega
    have hS1d : Sl w4 23 1 A3 (k + 1 + 1) c3 ((rowsO (B, b, s) hs (k + 1)).map Hd.val) := by
     rw [hst1_h.out, List.map_append]
     show Sl w4 _ 1 A3 (k + 1 + 1) c3 (_ ++ [.slice C1 t1.length b2])
     rw [← hr1_h.out]; exact hS1c
    have hS2d : Sl w4 23 1 A4 (k + 1 + 1) c4 ((rowsI (C, d, t) hs (k + 1)).map Hd.val) := by
     rw [hst2_h.out, List.map_append]
     show Sl w4 _ 1 A4 (k + 1 + 1) c4 (_ ++ [.slice B1 s1.length b1])
     rw [← hp1_h.out]; exact hsA4
    clear y0 y1 y2 y3 g0 g1 g2 g3 hA4 hkA4 bal hap3' hl3' hf2' hS1c hsA4; have hS1d_h := lH hS1d; have hS2d_h := lH hS2d; have hB8_h := lH hB8; have hap4_h := lH hap4; have hf4_h := lH hf4; clear hS1d hS2d hB8 hap4 hf4
    go_wp2_with (fail)
    go_roundw
    case rel => exact ⟨k + 1, c3, c4, A3, A4, by omega, by go_num, rfl, rfl, hS1d_h.out, hS2d_h.out, hap4_h.out, hf3_h.out, hf4_h.out, hB8_h.out⟩
    case measure => simp [intOf]; omega
  · obtain rfl : m = k := by omega
    have hV1 := hU1_h.out wo A1 e1 hB1 hS1
    obtain ⟨⟨y0, y1, y2, y3⟩, g0, g1, g2, g3⟩ := t_box4 kr
    clear hap hf1 hf2 kr hS1; have hV1_h := lH hV1; have hB1_h := lH hB1; have hS2_h := lH hS2; clear hV1 hB1 hS2
    go_wp2_with (fail)
    refine (hV1_h.out).mono ?_
    rintro e w3 ⟨rfl, hb3⟩
    have hB3 := below_trans hB1_h.out hb3 hB1_h.out.size
    have hS23 := hS2_h.out.below hb3
    have kr3 := t_box_below k0_h.out hB3
    have hBz := below_trans bW_h.out hB3 bW_h.out.size
    clear y0 y1 y2 y3 g0 g1 g2 g3 hb3
    cases T1
    case false =>
     obtain rfl : D = false := hDT_h.out
     clear hS23 kr3 hB3; have hBz_h := lH hBz; clear hBz
     go_wp2_with (fail)
     go_ret
     exact ⟨rfl, hBz_h.out⟩
    case true =>
     obtain rfl : D = T2 := hDT_h.out.trans (Bool.true_and _)
     have hV2 := hU2_h.out w3 A2 e2 hB3 hS23
     obtain ⟨⟨y0, y1, y2, y3⟩, g0, g1, g2, g3⟩ := t_box4 kr3
     clear hS23 kr3 hB3; have hBz_h := lH hBz; have hV2_h := lH hV2; clear hBz hV2
     go_wp2_with (fail)
     refine (hV2_h.out).mono ?_
     rintro e w4 ⟨rfl, hb4⟩
     have hBy := below_trans hBz_h.out hb4 hBz_h.out.size
     clear hb4 y0 y1 y2 y3 g0 g1 g2 g3; have hBy_h := lH hBy; clear hBy
     go_wp2_with (fail)
     go_ret
     exact ⟨rfl, hBy_h.out⟩
set_option maxRecDepth 100000 in
set_option maxHeartbeats 4000000 in
theorem areMonogamous_any {g g' : Gr} (w : World) (qb : Nat) (z z' : Int) (A : Option Addr) (n0 c : Nat) (B : Option Addr) (m0 d : Nat) (C : Option Addr) (k0' e0 : Nat) (A' : Option Addr) (n0' c' : Nat) (B' : Option Addr) (m0' d' : Nat) (C' : Option Addr) (k0'' e0' : Nat)
  (h : RdGr w (.agg #[.int .i64 z, .slice A n0 c, .slice B m0 d, .slice C k0' e0]) g) (h' : RdGr w (.agg #[.int .i64 z', .slice A' n0' c', .slice B' m0' d', .slice C' k0'' e0']) g') (ok : OkG g) (ok' : OkG g')
  (hq : w.heap[qb]? = some (.cells #[.int .i64 z, .slice A n0 c, .slice B m0 d, .slice C k0' e0, .int .i64 z', .slice A' n0' c', .slice B' m0' d', .slice C' k0'' e0'] tGr)) :
  Calls Try.prog 24 #[.slice (some ⟨qb, 0, none⟩) 2 2] w fun e w' => e = .returned (.bool (monoB g && monoB g')) ∧ Below w.heap.size w w' := by
 obtain ⟨T1, hT1⟩ : ∃ D, D = monoB g := ⟨_, rfl⟩
 obtain ⟨T2, hT2⟩ : ∃ D, D = monoB g' := ⟨_, rfl⟩
 rw [← hT1, ← hT2]
 have hG := fun (W' : World) (hb : Below w.heap.size w W') => isMonogamous_any W' (h.below hb) ok
 have hG' := fun (W' : World) (hb : Below w.heap.size w W') => isMonogamous_any W' (h'.below hb) ok'
 simp only [← hT1] at hG
 simp only [← hT2] at hG'
 clear h h' hT1 hT2 ok ok'; have hG_h := lH hG; have hG'_h := lH hG'; have hq_h := lH hq; clear hG hG' hq
 go_enter Try.func24, Try.ntmps24
 go_wp2_with (fail)
 go_loopw [7] (fun i wr => ∃ k : Nat, k ≤ 2 ∧ i = .int .i64 k ∧ (1 ≤ k → T1 = true) ∧ (2 ≤ k → T2 = true) ∧ Below w.heap.size w wr) (fun i _ => 2 - (intOf i).toNat)
 case atStart => exact ⟨0, by omega, rfl, fun h => by omega, fun h => by omega, Below.refl _ _⟩
 case round =>
  obtain ⟨k, hk, rfl, ht1, ht2, hB⟩ := hrel
  obtain ⟨wo, rfl⟩ : ∃ x, x = wr := ⟨_, rfl⟩
  have kr := t_box_below hq_h.out hB
  have hcl : ∀ (i : Nat) (u : Value), (#[.int .i64 z, .slice A n0 c, .slice B m0 d, .slice C k0' e0, .int .i64 z', .slice A' n0' c', .slice B' m0' d', .slice C' k0'' e0'] : Array Value)[i]? = some u → wo.cell? ⟨qb, i, none⟩ = some u := fun i u hu => by
   simp only [World.cell?, kr]; exact hu
  rcases (by omega : k = 0 ∨ k = 1 ∨ k = 2) with rfl | rfl | rfl
  · have d0 := hcl 0 _ rfl
    have d1 := hcl 1 _ rfl
    have d2 := hcl 2 _ rfl
    have d3 := hcl 3 _ rfl
    obtain ⟨W6, hW6, bW6, k6⟩ := (⟨_, rfl, t_below_alloc _ _, heap_alloc_new _ _⟩ : ∃ W, W = wo.alloc (.cells #[.int .i64 z, .slice A n0 c, .slice B m0 d, .slice C k0' e0] tGr) ∧ Below wo.heap.size wo W ∧ W.heap[wo.heap.size]? = some (.cells #[.int .i64 z, .slice A n0 c, .slice B m0 d, .slice C k0' e0] tGr))
    have hB6 := below_trans hB bW6 hB.size
    have hGW := hG_h.out W6 hB6
    obtain ⟨⟨y0, y1, y2, y3⟩, g0, g1, g2, g3⟩ := t_box4 k6
    clear ht1 ht2 hcl kr bW6 k6 hB; have hB6_h := lH hB6; have hGW_h := lH hGW; clear hB6 hGW
    go_upto_region 4 with (fail)
    rw [← hW6]
    clear hW6
    go_wp2_with (fail)
    refine (hGW_h.out).mono ?_
    rintro e w7 ⟨rfl, hb7⟩
    have hB7 := below_trans hB6_h.out hb7 hB6_h.out.size
    clear hb7
    cases T1
    case false =>
     have hB7_h := lH hB7; clear hB7
     go_wp2_with (fail)
     go_ret
     exact ⟨rfl, hB7_h.out⟩
    case true =>
     have hB7_h := lH hB7; clear hB7
     go_wp2_with (fail)
     go_roundw
     case rel => exact ⟨1, by omega, by go_num, fun _ => trivial, fun h => by omega, hB7_h.out⟩
     case measure => simp [intOf]
  · have d0 := hcl 4 _ rfl
    have d1 := hcl 5 _ rfl
    have d2 := hcl 6 _ rfl
    have d3 := hcl 7 _ rfl
    have ht := ht1 (by omega)
    subst ht
    obtain ⟨W6, hW6, bW6, k6⟩ := (⟨_, rfl, t_below_alloc _ _, heap_alloc_new _ _⟩ : ∃ W, W = wo.alloc (.cells #[.int .i64 z', .slice A' n0' c', .slice B' m0' d', .slice C' k0'' e0'] tGr) ∧ Below wo.heap.size wo W ∧ W.heap[wo.heap.size]? = some (.cells #[.int .i64 z', .slice A' n0' c', .slice B' m0' d', .slice C' k0'' e0'] tGr))
    have hB6 := below_trans hB bW6 hB.size
    have hGW := hG'_h.out W6 hB6
    obtain ⟨⟨y0, y1, y2, y3⟩, g0, g1, g2, g3⟩ := t_box4 k6
    clear ht1 ht2 hcl kr bW6 k6 hB; have hB6_h := lH hB6; have hGW_h := lH hGW; clear hB6 hGW
    go_upto_region 4 with (fail)
    rw [← hW6]
    clear hW6
    go_wp2_with (fail)
    refine (hGW_h.out).mono ?_
    rintro e w7 ⟨rfl, hb7⟩
    have hB7 := below_trans hB6_h.out hb7 hB6_h.out.size
    clear hb7
    cases T2
    case false =>
     have hB7_h := lH hB7; clear hB7
     go_wp2_with (fail)
     go_ret
     exact ⟨rfl, hB7_h.out⟩
    case true =>
     have hB7_h := lH hB7; clear hB7
     go_wp2_with (fail)
     go_roundw
     case rel => exact ⟨2, by omega, by go_num, fun _ => trivial, fun _ => trivial, hB7_h.out⟩
     case measure => simp [intOf]
  · have e1 := ht1 (by omega)
    have e2 := ht2 (by omega)
    subst e1 e2
    clear ht1 ht2 hcl kr; have hB_h := lH hB; clear hB
    go_wp2_with (fail)
    go_ret
    exact ⟨rfl, hB_h.out⟩
theorem monoB_gr {g : Gr} (h : monoB g = true) : grB g = true := by unfold monoB at h; rw [Bool.and_eq_true] at h; exact h.1
def idxN : List Int → Int → Nat
 | [], _ => 0
 | y :: r, x => if y = x then 0 else idxN r x + 1
def idxI (l : List Int) (x : Int) : Int := if l.contains x then (idxN l x : Int) else -1
theorem idxN_at : ∀ {l : List Int} {x : Int} {k : Nat}, l[k]? = some x → (l.take k).contains x = false → idxN l x = k
 | [], x, k, h, _ => by simp at h
 | y :: r, x, 0, h, _ => by
   obtain rfl : y = x := by simpa using h
   simp [idxN]
 | y :: r, x, k + 1, h, hn => by
   have h1 : ¬ y = x := fun e => by
    rw [List.take_succ_cons, Bool.eq_false_iff, ne_eq, List.contains_iff_mem] at hn
    exact hn (by simp [e])
   have hn2 : (r.take k).contains x = false := by
    rw [List.take_succ_cons, Bool.eq_false_iff, ne_eq, List.contains_iff_mem] at hn
    rw [Bool.eq_false_iff, ne_eq, List.contains_iff_mem]
    exact fun hh => hn (List.mem_cons_of_mem _ hh)
   have h2 : r[k]? = some x := by simpa using h
   rw [idxN, if_neg h1, idxN_at h2 hn2]
theorem idxI_at {l : List Int} {x : Int} {k : Nat} (h : l[k]? = some x) (hn : (l.take k).contains x = false) : idxI l x = (k : Int) := by
 unfold idxI
 rw [if_pos (by rw [List.contains_iff_mem]; exact List.mem_of_getElem? h), idxN_at h hn]
theorem idxI_no {l : List Int} {x : Int} (h : l.contains x = false) : idxI l x = -1 := by unfold idxI; rw [h]; rfl
theorem take_snoc_not {l : List Int} {k : Nat} {x y : Int} (hy : l[k]? = some y) (hn : (l.take k).contains x = false) (hyx : ¬ y = x) : (l.take (k + 1)).contains x = false := by
 rw [List.take_add_one, hy, Bool.eq_false_iff, ne_eq, List.contains_iff_mem]
 rw [Bool.eq_false_iff, ne_eq, List.contains_iff_mem] at hn
 intro hh
 rcases List.mem_append.1 hh with hh | hh
 · exact hn hh
 · simp at hh; exact hyx hh.symm
set_option maxHeartbeats 2000000 in
theorem index_any (A : Option Addr) (c m : Nat) (l : List Int) (x : Int) (w : World) (h : RdI w A l) (hm : l.length = m) (hl : m ≤ 1048576) :
  Calls Try.prog 44 #[.slice A m c, .int .i64 x] w fun e w' => e = .returned (.int .i64 (idxI l x)) ∧ w' = w := by
 obtain ⟨T, hT⟩ : ∃ T, T = idxI l x := ⟨_, rfl⟩
 rw [← hT]
 have hT_h := lH hT; have hm_h := lH hm; clear hT hm
 go_enter Try.func44, Try.ntmps44
 go_wp2_with (fail)
 go_loopw [8] (fun i wr => ∃ k : Nat, k ≤ m ∧ i = .int .i64 k ∧ (l.take k).contains x = false ∧ wr = w) (fun i _ => m - (intOf i).toNat)
 case atStart => exact ⟨0, Nat.zero_le _, rfl, by simp, rfl⟩
 case round =>
  obtain ⟨k, hk, rfl, hno, rfl⟩ := hrel
  by_cases hlt : k < m
  · obtain ⟨ad, y, rfl, hy, hc⟩ := h.at_ (j := k) (by rw [hm_h.out]; exact hlt)
    have hkI : (k : Int) < (m : Int) := by omega
    by_cases hyx : y = x
    · subst hyx
      have hbq : (y == y) = true := by simp
      have ht : T = (k : Int) := by rw [hT_h.out]; exact idxI_at hy hno
      have hy_h := lH hy; have hno_h := lH hno; have ht_h := lH ht; clear hy hno ht
      go_wp2_with (fail)
      go_ret
      exact ⟨by rw [ht_h.out]; rfl, rfl⟩
    · have hbq : (x == y) = false := by rw [beq_eq_false_iff_ne]; exact fun e => hyx e.symm
      have hno2 := take_snoc_not hy hno hyx
      have hy_h := lH hy; have hno_h := lH hno; have hno2_h := lH hno2; clear hy hno hno2
      go_wp2_with (fail)
      go_roundw
      case rel => exact ⟨k + 1, by omega, by go_num, hno2_h.out, trivial⟩
      case measure => simp [intOf]; omega
  · obtain rfl : m = k := by omega
    rw [List.take_of_length_le (by rw [hm_h.out]; exact Nat.le_refl _)] at hno
    have ht : T = -1 := by rw [hT_h.out]; exact idxI_no hno
    have hno_h := lH hno; have ht_h := lH ht; clear hno ht
    go_wp2_with (fail)
    go_ret
    exact ⟨by rw [ht_h.out]; rfl, rfl⟩
theorem fr1 (k : Nat) : Fresh k (some ⟨k, 0, none⟩) := fun b hb => by
 have : b = k := by simpa using hb
 omega
def plcI (tg l : List Int) : List Int := l.map fun x => idxI tg x
theorem plcI_len (tg l : List Int) : (plcI tg l).length = l.length := by simp [plcI]
theorem plcI_step {tg l : List Int} {k : Nat} {x : Int} (h : l[k]? = some x) : plcI tg (l.take (k + 1)) = plcI tg (l.take k) ++ [idxI tg x] := by
 rw [List.take_add_one, h]; simp [plcI]
set_option maxRecDepth 100000 in
set_option maxHeartbeats 2000000 in
theorem placesIn_any (A B : Option Addr) (a b p q : Nat) (l tg : List Int) (w : World) (hl : RdI w A l) (ht : RdI w B tg) (hp : l.length = p) (hq : tg.length = q) (hpb : p ≤ 1048576) (hqb : q ≤ 1048576) :
  Calls Try.prog 26 #[.slice A p a, .slice B q b] w fun e w' => ∃ A' c', e = .returned (.slice A' p c') ∧ OIg w w' A' c' (plcI tg l) := by
 have hi := fun (W : World) (x : Int) (hb : Below w.heap.size w W) => index_any B b q tg x W (ht.below hb) hq hqb
 obtain ⟨W0, hW0, b0, s0⟩ : ∃ W, W = w.alloc (.cells #[] tInt) ∧ Below w.heap.size w W ∧ Sl W tInt 1 (some ⟨w.heap.size, 0, none⟩) 0 0 [] := ⟨_, rfl, t_below_alloc _ _, Sl.laid w tInt 1 0 #[] (Nat.zero_le _) rfl⟩
 have hO0 : OIg w W0 (some ⟨w.heap.size, 0, none⟩) 0 (plcI tg []) := ⟨s0, fr1 w.heap.size, b0⟩
 clear ht; have hp_h := lH hp; have hl_h := lH hl; have hi_h := lH hi; have hO0_h := lH hO0; clear hp hl hi hO0
 go_enter Try.func26, Try.ntmps26
 go_upto_region 2 with (fail)
 rw [← hW0]
 clear hW0
 go_wp2_with (fail)
 go_loopw [11, 5] (fun i v' wr => ∃ (k : Nat) (A' : Option Addr) (c' : Nat), k ≤ p ∧ i = .int .i64 k ∧ v' = .slice A' k c' ∧ OIg w wr A' c' (plcI tg (l.take k))) (fun i _ _ => p - (intOf i).toNat)
 case atStart => exact ⟨0, _, 0, Nat.zero_le _, rfl, rfl, by simpa using hO0_h.out⟩
 case round =>
  clear hO0_h
  obtain ⟨k, A', c', hk, rfl, rfl, hO⟩ := hrel
  obtain ⟨wo, rfl⟩ : ∃ x, x = wr := ⟨_, rfl⟩
  by_cases hlt : k < p
  · obtain ⟨xd, x, rfl, hx, hxc⟩ := (hl_h.out.below hO.below_).at_ (j := k) (by rw [hp_h.out]; exact hlt)
    have hml : (plcI tg (l.take k)).length = k := by rw [plcI_len, List.length_take, hp_h.out]; omega
    have hst := plcI_step (tg := tg) hx
    obtain ⟨y, hy⟩ : ∃ y, idxI tg x = y := ⟨_, rfl⟩
    have hix := hi_h.out wo x hO.below_
    rw [hy] at hst hix
    have hsl := oig_alloc hO hml (.cells #[.int .i64 y] 3)
    have hkI : (k : Int) < (p : Int) := by omega
    clear hx hy; have hml_h := lH hml; have hst_h := lH hst; have hsl_h := lH hsl; have hO_h := lH hO; have hix_h := lH hix; clear hml hst hsl hO hix
    go_wp2_with (fail)
    refine (hix_h.out).mono ?_
    rintro e w1 ⟨rfl, rfl⟩
    go_wp2_with (at_builtin; refine wpList_append_Sl _ rfl _ _ _ rfl 3 Try.underlying23 info_int rfl (by omega) rfl hsl_h.out rfl (news := [.int .i64 y]) rfl (Sl.rdc (Sl.laid w1 3 1 1 #[.int .i64 y] (by unfold maxLen; omega) rfl)) (by intro u hu; simp at hu; subst hu; rfl) (by unfold maxLen; omega) (by omega) ?_; intro A3 c3 w3 hs3 hA3 hk3)
    have hO2 := hO_h.out.snoc (x := y) (by rw [hml_h.out]) hs3 hA3 hk3
    rw [← hst_h.out] at hO2
    clear hs3 hA3 hk3; have hO2_h := lH hO2; clear hO2
    go_roundw
    case rel => exact ⟨k + 1, A3, c3, by omega, by go_num, rfl, hO2_h.out⟩
    case measure => simp [intOf]; omega
  · obtain rfl : p = k := by omega
    rw [List.take_of_length_le (by rw [hp_h.out]; exact Nat.le_refl _)] at hO
    have hO_h := lH hO; clear hO
    go_wp2_with (fail)
    go_ret
    exact ⟨A', c', rfl, hO_h.out⟩
end Go.Proofs.Ytpkmjenoniedjaa
namespace Go.Proofs.Ytpkmjenoniedjaa
theorem sorted_unique : ∀ {a b : List Int}, a.Perm b → a.Pairwise (· ≤ ·) → b.Pairwise (· ≤ ·) → a = b
 | [], b, h, _, _ => (List.length_eq_zero_iff.1 (by simpa using h.length_eq.symm)).symm
 | x :: a, [], h, _, _ => by have := h.length_eq; simp at this
 | x :: a, y :: b, h, h1, h2 => by
   obtain ⟨p1, q1⟩ := List.pairwise_cons.1 h1
   obtain ⟨p2, q2⟩ := List.pairwise_cons.1 h2
   have hx : x ∈ y :: b := h.mem_iff.1 (List.mem_cons_self ..)
   have hy : y ∈ x :: a := h.mem_iff.2 (List.mem_cons_self ..)
   have hxy : x = y := by
    rcases List.mem_cons.1 hx with e | hx
    · exact e
    · rcases List.mem_cons.1 hy with e | hy
      · exact e.symm
      · have := p1 y hy
        have := p2 x hx
        omega
   subst hxy
   rw [sorted_unique (List.Perm.cons_inv h) q1 q2]
theorem srt_sorted (zs : List Int) : (srt zs).Pairwise (· ≤ ·) := by
 have h := List.pairwise_mergeSort (le := fun x y : Int => decide (x ≤ y)) (fun a b c h1 h2 => by simp only [decide_eq_true_eq] at *; omega) (fun a b => by simp only [Bool.or_eq_true, decide_eq_true_eq]; omega) zs
 exact h.imp fun {a b} h => of_decide_eq_true h
theorem srt_perm (zs : List Int) : (srt zs).Perm zs := List.mergeSort_perm ..
theorem memL_perm {l : List Int} {n : Nat} (hn : l.Nodup) (h : ∀ x, x ∈ l → 0 ≤ x ∧ x < (n : Int)) : ((memL l n).map (fun y : Nat => (y : Int))).Perm l := by
 rw [List.perm_ext_iff_of_nodup ?_ hn]
 · intro a
   simp only [memL, List.mem_map, List.mem_filter, List.mem_range, List.contains_iff_mem]
   constructor
   · rintro ⟨y, ⟨_, h2⟩, rfl⟩; exact h2
   · intro ha; have := h a ha; exact ⟨a.toNat, ⟨by omega, by rw [show ((a.toNat : Nat) : Int) = a by omega]; exact ha⟩, by omega⟩
 · have hr : ((List.range n).filter fun y : Nat => l.contains (y : Int)).Nodup := List.nodup_range.filter _
   rw [List.nodup_iff_pairwise_ne, List.pairwise_map]
   exact (List.nodup_iff_pairwise_ne.1 hr).imp fun {a b} hab e => hab (by omega)
theorem memL_sorted (l : List Int) (n : Nat) : ((memL l n).map (fun y : Nat => (y : Int))).Pairwise (· ≤ ·) := by
 rw [List.pairwise_map]
 have h1 : (List.range n).Pairwise (· < ·) := List.pairwise_lt_range
 exact (h1.filter _).imp fun {a b} h => by omega
theorem srt_eq {l : List Int} {n : Nat} (hn : l.Nodup) (h : ∀ x, x ∈ l → 0 ≤ x ∧ x < (n : Int)) : srt l = (memL l n).map (fun y : Nat => (y : Int)) :=
 sorted_unique ((srt_perm l).trans (memL_perm hn h).symm) (srt_sorted l) (memL_sorted l n)
theorem plcI_eq {l : List Int} {n : Nat} (hn : l.Nodup) (h : ∀ x, x ∈ l → 0 ≤ x ∧ x < (n : Int)) : plcI (srt l) l = plcL l := by
 unfold plcI plcL
 refine List.map_congr_left fun x hx => ?_
 obtain ⟨h0, hlt⟩ := h x hx
 have hc : l.contains ((x.toNat : Nat) : Int) = true := by
  rw [List.contains_iff_mem, show ((x.toNat : Nat) : Int) = x by omega]
  exact hx
 have hr := memL_rank (n := n) (x := x.toNat) (by omega) hc
 have hs : (srt l)[rankL l x.toNat]? = some x := by
  rw [srt_eq hn h, List.getElem?_map, hr]
  simp only [Option.map_some]
  rw [show ((x.toNat : Nat) : Int) = x by omega]
 have hnd : (srt l).Nodup := (srt_perm l).nodup_iff.2 hn
 have hmem : (srt l).contains x = true := by rw [List.contains_iff_mem]; exact List.mem_of_getElem? hs
 unfold idxI
 rw [if_pos hmem]
 have hk := (List.getElem?_eq_some_iff.1 hs).1
 rw [idxN_at hs]
 cases hcc : ((srt l).take (rankL l x.toNat)).contains x
 · rfl
 · exfalso
   have hm := List.contains_iff_mem.1 hcc
   obtain ⟨i, hi, e⟩ := List.getElem_of_mem hm
   rw [List.length_take] at hi
   have e2 : (srt l)[i]? = some x := by rw [← e, List.getElem_take, List.getElem?_eq_getElem]
   have := (List.getElem?_inj (i := i) (j := rankL l x.toNat) (by omega) hnd).1 (e2.trans hs.symm)
   omega
end Go.Proofs.Ytpkmjenoniedjaa
namespace Go.Proofs.Ytpkmjenoniedjaa
def giveL (o l : List Int) : List Int := l.foldl (fun o w => if o.contains w then o else o ++ [w]) o
def wiresE (e : Eg) : List Int := e.2.2.1 ++ e.2.2.2
def edgeAt (g : Gr) (e : Int) : Eg := g.2.1.getD e.toNat eg0
def atE (f : Eg → List Int) (es : List Eg) : Nat → Int → Int
 | 0, _ => -1
 | k + 1, w => if w ∈ f (es.getD k eg0) then (k : Int) else atE f es k w
def inE (e : Eg) : List Int := e.2.2.1
def outE (e : Eg) : List Int := e.2.2.2
def toE (g : Gr) (w : Int) : Int := atE inE g.2.1 g.2.1.length w
def fromE (g : Gr) (w : Int) : Int := atE outE g.2.1 g.2.1.length w
abbrev WE := List Int × List Int
def stepE (g : Gr) (s : WE) (e : Int) : WE := if e < 0 ∨ e ∈ s.2 then s else (giveL s.1 (wiresE (edgeAt g e)), s.2 ++ [e])
def roundW (g : Gr) (s : WE) (k : Nat) : WE := if k < s.1.length then stepE g (stepE g s (toE g (s.1.getD k 0))) (fromE g (s.1.getD k 0)) else s
theorem giveL_one (o : List Int) (w : Int) : giveL o [w] = if o.contains w then o else o ++ [w] := rfl
theorem mem_giveL {x : Int} : ∀ {l o : List Int}, x ∈ giveL o l ↔ x ∈ o ∨ x ∈ l
 | [], o => by simp [giveL]
 | w :: r, o => by
   show x ∈ giveL (giveL o [w]) r ↔ _
   rw [mem_giveL (l := r), giveL_one]
   split
   · rename_i h
     have h' : w ∈ o := by simpa using h
     constructor
     · rintro (h | h)
       · exact .inl h
       · exact .inr (by simp [h])
     · rintro (h | h)
       · exact .inl h
       · rcases List.mem_cons.1 h with rfl | h
         · exact .inl h'
         · exact .inr h
   · simp [or_assoc]
theorem giveL_nodup : ∀ {l o : List Int}, o.Nodup → (giveL o l).Nodup
 | [], _, h => h
 | w :: r, o, h => by
   show (giveL (giveL o [w]) r).Nodup
   refine giveL_nodup (l := r) ?_
   rw [giveL_one]
   split
   · exact h
   · rename_i hc
     have h' : w ∉ o := by simpa using hc
     rw [List.nodup_append]
     refine ⟨h, by simp, fun a ha b hb => ?_⟩
     obtain rfl := List.mem_singleton.1 hb
     exact fun e => h' (e ▸ ha)
theorem atE_lt (f : Eg → List Int) (es : List Eg) (w : Int) : ∀ k, -1 ≤ atE f es k w ∧ atE f es k w < k
 | 0 => by simp [atE]
 | k + 1 => by
   have := atE_lt f es w k
   unfold atE
   split <;> omega
structure Mono (g : Gr) (n : Nat) : Prop where
 hn : g.1 = (n : Int)
 n100 : n ≤ 100
 m60 : g.2.1.length ≤ 60
 i12 : g.2.2.1.length ≤ 12
 o12 : g.2.2.2.length ≤ 12
 inn : ∀ x, x ∈ t_allW g → 0 ≤ x ∧ x < (n : Int)
 org : (orgW g).Nodup
 dst : (dstW g).Nodup
 all : ∀ w : Nat, w < n → (w : Int) ∈ orgW g
 kind : ∀ e, e ∈ g.2.1 → egB e = true
section
variable {g : Gr} {n : Nat}
theorem Mono.wires (h : Mono g n) {e : Int} (h0 : 0 ≤ e) (hm : e < (g.2.1.length : Int)) : ∀ w, w ∈ wiresE (edgeAt g e) → 0 ≤ w ∧ w < (n : Int) := by
 intro w hw
 refine h.inn w ?_
 have hi : e.toNat < g.2.1.length := by omega
 have := mem_edW_of (List.mem_of_getElem? (List.getElem?_eq_getElem hi))
 have e2 : edgeAt g e = g.2.1[e.toNat] := by unfold edgeAt; rw [List.getD_eq_getElem?_getD, List.getElem?_eq_getElem hi]; rfl
 rw [e2] at hw
 unfold t_allW
 refine List.mem_append_right _ (List.mem_append_right _ ?_)
 rcases List.mem_append.1 hw with hw | hw
 · exact this.1 w hw
 · exact this.2 w hw
theorem toE_rng (g : Gr) (w : Int) : -1 ≤ toE g w ∧ toE g w < (g.2.1.length : Int) := atE_lt _ _ _ _
theorem fromE_rng (g : Gr) (w : Int) : -1 ≤ fromE g w ∧ fromE g w < (g.2.1.length : Int) := atE_lt _ _ _ _
structure WInv (g : Gr) (n : Nat) (s : WE) : Prop where
 nd1 : s.1.Nodup
 rg1 : ∀ x, x ∈ s.1 → 0 ≤ x ∧ x < (n : Int)
 nd2 : s.2.Nodup
 rg2 : ∀ e, e ∈ s.2 → 0 ≤ e ∧ e < (g.2.1.length : Int)
 clo : ∀ e, e ∈ s.2 → ∀ w, w ∈ wiresE (edgeAt g e) → w ∈ s.1
theorem WInv.step (h : Mono g n) {s : WE} (hs : WInv g n s) {e : Int} (he : e < (g.2.1.length : Int)) : WInv g n (stepE g s e) := by
 unfold stepE
 split
 · exact hs
 · rename_i hne
   have h0 : 0 ≤ e := by omega
   have hni : e ∉ s.2 := fun hi => hne (.inr hi)
   refine ⟨giveL_nodup hs.nd1, fun x hx => ?_, ?_, fun f hf => ?_, fun f hf w hw => ?_⟩
   · rcases mem_giveL.1 hx with hx | hx
     · exact hs.rg1 x hx
     · exact h.wires h0 he x hx
   · rw [List.nodup_append]
     refine ⟨hs.nd2, by simp, fun a ha b hb => ?_⟩
     obtain rfl := List.mem_singleton.1 hb
     exact fun e => hni (e ▸ ha)
   · rcases List.mem_append.1 hf with hf | hf
     · exact hs.rg2 f hf
     · obtain rfl := List.mem_singleton.1 hf
       exact ⟨h0, he⟩
   · rcases List.mem_append.1 hf with hf | hf
     · exact mem_giveL.2 (.inl (hs.clo f hf w hw))
     · obtain rfl := List.mem_singleton.1 hf
       exact mem_giveL.2 (.inr hw)
theorem WInv.round (h : Mono g n) {s : WE} (hs : WInv g n s) (k : Nat) : WInv g n (roundW g s k) := by
 unfold roundW
 split
 · exact (hs.step h (toE_rng g _).2).step h (fromE_rng g _).2
 · exact hs
theorem nodup_le {n : Nat} {l : List Int} (hn : l.Nodup) (h : ∀ k, k ∈ l → 0 ≤ k ∧ k < (n : Int)) : l.length ≤ n := by
 have := seenC_nodup hn h l.length (Nat.le_refl _)
 rw [← this]
 exact seenC_le n _
theorem WInv.le {s : WE} (hs : WInv g n s) : s.1.length ≤ n ∧ s.2.length ≤ g.2.1.length := ⟨nodup_le hs.nd1 hs.rg1, nodup_le hs.nd2 hs.rg2⟩
end
end Go.Proofs.Ytpkmjenoniedjaa
namespace Go.Proofs.Ytpkmjenoniedjaa
def idx (l : List Int) (w : Int) : Int := ((l.idxOf w : Nat) : Int)
abbrev Prt := List Int × WE × Int
instance decPrt : DecidableEq Prt := inferInstance
end Go.Proofs.Ytpkmjenoniedjaa
namespace Go.Proofs.Ytpkmjenoniedjaa
def putN (arr : List Int) (off : Int) (o : List Int) : List Int := (List.range arr.length).map fun w : Nat => if (w : Int) ∈ o then off + idx o (w : Int) else arr.getD w 0
@[simp] theorem putN_length (arr : List Int) (off : Int) (o : List Int) : (putN arr off o).length = arr.length := by simp [putN]
def putF (arr : List Int) (off : Int) (o : List Int) (left : Int → Bool) : List Int := (List.range arr.length).map fun w : Nat => if (w : Int) ∈ o ∧ left (w : Int) = false then off + idx o (w : Int) else arr.getD w 0
@[simp] theorem putF_length (arr : List Int) (off : Int) (o : List Int) (left : Int → Bool) : (putF arr off o left).length = arr.length := by simp [putF]
abbrev Nums := List Int × List Int × Int × Int
open Go.RowKit
theorem mono_of {g : Gr} (h : monoB g = true) : ∃ n, Mono g n := by
 unfold monoB at h
 simp only [Bool.and_eq_true] at h
 obtain ⟨h1, h2, h3⟩ := h
 obtain ⟨n, hn, n100, m60, i12, o12, hin⟩ := grB_parts h1
 have hk : ∀ e, e ∈ g.2.1 → egB e = true := by
  unfold grB at h1
  simp only [Bool.and_eq_true] at h1
  exact List.all_eq_true.1 h1.2.1
 obtain ⟨l2, p2⟩ := prmN_parts h2
 obtain ⟨_, p3⟩ := prmN_parts h3
 rw [hn] at l2
 have o2 := permGo_nodup p2
 have o3 := permGo_nodup p3
 have rng : ∀ x, x ∈ orgW g → 0 ≤ x ∧ x < (n : Int) := fun x hx => by
  refine inW_iff.1 hin x ?_
  unfold orgW at hx
  unfold t_allW
  rcases List.mem_append.1 hx with hx | hx
  · exact List.mem_append_left _ hx
  · refine List.mem_append_right _ (List.mem_append_right _ ?_)
    have key : ∀ es : List Eg, x ∈ outW es → x ∈ edW es := fun es => by
     induction es with
     | nil => intro hh; simp [outW] at hh
     | cons a r ih =>
       intro hh
       unfold outW at hh
       unfold edW
       rcases List.mem_append.1 hh with h2 | h2
       · simp [h2]
       · simp [ih h2]
    exact key _ hx
 exact ⟨n, hn, n100, m60, i12, o12, fun x hx => inW_iff.1 hin x hx, o2.1, o3.1, fun w hw => perm_full o2.1 rng (by omega) hw, hk⟩
def tabK (f : Eg → List Int) (es : List Eg) (n k : Nat) : List Int := (List.range n).map fun w : Nat => atE f es k (w : Int)
def tabJ (f : Eg → List Int) (es : List Eg) (n k j : Nat) : List Int := (List.range n).map fun w : Nat => if (w : Int) ∈ (f (es.getD k eg0)).take j then (k : Int) else atE f es k (w : Int)
@[simp] theorem tabK_length (f : Eg → List Int) (es : List Eg) (n k : Nat) : (tabK f es n k).length = n := by simp [tabK]
@[simp] theorem tabJ_length (f : Eg → List Int) (es : List Eg) (n k j : Nat) : (tabJ f es n k j).length = n := by simp [tabJ]
end Go.Proofs.Ytpkmjenoniedjaa
namespace Go.Proofs.Ytpkmjenoniedjaa
def imR (g pt : Gr) (m : Ma) : Gr × Bool := if (monoB g && monoB pt) && maB g pt m then (imgG pt m, true) else (g0, false)
theorem imR_no1 {g pt : Gr} {m : Ma} (h : (monoB g && monoB pt) = false) : imR g pt m = (g0, false) := by unfold imR; rw [h]; rfl
theorem imR_no2 {g pt : Gr} {m : Ma} (h : maB g pt m = false) : imR g pt m = (g0, false) := by unfold imR; rw [h, Bool.and_false]; rfl
theorem imR_yes {g pt : Gr} {m : Ma} (h : (monoB g && monoB pt) = true) (h' : maB g pt m = true) : imR g pt m = (imgG pt m, true) := by unfold imR; rw [h, h']; rfl
theorem maB_parts {g pt : Gr} {m : Ma} (h : maB g pt m = true) : (m.1.length : Int) = pt.1 ∧ m.2.length = pt.2.1.length ∧ ((∀ x, x ∈ m.1 → 0 ≤ x ∧ x < g.1) ∧ m.1.Nodup) ∧ ((∀ x, x ∈ m.2 → 0 ≤ x ∧ x < (g.2.1.length : Int)) ∧ m.2.Nodup) := by
 unfold maB at h
 simp only [Bool.and_eq_true, decide_eq_true_eq] at h
 obtain ⟨⟨l1, l2⟩, ⟨d1, d2⟩, _⟩ := h
 exact ⟨l1, l2, difB_iff.1 d1, difB_iff.1 d2⟩
theorem plcL_len (l : List Int) : (plcL l).length = l.length := by simp [plcL]
theorem im_plc {g pt : Gr} {m : Ma} {n : Nat} (hn : g.1 = (n : Int)) (h : maB g pt m = true) : plcI (srt m.1) m.1 = plcL m.1 ∧ plcI (srt m.2) m.2 = plcL m.2 ∧ permB (plcL m.1) = true ∧ permB (plcL m.2) = true := by
 obtain ⟨_, _, ⟨b1, d1⟩, ⟨b2, d2⟩⟩ := maB_parts h
 rw [hn] at b1
 exact ⟨plcI_eq d1 b1, plcI_eq d2 b2, plcL_perm d1 b1, plcL_perm d2 b2⟩
theorem imgG_ok {g pt : Gr} {m : Ma} {n : Nat} (ok : OkG pt) (hn : g.1 = (n : Int)) (h : maB g pt m = true) : OkG (imgG pt m) := by
 obtain ⟨_, l2, _, _⟩ := maB_parts h
 exact renG_ok ok (im_plc hn h).2.2.2 (by rw [plcL_len, l2])
theorem imR_ok {g pt : Gr} {m : Ma} (ok : OkG pt) : OkG (imR g pt m).1 := by
 cases h : (monoB g && monoB pt)
 · rw [imR_no1 h]; exact g0_ok
 · cases h' : maB g pt m
   · rw [imR_no2 h']; exact g0_ok
   · rw [imR_yes h h']
     obtain ⟨n, hMo⟩ := mono_of (Bool.and_eq_true .. ▸ h).1
     exact imgG_ok ok hMo.hn h'
open Go.RowKit
theorem im_allocs4 (w : World) (o1 o2 o3 o4 : Obj) : ∃ W, W = (((w.alloc o1).alloc o2).alloc o3).alloc o4 ∧ Below w.heap.size w W ∧ W.heap[w.heap.size]? = some o1 ∧ W.heap[w.heap.size + 1]? = some o2 ∧ W.heap[w.heap.size + 1 + 1]? = some o3 ∧ W.heap[w.heap.size + 1 + 1 + 1]? = some o4 := by
 obtain ⟨W, hW, hb, h1, h2, h3⟩ := allocs3 w o1 o2 o3
 refine ⟨W.alloc o4, by rw [hW], below_trans hb (t_below_alloc _ _) hb.size, t_box_below h1 (t_below_alloc _ _), t_box_below h2 (t_below_alloc _ _), t_box_below h3 (t_below_alloc _ _), ?_⟩
 have := heap_alloc_new W o4
 rw [hW] at this ⊢
 simp only [World.size_alloc] at this
 exact this
theorem im_inW {g : Gr} {n : Nat} (h : Mono g n) : inW (n : Int) (t_allW g) = true := by
 unfold inW
 rw [List.all_eq_true]
 intro x hx
 have := h.inn x hx
 show t_inB x 0 ((n : Int) - 1) = true
 unfold t_inB
 rw [decide_eq_true_eq]
 omega
theorem ma_parts {w : World} {X Y : Option Addr} {nu x nv y : Nat} {m : Ma} {fp : List Nat} (h : OwMa w (.agg #[.slice X nu x, .slice Y nv y]) m fp) : m.1.length = nu ∧ m.2.length = nv ∧ IS w X x m.1 ∧ IS w Y y m.2 := by
 obtain ⟨⟨X', x', u⟩, ⟨Y', y', v⟩, e, e1, e2, hOw, _⟩ := h
 simp at e
 obtain ⟨⟨rfl, rfl, rfl⟩, rfl, rfl, rfl⟩ := e
 have h1 : IS w X x u := hOw.rows (X, x, u) (List.mem_cons_self ..)
 have h2 : IS w Y y v := hOw.rows (Y, y, v) (by simp)
 simp only at e1 e2
 exact ⟨by rw [← e1], by rw [← e2], by rw [← e1]; exact h1, by rw [← e2]; exact h2⟩
set_option maxRecDepth 100000 in
set_option maxHeartbeats 4000000 in
theorem iImageGraph_any {vg vp vm : Value} {g pt : Gr} {m : Ma} {fm : List Nat} {w : World} (h : RdGr w vg g) (h' : RdGr w vp pt) (hm : OwMa w vm m fm) (ok : OkG g) (ok' : OkG pt) (okm : OkMa m) :
  Calls Try.prog 9 #[vg, vp, vm] w fun e w' => ∃ v' fp, e = .returned (.tuple #[v', .bool (imR g pt m).2]) ∧ OwGr w' v' (imR g pt m).1 fp ∧ FreshL w.heap.size fp ∧ Below w.heap.size w w' := by
 obtain ⟨R, hR⟩ : ∃ D, D = imR g pt m := ⟨_, rfl⟩
 obtain ⟨T, hT⟩ : ∃ D, D = (monoB g && monoB pt) := ⟨_, rfl⟩
 obtain ⟨Q, hQ⟩ : ∃ D, D = maB g pt m := ⟨_, rfl⟩
 have hno : T = false → R = (g0, false) := fun hh => hR.trans (imR_no1 (hT.symm.trans hh))
 have hno2 : Q = false → R = (g0, false) := fun hh => hR.trans (imR_no2 (hQ.symm.trans hh))
 have hye : T = true → Q = true → R = (imgG pt m, true) := fun hh hk => hR.trans (imR_yes (hT.symm.trans hh) (hQ.symm.trans hk))
 obtain ⟨P, hP⟩ : ∃ P, imgG pt m = P := ⟨_, rfl⟩
 rw [hP] at hye
 have hP' : renG pt (plcL m.1) (plcL m.2) = P := hP
 rw [← hR]
 obtain ⟨A, n0, c, B, m0, d, C, k0', e0, rfl⟩ := h.shape
 obtain ⟨A', n0', c', B', m0', d', C', k0'', e0', rfl⟩ := h'.shape
 obtain ⟨X, nu, x, Y, nv, y, rfl⟩ := hm.shape
 obtain ⟨eu, ev, hI1, hI2⟩ := ma_parts hm
 obtain ⟨z, hz⟩ : ∃ z, z = g.1 := ⟨_, rfl⟩
 obtain ⟨z', hz'⟩ : ∃ z, z = pt.1 := ⟨_, rfl⟩
 rw [← hz] at h ⊢
 rw [← hz'] at h' ⊢
 obtain ⟨W, hW, bW, k3, k4, k5, k6⟩ := im_allocs4 w (.cells #[.int .i64 z, .slice A n0 c, .slice B m0 d, .slice C k0' e0] tGr) (.cells #[.int .i64 z', .slice A' n0' c', .slice B' m0' d', .slice C' k0'' e0'] tGr) (.cells #[.slice X nu x, .slice Y nv y] tMa) (.cells #[.int .i64 0, .slice none 0 0, .slice none 0 0, .slice none 0 0] tGr)
 have hM : T = true → ∀ (W' : World), Below W.heap.size W W' → Calls Try.prog 25 #[.agg #[.int .i64 z, .slice A n0 c, .slice B m0 d, .slice C k0' e0], .agg #[.int .i64 z', .slice A' n0' c', .slice B' m0' d', .slice C' k0'' e0'], .agg #[.slice X nu x, .slice Y nv y]] W' fun e w' => e = .returned (.bool Q) ∧ Below W'.heap.size W' w' := fun hh W' hb => by
  have h1 := hT.symm.trans hh
  rw [Bool.and_eq_true] at h1
  rw [hQ]
  exact isMatch_any W' ((h.below bW).below hb) ((h'.below bW).below hb) ((hm.below bW).below hb) (monoB_gr h1.1) (monoB_gr h1.2) okm
 have hbu : nu ≤ 1048576 := by rw [← eu]; exact okm.1
 have hbv : nv ≤ 1048576 := by rw [← ev]; exact okm.2.1
 have hwW0 := bW.size
 have hS1 := fun (W' : World) (hb : Below W.heap.size W W') => sorted_any X x nu m.1 eu hbu W' (((hI1.below bW).below hb).rd) ((hI1.below bW).below hb).lt
 have hS2 := fun (W' : World) (hb : Below W.heap.size W W') => sorted_any Y y nv m.2 ev hbv W' (((hI2.below bW).below hb).rd) ((hI2.below bW).below hb).lt
 have hL1 : T = true → Q = true → ∀ (W' : World) (G : Option Addr) (gc : Nat), Below W.heap.size W W' → IS W' G gc (srt m.1) → Calls Try.prog 26 #[.slice X nu x, .slice G nu gc] W' fun e w' => ∃ A' c', e = .returned (.slice A' nu c') ∧ OIg W' w' A' c' (plcL m.1) := fun hh hk W' G gc hb hg => by
  obtain ⟨n, hMo⟩ := mono_of (Bool.and_eq_true .. ▸ hT.symm.trans hh).1
  rw [← (im_plc hMo.hn (hQ.symm.trans hk)).1]
  exact placesIn_any X G x gc nu nu m.1 (srt m.1) W' ((hI1.below bW).below hb).rd hg.rd eu (by rw [srt_len]; exact eu) hbu hbu
 have hL2 : T = true → Q = true → ∀ (W' : World) (G : Option Addr) (gc : Nat), Below W.heap.size W W' → IS W' G gc (srt m.2) → Calls Try.prog 26 #[.slice Y nv y, .slice G nv gc] W' fun e w' => ∃ A' c', e = .returned (.slice A' nv c') ∧ OIg W' w' A' c' (plcL m.2) := fun hh hk W' G gc hb hg => by
  obtain ⟨n, hMo⟩ := mono_of (Bool.and_eq_true .. ▸ hT.symm.trans hh).1
  rw [← (im_plc hMo.hn (hQ.symm.trans hk)).2.1]
  exact placesIn_any Y G y gc nv nv m.2 (srt m.2) W' ((hI2.below bW).below hb).rd hg.rd ev (by rw [srt_len]; exact ev) hbv hbv
 have hRn : T = true → Q = true → ∀ (W' : World) (U V : Option Addr) (uc vc : Nat), Below W.heap.size W W' → IS W' U uc (plcL m.1) → IS W' V vc (plcL m.2) → Calls Try.prog 28 #[.agg #[.int .i64 z', .slice A' n0' c', .slice B' m0' d', .slice C' k0'' e0'], .slice U nu uc, .slice V nv vc] W' fun e w' => ∃ v' fp, e = .returned v' ∧ OwGr w' v' P fp ∧ FreshL W'.heap.size fp ∧ Below W'.heap.size W' w' := fun hh hk W' U V uc vc hb hu hv => by
  have hk' := hQ.symm.trans hk
  have h1 := hT.symm.trans hh
  rw [Bool.and_eq_true] at h1
  obtain ⟨n1, hMo1⟩ := mono_of h1.1
  obtain ⟨n2, hMo2⟩ := mono_of h1.2
  obtain ⟨l1, l2, _, _⟩ := maB_parts hk'
  have e2 := hMo2.hn
  obtain rfl : n2 = nu := by omega
  rw [← hP']
  exact renumbered_any W' n2 nv U uc (plcL m.1) V vc (plcL m.2) ((h'.below bW).below hb) ok' hu.rd hv.rd hMo2.hn (by omega) (by rw [plcL_len, eu]) (by rw [plcL_len, ev]) (im_inW hMo2) (im_plc hMo1.hn hk').2.2.2 (by have := hMo2.m60; omega)
 obtain ⟨W2, hW2, bW2, kq⟩ := (⟨_, rfl, t_below_alloc _ _, heap_alloc_new _ _⟩ : ∃ W2, W2 = W.alloc (.cells #[.int .i64 z, .slice A n0 c, .slice B m0 d, .slice C k0' e0, .int .i64 z', .slice A' n0' c', .slice B' m0' d', .slice C' k0'' e0'] tGr) ∧ Below W.heap.size W W2 ∧ W2.heap[W.heap.size]? = some (.cells #[.int .i64 z, .slice A n0 c, .slice B m0 d, .slice C k0' e0, .int .i64 z', .slice A' n0' c', .slice B' m0' d', .slice C' k0'' e0'] tGr))
 have hG := areMonogamous_any W2 W.heap.size z z' A n0 c B m0 d C k0' e0 A' n0' c' B' m0' d' C' k0'' e0' ((h.below bW).below bW2) ((h'.below bW).below bW2) ok ok' kq
 rw [← hT] at hG
 obtain ⟨⟨c0, c1, c2, c3⟩, c4, c5, c6, c7⟩ := t_box4 k3
 obtain ⟨⟨d0, d1, d2, d3⟩, d4, d5, d6, d7⟩ := t_box4 k4
 clear h h' hm hz hz' ok ok' okm hR hT hQ hP hP' eu ev hI1 hI2 hbu hbv hwW0; have bW_h := lH bW; have k3_h := lH k3; have k4_h := lH k4; have k5_h := lH k5; have k6_h := lH k6; have hG_h := lH hG; have hM_h := lH hM; have hno_h := lH hno; have hno2_h := lH hno2; have hye_h := lH hye; have bW2_h := lH bW2; have hS1_h := lH hS1; have hS2_h := lH hS2; have hL1_h := lH hL1; have hL2_h := lH hL2; have hRn_h := lH hRn; clear bW k3 k4 k5 k6 hG hM hno hno2 hye bW2 hS1 hS2 hL1 hL2 hRn
 go_enter Try.func9, Try.ntmps9
 go_upto_region 1 with (fail)
 rw [← hW]
 clear hW
 go_wp2_with (fail)
 rw [← hW2]
 clear hW2 kq
 refine (hG_h.out).mono ?_
 rintro e w1 ⟨rfl, hb1⟩
 have hb1' := below_trans bW2_h.out hb1 bW2_h.out.size
 clear hb1
 have hb1 := hb1'
 clear hb1'
 have k3a := t_box_below k3_h.out hb1
 have k4a := t_box_below k4_h.out hb1
 have k5a := t_box_below k5_h.out hb1
 have k6a := t_box_below k6_h.out hb1
 have hB1 := below_trans bW_h.out hb1 bW_h.out.size
 clear c0 c1 c2 c3 c4 c5 c6 c7 d0 d1 d2 d3 d4 d5 d6 d7
 obtain ⟨⟨c0, c1, c2, c3⟩, c4, c5, c6, c7⟩ := t_box4 k3a
 obtain ⟨⟨d0, d1, d2, d3⟩, d4, d5, d6, d7⟩ := t_box4 k4a
 obtain ⟨⟨i0, i1⟩, i2, i3⟩ := t_box2 k5a
 cases T
 case false =>
  have hR0 := hno_h.out rfl
  have hk1 := t_box_lt k6_h.out
  obtain ⟨⟨u0, u1, u2, u3⟩, g0', g1, g2, g3⟩ := t_box4 k6a
  obtain ⟨s1, s2⟩ := set4 (a := .int .i64 0) (b := .slice none 0 0) (c := .slice none 0 0) (d := .slice none 0 0) k6a
  have hBs := below_keeps hB1 s2 hB1.size (fun k hk => by omega)
  clear k3a k4a k5a k6a hb1 hB1 s2; have s1_h := lH s1; have hBs_h := lH hBs; have hR0_h := lH hR0; clear s1 hBs hR0
  go_wp2_with (fail)
  refine bodyPost_ret (t_results_cell_tmp rfl _ _ (w.heap.size + 1 + 1 + 1) _ _ (0, 0) _ rfl s1_h.out Try.underlying32 rfl (by kernel_rfl)) rfl ?_
  rw [hR0_h.out]
  exact ⟨_, _, rfl, OwGr.zero _, fun b hb => (by cases hb), hBs_h.out⟩
 case true =>
  have hMq := hM_h.out rfl w1 hb1
  clear k3a k4a k5a k6a; have hB1_h := lH hB1; have hMq_h := lH hMq; have hb1_h := lH hb1; clear hB1 hMq hb1
  go_wp2_with (fail)
  refine (hMq_h.out).mono ?_
  rintro e w2 ⟨rfl, hb2⟩
  have hb12 := below_trans hb1_h.out hb2 hb1_h.out.size
  have hB2 := below_trans hB1_h.out hb2 hB1_h.out.size
  have k5b := t_box_below k5_h.out hb12
  have k6b := t_box_below k6_h.out hb12
  clear hb2 c0 c1 c2 c3 c4 c5 c6 c7 d0 d1 d2 d3 d4 d5 d6 d7 i0 i1 i2 i3
  cases Q
  case false =>
   have hR0 := hno2_h.out rfl
   have hk1 := t_box_lt k6_h.out
   obtain ⟨⟨u0, u1, u2, u3⟩, g0', g1, g2, g3⟩ := t_box4 k6b
   obtain ⟨s1, s2⟩ := set4 (a := .int .i64 0) (b := .slice none 0 0) (c := .slice none 0 0) (d := .slice none 0 0) k6b
   have hBs := below_keeps hB2 s2 hB2.size (fun k hk => by omega)
   clear k5b k6b hb12 hB2 s2; have s1_h := lH s1; have hBs_h := lH hBs; have hR0_h := lH hR0; clear s1 hBs hR0
   go_wp2_with (fail)
   refine bodyPost_ret (t_results_cell_tmp rfl _ _ (w.heap.size + 1 + 1 + 1) _ _ (0, 0) _ rfl s1_h.out Try.underlying32 rfl (by kernel_rfl)) rfl ?_
   rw [hR0_h.out]
   exact ⟨_, _, rfl, OwGr.zero _, fun b hb => (by cases hb), hBs_h.out⟩
  case true =>
   have hR1 := hye_h.out (by trivial) rfl
   have hl1 := hL1_h.out (by trivial) rfl
   have hl2 := hL2_h.out (by trivial) rfl
   have hrn := hRn_h.out (by trivial) rfl
   clear k5b k6b; have hB2_h := lH hB2; have hb12_h := lH hb12; have hR1_h := lH hR1; have hl1_h := lH hl1; have hl2_h := lH hl2; have hrn_h := lH hrn; clear hB2 hb12 hR1 hl1 hl2 hrn
   go_wp2_with (fail)
   refine beginH (fun w' => w'.heap[w.heap.size + 1 + 1]? = some (.cells #[.slice X nu x, .slice Y nv y] tMa)) (by kernel_rfl) ?_
   have hbd : Below W.heap.size W w2.drew := below_drewN hb12_h.out 1
   generalize w2.drew = w3 at hbd ⊢
   have kd := t_box_below k5_h.out hbd
   refine tkH 0 ?_ rfl kd (fun W' hW' => ?_) ?_; rotate_left; · (obtain ⟨⟨i0, i1⟩, i2, i3⟩ := t_box2 hW'; clear hW'; go_simp; first | done | with_reducible rfl)
   simp only [Act.put, nS]
   refine tkH 1 ?_ rfl kd (fun W' hW' => ?_) ?_; rotate_left; · (obtain ⟨⟨i0, i1⟩, i2, i3⟩ := t_box2 hW'; clear hW'; go_simp; first | done | with_reducible rfl)
   simp only [Act.put, nS]
   refine tkH 2 ?_ rfl kd (fun W' hW' => ?_) ?_; rotate_left; · (obtain ⟨⟨i0, i1⟩, i2, i3⟩ := t_box2 hW'; clear hW'; go_simp; first | done | with_reducible rfl)
   simp only [Act.put, nS]
   refine tkH 3 ?_ rfl kd (fun W' hW' => ?_) ?_; rotate_left; · (obtain ⟨⟨i0, i1⟩, i2, i3⟩ := t_box2 hW'; clear hW'; go_simp; first | done | with_reducible rfl)
   simp only [Act.put, nS]
   refine' callH 4 (f := _) (args := _) rfl (by kernel_rfl) (by rfl) ?_ ?_; rotate_left 2; · (go_simp; first | done | with_reducible rfl | (constructor <;> with_reducible rfl))
   refine (hS1_h.out w3 hbd).mono ?_
   rintro e w4 ⟨G1, gc1, rfl, hg1, hf1, hb4⟩
   have hbe := below_trans hbd hb4 hbd.size
   have ke := t_box_below kd hb4
   have hlc := hl1_h.out w4 G1 gc1 hbe hg1
   clear hf1 hb4 hbd kd hg1
   refine ⟨_, rfl, ke, ?_⟩
   simp only [Act.put, nS]
   refine' callH 5 (f := _) (args := _) rfl (by kernel_rfl) (by rfl) ?_ ?_; rotate_left 2; · (go_simp; first | done | with_reducible rfl | (constructor <;> with_reducible rfl))
   refine (hlc).mono ?_
   rintro e w5 ⟨U, uc, rfl, hou⟩
   have hbf := below_trans hbe hou.below_ hbe.size
   have kf := t_box_below ke hou.below_
   have hIu := hou.1
   clear hlc ke hbe hou
   refine ⟨_, rfl, kf, ?_⟩
   simp only [Act.put, nS]
   refine oneH 6 rfl (by kernel_rfl) (by rfl) (fun K hK => ?_)
   go_simp
   refine hK _ _ kf ?_
   clear hK K
   refine doneH (by kernel_rfl) ?_
   go_wp2_with (fail)
   refine beginH (fun w' => w'.heap[w.heap.size + 1 + 1]? = some (.cells #[.slice X nu x, .slice Y nv y] tMa)) (by kernel_rfl) ?_
   have hbd : Below W.heap.size W w5.drew := below_drewN hbf 1
   have hbu5 : Below w5.heap.size w5 w5.drew := below_drewN (Below.refl _ _) 1
   have hIu6 := hIu.below hbu5
   clear hIu hbu5 kf hbf
   generalize w5.drew = w6 at hbd hIu6 ⊢
   have kd := t_box_below k5_h.out hbd
   refine tkH 0 ?_ rfl kd (fun W' hW' => ?_) ?_; rotate_left; · (obtain ⟨⟨i0, i1⟩, i2, i3⟩ := t_box2 hW'; clear hW'; go_simp; first | done | with_reducible rfl)
   simp only [Act.put, nS]
   refine tkH 1 ?_ rfl kd (fun W' hW' => ?_) ?_; rotate_left; · (obtain ⟨⟨i0, i1⟩, i2, i3⟩ := t_box2 hW'; clear hW'; go_simp; first | done | with_reducible rfl)
   simp only [Act.put, nS]
   refine tkH 2 ?_ rfl kd (fun W' hW' => ?_) ?_; rotate_left; · (obtain ⟨⟨i0, i1⟩, i2, i3⟩ := t_box2 hW'; clear hW'; go_simp; first | done | with_reducible rfl)
   simp only [Act.put, nS]
   refine tkH 3 ?_ rfl kd (fun W' hW' => ?_) ?_; rotate_left; · (obtain ⟨⟨i0, i1⟩, i2, i3⟩ := t_box2 hW'; clear hW'; go_simp; first | done | with_reducible rfl)
   simp only [Act.put, nS]
   refine' callH 4 (f := _) (args := _) rfl (by kernel_rfl) (by rfl) ?_ ?_; rotate_left 2; · (go_simp; first | done | with_reducible rfl | (constructor <;> with_reducible rfl))
   refine (hS2_h.out w6 hbd).mono ?_
   rintro e w7 ⟨G2, gc2, rfl, hg2, hf2, hb7⟩
   have hbe := below_trans hbd hb7 hbd.size
   have ke := t_box_below kd hb7
   have hlc := hl2_h.out w7 G2 gc2 hbe hg2
   have hIu7 := hIu6.below hb7
   clear hf2 hb7 hbd kd hg2 hIu6
   refine ⟨_, rfl, ke, ?_⟩
   simp only [Act.put, nS]
   refine' callH 5 (f := _) (args := _) rfl (by kernel_rfl) (by rfl) ?_ ?_; rotate_left 2; · (go_simp; first | done | with_reducible rfl | (constructor <;> with_reducible rfl))
   refine (hlc).mono ?_
   rintro e w8 ⟨V, vc, rfl, hov⟩
   have hbf := below_trans hbe hov.below_ hbe.size
   have kf := t_box_below ke hov.below_
   have hIv := hov.1
   have hIu8 := hIu7.below hov.below_
   clear hlc ke hbe hov hIu7
   refine ⟨_, rfl, kf, ?_⟩
   simp only [Act.put, nS]
   refine oneH 6 rfl (by kernel_rfl) (by rfl) (fun K hK => ?_)
   go_simp
   refine hK _ _ kf ?_
   clear hK K
   refine doneH (by kernel_rfl) ?_
   have hrc := hrn_h.out w8 U V uc vc hbf hIu8 hIv
   have k4b := t_box_below k4_h.out hbf
   have k6c := t_box_below k6_h.out hbf
   have hB8 := below_trans bW_h.out hbf bW_h.out.size
   clear hIu8 hIv kf; have hrc_h := lH hrc; have hB8_h := lH hB8; clear hrc hB8
   obtain ⟨⟨d0, d1, d2, d3⟩, d4, d5, d6, d7⟩ := t_box4 k4b
   go_wp2_with (fail)
   refine (hrc_h.out).mono ?_
   rintro e w9 ⟨v9, fp9, rfl, hO9, hf9, hb9⟩
   obtain ⟨A6, n6, c6', B6, m6, d6', C6, q6, u6, rfl⟩ := hO9.shape
   have k6d := t_box_below k6c hb9
   have hk1 := t_box_lt k6c
   have hB9 := below_trans hB8_h.out hb9 hB8_h.out.size
   obtain ⟨⟨u0, u1, u2, u3⟩, g0', g1, g2, g3⟩ := t_box4 k6d
   obtain ⟨s1, s2⟩ := set4 (a := .int .i64 P.1) (b := .slice A6 n6 c6') (c := .slice B6 m6 d6') (d := .slice C6 q6 u6) k6d
   have hBs := below_keeps hB9 s2 hB9.size (fun k hk => by omega)
   have hwW := hB8_h.out.size
   have hOs := hO9.keeps s2 (fun x hx e => by have := hf9 x hx; omega)
   have hFs : FreshL w.heap.size fp9 := fun x hx => by have := hf9 x hx; omega
   clear hb9 hO9 hB9 k6d k6c k4b s2 hf9 d0 d1 d2 d3 d4 d5 d6 d7; have s1_h := lH s1; have hBs_h := lH hBs; have hOs_h := lH hOs; have hFs_h := lH hFs; clear s1 hBs hOs hFs
   go_wp2_with (fail)
   refine bodyPost_ret (t_results_cell_tmp rfl _ _ (w.heap.size + 1 + 1 + 1) _ _ (0, 0) _ rfl s1_h.out Try.underlying32 rfl (by kernel_rfl)) rfl ?_
   rw [hR1_h.out]
   exact ⟨_, _, rfl, hOs_h.out, hFs_h.out, hBs_h.out⟩
end Go.Proofs.Ytpkmjenoniedjaa
