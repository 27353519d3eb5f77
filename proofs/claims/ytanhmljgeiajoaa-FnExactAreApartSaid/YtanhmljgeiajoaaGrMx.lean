/-
  THE WALK: spec.mtDifferent (numbers are different and below a bound).

  THE WALKS: l1Has, l1Same.

  PLAIN: matches that lie apart; the graph of the images.
-/
import Derived.Test.YtanhmljgeiajoaaGrP
import Derived.Test.YtanhmljgeiajoaaGrMo
namespace Go.Proofs.Ytanhmljgeiajoaa

/-- in one list and not in the other -/
def sideB (l m : List Int) (w : Int) : Bool := l.contains w && !m.contains w
/-- the wire i of one pattern and the wire j of the other may have one image -/
def shareB (pt : Gr) (i : Int) (ot : Gr) (j : Int) : Bool := (sideB pt.2.2.2 pt.2.2.1 i && sideB ot.2.2.1 ot.2.2.2 j) || (sideB pt.2.2.1 pt.2.2.2 i && sideB ot.2.2.2 ot.2.2.1 j)
/-- the wire i of the pattern, against all of the other -/
def apAt (pt : Gr) (ot : Gr) (i : Int) (x : Int) (l : List Int) : Bool := (List.range l.length).all fun j => !decide (x = l.getD j 0) || shareB pt i ot (j : Int)
def apB (pt : Gr) (a : Ma) (ot : Gr) (b : Ma) : Bool := (a.2.all fun e => !b.2.contains e) && (List.range a.1.length).all fun i => apAt pt ot (i : Int) (a.1.getD i 0) b.1
/-- what mayShare asks -/
def mayB (pt : Gr) (i : Int) (ot : Gr) (j : Int) : Bool := if (pt.2.2.1.contains i && pt.2.2.2.contains i) || (ot.2.2.1.contains j && ot.2.2.2.contains j) then false else (pt.2.2.2.contains i && ot.2.2.1.contains j) || (pt.2.2.1.contains i && ot.2.2.2.contains j)
theorem mayB_eq (pt : Gr) (i : Int) (ot : Gr) (j : Int) : mayB pt i ot j = shareB pt i ot j := by
  unfold mayB shareB sideB
  cases pt.2.2.1.contains i <;> cases pt.2.2.2.contains i <;> cases ot.2.2.1.contains j <;> cases ot.2.2.2.contains j <;> rfl
/-- nowhere in it -/
theorem apAt_no {pt ot : Gr} {i x : Int} {l : List Int} (h : x ∉ l) : apAt pt ot i x l = true := by
  unfold apAt
  rw [List.all_eq_true]
  intro j hj
  have hj' := List.mem_range.1 hj
  have hne : ¬ x = l.getD j 0 := fun e => h (by rw [e, List.getD_eq_getElem?_getD, List.getElem?_eq_getElem hj']; exact List.getElem_mem hj')
  rw [decide_eq_false hne]; rfl
/-- at the one place where it is -/
theorem apAt_at {pt ot : Gr} {i x : Int} {l : List Int} {j : Nat} (hn : l.Nodup) (h : l[j]? = some x) : apAt pt ot i x l = shareB pt i ot (j : Int) := by
  have hj := (List.getElem?_eq_some_iff.1 h).1
  unfold apAt
  rw [Bool.eq_iff_iff, List.all_eq_true]
  constructor
  · intro hh
    have := hh j (List.mem_range.2 hj)
    rw [List.getD_eq_getElem?_getD, h] at this
    simpa using this
  · intro hs k hk
    have hk' := List.mem_range.1 hk
    by_cases e : k = j
    · subst e; rw [hs]; simp
    · have hne : ¬ x = l.getD k 0 := fun ee => by
        rw [List.getD_eq_getElem?_getD, List.getElem?_eq_getElem hk'] at ee
        have h2 := (List.getElem?_eq_some_iff.1 h).2
        exact e ((List.getElem_inj hn).1 (by rw [h2]; exact ee.symm))
      rw [decide_eq_false hne]; rfl

/-! ### The images -/
/-- how many of l lie below x -/
def rankL (l : List Int) (x : Nat) : Nat := ((List.range x).filter fun y : Nat => l.contains (y : Int)).length
def memL (l : List Int) (n : Nat) : List Nat := (List.range n).filter fun y : Nat => l.contains (y : Int)
theorem rankL_succ (l : List Int) (x : Nat) : rankL l (x + 1) = rankL l x + (if l.contains (x : Int) then 1 else 0) := by
  unfold rankL
  rw [List.range_succ, List.filter_append, List.length_append]
  congr 1
  by_cases h : l.contains (x : Int) = true
  · simp only [List.filter_cons, h, if_true, List.filter_nil, List.length_singleton]
  · rw [if_neg h]; simp only [List.filter_cons, h, List.filter_nil]; rfl
theorem rankL_mono (l : List Int) {x y : Nat} (h : x ≤ y) : rankL l x ≤ rankL l y := by
  induction y with
  | zero => obtain rfl : x = 0 := by omega
            exact Nat.le_refl _
  | succ y ih =>
    by_cases e : x = y + 1
    · subst e; exact Nat.le_refl _
    · have := ih (by omega); rw [rankL_succ]; split <;> omega
theorem memL_rank {l : List Int} {n x : Nat} (hx : x < n) (h : l.contains (x : Int) = true) : (memL l n)[rankL l x]? = some x := by
  induction n with
  | zero => omega
  | succ n ih =>
    unfold memL
    rw [List.range_succ, List.filter_append]
    by_cases e : x = n
    · subst e
      rw [List.getElem?_append_right (by unfold rankL; exact Nat.le_refl _)]
      have : rankL l x - ((List.range x).filter fun y : Nat => l.contains (y : Int)).length = 0 := by unfold rankL; omega
      rw [this]
      simp only [List.filter_cons, h, if_true, List.filter_nil, List.getElem?_cons_zero]
    · have hxn : x < n := by omega
      have := ih hxn
      unfold memL at this
      have hlt : rankL l x < ((List.range n).filter fun y : Nat => l.contains (y : Int)).length := (List.getElem?_eq_some_iff.1 this).1
      rw [List.getElem?_append_left hlt]
      exact this
theorem rankL_lt {l : List Int} {n x : Nat} (hx : x < n) (h : l.contains (x : Int) = true) : rankL l x < rankL l n := (List.getElem?_eq_some_iff.1 (memL_rank hx h)).1
/-- a list without repetition has as many places as numbers -/
theorem memL_len {l : List Int} {n : Nat} (hn : l.Nodup) (h : ∀ x, x ∈ l → 0 ≤ x ∧ x < (n : Int)) : (memL l n).length = l.length := by
  have hp : (memL l n).map (fun y : Nat => (y : Int)) |>.Perm l := by
    rw [List.perm_ext_iff_of_nodup ?_ hn]
    · intro a
      simp only [memL, List.mem_map, List.mem_filter, List.mem_range, List.contains_iff_mem]
      constructor
      · rintro ⟨y, ⟨_, h2⟩, rfl⟩; exact h2
      · intro ha; have := h a ha; exact ⟨a.toNat, ⟨by omega, by rw [show ((a.toNat : Nat) : Int) = a by omega]; exact ha⟩, by omega⟩
    · have hr : ((List.range n).filter fun y : Nat => l.contains (y : Int)).Nodup := List.nodup_range.filter _
      rw [List.nodup_iff_pairwise_ne, List.pairwise_map]
      exact (List.nodup_iff_pairwise_ne.1 hr).imp fun {a b} hab e => hab (by omega)
  have := hp.length_eq
  rwa [List.length_map] at this
/-- the place of each number of a list among them -/
def plcL (l : List Int) : List Int := l.map fun x => (rankL l x.toNat : Int)
def numL (l : List Int) (n : Nat) : List Int := (List.range n).map fun w : Nat => if l.contains (w : Int) then (rankL l w : Int) else 0
theorem rankL_inj {l : List Int} {x y : Nat} (hx : l.contains (x : Int) = true) (hy : l.contains (y : Int) = true) (h : rankL l x = rankL l y) : x = y := by
  have h1 := memL_rank (n := max x y + 1) (by omega) hx
  have h2 := memL_rank (n := max x y + 1) (by omega) hy
  rw [h, h2] at h1
  exact (Option.some.inj h1).symm
section
variable {l : List Int} {n : Nat}
theorem plcL_perm (hn : l.Nodup) (h : ∀ x, x ∈ l → 0 ≤ x ∧ x < (n : Int)) : permB (plcL l) = true := by
  refine permB_of ?_ fun k hk => ?_
  · unfold plcL
    rw [List.nodup_iff_pairwise_ne, List.pairwise_map]
    refine (List.nodup_iff_pairwise_ne.1 hn).imp_of_mem fun {a b} ha hb hab e => hab ?_
    have h1 := h a ha; have h2 := h b hb
    have := rankL_inj (l := l) (x := a.toNat) (y := b.toNat) (by rw [List.contains_iff_mem, show ((a.toNat : Nat) : Int) = a by omega]; exact ha) (by rw [List.contains_iff_mem, show ((b.toNat : Nat) : Int) = b by omega]; exact hb) (by omega)
    omega
  · unfold plcL at hk ⊢
    obtain ⟨x, hx, rfl⟩ := List.mem_map.1 hk
    have h1 := h x hx
    have := rankL_lt (l := l) (n := n) (x := x.toNat) (by omega) (by rw [List.contains_iff_mem, show ((x.toNat : Nat) : Int) = x by omega]; exact hx)
    have h2 := memL_len hn h
    rw [List.length_map]
    unfold memL at h2
    unfold rankL at this ⊢
    omega
theorem numL_mem {x : Int} (hx : x ∈ l) (h : 0 ≤ x ∧ x < (n : Int)) : (numL l n).getD x.toNat 0 = (rankL l x.toNat : Int) := by
  have e : ((x.toNat : Nat) : Int) = x := by omega
  rw [List.getD_eq_getElem?_getD, numL, List.getElem?_map, List.getElem?_range (by omega)]
  simp only [Option.map_some, Option.getD_some]
  rw [if_pos (by rw [List.contains_iff_mem, e]; exact hx)]
/-- renaming by places = renaming by the list, then by the numbers -/
theorem mapL_plc (h : ∀ x, x ∈ l → 0 ≤ x ∧ x < (n : Int)) {s : List Int} (hs : ∀ w, w ∈ s → 0 ≤ w ∧ w < (l.length : Int)) : mapL (plcL l) s = mapL (numL l n) (mapL l s) := by
  unfold mapL
  rw [List.map_map]
  refine List.map_congr_left fun w hw => ?_
  have h1 := hs w hw
  have hlt : w.toNat < l.length := by omega
  show (plcL l).getD w.toNat 0 = (numL l n).getD (l.getD w.toNat 0).toNat 0
  have e : l.getD w.toNat 0 = l[w.toNat] := by rw [List.getD_eq_getElem?_getD, List.getElem?_eq_getElem hlt]; rfl
  have hm : l[w.toNat] ∈ l := List.getElem_mem hlt
  rw [e, numL_mem hm (h _ hm), plcL, List.getD_eq_getElem?_getD, List.getElem?_map, List.getElem?_eq_getElem hlt]
  rfl
end
theorem lay_get {α : Type} {d : α} {p : List Int} {xs : List α} (hp : permB p = true) (hl : p.length = xs.length) : ∀ k, k ≤ xs.length → ∀ i, i < k → (lay d p xs k)[(p.getD i 0).toNat]? = xs[i]?
  | 0, _, i, hi => by omega
  | k + 1, hk, i, hi => by
    have hin := perm_in hp
    have hnd := perm_nodup hp
    have hlen : (lay d p xs k).length = xs.length := by
      exact lay_length k
    have hpk : k < p.length := by omega
    have hpi : i < p.length := by omega
    have ek : p.getD k 0 = p[k] := by rw [List.getD_eq_getElem?_getD, List.getElem?_eq_getElem hpk]; rfl
    have ei : p.getD i 0 = p[i] := by rw [List.getD_eq_getElem?_getD, List.getElem?_eq_getElem hpi]; rfl
    have bk := hin _ (List.getElem_mem hpk)
    have bi := hin _ (List.getElem_mem hpi)
    have hxk : k < xs.length := by omega
    unfold lay
    by_cases e : i = k
    · subst e
      rw [List.getElem?_set_self (by rw [hlen, ek]; omega), List.getD_eq_getElem?_getD, List.getElem?_eq_getElem hxk]; rfl
    · have hne : (p.getD k 0).toNat ≠ (p.getD i 0).toNat := fun ee => by
        rw [ek, ei] at ee
        exact e ((List.getElem_inj (i := i) (j := k) hnd).1 (by omega))
      rw [List.getElem?_set_ne hne]
      exact lay_get hp hl k (by omega) i (by omega)
theorem lay_eq {α : Type} {d : α} {p : List Int} {xs ys : List α} (hp : permB p = true) (hl : p.length = xs.length) (hy : ys.length = xs.length) (h : ∀ i, i < xs.length → ys[(p.getD i 0).toNat]? = xs[i]?) : lay d p xs xs.length = ys := by
  have hlen : (lay d p xs xs.length).length = xs.length := (lay_all (d := d) hp hl).length_eq
  refine List.ext_getElem? fun j => ?_
  by_cases hj : j < xs.length
  · have hm := perm_full (n := xs.length) (perm_nodup hp) (fun k hk => by have := perm_in hp k hk; omega) hl hj
    obtain ⟨i, hi, e⟩ := List.mem_iff_getElem.1 hm
    have ei : (p.getD i 0).toNat = j := by rw [List.getD_eq_getElem?_getD, List.getElem?_eq_getElem hi, e]; simp
    have h1 := lay_get (d := d) hp hl xs.length (Nat.le_refl _) i (by omega)
    have h2 := h i (by omega)
    rw [ei] at h1 h2
    rw [h1, h2]
  · rw [List.getElem?_eq_none (by omega), List.getElem?_eq_none (by omega)]
theorem edW_in : ∀ {l : List Eg} {e : Eg} {x : Int}, e ∈ l → x ∈ e.2.2.1 ++ e.2.2.2 → x ∈ edW l
  | [], e, x, he, _ => by cases he
  | a :: r, e, x, he, hx => by
    simp only [edW, List.mem_append]
    rcases List.mem_cons.1 he with rfl | he
    · rcases List.mem_append.1 hx with hx | hx
      · exact .inl hx
      · exact .inr (.inl hx)
    · exact .inr (.inr (edW_in he hx))
/-- what the graph of the images is, before its wires are renamed -/
def partG (g pt : Gr) (m : Ma) : Gr := (g.1, (memL m.2 g.2.1.length).map fun f => g.2.1.getD f eg0, mapL m.1 pt.2.2.1, mapL m.1 pt.2.2.2)
def imgG (pt : Gr) (m : Ma) : Gr := renG pt (plcL m.1) (plcL m.2)
theorem img_eq {g pt : Gr} {m : Ma} {n : Nat} (hn : g.1 = (n : Int)) (hp : grB pt = true) (hm : maB g pt m = true) : imgG pt m = mapG (numL m.1 n) (rankL m.1 n : Int) (partG g pt m) := by
  unfold maB at hm
  simp only [Bool.and_eq_true, decide_eq_true_eq] at hm
  obtain ⟨⟨l1, l2⟩, ⟨d1, d2⟩, hat⟩ := hm
  rw [hn] at d1
  obtain ⟨b1, nd1⟩ := difB_iff.1 d1
  obtain ⟨b2, nd2⟩ := difB_iff.1 d2
  have hW : ∀ x, x ∈ allW pt → 0 ≤ x ∧ x < (m.1.length : Int) := by
    unfold grB at hp
    simp only [Bool.and_eq_true] at hp
    rw [l1]
    exact inW_iff.1 hp.2.2.1
  have hedge : ∀ e, e ∈ pt.2.1 → mapE (plcL m.1) e = mapE (numL m.1 n) (mapE m.1 e) := fun e he => by
    have h1 : ∀ x, x ∈ e.2.2.1 ++ e.2.2.2 → 0 ≤ x ∧ x < (m.1.length : Int) := fun x hx => by
      refine hW x ?_
      unfold allW
      refine List.mem_append_right _ (List.mem_append_right _ ?_)
      exact edW_in he hx
    unfold mapE
    rw [mapL_plc b1 fun w hw => h1 w (List.mem_append_left _ hw), mapL_plc b1 fun w hw => h1 w (List.mem_append_right _ hw)]
  unfold imgG renG mapG partG
  have e1 : pt.1 = (rankL m.1 n : Int) := by
    rw [← l1, ← memL_len nd1 b1]; rfl
  have e3 : mapL (plcL m.1) pt.2.2.1 = mapL (numL m.1 n) (mapL m.1 pt.2.2.1) := mapL_plc b1 fun w hw => hW w (List.mem_append_left _ hw)
  have e4 : mapL (plcL m.1) pt.2.2.2 = mapL (numL m.1 n) (mapL m.1 pt.2.2.2) := mapL_plc b1 fun w hw => hW w (List.mem_append_right _ (List.mem_append_left _ hw))
  have e2 : lay eg0 (plcL m.2) (pt.2.1.map (mapE (plcL m.1))) pt.2.1.length = ((memL m.2 g.2.1.length).map fun f => g.2.1.getD f eg0).map (mapE (numL m.1 n)) := by
    have hl : (plcL m.2).length = (pt.2.1.map (mapE (plcL m.1))).length := by unfold plcL; simp [l2]
    have := lay_eq (d := eg0) (xs := pt.2.1.map (mapE (plcL m.1))) (ys := ((memL m.2 g.2.1.length).map fun f => g.2.1.getD f eg0).map (mapE (numL m.1 n))) (plcL_perm nd2 b2) hl (by simp [memL_len nd2 b2, l2]) fun i hi => ?_
    · rw [List.length_map] at this; exact this
    · rw [List.length_map] at hi
      have hi2 : i < m.2.length := by omega
      have hmem : m.2[i] ∈ m.2 := List.getElem_mem hi2
      have hb := b2 _ hmem
      have ex : ((m.2[i].toNat : Nat) : Int) = m.2[i] := by omega
      have hp1 : (plcL m.2).getD i 0 = (rankL m.2 m.2[i].toNat : Int) := by
        unfold plcL; rw [List.getD_eq_getElem?_getD, List.getElem?_map, List.getElem?_eq_getElem hi2]; rfl
      have hr := memL_rank (l := m.2) (n := g.2.1.length) (x := m.2[i].toNat) (by omega) (by rw [List.contains_iff_mem, ex]; exact hmem)
      have hai := List.all_eq_true.1 hat i (List.mem_range.2 hi)
      unfold atB at hai
      rw [decide_eq_true_eq] at hai
      have hgi : m.2.getD i 0 = m.2[i] := by rw [List.getD_eq_getElem?_getD, List.getElem?_eq_getElem hi2]; rfl
      have hpi : pt.2.1.getD i eg0 = pt.2.1[i] := by rw [List.getD_eq_getElem?_getD, List.getElem?_eq_getElem hi]; rfl
      rw [hgi, hpi] at hai
      rw [hp1, Int.toNat_natCast, List.getElem?_map, List.getElem?_map, hr, List.getElem?_map, List.getElem?_eq_getElem hi]
      simp only [Option.map_some]
      rw [hedge _ (List.getElem_mem hi), hai]
  rw [e2, e3, e4, e1]
end Go.Proofs.Ytanhmljgeiajoaa
namespace Go.Proofs.Ytanhmljgeiajoaa
open Go.RowKit

set_option maxHeartbeats 2000000 in
theorem l1Has_any (A : Option Addr) (c m : Nat) (l : List Int) (x : Int) (w : World) (h : RdI w A l) (hm : l.length = m) (hl : m ≤ 1048576) :
    Calls Try.prog 72 #[.slice A m c, .int .i64 x] w fun e w' => e = .returned (.bool (l.contains x)) ∧ w' = w := by
  obtain ⟨T, hT⟩ : ∃ T, T = l.contains x := ⟨_, rfl⟩
  rw [← hT]
  have hT_h := Lib.hid hT
  have hm_h := Lib.hid hm
  clear hT hm
  go_enter Try.func72, Try.ntmps72
  go_wp2_with (fail)
  go_loopw [9] (fun i wr => ∃ k : Nat, k ≤ m ∧ i = .int .i64 k ∧ (l.take k).contains x = false ∧ wr = w) (fun i _ => m - (intOf i).toNat)
  case atStart => exact ⟨0, Nat.zero_le _, rfl, by simp, rfl⟩
  case round =>
    obtain ⟨k, hk, rfl, hno, rfl⟩ := hrel
    by_cases hlt : k < m
    · obtain ⟨ad, y, rfl, hy, hc⟩ := h.at_ (j := k) (by rw [hm_h.out]; exact hlt)
      have hkI : (k : Int) < (m : Int) := by omega
      by_cases hyx : y = x
      · subst hyx
        have ht : T = true := by rw [hT_h.out, List.contains_iff_mem]; exact List.mem_of_getElem? hy
        subst ht
        have hy_h := Lib.hid hy
        have hno_h := Lib.hid hno
        clear hy hno
        go_wp2_with (fail)
        go_ret
        exact ⟨rfl, rfl⟩
      · have hbq : (y == x) = false := by rw [beq_eq_false_iff_ne]; exact hyx
        have hno2 : (l.take (k + 1)).contains x = false := by
          rw [List.take_add_one, hy, Bool.eq_false_iff, ne_eq, List.contains_iff_mem]
          rw [Bool.eq_false_iff, ne_eq, List.contains_iff_mem] at hno
          intro hh
          rcases List.mem_append.1 hh with hh | hh
          · exact hno hh
          · simp at hh; exact hyx hh.symm
        have hy_h := Lib.hid hy
        have hno_h := Lib.hid hno
        have hno2_h := Lib.hid hno2
        clear hy hno hno2
        go_wp2_with (fail)
        go_roundw
        case rel => exact ⟨k + 1, by omega, by go_num, hno2_h.out, trivial⟩
        case measure => simp [intOf]; omega
    · obtain rfl : m = k := by omega
      rw [List.take_of_length_le (by rw [hm_h.out]; exact Nat.le_refl _), ← hT_h.out] at hno
      subst hno
      go_wp2_with (fail)
      go_ret
      exact ⟨rfl, rfl⟩
set_option maxHeartbeats 4000000 in
theorem l1Same_any (A B : Option Addr) (c d p q : Nat) (l m : List Int) (w : World) (h : RdI w A l) (h' : RdI w B m) (hp : l.length = p) (hq : m.length = q) (hl : p ≤ 1048576) (hl' : q ≤ 1048576) :
    Calls Try.prog 61 #[.slice A p c, .slice B q d] w fun e w' => e = .returned (.bool (decide (l = m))) ∧ Below w.heap.size w w' := by
  obtain ⟨T, hT⟩ : ∃ T, T = decide (l = m) := ⟨_, rfl⟩
  rw [← hT]
  by_cases hpq : p = q
  case neg =>
    have ht : T = false := by rw [hT]; exact decide_eq_false fun e => hpq (by rw [← hp, ← hq, e])
    subst ht
    have hnI : ¬ (p : Int) = (q : Int) := by omega
    have hbq : ((p : Int) == (q : Int)) = false := by rw [beq_eq_false_iff_ne]; exact hnI
    have hT_h := Lib.hid hT
    have hp_h := Lib.hid hp
    have hq_h := Lib.hid hq
    clear hT hp hq
    go_enter Try.func61, Try.ntmps61
    go_wp2_with (fail)
    go_ret
    exact ⟨rfl, Below.refl _ _⟩
  subst hpq
  have hT_h := Lib.hid hT
  have hp_h := Lib.hid hp
  have hq_h := Lib.hid hq
  clear hT hp hq
  go_enter Try.func61, Try.ntmps61
  go_wp2_with (fail)
  go_loopw [13] (fun i wr => ∃ (k nq : Nat), k ≤ p ∧ i = .int .i64 k ∧ l.take k = m.take k ∧ wr = w.drewN nq) (fun i _ => p - (intOf i).toNat)
  case atStart => exact ⟨0, 0, Nat.zero_le _, rfl, by simp, rfl⟩
  case round =>
    obtain ⟨k, nq, hk, rfl, htk, hwr⟩ := hrel
    have hBw : Below w.heap.size w wr := by rw [hwr]; exact below_drewN (Below.refl _ _) nq
    by_cases hlt : k < p
    · obtain ⟨ad, x, rfl, hx, hc⟩ := (RdI.below' h hBw).at_ (j := k) (by rw [hp_h.out]; exact hlt)
      obtain ⟨bd, y, rfl, hy, hc'⟩ := (RdI.below' h' hBw).at_ (j := k) (by rw [hq_h.out]; exact hlt)
      have hkI : (k : Int) < (p : Int) := by omega
      by_cases hxy : x = y
      · subst hxy
        have htk2 : l.take (k + 1) = m.take (k + 1) := by rw [List.take_add_one, List.take_add_one, hx, hy, htk]
        have hbq : (x == x) = true := by simp
        have hx_h := Lib.hid hx
        have hy_h := Lib.hid hy
        have htk_h := Lib.hid htk
        have htk2_h := Lib.hid htk2
        have hwr_h := Lib.hid hwr
        have hBw_h := Lib.hid hBw
        clear hx hy htk htk2 hwr hBw
        go_wp2_with (fail)
        go_quiet (fail)
        go_wp2_with (fail)
        go_roundw
        case rel => exact ⟨k + 1, _, by omega, by go_num, htk2_h.out, by rw [hwr_h.out]; exact World.drewN_drewN _ _ _⟩
        case measure => simp [intOf]; omega
      · have ht : T = false := by
          rw [hT_h.out]
          refine decide_eq_false fun e => hxy ?_
          rw [e, hy] at hx
          exact (Option.some.inj hx).symm
        subst ht
        have hbq : (x == y) = false := by rw [beq_eq_false_iff_ne]; exact hxy
        have hx_h := Lib.hid hx
        have hy_h := Lib.hid hy
        have htk_h := Lib.hid htk
        have hwr_h := Lib.hid hwr
        have hBw_h := Lib.hid hBw
        clear hx hy htk hwr hBw
        go_wp2_with (fail)
        go_quiet (fail)
        go_wp2_with (fail)
        go_ret
        exact ⟨rfl, below_drewN hBw_h.out _⟩
    · obtain rfl : p = k := by omega
      rw [List.take_of_length_le (by rw [hp_h.out]; exact Nat.le_refl _), List.take_of_length_le (by rw [hq_h.out]; exact Nat.le_refl _)] at htk
      have ht : T = true := by rw [hT_h.out]; exact decide_eq_true htk
      subst ht
      have htk_h := Lib.hid htk
      have hwr_h := Lib.hid hwr
      have hBw_h := Lib.hid hBw
      clear htk hwr hBw
      go_wp2_with (fail)
      go_ret
      exact ⟨rfl, hBw_h.out⟩
end Go.Proofs.Ytanhmljgeiajoaa
namespace Go.Proofs.Ytanhmljgeiajoaa
open Go.RowKit

section
variable {P : Program} {w : World} {e : TypeId} {sz n cap : Nat} {A : Option Addr} {xs : List Value}
theorem Sl.slicedG (hs : Sl w e sz A n cap xs) (t : TypeId) {z : Option Value} {bytes : Nat} (ht : P.underlying t = some (.slice e)) (hinfo : (P.info? e).map (fun i => (i.zero, i.size, i.bytes)) = some (z, sz, bytes))
    (lo hi mx : Option Value) (l hgh m : Nat) (hlo : OptIs lo l (l = 0)) (hhi : OptIs hi hgh (hgh = n ∧ mx = none)) (hmx : OptIs mx m (m = cap)) (h1 : l ≤ hgh) (h2 : hgh ≤ n) (h3 : hgh ≤ m) (h4 : m ≤ cap) :
    ∃ A', (∀ w', (Instr.sliceAt t (.slice A n cap) lo hi mx).run P w' = .ok (.slice A' (hgh - l) (m - l)) w') ∧ Sl w e sz A' (hgh - l) (m - l) ((xs.drop (l * sz)).take ((hgh - l) * sz)) ∧ (∀ b, b ∈ fpA A' → b ∈ fpA A) := by
  obtain ⟨hcut, hfp, hsub⟩ := hs.cut h1 h2 h3 h4
  refine ⟨_, fun w => ?_, hcut, hfp⟩
  unfold OptIs at hlo hhi hmx
  obtain ⟨i, hi', hzz⟩ := Option.map_eq_some_iff.1 hinfo
  simp only [Prod.mk.injEq] at hzz
  have hb : ∀ (k : IntKind) (i : Int) (j y : Nat) (code : BoundsCode), i = (j : Int) → j ≤ y → (Instr.sliceBound (.int k i) y code).run P w = .ok j w := by
    intro k i j y code e hj
    subst e
    rw [run_sliceBound w k _ y code (by omega) (by omega)]; simp
  have hsb : (Instr.sliceBounds true n cap lo hi mx).run P w = .ok (l, hgh, m) w := by
    unfold Instr.sliceBounds
    cases mx with
    | none =>
      subst hmx
      cases hi with
      | none =>
        obtain ⟨rfl, _⟩ := hhi
        cases lo with
        | none => subst hlo; simp
        | some v => obtain ⟨k, L, rfl, hL⟩ := hlo; simp [hb k L l _ _ hL h1]
      | some v =>
        obtain ⟨k, L, rfl, hL⟩ := hhi
        have hb1 := hb k L hgh m .sliceAcap hL h3
        cases lo with
        | none => subst hlo; simp [hb1]
        | some v => obtain ⟨k', L', rfl, hL'⟩ := hlo; simp [hb1, hb k' L' l _ _ hL' h1]
    | some vm =>
      obtain ⟨km, M, rfl, hM⟩ := hmx
      have hb0 := hb km M m cap .slice3Acap hM h4
      cases hi with
      | none => obtain ⟨_, h0⟩ := hhi; cases h0
      | some v =>
        obtain ⟨k, L, rfl, hL⟩ := hhi
        have hb1 := hb k L hgh m .slice3B hL h3
        cases lo with
        | none => subst hlo; simp [hb0, hb1]
        | some v => obtain ⟨k', L', rfl, hL'⟩ := hlo; simp [hb0, hb1, hb k' L' l _ _ hL' h1]
  have hrun : (Instr.slice t (.slice A n cap) lo hi mx).run P w = .ok (.slice (if m = l then A else A.map (·.add (l * sz))) (hgh - l) (m - l)) w := by
    simp only [Instr.slice, Sem.run_bind, run_underlying ht, Result.andThen_ok, hsb]
    simp [sizeOf, typeInfo, hi', hzz.2.1]
  simp [Instr.sliceAt, run_underlying ht, hrun]
end
/-- a slice of the first elements -/
theorem sliced_take {w : World} {A : Option Addr} {m c k : Nat} {l : List Int} (h : Sl w tInt 1 A m c (ints l)) (hm : l.length = m) (hk : k ≤ m) :
    ∃ A', (∀ w', (Instr.sliceAt 23 (.slice A m c) none (some (.int .i64 (k : Int))) none).run Try.prog w' = .ok (.slice A' k c) w') ∧ IS w A' c (l.take k) := by
  obtain ⟨A', h1, h2, _⟩ := Sl.slicedG h 23 (P := Try.prog) Try.underlying23 info_int none (some (.int .i64 (k : Int))) none 0 k c (optNone rfl) (optSome rfl) (optNone rfl) (Nat.zero_le _) hk (by have := h.2.1; omega) (Nat.le_refl _)
  refine ⟨A', h1, ?_⟩
  have hlk : (l.take k).length = k := by rw [List.length_take, hm]; omega
  unfold IS
  rw [hlk]
  have e : ints (l.take k) = ((ints l).drop (0 * 1)).take ((k - 0) * 1) := by simp [ints, List.map_take]
  rw [e]
  exact h2
set_option maxRecDepth 8000 in
set_option maxHeartbeats 2000000 in
theorem mtDifferent_any (A : Option Addr) (c n : Nat) (l : List Int) (w : World) (h : IS w A c l) (hl : l.length ≤ 1048576) (hn : n ≤ 1048576) :
    Calls Try.prog 100 #[.slice A l.length c, .int .i64 n] w fun e w' => e = .returned (.bool (difB (n : Int) l)) ∧ Below w.heap.size w w' := by
  obtain ⟨m, hm⟩ : ∃ m, m = l.length := ⟨_, rfl⟩
  obtain ⟨T, hT⟩ : ∃ T, T = difB (n : Int) l := ⟨_, rfl⟩
  have hsl : Sl w tInt 1 A m c (ints l) := by rw [hm]; exact h
  have hrd := h.rd
  rw [← hm] at hl ⊢
  rw [← hT]
  have hp0 : difGo (n : Int) (l.take 0) (l.drop 0) = T := by rw [hT]; rfl
  have hsc : ∀ k, k ≤ m → _ := fun k (hk : k ≤ m) => sliced_take hsl hm.symm hk
  clear h hsl
  have hm_h := Lib.hid hm
  have hT_h := Lib.hid hT
  have hp0_h := Lib.hid hp0
  have hsc_h := Lib.hid hsc
  clear hm hT hp0 hsc
  go_enter Try.func100, Try.ntmps100
  go_wp2_with (fail)
  go_loopw [9] (fun iv wr => ∃ k : Nat, k ≤ m ∧ iv = .int .i64 k ∧ difGo (n : Int) (l.take k) (l.drop k) = T ∧ Below w.heap.size w wr) (fun iv _ => m - (intOf iv).toNat)
  case atStart => exact ⟨0, Nat.zero_le _, rfl, hp0_h.out, Below.refl _ _⟩
  case round =>
    obtain ⟨k, hk, rfl, hp, hB⟩ := hrel
    obtain ⟨wo, rfl⟩ : ∃ x, x = wr := ⟨_, rfl⟩
    clear hp0_h
    by_cases hlt : k < m
    · obtain ⟨ad, x, rfl, hx, hc⟩ := (hrd.below hB).at_ (j := k) (by rw [← hm_h.out]; exact hlt)
      have hkI : (k : Int) < (m : Int) := by omega
      have htk : l.take (k + 1) = l.take k ++ [x] := by rw [List.take_add_one, hx]; rfl
      rw [drop_of hx] at hp
      unfold difGo at hp
      have wn : IntKind.i64.wrap ((n : Int) - 1) = (n : Int) - 1 := IntWalk.i64_in _ (by omega)
      obtain ⟨A', hrun, hIS'⟩ := hsc_h.out k hk
      have hrd' := (hIS'.rd).below hB
      have hH := fun (W : World) (hb : Below wo.heap.size wo W) => l1Has_any A' c k (l.take k) x W (hrd'.below hb) (by rw [List.length_take, ← hm_h.out]; omega) (by omega)
      obtain ⟨T1, hT1⟩ : ∃ T1, T1 = inB x 0 ((n : Int) - 1) := ⟨_, rfl⟩
      obtain ⟨T2, hT2⟩ : ∃ T2, T2 = (l.take k).contains x := ⟨_, rfl⟩
      have hI := fun (W : World) => l1In_any x 0 ((n : Int) - 1) W
      simp only [← hT1] at hI
      simp only [← hT2] at hH
      rw [← hT1, ← hT2, ← htk] at hp
      clear hIS' hrd' htk
      cases T1
      case false =>
        have ht : T = false := hp.symm
        subst ht
        have hx_h := Lib.hid hx
        have hp_h := Lib.hid hp
        have hB_h := Lib.hid hB
        have hI_h := Lib.hid hI
        have hT1_h := Lib.hid hT1
        have hT2_h := Lib.hid hT2
        have hH_h := Lib.hid hH
        have hrun_h := Lib.hid hrun
        clear hx hp hB hI hT1 hT2 hH hrun
        go_wp2_with (fail)
        refine (hI_h.out _).mono ?_
        rintro e w' ⟨rfl, rfl⟩
        go_wp2_with (fail)
        go_ret
        exact ⟨rfl, hB_h.out⟩
      case true =>
        cases T2
        case true =>
          have ht : T = false := hp.symm
          subst ht
          have hx_h := Lib.hid hx
          have hp_h := Lib.hid hp
          have hB_h := Lib.hid hB
          have hI_h := Lib.hid hI
          have hT1_h := Lib.hid hT1
          have hT2_h := Lib.hid hT2
          have hH_h := Lib.hid hH
          clear hx hp hB hI hT1 hT2 hH
          go_wp2_with (fail)
          refine (hI_h.out _).mono ?_
          rintro e w' ⟨rfl, rfl⟩
          go_wp2_with (fail)
          refine ((hH_h.out _ (Below.refl _ _))).mono ?_
          rintro e w2 ⟨rfl, rfl⟩
          go_wp2_with (fail)
          go_ret
          exact ⟨rfl, hB_h.out⟩
        case false =>
          have hp' : difGo (n : Int) (l.take (k + 1)) (l.drop (k + 1)) = T := hp
          have hx_h := Lib.hid hx
          have hp'_h := Lib.hid hp'
          have hB_h := Lib.hid hB
          have hI_h := Lib.hid hI
          have hT1_h := Lib.hid hT1
          have hT2_h := Lib.hid hT2
          have hH_h := Lib.hid hH
          clear hx hp' hB hI hT1 hT2 hH
          clear hp
          go_wp2_with (fail)
          refine (hI_h.out _).mono ?_
          rintro e w' ⟨rfl, rfl⟩
          go_wp2_with (fail)
          refine ((hH_h.out _ (Below.refl _ _))).mono ?_
          rintro e w2 ⟨rfl, rfl⟩
          go_wp2_with (fail)
          go_roundw
          case rel => exact ⟨k + 1, by omega, by go_num, hp'_h.out, hB_h.out⟩
          case measure => simp [intOf]; omega
    · obtain rfl : k = m := by omega
      rw [List.drop_of_length_le (by rw [← hm_h.out]; exact Nat.le_refl _)] at hp
      obtain rfl : T = true := by rw [← hp]; unfold difGo; rfl
      have hp_h := Lib.hid hp
      have hB_h := Lib.hid hB
      clear hp hB
      go_wp2_with (fail)
      go_ret
      exact ⟨rfl, hB_h.out⟩
end Go.Proofs.Ytanhmljgeiajoaa
