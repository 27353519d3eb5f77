/-
  IsIsomorphism, both sides.
-/
import Derived.Test.YtanhmljgeiajoaaGrNb
namespace Go.Proofs.Ytanhmljgeiajoaa
open Go.RowKit

/-- m is an isomorphism of a and b, graphs that are monogamous. -/
def isoB (a b : Gr) (m : Ma) : Bool := (decide (a.1 = b.1) && decide (a.2.1.length = b.2.1.length)) && (maB b a m && (decide (mapL m.1 a.2.2.1 = b.2.2.1) && decide (mapL m.1 a.2.2.2 = b.2.2.2)))
def isIsoM (a b : Gr) (m : Ma) : Bool × Bool := if monoB a && monoB b then (isoB a b m, true) else (false, false)
theorem isIsoM_no {g pt : Gr} {m : Ma} (h : (monoB g && monoB pt) = false) : isIsoM g pt m = (false, false) := by unfold isIsoM; rw [h]; rfl
theorem isIsoM_yes {g pt : Gr} {m : Ma} (h : (monoB g && monoB pt) = true) : isIsoM g pt m = (isoB g pt m, true) := by unfold isIsoM; rw [h]; rfl
theorem prmN_iff {n : Nat} {l : List Int} : prmN (n : Int) l = true ↔ l.length = n ∧ l.Nodup ∧ ∀ x, x ∈ l → 0 ≤ x ∧ x < (n : Int) := by
  unfold prmN
  rw [Bool.and_eq_true, decide_eq_true_eq]
  constructor
  · rintro ⟨h1, h2⟩
    refine ⟨by omega, perm_nodup h2, fun x hx => ?_⟩
    have := perm_in h2 x hx
    omega
  · rintro ⟨h1, h2, h3⟩
    exact ⟨by omega, permB_of h2 fun k hk => by have := h3 k hk; omega⟩
/-- what the program asks is what the reference asks -/
theorem iso_eq {a b : Gr} {m : Ma} {n : Nat} (hn : a.1 = (n : Int)) (h1 : a.1 = b.1) (h2 : a.2.1.length = b.2.1.length) :
    (prmN a.1 m.1 && (prmN (a.2.1.length : Int) m.2 && decide (renG a m.1 m.2 = b))) = (maB b a m && (decide (mapL m.1 a.2.2.1 = b.2.2.1) && decide (mapL m.1 a.2.2.2 = b.2.2.2))) := by
  have hxl : (a.2.1.map (mapE m.1)).length = a.2.1.length := List.length_map _
  have hX : ∀ i, i < a.2.1.length → (a.2.1.map (mapE m.1))[i]? = some (mapE m.1 (a.2.1.getD i eg0)) := fun i hi => by
    rw [List.getElem?_map, List.getD_eq_getElem?_getD, List.getElem?_eq_getElem hi]; rfl
  rw [Bool.eq_iff_iff]
  simp only [Bool.and_eq_true, decide_eq_true_eq, maB]
  rw [hn, prmN_iff, prmN_iff, ← h1, hn, difB_iff, difB_iff, ← h2]
  constructor
  · rintro ⟨⟨p1, p2, p3⟩, ⟨q1, q2, q3⟩, hr⟩
    have e2 : b.2.1 = lay eg0 m.2 (a.2.1.map (mapE m.1)) a.2.1.length := by rw [← hr]; rfl
    have e3 : b.2.2.1 = mapL m.1 a.2.2.1 := by rw [← hr]; rfl
    have e4 : b.2.2.2 = mapL m.1 a.2.2.2 := by rw [← hr]; rfl
    have hp : permB m.2 = true := permB_of q2 fun k hk => by have := q3 k hk; omega
    refine ⟨⟨⟨by omega, q1⟩, ⟨⟨p3, p2⟩, ⟨q3, q2⟩⟩, ?_⟩, e3.symm, e4.symm⟩
    rw [List.all_eq_true]
    intro i hi
    have hi' := List.mem_range.1 hi
    unfold atB
    rw [decide_eq_true_eq]
    have hg := lay_get (d := eg0) (p := m.2) (xs := a.2.1.map (mapE m.1)) hp (by rw [hxl]; exact q1) a.2.1.length (by rw [hxl]; exact Nat.le_refl _) i hi'
    rw [hX i hi', ← e2] at hg
    rw [List.getD_eq_getElem?_getD (l := b.2.1), hg]; rfl
  · rintro ⟨⟨⟨l1, l2⟩, ⟨⟨d1, d2⟩, ⟨d3, d4⟩⟩, hat⟩, e3, e4⟩
    have hp : permB m.2 = true := permB_of d4 fun k hk => by have := d3 k hk; omega
    refine ⟨⟨by omega, d2, d1⟩, ⟨l2, d4, d3⟩, ?_⟩
    have e2 := lay_eq (d := eg0) (p := m.2) (xs := a.2.1.map (mapE m.1)) (ys := b.2.1) hp (by rw [hxl]; exact l2) (by rw [hxl]; exact h2.symm) fun i hi => by
      rw [hxl] at hi
      have hai := List.all_eq_true.1 hat i (List.mem_range.2 hi)
      unfold atB at hai
      rw [decide_eq_true_eq] at hai
      rw [hX i hi, hai]
      have hi2 : i < m.2.length := by omega
      have hmm : m.2.getD i 0 = m.2[i] := by rw [List.getD_eq_getElem?_getD, List.getElem?_eq_getElem hi2]; rfl
      have hb := d3 _ (List.getElem_mem hi2)
      have hlt : (m.2.getD i 0).toNat < b.2.1.length := by rw [hmm]; omega
      rw [List.getD_eq_getElem?_getD (l := b.2.1), List.getElem?_eq_getElem hlt]; rfl
    rw [hxl] at e2
    unfold renG
    rw [e2, e3, e4, h1]

set_option maxRecDepth 100000 in
set_option maxHeartbeats 4000000 in
theorem sIsIsomorphism_law {vg vp vm : Value} {g pt : Gr} {m : Ma} {fg fp fm : List Nat} {w : World} (h : OwGr w vg g fg) (h' : OwGr w vp pt fp) (hm : OwMa w vm m fm) (ok : OkG g) (ok' : OkG pt) (okm : OkMa m) :
    Calls Try.prog 30 #[vg, vp, vm] w fun e w' => e = .returned (.tuple #[.bool (isIsoM g pt m).1, .bool (isIsoM g pt m).2]) ∧ Below w.heap.size w w' := by
  obtain ⟨R, hR⟩ : ∃ D, D = isIsoM g pt m := ⟨_, rfl⟩
  obtain ⟨T, hT⟩ : ∃ D, D = (monoB g && monoB pt) := ⟨_, rfl⟩
  have hno : T = false → R = (false, false) := fun hh => hR.trans (isIsoM_no (hT.symm.trans hh))
  have hye : T = true → R = (isoB g pt m, true) := fun hh => hR.trans (isIsoM_yes (hT.symm.trans hh))
  rw [← hR]
  have hgr : RdGr w vg g := h.rd
  have hpr : RdGr w vp pt := h'.rd
  have hg0 := hgr
  have hp0 := hpr
  have hm0 := hm
  obtain ⟨A, c, hs, ⟨B, b, s⟩, ⟨C, d, t⟩, rfl, e1, e2, e3, hE, hRa, hRb⟩ := hgr
  obtain ⟨A', c', hs', ⟨B', b', s'⟩, ⟨C', d', t'⟩, rfl, e1', e2', e3', hE', hRa', hRb'⟩ := hpr
  obtain ⟨⟨X, x, u⟩, ⟨Y, y, v⟩, rfl, e4, e5, hOw, _⟩ := hm
  have hU : RdI w X u := (hOw.rows (X, x, u) (List.mem_cons_self ..)).rd
  have hV : RdI w Y v := (hOw.rows (Y, y, v) (List.mem_cons_of_mem _ (List.mem_cons_self ..))).rd
  obtain ⟨u0, v0⟩ := m
  have a4 : u = u0 := e4
  have a5 : v = v0 := e5
  subst a4 a5
  obtain ⟨z, L, s0, t0⟩ := g
  obtain ⟨z', L', s0', t0'⟩ := pt
  have a2 : s = s0 := e2
  have a3 : t = t0 := e3
  have a2' : s' = s0' := e2'
  have a3' : t' = t0' := e3'
  subst a2 a3 a2' a3'
  have lu : u.length ≤ 1048576 := okm.1
  have lv : v.length ≤ 1048576 := okm.2.1
  have hLl : L.length = hs.length := by rw [show L = hs.map egOf from e1, List.length_map]
  have hLl' : L'.length = hs'.length := by rw [show L' = hs'.map egOf from e1', List.length_map]
  have hRs : RdI w B s := hRa
  have hRt : RdI w C t := hRb
  have hRs' : RdI w B' s' := hRa'
  have hRt' : RdI w C' t' := hRb'
  have hmb : T = true → monoB (z, L, s, t) = true ∧ monoB (z', L', s', t') = true := fun hh => by
    have := hT.symm.trans hh
    rw [Bool.and_eq_true] at this
    exact this
  show Calls Try.prog _ #[.agg #[.int .i64 z, .slice A hs.length c, .slice B s.length b, .slice C t.length d], .agg #[.int .i64 z', .slice A' hs'.length c', .slice B' s'.length b', .slice C' t'.length d'], .agg #[.slice X u.length x, .slice Y v.length y]] w _
  change OwMa w (.agg #[.slice X u.length x, .slice Y v.length y]) (u, v) fm at hm0
  change RdGr w (.agg #[.int .i64 z, .slice A hs.length c, .slice B s.length b, .slice C t.length d]) (z, L, s, t) at hg0
  change RdGr w (.agg #[.int .i64 z', .slice A' hs'.length c', .slice B' s'.length b', .slice C' t'.length d']) (z', L', s', t') at hp0
  obtain ⟨q, hq⟩ : ∃ p, p = hs.length := ⟨_, rfl⟩
  obtain ⟨q', hq'⟩ : ∃ p, p = hs'.length := ⟨_, rfl⟩
  obtain ⟨p, hp⟩ : ∃ p, p = s.length := ⟨_, rfl⟩
  obtain ⟨r, hr⟩ : ∃ p, p = t.length := ⟨_, rfl⟩
  obtain ⟨p', hp'⟩ : ∃ p, p = s'.length := ⟨_, rfl⟩
  obtain ⟨r', hr'⟩ : ∃ p, p = t'.length := ⟨_, rfl⟩
  obtain ⟨nu, hnu⟩ : ∃ p, p = u.length := ⟨_, rfl⟩
  obtain ⟨nv, hnv⟩ : ∃ p, p = v.length := ⟨_, rfl⟩
  rw [← hq, ← hp, ← hr] at hg0
  rw [← hq', ← hp', ← hr'] at hp0
  rw [← hnu, ← hnv] at hm0
  rw [← hq, ← hq', ← hp, ← hp', ← hr, ← hr', ← hnu, ← hnv]
  rw [← hq] at hLl
  rw [← hq'] at hLl'
  obtain ⟨W, hW, bW, k3, k4, k5⟩ := allocs3 w (.cells #[.int .i64 z, .slice A q c, .slice B p b, .slice C r d] tGr) (.cells #[.int .i64 z', .slice A' q' c', .slice B' p' b', .slice C' r' d'] tGr) (.cells #[.slice X nu x, .slice Y nv y] tMa)
  obtain ⟨I0, hI0⟩ : ∃ D, D = isoB (z, L, s, t) (z', L', s', t') (u, v) := ⟨_, rfl⟩
  rw [← hI0] at hye
  unfold isoB at hI0
  simp only [hLl, hLl'] at hI0
  rw [show decide (q = q') = decide ((q : Int) = (q' : Int)) from decide_eq_decide.2 Int.ofNat_inj.symm] at hI0
  have hM : T = true → ∀ (W' : World), Below w.heap.size w W' → Calls Try.prog 58 #[.agg #[.int .i64 z', .slice A' q' c', .slice B' p' b', .slice C' r' d'], .agg #[.int .i64 z, .slice A q c, .slice B p b, .slice C r d], .agg #[.slice X nu x, .slice Y nv y]] W' fun e w' => e = .returned (.bool (maB (z', L', s', t') (z, L, s, t) (u, v))) ∧ Below W'.heap.size W' w' := fun hh W' hb =>
    mtIs_any W' (hp0.below hb) (hg0.below hb) (hm0.below hb) (monoB_gr (hmb hh).2) (monoB_gr (hmb hh).1) okm
  obtain ⟨Q, hQ⟩ : ∃ D, D = maB (z', L', s', t') (z, L, s, t) (u, v) := ⟨_, rfl⟩
  simp only [← hQ] at hM
  obtain ⟨E1, hE1⟩ : ∃ D, D = decide (mapL u s = s') := ⟨_, rfl⟩
  obtain ⟨E2, hE2⟩ : ∃ D, D = decide (mapL u t = t') := ⟨_, rfl⟩
  have hI1 : I0 = ((decide (z = z') && decide ((q : Int) = (q' : Int))) && (Q && (E1 && E2))) := by rw [hI0, hQ, hE1, hE2]
  have hmu : T = true → Q = true → (∀ y, y ∈ s → 0 ≤ y ∧ y < (nu : Int)) ∧ ∀ y, y ∈ t → 0 ≤ y ∧ y < (nu : Int) := fun hh hhq => by
    obtain ⟨n, g1, _, _, _, _, hin⟩ := grB_parts (monoB_gr (hmb hh).1)
    have hqq := hQ.symm.trans hhq
    unfold maB at hqq
    simp only [Bool.and_eq_true, decide_eq_true_eq] at hqq
    have h3 : (u.length : Int) = z := hqq.1.1
    have h4 : z = (n : Int) := g1
    have hi2 : inW (n : Int) (s ++ (t ++ edW L)) = true := hin
    rw [hnu, h3, h4]
    exact ⟨inW_iff.1 (inW_app_left hi2), inW_iff.1 (inW_app_left (inW_app_right hi2))⟩
  have hsz : T = true → s.length ≤ 12 ∧ t.length ≤ 12 ∧ s'.length ≤ 12 ∧ t'.length ≤ 12 := fun hh => by
    obtain ⟨_, _, _, _, a1, a2, _⟩ := grB_parts (monoB_gr (hmb hh).1)
    obtain ⟨_, _, _, _, b1, b2, _⟩ := grB_parts (monoB_gr (hmb hh).2)
    exact ⟨a1, a2, b1, b2⟩
  have hCa : T = true → Q = true → ∀ (W' : World), Below w.heap.size w W' → _ := fun hh hhq W' hb => hgList_any B X b x p nu s u W' (hRs.below hb) (hU.below hb) hp.symm hnu.symm (hmu hh hhq).1 (by have := hsz hh; omega)
  have hCb : T = true → Q = true → ∀ (W' : World), Below w.heap.size w W' → _ := fun hh hhq W' hb => hgList_any C X d x r nu t u W' (hRt.below hb) (hU.below hb) hr.symm hnu.symm (hmu hh hhq).2 (by have := hsz hh; omega)
  have hS1 : T = true → ∀ (A2 : Option Addr) (c2 : Nat) (W' : World) (_ : RdI W' A2 (mapL u s)) (_ : Below w.heap.size w W'), _ := fun hh A2 c2 W' hi hb => l1Same_any A2 B' c2 b' p p' (mapL u s) s' W' hi (hRs'.below hb) ((mapL_length _ _).trans hp.symm) hp'.symm (by have := hsz hh; omega) (by have := hsz hh; omega)
  have hS2 : T = true → ∀ (A2 : Option Addr) (c2 : Nat) (W' : World) (_ : RdI W' A2 (mapL u t)) (_ : Below w.heap.size w W'), _ := fun hh A2 c2 W' hi hb => l1Same_any A2 C' c2 d' r r' (mapL u t) t' W' hi (hRt'.below hb) ((mapL_length _ _).trans hr.symm) hr'.symm (by have := hsz hh; omega) (by have := hsz hh; omega)
  simp only [← hE1] at hS1
  simp only [← hE2] at hS2
  have hG := mtTwo_any W (hg0.below bW) (hp0.below bW) ok ok'
  rw [← hT] at hG
  obtain ⟨⟨c0, c1, c2, c3⟩, c4, c5, c6, c7⟩ := box4 k3
  obtain ⟨⟨d0, d1, d2, d3⟩, d4, d5, d6, d7⟩ := box4 k4
  obtain ⟨⟨i0, i1⟩, i2, i3⟩ := box2 k5
  clear h h' hg0 hp0 hm0 hOw hRs hRt hRs' hRt' hE hE' hRa hRb hRa' hRb' e1 e2 e3 e1' e2' e3' e4 e5 ok ok' okm hR hT hQ hmb hmu hsz hLl hLl' lu lv hI0 hE1 hE2 hU hV hq hq' hp hp' hr hr' hnu hnv
  have bW_h := Lib.hid bW
  have k3_h := Lib.hid k3
  have k4_h := Lib.hid k4
  have k5_h := Lib.hid k5
  have hG_h := Lib.hid hG
  have hM_h := Lib.hid hM
  have hno_h := Lib.hid hno
  have hye_h := Lib.hid hye
  have hI1_h := Lib.hid hI1
  have hCa_h := Lib.hid hCa
  have hCb_h := Lib.hid hCb
  have hS1_h := Lib.hid hS1
  have hS2_h := Lib.hid hS2
  clear bW k3 k4 k5 hG hM hno hye hI1 hCa hCb hS1 hS2
  go_enter Try.func30, Try.ntmps30
  go_upto_region 1 with (fail)
  rw [← hW]
  clear hW
  go_wp2_with (fail)
  refine (hG_h.out).mono ?_
  rintro e w1 ⟨rfl, hb1⟩
  have k3a := box_below k3_h.out hb1
  have k4a := box_below k4_h.out hb1
  have k5a := box_below k5_h.out hb1
  have hB1 := below_trans bW_h.out hb1 bW_h.out.size
  clear c0 c1 c2 c3 c4 c5 c6 c7 d0 d1 d2 d3 d4 d5 d6 d7 i0 i1 i2 i3 hb1
  obtain ⟨⟨c0, c1, c2, c3⟩, c4, c5, c6, c7⟩ := box4 k3a
  obtain ⟨⟨d0, d1, d2, d3⟩, d4, d5, d6, d7⟩ := box4 k4a
  obtain ⟨⟨i0, i1⟩, i2, i3⟩ := box2 k5a
  have hB1_h := Lib.hid hB1
  have k3a_h := Lib.hid k3a
  have k4a_h := Lib.hid k4a
  have k5a_h := Lib.hid k5a
  clear hB1 k3a k4a k5a
  cases T
  case false =>
    have hR0 := hno_h.out rfl
    have hR0_h := Lib.hid hR0
    clear hR0
    go_wp2_with (fail)
    go_ret2
    rw [hR0_h.out]
    exact ⟨rfl, hB1_h.out⟩
  have hR1 := hye_h.out rfl
  have hMq := hM_h.out rfl w1 hB1_h.out
  have hR1_h := Lib.hid hR1
  have hMq_h := Lib.hid hMq
  clear hR1 hMq
  by_cases hz : z = z'
  case neg =>
    have hbz : (z != z') = true := by rw [bne_iff_ne]; exact hz
    have hf : I0 = false := by rw [hI1_h.out, decide_eq_false hz]; rfl
    rw [hf] at hR1_h
    go_wp2_with (fail)
    go_ret2
    rw [hR1_h.out]
    exact ⟨rfl, hB1_h.out⟩
  have hbz : (z != z') = false := by rw [hz]; simp
  by_cases hqq : (q : Int) = (q' : Int)
  case neg =>
    have hf : I0 = false := by rw [hI1_h.out, decide_eq_false hqq, Bool.and_false]; rfl
    rw [hf] at hR1_h
    go_wp2_with (fail)
    go_ret2
    rw [hR1_h.out]
    exact ⟨rfl, hB1_h.out⟩
  have hI2 : I0 = (Q && (E1 && E2)) := by rw [hI1_h.out, decide_eq_true hz, decide_eq_true hqq]; rfl
  have hz_h := Lib.hid hz
  clear hz
  have hI2_h := Lib.hid hI2
  clear hI2
  go_wp2_with (fail)
  refine (hMq_h.out).mono ?_
  rintro e w2 ⟨rfl, hb2⟩
  have k3b := box_below k3a_h.out hb2
  have k4b := box_below k4a_h.out hb2
  have k5b := box_below k5a_h.out hb2
  have hB2 := below_trans hB1_h.out hb2 hB1_h.out.size
  clear c0 c1 c2 c3 c4 c5 c6 c7 d0 d1 d2 d3 d4 d5 d6 d7 i0 i1 i2 i3 hb2
  have hB2_h := Lib.hid hB2
  have k3b_h := Lib.hid k3b
  have k4b_h := Lib.hid k4b
  have k5b_h := Lib.hid k5b
  clear hB2 k3b k4b k5b
  cases Q
  case false =>
    have hf : I0 = false := hI2_h.out
    rw [hf] at hR1_h
    go_wp2_with (fail)
    go_ret2
    rw [hR1_h.out]
    exact ⟨rfl, hB2_h.out⟩
  have hI3 : I0 = (E1 && E2) := hI2_h.out.trans (Bool.true_and _)
  have hI3_h := Lib.hid hI3
  clear hI3
  go_upto_region 5 with (fail)
  go_cut [6, 7] (fun sv tv wx => sv = .bool (E1 && E2) ∧ tv = .bool true ∧ Below w.heap.size w wx)
  case first =>
    refine beginH (fun w' => Below w2.heap.size w2 w') (by kernel_rfl) ?_
    have hbd : Below w2.heap.size w2 w2.drew := below_drew (Below.refl _ _)
    generalize w2.drew = W8 at hbd ⊢
    have hBd := below_trans hB2_h.out hbd hB2_h.out.size
    have hbd_h := Lib.hid hbd
    have hBd_h := Lib.hid hBd
    clear hbd hBd
    refine takeH 0 (v := ?_) rfl (by kernel_rfl) (by kernel_rfl) (by kernel_rfl) (fun _ _ _ h => h) hbd_h.out (by rfl) (fun W' hW' => ?_) ?_; rotate_left; · (have j0 := box_below k3b_h.out hW'; obtain ⟨⟨a0, a1, a2, a3⟩, a4, a5, a6, a7⟩ := box4 j0; have j1 := box_below k5b_h.out hW'; obtain ⟨⟨e0, e1⟩, e2, e3⟩ := box2 j1; have j2 := box_below k4b_h.out hW'; obtain ⟨⟨g0, g1, g2, g3⟩, g4, g5, g6, g7⟩ := box4 j2; clear hW'; go_simp; first | done | with_reducible rfl)
    simp only [Act.put, List.setIfInBounds_toArray, List.set_cons_zero, List.set_cons_succ]
    refine takeH 1 (v := ?_) rfl (by kernel_rfl) (by kernel_rfl) (by kernel_rfl) (fun _ _ _ h => h) hbd_h.out (by rfl) (fun W' hW' => ?_) ?_; rotate_left; · (have j0 := box_below k3b_h.out hW'; obtain ⟨⟨a0, a1, a2, a3⟩, a4, a5, a6, a7⟩ := box4 j0; have j1 := box_below k5b_h.out hW'; obtain ⟨⟨e0, e1⟩, e2, e3⟩ := box2 j1; have j2 := box_below k4b_h.out hW'; obtain ⟨⟨g0, g1, g2, g3⟩, g4, g5, g6, g7⟩ := box4 j2; clear hW'; go_simp; first | done | with_reducible rfl)
    simp only [Act.put, List.setIfInBounds_toArray, List.set_cons_zero, List.set_cons_succ]
    refine takeH 2 (v := ?_) rfl (by kernel_rfl) (by kernel_rfl) (by kernel_rfl) (fun _ _ _ h => h) hbd_h.out (by rfl) (fun W' hW' => ?_) ?_; rotate_left; · (have j0 := box_below k3b_h.out hW'; obtain ⟨⟨a0, a1, a2, a3⟩, a4, a5, a6, a7⟩ := box4 j0; have j1 := box_below k5b_h.out hW'; obtain ⟨⟨e0, e1⟩, e2, e3⟩ := box2 j1; have j2 := box_below k4b_h.out hW'; obtain ⟨⟨g0, g1, g2, g3⟩, g4, g5, g6, g7⟩ := box4 j2; clear hW'; go_simp; first | done | with_reducible rfl)
    simp only [Act.put, List.setIfInBounds_toArray, List.set_cons_zero, List.set_cons_succ]
    refine takeH 3 (v := ?_) rfl (by kernel_rfl) (by kernel_rfl) (by kernel_rfl) (fun _ _ _ h => h) hbd_h.out (by rfl) (fun W' hW' => ?_) ?_; rotate_left; · (have j0 := box_below k3b_h.out hW'; obtain ⟨⟨a0, a1, a2, a3⟩, a4, a5, a6, a7⟩ := box4 j0; have j1 := box_below k5b_h.out hW'; obtain ⟨⟨e0, e1⟩, e2, e3⟩ := box2 j1; have j2 := box_below k4b_h.out hW'; obtain ⟨⟨g0, g1, g2, g3⟩, g4, g5, g6, g7⟩ := box4 j2; clear hW'; go_simp; first | done | with_reducible rfl)
    simp only [Act.put, List.setIfInBounds_toArray, List.set_cons_zero, List.set_cons_succ]
    refine takeH 5 (v := ?_) rfl (by kernel_rfl) (by kernel_rfl) (by kernel_rfl) (fun _ _ _ h => h) hbd_h.out (by rfl) (fun W' hW' => ?_) ?_; rotate_left; · (have j0 := box_below k3b_h.out hW'; obtain ⟨⟨a0, a1, a2, a3⟩, a4, a5, a6, a7⟩ := box4 j0; have j1 := box_below k5b_h.out hW'; obtain ⟨⟨e0, e1⟩, e2, e3⟩ := box2 j1; have j2 := box_below k4b_h.out hW'; obtain ⟨⟨g0, g1, g2, g3⟩, g4, g5, g6, g7⟩ := box4 j2; clear hW'; go_simp; first | done | with_reducible rfl)
    simp only [Act.put, List.setIfInBounds_toArray, List.set_cons_zero, List.set_cons_succ]
    refine takeH 6 (v := ?_) rfl (by kernel_rfl) (by kernel_rfl) (by kernel_rfl) (fun _ _ _ h => h) hbd_h.out (by rfl) (fun W' hW' => ?_) ?_; rotate_left; · (have j0 := box_below k3b_h.out hW'; obtain ⟨⟨a0, a1, a2, a3⟩, a4, a5, a6, a7⟩ := box4 j0; have j1 := box_below k5b_h.out hW'; obtain ⟨⟨e0, e1⟩, e2, e3⟩ := box2 j1; have j2 := box_below k4b_h.out hW'; obtain ⟨⟨g0, g1, g2, g3⟩, g4, g5, g6, g7⟩ := box4 j2; clear hW'; go_simp; first | done | with_reducible rfl)
    simp only [Act.put, List.setIfInBounds_toArray, List.set_cons_zero, List.set_cons_succ]
    refine' callH 4 (f := _) (args := _) rfl (by kernel_rfl) (by rfl) ?_ ?_; rotate_left 2; · (go_simp; first | done | with_reducible rfl | (constructor <;> with_reducible rfl))
    refine ((hCa_h.out (by trivial) (by trivial) _ hBd_h.out)).mono ?_
    rintro e w9 ⟨A2, c2', rfl, hO2⟩
    have hB9 := below_trans hbd_h.out hO2.below_ hbd_h.out.size
    have hi9 := hO2.is.rd
    clear hO2
    have hB9_h := Lib.hid hB9
    have hi9_h := Lib.hid hi9
    clear hB9 hi9
    refine ⟨_, rfl, hB9_h.out, ?_⟩
    simp only [Act.put, List.setIfInBounds_toArray, List.set_cons_zero, List.set_cons_succ]
    refine' callH 7 (f := _) (args := _) rfl (by kernel_rfl) (by rfl) ?_ ?_; rotate_left 2; · (go_simp; first | done | with_reducible rfl | (constructor <;> with_reducible rfl))
    refine ((hS1_h.out trivial A2 c2' w9 hi9_h.out (below_trans hB2_h.out hB9_h.out hB2_h.out.size))).mono ?_
    rintro e w10 ⟨rfl, hb10⟩
    have hB10 := below_trans hB9_h.out hb10 hB9_h.out.size
    clear hb10
    have hB10_h := Lib.hid hB10
    clear hB10
    refine ⟨_, rfl, hB10_h.out, ?_⟩
    simp only [Act.put, List.setIfInBounds_toArray, List.set_cons_zero, List.set_cons_succ]
    refine takeH 8 (v := ?_) rfl (by kernel_rfl) (by kernel_rfl) (by kernel_rfl) (fun _ _ _ h => h) hB10_h.out (by rfl) (fun W' hW' => ?_) ?_; rotate_left; · (skip; clear hW'; go_simp; first | done | with_reducible rfl)
    simp only [Act.put, List.setIfInBounds_toArray, List.set_cons_zero, List.set_cons_succ]
    cases E1
    case false =>
      refine offH 9 rfl (by kernel_rfl) (by kernel_rfl) (by kernel_rfl) (fun _ _ _ h => h) hB10_h.out (by rfl) ?_
      simp only [Act.put, List.setIfInBounds_toArray, List.set_cons_zero, List.set_cons_succ]
      refine offH 10 rfl (by kernel_rfl) (by kernel_rfl) (by kernel_rfl) (fun _ _ _ h => h) hB10_h.out (by rfl) ?_
      simp only [Act.put, List.setIfInBounds_toArray, List.set_cons_zero, List.set_cons_succ]
      refine offH 11 rfl (by kernel_rfl) (by kernel_rfl) (by kernel_rfl) (fun _ _ _ h => h) hB10_h.out (by rfl) ?_
      simp only [Act.put, List.setIfInBounds_toArray, List.set_cons_zero, List.set_cons_succ]
      refine offH 12 rfl (by kernel_rfl) (by kernel_rfl) (by kernel_rfl) (fun _ _ _ h => h) hB10_h.out (by rfl) ?_
      simp only [Act.put, List.setIfInBounds_toArray, List.set_cons_zero, List.set_cons_succ]
      refine offH 14 rfl (by kernel_rfl) (by kernel_rfl) (by kernel_rfl) (fun _ _ _ h => h) hB10_h.out (by rfl) ?_
      simp only [Act.put, List.setIfInBounds_toArray, List.set_cons_zero, List.set_cons_succ]
      refine offH 15 rfl (by kernel_rfl) (by kernel_rfl) (by kernel_rfl) (fun _ _ _ h => h) hB10_h.out (by rfl) ?_
      simp only [Act.put, List.setIfInBounds_toArray, List.set_cons_zero, List.set_cons_succ]
      refine offOneH 13 rfl (by kernel_rfl) (by rfl) hB10_h.out ?_
      simp only [Act.put, List.setIfInBounds_toArray, List.set_cons_zero, List.set_cons_succ]
      refine offOneH 16 rfl (by kernel_rfl) (by rfl) hB10_h.out ?_
      simp only [Act.put, List.setIfInBounds_toArray, List.set_cons_zero, List.set_cons_succ]
      refine takeH 17 (v := ?_) rfl (by kernel_rfl) (by kernel_rfl) (by kernel_rfl) (fun _ _ _ h => h) hB10_h.out (by rfl) (fun W' hW' => ?_) ?_; rotate_left; · (skip; clear hW'; go_simp; first | done | with_reducible rfl)
      simp only [Act.put, List.setIfInBounds_toArray, List.set_cons_zero, List.set_cons_succ]
      refine takeH 18 (v := ?_) rfl (by kernel_rfl) (by kernel_rfl) (by kernel_rfl) (fun _ _ _ h => h) hB10_h.out (by rfl) (fun W' hW' => ?_) ?_; rotate_left; · (skip; clear hW'; go_simp; first | done | with_reducible rfl)
      simp only [Act.put, List.setIfInBounds_toArray, List.set_cons_zero, List.set_cons_succ]
      refine takeH 19 (v := ?_) rfl (by kernel_rfl) (by kernel_rfl) (by kernel_rfl) (fun _ _ _ h => h) hB10_h.out (by rfl) (fun W' hW' => ?_) ?_; rotate_left; · (skip; clear hW'; go_simp; first | done | with_reducible rfl)
      simp only [Act.put, List.setIfInBounds_toArray, List.set_cons_zero, List.set_cons_succ]
      refine doneH (by kernel_rfl) ?_
      go_wp2_with (fail)
      go_meet
      exact ⟨rfl, rfl, below_trans hB2_h.out hB10_h.out hB2_h.out.size⟩
    case true =>
      refine takeH 9 (v := ?_) rfl (by kernel_rfl) (by kernel_rfl) (by kernel_rfl) (fun _ _ _ h => h) hB10_h.out (by rfl) (fun W' hW' => ?_) ?_; rotate_left; · (have j0 := box_below k3b_h.out hW'; obtain ⟨⟨a0, a1, a2, a3⟩, a4, a5, a6, a7⟩ := box4 j0; have j1 := box_below k5b_h.out hW'; obtain ⟨⟨e0, e1⟩, e2, e3⟩ := box2 j1; have j2 := box_below k4b_h.out hW'; obtain ⟨⟨g0, g1, g2, g3⟩, g4, g5, g6, g7⟩ := box4 j2; clear hW'; go_simp; first | done | with_reducible rfl)
      simp only [Act.put, List.setIfInBounds_toArray, List.set_cons_zero, List.set_cons_succ]
      refine takeH 10 (v := ?_) rfl (by kernel_rfl) (by kernel_rfl) (by kernel_rfl) (fun _ _ _ h => h) hB10_h.out (by rfl) (fun W' hW' => ?_) ?_; rotate_left; · (have j0 := box_below k3b_h.out hW'; obtain ⟨⟨a0, a1, a2, a3⟩, a4, a5, a6, a7⟩ := box4 j0; have j1 := box_below k5b_h.out hW'; obtain ⟨⟨e0, e1⟩, e2, e3⟩ := box2 j1; have j2 := box_below k4b_h.out hW'; obtain ⟨⟨g0, g1, g2, g3⟩, g4, g5, g6, g7⟩ := box4 j2; clear hW'; go_simp; first | done | with_reducible rfl)
      simp only [Act.put, List.setIfInBounds_toArray, List.set_cons_zero, List.set_cons_succ]
      refine takeH 11 (v := ?_) rfl (by kernel_rfl) (by kernel_rfl) (by kernel_rfl) (fun _ _ _ h => h) hB10_h.out (by rfl) (fun W' hW' => ?_) ?_; rotate_left; · (have j0 := box_below k3b_h.out hW'; obtain ⟨⟨a0, a1, a2, a3⟩, a4, a5, a6, a7⟩ := box4 j0; have j1 := box_below k5b_h.out hW'; obtain ⟨⟨e0, e1⟩, e2, e3⟩ := box2 j1; have j2 := box_below k4b_h.out hW'; obtain ⟨⟨g0, g1, g2, g3⟩, g4, g5, g6, g7⟩ := box4 j2; clear hW'; go_simp; first | done | with_reducible rfl)
      simp only [Act.put, List.setIfInBounds_toArray, List.set_cons_zero, List.set_cons_succ]
      refine takeH 12 (v := ?_) rfl (by kernel_rfl) (by kernel_rfl) (by kernel_rfl) (fun _ _ _ h => h) hB10_h.out (by rfl) (fun W' hW' => ?_) ?_; rotate_left; · (have j0 := box_below k3b_h.out hW'; obtain ⟨⟨a0, a1, a2, a3⟩, a4, a5, a6, a7⟩ := box4 j0; have j1 := box_below k5b_h.out hW'; obtain ⟨⟨e0, e1⟩, e2, e3⟩ := box2 j1; have j2 := box_below k4b_h.out hW'; obtain ⟨⟨g0, g1, g2, g3⟩, g4, g5, g6, g7⟩ := box4 j2; clear hW'; go_simp; first | done | with_reducible rfl)
      simp only [Act.put, List.setIfInBounds_toArray, List.set_cons_zero, List.set_cons_succ]
      refine takeH 14 (v := ?_) rfl (by kernel_rfl) (by kernel_rfl) (by kernel_rfl) (fun _ _ _ h => h) hB10_h.out (by rfl) (fun W' hW' => ?_) ?_; rotate_left; · (have j0 := box_below k3b_h.out hW'; obtain ⟨⟨a0, a1, a2, a3⟩, a4, a5, a6, a7⟩ := box4 j0; have j1 := box_below k5b_h.out hW'; obtain ⟨⟨e0, e1⟩, e2, e3⟩ := box2 j1; have j2 := box_below k4b_h.out hW'; obtain ⟨⟨g0, g1, g2, g3⟩, g4, g5, g6, g7⟩ := box4 j2; clear hW'; go_simp; first | done | with_reducible rfl)
      simp only [Act.put, List.setIfInBounds_toArray, List.set_cons_zero, List.set_cons_succ]
      refine takeH 15 (v := ?_) rfl (by kernel_rfl) (by kernel_rfl) (by kernel_rfl) (fun _ _ _ h => h) hB10_h.out (by rfl) (fun W' hW' => ?_) ?_; rotate_left; · (have j0 := box_below k3b_h.out hW'; obtain ⟨⟨a0, a1, a2, a3⟩, a4, a5, a6, a7⟩ := box4 j0; have j1 := box_below k5b_h.out hW'; obtain ⟨⟨e0, e1⟩, e2, e3⟩ := box2 j1; have j2 := box_below k4b_h.out hW'; obtain ⟨⟨g0, g1, g2, g3⟩, g4, g5, g6, g7⟩ := box4 j2; clear hW'; go_simp; first | done | with_reducible rfl)
      simp only [Act.put, List.setIfInBounds_toArray, List.set_cons_zero, List.set_cons_succ]
      refine' callH 13 (f := _) (args := _) rfl (by kernel_rfl) (by rfl) ?_ ?_; rotate_left 2; · (go_simp; first | done | with_reducible rfl | (constructor <;> with_reducible rfl))
      refine ((hCb_h.out (by trivial) (by trivial) _ (below_trans hB2_h.out hB10_h.out hB2_h.out.size))).mono ?_
      rintro e w11 ⟨A3, c3', rfl, hO3⟩
      have hB11 := below_trans hB10_h.out hO3.below_ hB10_h.out.size
      have hi11 := hO3.is.rd
      clear hO3
      have hB11_h := Lib.hid hB11
      have hi11_h := Lib.hid hi11
      clear hB11 hi11
      refine ⟨_, rfl, hB11_h.out, ?_⟩
      simp only [Act.put, List.setIfInBounds_toArray, List.set_cons_zero, List.set_cons_succ]
      refine' callH 16 (f := _) (args := _) rfl (by kernel_rfl) (by rfl) ?_ ?_; rotate_left 2; · (go_simp; first | done | with_reducible rfl | (constructor <;> with_reducible rfl))
      refine ((hS2_h.out trivial A3 c3' w11 hi11_h.out (below_trans hB2_h.out hB11_h.out hB2_h.out.size))).mono ?_
      rintro e w12 ⟨rfl, hb12⟩
      have hB12 := below_trans hB11_h.out hb12 hB11_h.out.size
      clear hb12
      have hB12_h := Lib.hid hB12
      clear hB12
      refine ⟨_, rfl, hB12_h.out, ?_⟩
      simp only [Act.put, List.setIfInBounds_toArray, List.set_cons_zero, List.set_cons_succ]
      refine takeH 17 (v := ?_) rfl (by kernel_rfl) (by kernel_rfl) (by kernel_rfl) (fun _ _ _ h => h) hB12_h.out (by rfl) (fun W' hW' => ?_) ?_; rotate_left; · (skip; clear hW'; go_simp; first | done | with_reducible rfl)
      simp only [Act.put, List.setIfInBounds_toArray, List.set_cons_zero, List.set_cons_succ]
      refine takeH 18 (v := ?_) rfl (by kernel_rfl) (by kernel_rfl) (by kernel_rfl) (fun _ _ _ h => h) hB12_h.out (by rfl) (fun W' hW' => ?_) ?_; rotate_left; · (skip; clear hW'; go_simp; first | done | with_reducible rfl)
      simp only [Act.put, List.setIfInBounds_toArray, List.set_cons_zero, List.set_cons_succ]
      refine takeH 19 (v := ?_) rfl (by kernel_rfl) (by kernel_rfl) (by kernel_rfl) (fun _ _ _ h => h) hB12_h.out (by rfl) (fun W' hW' => ?_) ?_; rotate_left; · (skip; clear hW'; go_simp; first | done | with_reducible rfl)
      simp only [Act.put, List.setIfInBounds_toArray, List.set_cons_zero, List.set_cons_succ]
      refine doneH (by kernel_rfl) ?_
      go_wp2_with (fail)
      go_meet
      exact ⟨rfl, rfl, below_trans hB2_h.out hB12_h.out hB2_h.out.size⟩
  case rest =>
    obtain ⟨rfl, rfl, hBe⟩ := hcut
    rw [hI3_h.out] at hR1_h
    have hBe_h := Lib.hid hBe
    clear hBe
    go_wp2_with (fail)
    go_ret2
    rw [hR1_h.out]
    exact ⟨rfl, hBe_h.out⟩
set_option maxRecDepth 100000 in
set_option maxHeartbeats 4000000 in
theorem iIsIsomorphism_law {vg vp vm : Value} {g pt : Gr} {m : Ma} {fg fp fm : List Nat} {w : World} (h : OwGr w vg g fg) (h' : OwGr w vp pt fp) (hm : OwMa w vm m fm) (ok : OkG g) (ok' : OkG pt) (okm : OkMa m) :
    Calls Try.prog 31 #[vg, vp, vm] w fun e w' => e = .returned (.tuple #[.bool (isIsoM g pt m).1, .bool (isIsoM g pt m).2]) ∧ Below w.heap.size w w' := by
  obtain ⟨R, hR⟩ : ∃ D, D = isIsoM g pt m := ⟨_, rfl⟩
  obtain ⟨T, hT⟩ : ∃ D, D = (monoB g && monoB pt) := ⟨_, rfl⟩
  have hno : T = false → R = (false, false) := fun hh => hR.trans (isIsoM_no (hT.symm.trans hh))
  have hye : T = true → R = (isoB g pt m, true) := fun hh => hR.trans (isIsoM_yes (hT.symm.trans hh))
  rw [← hR]
  have hgr : RdGr w vg g := h.rd
  have hpr : RdGr w vp pt := h'.rd
  have hg0 := hgr
  have hp0 := hpr
  have hm0 := hm
  obtain ⟨A, c, hs, ⟨B, b, s⟩, ⟨C, d, t⟩, rfl, e1, e2, e3, hE, hRa, hRb⟩ := hgr
  obtain ⟨A', c', hs', ⟨B', b', s'⟩, ⟨C', d', t'⟩, rfl, e1', e2', e3', hE', hRa', hRb'⟩ := hpr
  obtain ⟨⟨X, x, u⟩, ⟨Y, y, v⟩, rfl, e4, e5, hOw, _⟩ := hm
  have hU : RdI w X u := (hOw.rows (X, x, u) (List.mem_cons_self ..)).rd
  have hV : RdI w Y v := (hOw.rows (Y, y, v) (List.mem_cons_of_mem _ (List.mem_cons_self ..))).rd
  obtain ⟨u0, v0⟩ := m
  have a4 : u = u0 := e4
  have a5 : v = v0 := e5
  subst a4 a5
  obtain ⟨z, L, s0, t0⟩ := g
  obtain ⟨z', L', s0', t0'⟩ := pt
  have a2 : s = s0 := e2
  have a3 : t = t0 := e3
  have a2' : s' = s0' := e2'
  have a3' : t' = t0' := e3'
  subst a2 a3 a2' a3'
  have lu : u.length ≤ 1048576 := okm.1
  have lv : v.length ≤ 1048576 := okm.2.1
  have hLl : L.length = hs.length := by rw [show L = hs.map egOf from e1, List.length_map]
  have hLl' : L'.length = hs'.length := by rw [show L' = hs'.map egOf from e1', List.length_map]
  have hRs : RdI w B s := hRa
  have hRt : RdI w C t := hRb
  have hRs' : RdI w B' s' := hRa'
  have hRt' : RdI w C' t' := hRb'
  have hmb : T = true → monoB (z, L, s, t) = true ∧ monoB (z', L', s', t') = true := fun hh => by
    have := hT.symm.trans hh
    rw [Bool.and_eq_true] at this
    exact this
  show Calls Try.prog _ #[.agg #[.int .i64 z, .slice A hs.length c, .slice B s.length b, .slice C t.length d], .agg #[.int .i64 z', .slice A' hs'.length c', .slice B' s'.length b', .slice C' t'.length d'], .agg #[.slice X u.length x, .slice Y v.length y]] w _
  change OwMa w (.agg #[.slice X u.length x, .slice Y v.length y]) (u, v) fm at hm0
  change RdGr w (.agg #[.int .i64 z, .slice A hs.length c, .slice B s.length b, .slice C t.length d]) (z, L, s, t) at hg0
  change RdGr w (.agg #[.int .i64 z', .slice A' hs'.length c', .slice B' s'.length b', .slice C' t'.length d']) (z', L', s', t') at hp0
  obtain ⟨q, hq⟩ : ∃ p, p = hs.length := ⟨_, rfl⟩
  obtain ⟨q', hq'⟩ : ∃ p, p = hs'.length := ⟨_, rfl⟩
  obtain ⟨p, hp⟩ : ∃ p, p = s.length := ⟨_, rfl⟩
  obtain ⟨r, hr⟩ : ∃ p, p = t.length := ⟨_, rfl⟩
  obtain ⟨p', hp'⟩ : ∃ p, p = s'.length := ⟨_, rfl⟩
  obtain ⟨r', hr'⟩ : ∃ p, p = t'.length := ⟨_, rfl⟩
  obtain ⟨nu, hnu⟩ : ∃ p, p = u.length := ⟨_, rfl⟩
  obtain ⟨nv, hnv⟩ : ∃ p, p = v.length := ⟨_, rfl⟩
  rw [← hq, ← hp, ← hr] at hg0
  rw [← hq', ← hp', ← hr'] at hp0
  rw [← hnu, ← hnv] at hm0
  rw [← hq, ← hq', ← hp, ← hp', ← hr, ← hr', ← hnu, ← hnv]
  rw [← hq] at hLl
  rw [← hq'] at hLl'
  obtain ⟨W, hW, bW, k3, k4, k5⟩ := allocs3 w (.cells #[.int .i64 z, .slice A q c, .slice B p b, .slice C r d] tGr) (.cells #[.int .i64 z', .slice A' q' c', .slice B' p' b', .slice C' r' d'] tGr) (.cells #[.slice X nu x, .slice Y nv y] tMa)
  obtain ⟨I0, hI0⟩ : ∃ D, D = isoB (z, L, s, t) (z', L', s', t') (u, v) := ⟨_, rfl⟩
  rw [← hI0] at hye
  unfold isoB at hI0
  simp only [hLl, hLl'] at hI0
  rw [show decide (q = q') = decide ((q : Int) = (q' : Int)) from decide_eq_decide.2 Int.ofNat_inj.symm] at hI0
  have hG1 := isMonogamous_any W (hg0.below bW) ok
  have hG2 := fun (W' : World) (hb : Below W.heap.size W W') => isMonogamous_any W' ((hp0.below bW).below hb) ok'
  obtain ⟨T1, hT1⟩ : ∃ D, D = monoB (z, L, s, t) := ⟨_, rfl⟩
  obtain ⟨T2, hT2⟩ : ∃ D, D = monoB (z', L', s', t') := ⟨_, rfl⟩
  rw [← hT1] at hG1
  simp only [← hT2] at hG2
  have hTT : T = (T1 && T2) := by rw [hT, hT1, hT2]
  obtain ⟨P1, hP1⟩ : ∃ D, D = prmN z u := ⟨_, rfl⟩
  obtain ⟨P2, hP2⟩ : ∃ D, D = prmN (q : Int) v := ⟨_, rfl⟩
  obtain ⟨E0, hE0⟩ : ∃ D, D = decide (renG (z, L, s, t) u v = (z', L', s', t')) := ⟨_, rfl⟩
  have hI1 : T = true → I0 = ((decide (z = z') && decide ((q : Int) = (q' : Int))) && (P1 && (P2 && E0))) := fun hh => by
    by_cases hz : z = z'
    case neg => rw [hI0, decide_eq_false hz]; rfl
    by_cases hqq : (q : Int) = (q' : Int)
    case neg => rw [hI0, decide_eq_false hqq, Bool.and_false]; rfl
    rw [hI0, decide_eq_true hz, decide_eq_true hqq]
    obtain ⟨n, g1, _⟩ := grB_parts (monoB_gr (hmb hh).1)
    have := iso_eq (a := (z, L, s, t)) (b := (z', L', s', t')) (m := (u, v)) (n := n) g1 hz (by show L.length = L'.length; omega)
    simp only [hLl] at this
    rw [hP1, hP2, hE0]
    simp only [Bool.and_self, Bool.true_and]
    exact this.symm
  have hPa := fun (W' : World) (hb : Below w.heap.size w W') => isPermN_any X x z u W' (hU.below hb) lu
  have hPb := fun (W' : World) (hb : Below w.heap.size w W') => isPermN_any Y y (q : Int) v W' (hV.below hb) lv
  simp only [← hnu, ← hP1] at hPa
  simp only [← hnv, ← hP2] at hPb
  have hRn : T = true → P1 = true → P2 = true → ∀ (W' : World), Below w.heap.size w W' → Calls Try.prog 55 #[.agg #[.int .i64 z, .slice A q c, .slice B p b, .slice C r d], .slice X nu x, .slice Y nv y] W' fun e w' => ∃ v' fp, e = .returned v' ∧ OwGr w' v' (renG (z, L, s, t) u v) fp ∧ FreshL W'.heap.size fp ∧ Below W'.heap.size W' w' := fun hh b2 b3 W' hb => by
    obtain ⟨n, g1, g2, g3, _, _, g6⟩ := grB_parts (monoB_gr (hmb hh).1)
    obtain ⟨p1, p2⟩ := prmN_parts (hP1.symm.trans b2)
    obtain ⟨p3, p4⟩ := prmN_parts (hP2.symm.trans b3)
    have g1' : z = (n : Int) := g1
    have hwn : u.length = n := by omega
    have hen : v.length = q := by omega
    have hr := renumbered_any W' n q X x u Y y v (hg0.below hb) ok (hU.below hb) (hV.below hb) g1 hLl hwn hen g6 p4 (by have : L.length ≤ 60 := g3; omega)
    rw [hnu, hnv, hwn, hen]
    exact hr
  have hEq : T = true → P2 = true → ∀ (v1 : Value) (W' : World) (_ : RdGr W' v1 (renG (z, L, s, t) u v)) (_ : Below w.heap.size w W'), Calls Try.prog 64 #[v1, .agg #[.int .i64 z', .slice A' q' c', .slice B' p' b', .slice C' r' d']] W' fun e w' => e = .returned (.bool E0) ∧ Below W'.heap.size W' w' := fun _ b3 v1 W' h1 hb => by
    obtain ⟨p3, p4⟩ := prmN_parts (hP2.symm.trans b3)
    have := equalGraphs_any W' h1 (hp0.below hb) (renG_ok ok p4 (by show v.length = L.length; omega)) ok'
    rw [← hE0] at this
    exact this
  obtain ⟨⟨c0, c1, c2, c3⟩, c4, c5, c6, c7⟩ := box4 k3
  obtain ⟨⟨d0, d1, d2, d3⟩, d4, d5, d6, d7⟩ := box4 k4
  obtain ⟨⟨i0, i1⟩, i2, i3⟩ := box2 k5
  clear h h' hg0 hp0 hm0 hOw hRs hRt hRs' hRt' hE hE' hRa hRb hRa' hRb' e1 e2 e3 e1' e2' e3' e4 e5 ok ok' okm hR hT hmb hLl hLl' lu lv hI0 hE0 hU hV hq hq' hp hp' hr hr' hnu hnv hT1 hT2 hP1 hP2
  have bW_h := Lib.hid bW
  have k3_h := Lib.hid k3
  have k4_h := Lib.hid k4
  have k5_h := Lib.hid k5
  have hG1_h := Lib.hid hG1
  have hG2_h := Lib.hid hG2
  have hTT_h := Lib.hid hTT
  have hno_h := Lib.hid hno
  have hye_h := Lib.hid hye
  have hI1_h := Lib.hid hI1
  have hPa_h := Lib.hid hPa
  have hPb_h := Lib.hid hPb
  have hRn_h := Lib.hid hRn
  have hEq_h := Lib.hid hEq
  clear bW k3 k4 k5 hG1 hG2 hTT hno hye hI1 hPa hPb hRn hEq
  go_enter Try.func31, Try.ntmps31
  go_upto_region 1 with (fail)
  rw [← hW]
  clear hW
  go_wp2_with (fail)
  refine (hG1_h.out).mono ?_
  rintro e w1 ⟨rfl, hb1⟩
  have k3a := box_below k3_h.out hb1
  have k4a := box_below k4_h.out hb1
  have k5a := box_below k5_h.out hb1
  have hB1 := below_trans bW_h.out hb1 bW_h.out.size
  clear c0 c1 c2 c3 c4 c5 c6 c7 d0 d1 d2 d3 d4 d5 d6 d7 i0 i1 i2 i3
  obtain ⟨⟨c0, c1, c2, c3⟩, c4, c5, c6, c7⟩ := box4 k3a
  obtain ⟨⟨d0, d1, d2, d3⟩, d4, d5, d6, d7⟩ := box4 k4a
  obtain ⟨⟨i0, i1⟩, i2, i3⟩ := box2 k5a
  have hB1_h := Lib.hid hB1
  have k3a_h := Lib.hid k3a
  have k4a_h := Lib.hid k4a
  have k5a_h := Lib.hid k5a
  have hb1_h := Lib.hid hb1
  clear hB1 k3a k4a k5a hb1
  cases T1
  case false =>
    obtain rfl : T = false := hTT_h.out
    have hR0 := hno_h.out rfl
    have hR0_h := Lib.hid hR0
    clear hR0
    go_wp2_with (fail)
    go_ret2
    rw [hR0_h.out]
    exact ⟨rfl, hB1_h.out⟩
  obtain rfl : T = T2 := hTT_h.out.trans (Bool.true_and _)
  go_wp2_with (fail)
  refine ((hG2_h.out _ hb1_h.out)).mono ?_
  rintro e w2 ⟨rfl, hb2⟩
  have k3b := box_below k3a_h.out hb2
  have k4b := box_below k4a_h.out hb2
  have k5b := box_below k5a_h.out hb2
  have hB2 := below_trans hB1_h.out hb2 hB1_h.out.size
  clear c0 c1 c2 c3 c4 c5 c6 c7 d0 d1 d2 d3 d4 d5 d6 d7 i0 i1 i2 i3 hb2
  obtain ⟨⟨c0, c1, c2, c3⟩, c4, c5, c6, c7⟩ := box4 k3b
  obtain ⟨⟨d0, d1, d2, d3⟩, d4, d5, d6, d7⟩ := box4 k4b
  obtain ⟨⟨i0, i1⟩, i2, i3⟩ := box2 k5b
  have hB2_h := Lib.hid hB2
  have k3b_h := Lib.hid k3b
  have k4b_h := Lib.hid k4b
  have k5b_h := Lib.hid k5b
  clear hB2 k3b k4b k5b
  cases T
  case false =>
    have hR0 := hno_h.out rfl
    have hR0_h := Lib.hid hR0
    clear hR0
    go_wp2_with (fail)
    go_ret2
    rw [hR0_h.out]
    exact ⟨rfl, hB2_h.out⟩
  have hR1 := hye_h.out rfl
  have hI2 := hI1_h.out rfl
  have hR1_h := Lib.hid hR1
  have hI2_h := Lib.hid hI2
  clear hR1 hI2
  by_cases hz : z = z'
  case neg =>
    have hbz : (z != z') = true := by rw [bne_iff_ne]; exact hz
    have hf : I0 = false := by rw [hI2_h.out, decide_eq_false hz]; rfl
    rw [hf] at hR1_h
    go_wp2_with (fail)
    go_ret2
    rw [hR1_h.out]
    exact ⟨rfl, hB2_h.out⟩
  have hbz : (z != z') = false := by rw [hz]; simp
  by_cases hqq : (q : Int) = (q' : Int)
  case neg =>
    have hf : I0 = false := by rw [hI2_h.out, decide_eq_false hqq, Bool.and_false]; rfl
    rw [hf] at hR1_h
    go_wp2_with (fail)
    go_ret2
    rw [hR1_h.out]
    exact ⟨rfl, hB2_h.out⟩
  have hI3 : I0 = (P1 && (P2 && E0)) := by rw [hI2_h.out, decide_eq_true hz, decide_eq_true hqq]; rfl
  have hz_h := Lib.hid hz
  clear hz
  have hI3_h := Lib.hid hI3
  clear hI3
  go_wp2_with (fail)
  refine ((hPa_h.out _ hB2_h.out)).mono ?_
  rintro e w3 ⟨rfl, hb3⟩
  have hqq_h := Lib.hid hqq
  clear hqq hbz
  have k3c := box_below k3b_h.out hb3
  have k4c := box_below k4b_h.out hb3
  have k5c := box_below k5b_h.out hb3
  have hB3 := below_trans hB2_h.out hb3 hB2_h.out.size
  clear c0 c1 c2 c3 c4 c5 c6 c7 d0 d1 d2 d3 d4 d5 d6 d7 i0 i1 i2 i3 hb3
  obtain ⟨⟨c0, c1, c2, c3⟩, c4, c5, c6, c7⟩ := box4 k3c
  obtain ⟨⟨d0, d1, d2, d3⟩, d4, d5, d6, d7⟩ := box4 k4c
  obtain ⟨⟨i0, i1⟩, i2, i3⟩ := box2 k5c
  have hB3_h := Lib.hid hB3
  have k3c_h := Lib.hid k3c
  have k4c_h := Lib.hid k4c
  have k5c_h := Lib.hid k5c
  clear hB3 k3c k4c k5c
  cases P1
  case false =>
    have hf : I0 = false := hI3_h.out
    rw [hf] at hR1_h
    go_wp2_with (fail)
    go_ret2
    rw [hR1_h.out]
    exact ⟨rfl, hB3_h.out⟩
  have hI4 : I0 = (P2 && E0) := hI3_h.out.trans (Bool.true_and _)
  have hI4_h := Lib.hid hI4
  clear hI4
  go_wp2_with (fail)
  refine ((hPb_h.out _ hB3_h.out)).mono ?_
  rintro e w4 ⟨rfl, hb4⟩
  have k3d := box_below k3c_h.out hb4
  have k4d := box_below k4c_h.out hb4
  have k5d := box_below k5c_h.out hb4
  have hB4 := below_trans hB3_h.out hb4 hB3_h.out.size
  clear c0 c1 c2 c3 c4 c5 c6 c7 d0 d1 d2 d3 d4 d5 d6 d7 i0 i1 i2 i3 hb4
  have hB4_h := Lib.hid hB4
  have k3d_h := Lib.hid k3d
  have k4d_h := Lib.hid k4d
  have k5d_h := Lib.hid k5d
  clear hB4 k3d k4d k5d
  cases P2
  case false =>
    have hf : I0 = false := hI4_h.out
    rw [hf] at hR1_h
    go_wp2_with (fail)
    go_ret2
    rw [hR1_h.out]
    exact ⟨rfl, hB4_h.out⟩
  have hI5 : I0 = E0 := hI4_h.out.trans (Bool.true_and _)
  have hI5_h := Lib.hid hI5
  clear hI5
  go_upto_region 5 with (fail)
  go_cut [6, 7] (fun sv tv wx => sv = .bool E0 ∧ tv = .bool true ∧ Below w.heap.size w wx)
  case first =>
    refine beginH (fun w' => Below w4.heap.size w4 w') (by kernel_rfl) ?_
    have hbd : Below w4.heap.size w4 w4.drew := below_drew (Below.refl _ _)
    generalize w4.drew = W8 at hbd ⊢
    have hBd := below_trans hB4_h.out hbd hB4_h.out.size
    have hbd_h := Lib.hid hbd
    have hBd_h := Lib.hid hBd
    clear hbd hBd
    refine takeH 0 (v := ?_) rfl (by kernel_rfl) (by kernel_rfl) (by kernel_rfl) (fun _ _ _ h => h) hbd_h.out (by rfl) (fun W' hW' => ?_) ?_; rotate_left; · (have j0 := box_below k3d_h.out hW'; obtain ⟨⟨a0, a1, a2, a3⟩, a4, a5, a6, a7⟩ := box4 j0; have j1 := box_below k5d_h.out hW'; obtain ⟨⟨e0, e1⟩, e2, e3⟩ := box2 j1; have j2 := box_below k4d_h.out hW'; obtain ⟨⟨g0, g1, g2, g3⟩, g4, g5, g6, g7⟩ := box4 j2; clear hW'; go_simp; first | done | with_reducible rfl)
    simp only [Act.put, List.setIfInBounds_toArray, List.set_cons_zero, List.set_cons_succ]
    refine takeH 1 (v := ?_) rfl (by kernel_rfl) (by kernel_rfl) (by kernel_rfl) (fun _ _ _ h => h) hbd_h.out (by rfl) (fun W' hW' => ?_) ?_; rotate_left; · (have j0 := box_below k3d_h.out hW'; obtain ⟨⟨a0, a1, a2, a3⟩, a4, a5, a6, a7⟩ := box4 j0; have j1 := box_below k5d_h.out hW'; obtain ⟨⟨e0, e1⟩, e2, e3⟩ := box2 j1; have j2 := box_below k4d_h.out hW'; obtain ⟨⟨g0, g1, g2, g3⟩, g4, g5, g6, g7⟩ := box4 j2; clear hW'; go_simp; first | done | with_reducible rfl)
    simp only [Act.put, List.setIfInBounds_toArray, List.set_cons_zero, List.set_cons_succ]
    refine takeH 2 (v := ?_) rfl (by kernel_rfl) (by kernel_rfl) (by kernel_rfl) (fun _ _ _ h => h) hbd_h.out (by rfl) (fun W' hW' => ?_) ?_; rotate_left; · (have j0 := box_below k3d_h.out hW'; obtain ⟨⟨a0, a1, a2, a3⟩, a4, a5, a6, a7⟩ := box4 j0; have j1 := box_below k5d_h.out hW'; obtain ⟨⟨e0, e1⟩, e2, e3⟩ := box2 j1; have j2 := box_below k4d_h.out hW'; obtain ⟨⟨g0, g1, g2, g3⟩, g4, g5, g6, g7⟩ := box4 j2; clear hW'; go_simp; first | done | with_reducible rfl)
    simp only [Act.put, List.setIfInBounds_toArray, List.set_cons_zero, List.set_cons_succ]
    refine takeH 3 (v := ?_) rfl (by kernel_rfl) (by kernel_rfl) (by kernel_rfl) (fun _ _ _ h => h) hbd_h.out (by rfl) (fun W' hW' => ?_) ?_; rotate_left; · (have j0 := box_below k3d_h.out hW'; obtain ⟨⟨a0, a1, a2, a3⟩, a4, a5, a6, a7⟩ := box4 j0; have j1 := box_below k5d_h.out hW'; obtain ⟨⟨e0, e1⟩, e2, e3⟩ := box2 j1; have j2 := box_below k4d_h.out hW'; obtain ⟨⟨g0, g1, g2, g3⟩, g4, g5, g6, g7⟩ := box4 j2; clear hW'; go_simp; first | done | with_reducible rfl)
    simp only [Act.put, List.setIfInBounds_toArray, List.set_cons_zero, List.set_cons_succ]
    refine takeH 4 (v := ?_) rfl (by kernel_rfl) (by kernel_rfl) (by kernel_rfl) (fun _ _ _ h => h) hbd_h.out (by rfl) (fun W' hW' => ?_) ?_; rotate_left; · (have j0 := box_below k3d_h.out hW'; obtain ⟨⟨a0, a1, a2, a3⟩, a4, a5, a6, a7⟩ := box4 j0; have j1 := box_below k5d_h.out hW'; obtain ⟨⟨e0, e1⟩, e2, e3⟩ := box2 j1; have j2 := box_below k4d_h.out hW'; obtain ⟨⟨g0, g1, g2, g3⟩, g4, g5, g6, g7⟩ := box4 j2; clear hW'; go_simp; first | done | with_reducible rfl)
    simp only [Act.put, List.setIfInBounds_toArray, List.set_cons_zero, List.set_cons_succ]
    refine takeH 6 (v := ?_) rfl (by kernel_rfl) (by kernel_rfl) (by kernel_rfl) (fun _ _ _ h => h) hbd_h.out (by rfl) (fun W' hW' => ?_) ?_; rotate_left; · (have j0 := box_below k3d_h.out hW'; obtain ⟨⟨a0, a1, a2, a3⟩, a4, a5, a6, a7⟩ := box4 j0; have j1 := box_below k5d_h.out hW'; obtain ⟨⟨e0, e1⟩, e2, e3⟩ := box2 j1; have j2 := box_below k4d_h.out hW'; obtain ⟨⟨g0, g1, g2, g3⟩, g4, g5, g6, g7⟩ := box4 j2; clear hW'; go_simp; first | done | with_reducible rfl)
    simp only [Act.put, List.setIfInBounds_toArray, List.set_cons_zero, List.set_cons_succ]
    refine' callH 5 (f := _) (args := _) rfl (by kernel_rfl) (by rfl) ?_ ?_; rotate_left 2; · (go_simp; first | done | with_reducible rfl | (constructor <;> with_reducible rfl))
    refine ((hRn_h.out (by trivial) (by trivial) (by trivial) _ hBd_h.out)).mono ?_
    rintro e w9 ⟨v9, fp9, rfl, hO9, _, hb9⟩
    obtain ⟨A9, n9, c9, B9, m9, d9, C9, q9, u9, rfl⟩ := hO9.shape
    have hB9 := below_trans hbd_h.out hb9 hbd_h.out.size
    have hi9 := hO9.rd
    clear hO9 hb9
    have hB9_h := Lib.hid hB9
    have hi9_h := Lib.hid hi9
    clear hB9 hi9
    refine ⟨_, rfl, hB9_h.out, ?_⟩
    simp only [Act.put, List.setIfInBounds_toArray, List.set_cons_zero, List.set_cons_succ]
    refine' callH 7 (f := _) (args := _) rfl (by kernel_rfl) (by rfl) ?_ ?_; rotate_left 2; · (go_simp; first | done | with_reducible rfl | (constructor <;> with_reducible rfl))
    refine ((hEq_h.out (by trivial) (by trivial) _ w9 hi9_h.out (below_trans hB4_h.out hB9_h.out hB4_h.out.size))).mono ?_
    rintro e w10 ⟨rfl, hb10⟩
    have hB10 := below_trans hB9_h.out hb10 hB9_h.out.size
    clear hb10
    have hB10_h := Lib.hid hB10
    clear hB10
    refine ⟨_, rfl, hB10_h.out, ?_⟩
    simp only [Act.put, List.setIfInBounds_toArray, List.set_cons_zero, List.set_cons_succ]
    refine takeH 8 (v := ?_) rfl (by kernel_rfl) (by kernel_rfl) (by kernel_rfl) (fun _ _ _ h => h) hB10_h.out (by rfl) (fun W' hW' => ?_) ?_; rotate_left; · (skip; clear hW'; go_simp; first | done | with_reducible rfl)
    simp only [Act.put, List.setIfInBounds_toArray, List.set_cons_zero, List.set_cons_succ]
    refine takeH 9 (v := ?_) rfl (by kernel_rfl) (by kernel_rfl) (by kernel_rfl) (fun _ _ _ h => h) hB10_h.out (by rfl) (fun W' hW' => ?_) ?_; rotate_left; · (skip; clear hW'; go_simp; first | done | with_reducible rfl)
    simp only [Act.put, List.setIfInBounds_toArray, List.set_cons_zero, List.set_cons_succ]
    refine doneH (by kernel_rfl) ?_
    go_wp2_with (fail)
    go_meet
    exact ⟨rfl, rfl, below_trans hB4_h.out hB10_h.out hB4_h.out.size⟩
  case rest =>
    obtain ⟨rfl, rfl, hBe⟩ := hcut
    rw [hI5_h.out] at hR1_h
    have hBe_h := Lib.hid hBe
    clear hBe
    go_wp2_with (fail)
    go_ret2
    rw [hR1_h.out]
    exact ⟨rfl, hBe_h.out⟩
end Go.Proofs.Ytanhmljgeiajoaa
