/-
  What the texts above it need, part 6.
-/
import Derived.Test.YtahnhblodfdfhaaGreatDoorKMatrixOfTerm5
import Derived.Deep.DeepCutAuto
import Derived.LoopN
import Derived.Deep.QuietTactic
import Derived.BigQuiet
namespace Go.Proofs.YtahnhblodfdfhaaGreatDoor
open Go.RowKit
theorem info_wires : (Tryz.prog.info? tWires).map (fun i => (i.zero, i.size, i.bytes)) = some (some (.agg #[.int .i64 0, .int .i64 0]), 2, 16) := by kernel_rfl
def wcs : List Tr → List Value
 | [] => []
 | t :: r => wcs r ++ [.int .i64 (ty t).1, .int .i64 (ty t).2]
theorem wcs_length : ∀ st : List Tr, (wcs st).length = st.length * 2
 | [] => rfl
 | t :: r => by simp only [wcs, List.length_append, wcs_length r, List.length_cons, List.length_nil]; omega
theorem wcs_top (t : Tr) (r : List Tr) : (wcs (t :: r))[r.length * 2]? = some (.int .i64 (ty t).1) ∧ (wcs (t :: r))[r.length * 2 + 1]? = some (.int .i64 (ty t).2) := by
 have := wcs_length r
 simp only [wcs]
 rw [List.getElem?_append_right (by omega), List.getElem?_append_right (by omega), this, Nat.sub_self, Nat.add_sub_cancel_left]
 exact ⟨rfl, rfl⟩
theorem wcs_top2 (b a : Tr) (r : List Tr) : (wcs (b :: a :: r))[r.length * 2]? = some (.int .i64 (ty a).1) ∧ (wcs (b :: a :: r))[r.length * 2 + 1]? = some (.int .i64 (ty a).2) := by
 have := wcs_length (a :: r)
 simp only [List.length_cons] at this
 obtain ⟨h1, h2⟩ := wcs_top a r
 show (wcs (a :: r) ++ _)[_]? = _ ∧ (wcs (a :: r) ++ _)[_]? = _
 rw [List.getElem?_append_left (by omega), List.getElem?_append_left (by omega)]
 exact ⟨h1, h2⟩
def TyA (l : List Nd) (w : World) (e : Ending) (w' : World) : Prop :=
 ∃ (i o : Int) (b : Bool), e = .returned (.tuple #[.agg #[.int .i64 i, .int .i64 o], .bool b]) ∧ b = (treeM l).isSome ∧ (∀ t, treeM l = some t → (i, o) = ty t) ∧ Below w.heap.size w w'
structure TyR (B : Nat) (w : World) (l : List Nd) (k : Nat) (st : List Tr) (A1 : Option Addr) (c1 : Nat) (wr : World) : Prop where
 par : parse [] (l.take k) = some st
 sl : Sl wr tWires 2 A1 st.length c1 (wcs st)
 fr : ∀ b, b ∈ fpA A1 → B + 1 ≤ b
 box : wr.heap[B]? = some (.cells #[.int .i64 0, .int .i64 0] tWires)
 bel : Below B w wr
theorem TyR.below {B : Nat} {w wr w1 : World} {l : List Nd} {k : Nat} {st : List Tr} {A1 : Option Addr} {c1 : Nat} (h : TyR B w l k st A1 c1 wr) (hb : Below wr.heap.size wr w1) : TyR B w l k st A1 c1 w1 :=
 ⟨h.par, h.sl.below hb, h.fr, t_box_below h.box hb, below_trans h.bel hb (Nat.le_of_lt (t_box_lt h.box))⟩
theorem TyR.push {B : Nat} {w X w2 : World} {l : List Nd} {k : Nat} {t : Tr} {r : List Tr} {A1 A2 : Option Addr} {c2 n2 : Nat} {i o : Int} (hbel : Below B w X) (hbox : X.heap[B]? = some (.cells #[.int .i64 0, .int .i64 0] tWires)) (hfr : ∀ b, b ∈ fpA A1 → B + 1 ≤ b)
  (hp : parse [] (l.take (k + 1)) = some (t :: r)) (hn : n2 = r.length) (hio : (i, o) = ty t) (hs : Sl w2 tWires 2 A2 (n2 + 1) c2 (wcs r ++ [.int .i64 i, .int .i64 o])) (hA : ∀ b, b ∈ fpA A2 → b ∈ fpA A1 ∨ X.heap.size ≤ b) (hk : Keeps (· ∈ fpA A1) X w2) : TyR B w l (k + 1) (t :: r) A2 c2 w2 := by
 have hB := t_box_lt hbox
 refine ⟨hp, ?_, fun b hb => ?_, t_box_keeps hbox hk (fun h => by have := hfr _ h; omega), below_keeps hbel hk (Nat.le_of_lt hB) (fun b hb => by have := hfr b hb; omega)⟩
 · simp only [wcs, List.length_cons, ← hio, ← hn]; exact hs
 · rcases hA b hb with h | h
   · exact hfr b h
   · omega
theorem TyTop {W1 : World} {A1 : Option Addr} {c1 q n : Nat} {a b : Tr} {r : List Tr} (hs : Sl W1 tWires 2 A1 n c1 (wcs (b :: a :: r))) (hq : r.length = q) : ∃ ad1, A1 = some ad1 ∧ ad1.block < W1.heap.size ∧
  W1.cell? (ad1.add (q * 2)) = some (.int .i64 (ty a).1) ∧ W1.cell? ⟨(ad1.add (q * 2)).block, (ad1.add (q * 2)).off + 1, none⟩ = some (.int .i64 (ty a).2) ∧
  W1.cell? (ad1.add ((q + 1) * 2)) = some (.int .i64 (ty b).1) ∧ W1.cell? ⟨(ad1.add ((q + 1) * 2)).block, (ad1.add ((q + 1) * 2)).off + 1, none⟩ = some (.int .i64 (ty b).2) := by
 obtain ⟨h1, h2⟩ := wcs_top2 b a r
 obtain ⟨h3, h4⟩ := wcs_top b (a :: r)
 rw [List.length_cons] at h3 h4
 rw [hq] at h1 h2 h3 h4
 obtain ⟨ad, hA, hb, c0, _⟩ := Sl.cell hs h1
 obtain ⟨ad', hA', _, c1, _⟩ := Sl.cell hs h2
 obtain ⟨ad2, hA2, _, c2, _⟩ := Sl.cell hs h3
 obtain ⟨ad3, hA3, _, c3, _⟩ := Sl.cell hs h4
 rw [hA] at hA' hA2 hA3
 obtain rfl := Option.some.inj hA'
 obtain rfl := Option.some.inj hA2
 obtain rfl := Option.some.inj hA3
 rw [add_next _ _ 1 (by omega)] at c1 c3
 exact ⟨_, hA, hb, c0, c1, c2, c3⟩
theorem TyTop2 {W1 : World} {ad1 : Addr} {c1 q n : Nat} {a b : Tr} {r : List Tr} (hs : Sl W1 tWires 2 (some ad1) n c1 (wcs (b :: a :: r))) (hq : r.length = q) :
  W1.cell? (ad1.add (q * 2)) = some (.int .i64 (ty a).1) ∧ W1.cell? ⟨(ad1.add (q * 2)).block, (ad1.add (q * 2)).off + 1, none⟩ = some (.int .i64 (ty a).2) ∧
  W1.cell? (ad1.add ((q + 1) * 2)) = some (.int .i64 (ty b).1) ∧ W1.cell? ⟨(ad1.add ((q + 1) * 2)).block, (ad1.add ((q + 1) * 2)).off + 1, none⟩ = some (.int .i64 (ty b).2) := by
 obtain ⟨x, hx, _, h⟩ := TyTop hs hq
 obtain rfl := Option.some.inj hx
 exact h
theorem Sl.take {w : World} {e : TypeId} {sz n cap : Nat} {A : Option Addr} {xs : List Value} (h : Sl w e sz A n cap xs) {k : Nat} (hk : k ≤ n) : Sl w e sz A k cap (xs.take (k * sz)) := by
 obtain ⟨h1, h2, h3, h4⟩ := h
 have hm := Nat.mul_le_mul_right sz hk
 refine ⟨by rw [List.length_take, h1]; omega, by omega, h3, ?_⟩
 rcases h4 with h4 | ⟨g, off, cur, ha, hg, hc, ht⟩
 · exact .inl h4
 · exact .inr ⟨g, off, cur, ha, hg, hc, by rw [← ht, List.take_take]; congr 1; omega⟩
theorem wcs_take (a b : Tr) (r : List Tr) {q : Nat} (hq : r.length = q) : (wcs (b :: a :: r)).take (q * 2) = wcs r := by
 have := wcs_length r
 simp only [wcs, List.append_assoc]
 rw [List.take_append_of_le_length (by omega), List.take_of_length_le (by omega)]
theorem wcs_bot : ∀ {st : List Tr}, st ≠ [] → ∃ i o : Int, (wcs st)[0]? = some (.int .i64 i) ∧ (wcs st)[1]? = some (.int .i64 o) ∧ ∀ t, st = [t] → (i, o) = ty t
 | [], h => absurd rfl h
 | [t], _ => ⟨(ty t).1, (ty t).2, rfl, rfl, fun t' e => by obtain rfl := (List.cons.inj e).1; rfl⟩
 | b :: a :: r, _ => by
   obtain ⟨i, o, h1, h2, _⟩ := wcs_bot (st := a :: r) (by simp)
   refine ⟨i, o, ?_, ?_, fun t e => by cases e⟩
   · show (wcs (a :: r) ++ _)[0]? = _
     rw [List.getElem?_append_left (List.getElem?_eq_some_iff.1 h1).1]; exact h1
   · show (wcs (a :: r) ++ _)[1]? = _
     rw [List.getElem?_append_left (List.getElem?_eq_some_iff.1 h2).1]; exact h2
theorem TyA.no {l : List Nd} {w w' : World} {i o : Int} (hN : treeM l = none) (hb : Below w.heap.size w w') : TyA l w (.returned (.tuple #[.agg #[.int .i64 i, .int .i64 o], .bool false])) w' :=
 ⟨i, o, false, rfl, by rw [hN]; rfl, fun t ht => (by rw [hN] at ht; cases ht), hb⟩
set_option maxRecDepth 8000 in
set_option maxHeartbeats 8000000 in
theorem typed_any (A : Option Addr) (c : Nat) (l : List Nd) (w : World) (h : RdN w A l) :
  Calls Tryz.prog 176 #[.slice A l.length c, .func (.func 177) #[] #[]] w (TyA l w) := by
 by_cases hl : 1 ≤ l.length ∧ l.length ≤ 400
 case neg =>
  have hb : t_inB (l.length : Int) 1 400 = false := by simp [t_inB]; omega
  have hw := t_within_any (l.length : Int) 1 400 (w.alloc (.cells #[.int .i64 0, .int .i64 0] tWires))
  rw [hb] at hw
  have hN : treeM l = none := by unfold treeM; rw [if_neg hl]
  have hw_h := lH hw; have hN_h := lH hN; clear hw hN; clear hb hl h
  go_enter Tryz.func176, Tryz.ntmps176
  go_wp2_with (fail)
  refine (hw_h.out).mono ?_
  rintro e w' ⟨rfl, rfl⟩
  go_wp2_with (fail)
  refine bodyPost_ret (v := .tuple #[.agg #[.int .i64 0, .int .i64 0], .bool false]) (by simp [results, Tryz.results176, go_sem]) rfl ⟨_, _, _, rfl, by rw [hN_h.out]; rfl, fun t ht => (by rw [hN_h.out] at ht; cases ht), t_below_alloc _ _⟩
 case pos =>
  have hb : t_inB (l.length : Int) 1 400 = true := by simp [t_inB]; omega
  have hw := t_within_any (l.length : Int) 1 400 (w.alloc (.cells #[.int .i64 0, .int .i64 0] tWires))
  rw [hb] at hw
  obtain ⟨W, hW⟩ : ∃ W, W = (w.alloc (.cells #[.int .i64 0, .int .i64 0] tWires)).alloc (.cells #[] tWires) := ⟨_, rfl⟩
  obtain ⟨b0, k0, k1, hz⟩ := two_boxes w (.cells #[.int .i64 0, .int .i64 0] tWires) (.cells #[] tWires)
  have hsl0 := Sl.laid (w.alloc (.cells #[.int .i64 0, .int .i64 0] tWires)) tWires 2 0 #[] (by unfold maxLen; omega) rfl
  simp only [World.size_alloc] at hsl0
  rw [← hW] at b0 k0 k1 hz hsl0
  have hR0 : TyR w.heap.size w l 0 [] (some ⟨w.heap.size + 1, 0, none⟩) 0 W := ⟨by simp [parse], by simpa [wcs] using hsl0, fun b hb => by simp at hb; omega, k0, b0⟩
  obtain ⟨m, hm⟩ : ∃ m, m = l.length := ⟨_, rfl⟩
  rw [← hm] at hw hl ⊢
  have hw_h := lH hw; have hR0_h := lH hR0; have hm_h := lH hm; clear hw hR0 hm; clear hb b0 k0 k1 hz hsl0
  go_enter Tryz.func176, Tryz.ntmps176
  go_wp2_with (fail)
  refine (hw_h.out).mono ?_
  rintro e w' ⟨rfl, rfl⟩
  go_wp2_with (fail)
  rw [← hW]
  clear hW
  go_loopw [6, 22] (fun sv iv wr => ∃ (k : Nat) (st : List Tr) (A1 : Option Addr) (c1 n1 : Nat), k ≤ m ∧ iv = .int .i64 k ∧ sv = .slice A1 n1 c1 ∧ n1 = st.length ∧ n1 ≤ k ∧ TyR w.heap.size w l k st A1 c1 wr) (fun _ iv _ => m - (intOf iv).toNat)
  case atStart => exact ⟨0, [], _, 0, 0, Nat.zero_le _, rfl, rfl, rfl, Nat.le_refl _, hR0_h.out⟩
  case round =>
   obtain ⟨k, st, A1, c1, n1, hk, rfl, rfl, hn1, hnk, hR⟩ := hrel
   clear hR0_h hw_h
   by_cases hlt : k < m
   · have hwl : w.heap.size ≤ wr.heap.size := hR.bel.size
     obtain ⟨ad, κ, v, s, rfl, hn, d0, d1, d2⟩ := (h.below hR.bel).at_ (j := k) (by rw [← hm_h.out]; exact hlt)
     have hkI : (k : Int) < (m : Int) := by omega
     have hR_h := lH hR; have hn_h := lH hn; have hn1_h := lH hn1; clear hR hn hn1; clear h
     by_cases hj : κ = 15 ∨ κ = 16
     · obtain ⟨p0, p, hpp, hp⟩ : ∃ p0 p, p = p0 ∧ κ = kd p0 := by
        rcases hj with h | h
        · exact ⟨false, false, rfl, h⟩
        · exact ⟨true, true, rfl, h⟩
       have e15 : (κ != 15) = p := by rw [hp, hpp]; cases p0 <;> rfl
       have e16 : (κ != 16) = !p := by rw [hp, hpp]; cases p0 <;> rfl
       have hJ : ∀ (ai ao bi bo : Int) (W : World), 0 ≤ ai ∧ ai ≤ 12 → 0 ≤ ao ∧ ao ≤ 12 → 0 ≤ bi ∧ bi ≤ 12 → 0 ≤ bo ∧ bo ≤ 12 →
         Calls Tryz.prog 180 #[.int .i64 κ, .agg #[.int .i64 ai, .int .i64 ao], .agg #[.int .i64 bi, .int .i64 bo]] W (JnA p0 (ai, ao) (bi, bo) W) := by
        rw [hp]; exact joinWires_any p0
       have hx := hR_h.out.box
       have hxl := t_box_lt hx
       obtain ⟨⟨c00, c01⟩, f0, f1⟩ := t_box2 hx
       obtain ⟨s0, s2⟩ := t_set2 (a := .int .i64 0) (b := .int .i64 0) hx
       have s1 := t_box_below s0 (t_below_alloc _ (.cells #[.int .i64 κ, .int .i64 v, .string s] 113))
       have hB2 := below_trans (below_keeps hR_h.out.bel s2 (by omega) (fun k hk => by omega)) (t_below_alloc _ (.cells #[.int .i64 κ, .int .i64 v, .string s] 113)) (Nat.le_trans (by omega) s2.size)
       have hji : isJoin (κ, v, s) := hj
       have hNo := fun hh => parse_none hR_h.out.par hn_h.out (step_none (st := st) hji hh)
       have s1_h := lH s1; have s2_h := lH s2; have hB2_h := lH hB2; have hNo_h := lH hNo; have hji_h := lH hji; have hx_h := lH hx; have hp_h := lH hp; have hJ_h := lH hJ; clear s1 s2 hB2 hNo hji hx hp hJ; clear s0 hj hpp
       cases p
       · simp only [Bool.not_false] at e16
         go_wp2_with (fail)
         · have h0 : (n1 : Int) < 2 := ‹_›
           have hv : v = 0 := ‹_›
           subst hv
           have hN := hNo_h.out (.inr (.inr (by rw [← hn1_h.out]; omega)))
           refine bodyPost_ret (t_results_cell_tmp rfl _ _ w.heap.size _ _ (0, 0) _ rfl s1_h.out Tryz.underlying147 rfl (by kernel_rfl)) rfl ?_
           exact TyA.no hN hB2_h.out
         · have hv : v = 0 := ‹_›
           have hs' := name_eq ‹s.toList = []›
           have h2 : 2 ≤ (n1 : Int) := ‹_›
           subst hv hs'
           obtain ⟨q, rfl⟩ : ∃ q, n1 = q + 2 := ⟨n1 - 2, by omega⟩
           obtain ⟨b, a, r, rfl, hq⟩ := two_of hn1_h.out
           rw [show (((q + 2 : Nat) : Int) - 1) = ((q + 1 : Nat) : Int) by omega]
           clear c00 c01 f0 f1
           go_cut [12, 13] (fun s12 s13 wx => ∃ (G : Nat) (c' : Bool), s12 = .pointer (some ⟨G, 0, none⟩) ∧ s13 = .bool c' ∧ c' = joinB p0 (ty a) (ty b) ∧ wx.heap[G]? = some (.cells #[.int .i64 (joinTy p0 (ty a) (ty b)).1, .int .i64 (joinTy p0 (ty a) (ty b)).2] tWires) ∧ wr.heap.size ≤ G ∧ Below wr.heap.size wr wx)
           case first =>
            refine beginB (by kernel_rfl) (fun W1 hW1 => ?_)
            have hb1 : Below wr.heap.size wr W1 := by rw [hW1]; exact below_drew (t_below_alloc _ _)
            have hN : W1.heap[wr.heap.size]? = some (.cells #[.int .i64 κ, .int .i64 0, .string noName] 113) := by rw [hW1]; exact heap_alloc_new wr _
            have hR1 := hR_h.out.below hb1
            obtain ⟨ad1, hA1, hlt1, -⟩ := TyTop hR1.sl hq
            subst hA1
            obtain ⟨hwb, hwa, -⟩ := (parse_spec _ hR1.par trivial).1
            have fa := wt_fit hwa
            have fb := wt_fit hwb
            have hC := fun W => hJ_h.out (ty a).1 (ty a).2 (ty b).1 (ty b).2 W ⟨fa.1, fa.2.1⟩ ⟨fa.2.2.1, fa.2.2.2⟩ ⟨fb.1, fb.2.1⟩ ⟨fb.2.2.1, fb.2.2.2⟩
            clear hW1 s1_h s2_h hB2_h hNo_h hx_h fa fb hwa hwb; have hb1_h := lH hb1; have hN_h := lH hN; have hR1_h := lH hR1; have hq_h := lH hq; have hC_h := lH hC; clear hb1 hN hR1 hq hC
            refine tkH 0 ?_ rfl (Below.refl _ _) (fun W' hW' => ?_) ?_; rotate_left; · (obtain ⟨⟨c0, c1, c2⟩, f0, f1, f2⟩ := t_box3 (t_box_below hN_h.out hW'); obtain ⟨d0, d1, d2, d3⟩ := TyTop2 (hR1_h.out.sl.below hW') hq_h.out; have r0 : IntKind.i64.wrap (q : Int) = (q : Int) := IntWalk.i64_in _ (by omega); have r2 : (0 : Int) ≤ (q : Int) + 1 := (by omega); have r3 : (q : Int) < (q : Int) + 2 := (by omega); have r4 : (q : Int) + 1 < (q : Int) + 2 := (by omega); clear hW'; go_simp; first | done | with_reducible rfl)
            simp only [Act.put, nS]
            refine tkH 1 ?_ rfl (Below.refl _ _) (fun W' hW' => ?_) ?_; rotate_left; · (obtain ⟨⟨c0, c1, c2⟩, f0, f1, f2⟩ := t_box3 (t_box_below hN_h.out hW'); obtain ⟨d0, d1, d2, d3⟩ := TyTop2 (hR1_h.out.sl.below hW') hq_h.out; have r0 : IntKind.i64.wrap (q : Int) = (q : Int) := IntWalk.i64_in _ (by omega); have r2 : (0 : Int) ≤ (q : Int) + 1 := (by omega); have r3 : (q : Int) < (q : Int) + 2 := (by omega); have r4 : (q : Int) + 1 < (q : Int) + 2 := (by omega); clear hW'; go_simp; first | done | with_reducible rfl)
            simp only [Act.put, nS]
            refine tkH 2 ?_ rfl (Below.refl _ _) (fun W' hW' => ?_) ?_; rotate_left; · (obtain ⟨⟨c0, c1, c2⟩, f0, f1, f2⟩ := t_box3 (t_box_below hN_h.out hW'); obtain ⟨d0, d1, d2, d3⟩ := TyTop2 (hR1_h.out.sl.below hW') hq_h.out; have r0 : IntKind.i64.wrap (q : Int) = (q : Int) := IntWalk.i64_in _ (by omega); have r2 : (0 : Int) ≤ (q : Int) + 1 := (by omega); have r3 : (q : Int) < (q : Int) + 2 := (by omega); have r4 : (q : Int) + 1 < (q : Int) + 2 := (by omega); clear hW'; go_simp; first | done | with_reducible rfl)
            simp only [Act.put, nS]
            refine tkH 3 ?_ rfl (Below.refl _ _) (fun W' hW' => ?_) ?_; rotate_left; · (obtain ⟨⟨c0, c1, c2⟩, f0, f1, f2⟩ := t_box3 (t_box_below hN_h.out hW'); obtain ⟨d0, d1, d2, d3⟩ := TyTop2 (hR1_h.out.sl.below hW') hq_h.out; have r0 : IntKind.i64.wrap (q : Int) = (q : Int) := IntWalk.i64_in _ (by omega); have r2 : (0 : Int) ≤ (q : Int) + 1 := (by omega); have r3 : (q : Int) < (q : Int) + 2 := (by omega); have r4 : (q : Int) + 1 < (q : Int) + 2 := (by omega); clear hW'; go_simp; first | done | with_reducible rfl)
            simp only [Act.put, nS]
            refine tkH 4 ?_ rfl (Below.refl _ _) (fun W' hW' => ?_) ?_; rotate_left; · (obtain ⟨⟨c0, c1, c2⟩, f0, f1, f2⟩ := t_box3 (t_box_below hN_h.out hW'); obtain ⟨d0, d1, d2, d3⟩ := TyTop2 (hR1_h.out.sl.below hW') hq_h.out; have r0 : IntKind.i64.wrap (q : Int) = (q : Int) := IntWalk.i64_in _ (by omega); have r2 : (0 : Int) ≤ (q : Int) + 1 := (by omega); have r3 : (q : Int) < (q : Int) + 2 := (by omega); have r4 : (q : Int) + 1 < (q : Int) + 2 := (by omega); clear hW'; go_simp; first | done | with_reducible rfl)
            simp only [Act.put, nS]
            refine tkH 5 ?_ rfl (Below.refl _ _) (fun W' hW' => ?_) ?_; rotate_left; · (obtain ⟨⟨c0, c1, c2⟩, f0, f1, f2⟩ := t_box3 (t_box_below hN_h.out hW'); obtain ⟨d0, d1, d2, d3⟩ := TyTop2 (hR1_h.out.sl.below hW') hq_h.out; have r0 : IntKind.i64.wrap (q : Int) = (q : Int) := IntWalk.i64_in _ (by omega); have r2 : (0 : Int) ≤ (q : Int) + 1 := (by omega); have r3 : (q : Int) < (q : Int) + 2 := (by omega); have r4 : (q : Int) + 1 < (q : Int) + 2 := (by omega); clear hW'; go_simp; first | done | with_reducible rfl)
            simp only [Act.put, nS]
            refine tkH 6 ?_ rfl (Below.refl _ _) (fun W' hW' => ?_) ?_; rotate_left; · (obtain ⟨⟨c0, c1, c2⟩, f0, f1, f2⟩ := t_box3 (t_box_below hN_h.out hW'); obtain ⟨d0, d1, d2, d3⟩ := TyTop2 (hR1_h.out.sl.below hW') hq_h.out; have r0 : IntKind.i64.wrap (q : Int) = (q : Int) := IntWalk.i64_in _ (by omega); have r2 : (0 : Int) ≤ (q : Int) + 1 := (by omega); have r3 : (q : Int) < (q : Int) + 2 := (by omega); have r4 : (q : Int) + 1 < (q : Int) + 2 := (by omega); clear hW'; go_simp; first | done | with_reducible rfl)
            simp only [Act.put, nS]
            refine tkH 7 ?_ rfl (Below.refl _ _) (fun W' hW' => ?_) ?_; rotate_left; · (obtain ⟨⟨c0, c1, c2⟩, f0, f1, f2⟩ := t_box3 (t_box_below hN_h.out hW'); obtain ⟨d0, d1, d2, d3⟩ := TyTop2 (hR1_h.out.sl.below hW') hq_h.out; have r0 : IntKind.i64.wrap (q : Int) = (q : Int) := IntWalk.i64_in _ (by omega); have r2 : (0 : Int) ≤ (q : Int) + 1 := (by omega); have r3 : (q : Int) < (q : Int) + 2 := (by omega); have r4 : (q : Int) + 1 < (q : Int) + 2 := (by omega); clear hW'; go_simp; first | done | with_reducible rfl)
            simp only [Act.put, nS]
            refine tkH 8 ?_ rfl (Below.refl _ _) (fun W' hW' => ?_) ?_; rotate_left; · (obtain ⟨⟨c0, c1, c2⟩, f0, f1, f2⟩ := t_box3 (t_box_below hN_h.out hW'); obtain ⟨d0, d1, d2, d3⟩ := TyTop2 (hR1_h.out.sl.below hW') hq_h.out; have r0 : IntKind.i64.wrap (q : Int) = (q : Int) := IntWalk.i64_in _ (by omega); have r2 : (0 : Int) ≤ (q : Int) + 1 := (by omega); have r3 : (q : Int) < (q : Int) + 2 := (by omega); have r4 : (q : Int) + 1 < (q : Int) + 2 := (by omega); clear hW'; go_simp; first | done | with_reducible rfl)
            simp only [Act.put, nS]
            refine tkH 9 ?_ rfl (Below.refl _ _) (fun W' hW' => ?_) ?_; rotate_left; · (obtain ⟨⟨c0, c1, c2⟩, f0, f1, f2⟩ := t_box3 (t_box_below hN_h.out hW'); obtain ⟨d0, d1, d2, d3⟩ := TyTop2 (hR1_h.out.sl.below hW') hq_h.out; have r0 : IntKind.i64.wrap (q : Int) = (q : Int) := IntWalk.i64_in _ (by omega); have r2 : (0 : Int) ≤ (q : Int) + 1 := (by omega); have r3 : (q : Int) < (q : Int) + 2 := (by omega); have r4 : (q : Int) + 1 < (q : Int) + 2 := (by omega); clear hW'; go_simp; first | done | with_reducible rfl)
            simp only [Act.put, nS]
            refine tkH 10 ?_ rfl (Below.refl _ _) (fun W' hW' => ?_) ?_; rotate_left; · (obtain ⟨⟨c0, c1, c2⟩, f0, f1, f2⟩ := t_box3 (t_box_below hN_h.out hW'); obtain ⟨d0, d1, d2, d3⟩ := TyTop2 (hR1_h.out.sl.below hW') hq_h.out; have r0 : IntKind.i64.wrap (q : Int) = (q : Int) := IntWalk.i64_in _ (by omega); have r2 : (0 : Int) ≤ (q : Int) + 1 := (by omega); have r3 : (q : Int) < (q : Int) + 2 := (by omega); have r4 : (q : Int) + 1 < (q : Int) + 2 := (by omega); clear hW'; go_simp; first | done | with_reducible rfl)
            simp only [Act.put, nS]
            refine callOrH 11 15 (f := ?f1) (args := ?args1) (vj := ?vj1) (wj := ?wj1) rfl rfl (by kernel_rfl) (by rfl) (by rfl) ?hrun1 ?hrunj1 ?h11 ?hSj1 ?h21
            case hrun1 => (go_simp; first | done | with_reducible rfl | (constructor <;> with_reducible rfl))
            case hrunj1 => (go_simp; first | done | with_reducible rfl | (constructor <;> with_reducible rfl))
            case hSj1 => exact ((t_below_alloc _ _))
            case h11 =>
             refine (hC_h.out W1).mono ?_
             rintro e w2 ⟨c', rfl, hc', hb2⟩
             have hbx := hb1_h.out.trans (hb2.mono hb1_h.out.size)
             have hkx := heap_alloc_new w2 (.cells #[.int .i64 (joinTy p0 (ty a) (ty b)).1, .int .i64 (joinTy p0 (ty a) (ty b)).2] tWires)
             have hb3 := hbx.trans ((t_below_alloc w2 (.cells #[.int .i64 (joinTy p0 (ty a) (ty b)).1, .int .i64 (joinTy p0 (ty a) (ty b)).2] tWires)).mono hbx.size)
             refine ⟨_, rfl, hb2, ?_⟩
             have hc'_h := lH hc'; have hbx_h := lH hbx; have hkx_h := lH hkx; have hb3_h := lH hb3; clear hc' hbx hkx hb3
             simp only [Act.put, nS]
             refine tkH 12 ?_ rfl hb2 (fun W' hW' => ?_) ?_; rotate_left; · (skip; clear hW'; go_simp; first | done | with_reducible rfl)
             simp only [Act.put, nS]
             refine tkH 13 ?_ rfl hb2 (fun W' hW' => ?_) ?_; rotate_left; · (skip; clear hW'; go_simp; first | done | with_reducible rfl)
             simp only [Act.put, nS]
             refine tkH 14 ?_ rfl hb2 (fun W' hW' => ?_) ?_; rotate_left; · (skip; clear hW'; go_simp; first | done | with_reducible rfl)
             simp only [Act.put, nS]
             refine oneH 15 rfl (by kernel_rfl) (by rfl) (fun K hK => ?_)
             go_simp
             refine hK _ _ (hb2.trans ((t_below_alloc _ _).mono hb2.size)) ?_
             clear hK K
             refine oneH 16 rfl (by kernel_rfl) (by rfl) (fun K hK => ?_)
             go_simp
             refine hK _ _ (hb2.trans ((t_below_alloc _ _).mono hb2.size)) ?_
             clear hK K
             refine takeH 17 (v := ?_) rfl (by kernel_rfl) (by kernel_rfl) (by kernel_rfl) (fun _ _ _ h => h) (hb2.trans ((t_below_alloc _ _).mono hb2.size)) (by rfl) (fun W' hW' => ?_) ?_; rotate_left; · (skip; clear hW'; go_simp; first | done | with_reducible rfl)
             simp only [Act.put, nS]
             refine doneH (by kernel_rfl) ?_
             go_wp2_with (fail)
             go_meet
             exact ⟨_, c', rfl, rfl, hc'_h.out, hkx_h.out, hbx_h.out.size, hb3_h.out⟩
            case h21 =>
             refine' callH 11 (f := _) (args := _) rfl (by kernel_rfl) (by rfl) ?_ ?_; rotate_left 2; · (go_simp; first | done | with_reducible rfl | (constructor <;> with_reducible rfl))
             refine (hC_h.out _).mono ?_
             rintro e w2 ⟨c', rfl, hc', hb2⟩
             have hbs : Below W1.heap.size W1 w2 := (t_below_alloc W1 (.cells #[.int .i64 0, .int .i64 0] tWires)).trans (hb2.mono (by simp))
             have hk := t_box_below (heap_alloc_new W1 (.cells #[.int .i64 0, .int .i64 0] tWires)) hb2
             obtain ⟨s1, s2⟩ := t_set2 (a := .int .i64 (joinTy p0 (ty a) (ty b)).1) (b := .int .i64 (joinTy p0 (ty a) (ty b)).2) hk
             have hbt := below_keeps hbs s2 hbs.size (fun k hk => by omega)
             have hb3 := hb1_h.out.trans (hbt.mono hb1_h.out.size)
             obtain ⟨⟨c0, c1⟩, f0, f1⟩ := t_box2 hk
             refine ⟨_, rfl, hbs, ?_⟩
             have hc'_h := lH hc'; have hbs_h := lH hbs; have hk_h := lH hk; have s1_h := lH s1; have s2_h := lH s2; have hbt_h := lH hbt; have hb3_h := lH hb3; have hb2_h := lH hb2; clear hc' hbs hk s1 s2 hbt hb3 hb2
             simp only [Act.put, nS]
             refine tkH 12 ?_ rfl hbs_h.out (fun W' hW' => ?_) ?_; rotate_left; · (skip; clear hW'; go_simp; first | done | with_reducible rfl)
             simp only [Act.put, nS]
             refine tkH 13 ?_ rfl hbs_h.out (fun W' hW' => ?_) ?_; rotate_left; · (skip; clear hW'; go_simp; first | done | with_reducible rfl)
             simp only [Act.put, nS]
             refine tkH 14 ?_ rfl hbs_h.out (fun W' hW' => ?_) ?_; rotate_left; · (skip; clear hW'; go_simp; first | done | with_reducible rfl)
             simp only [Act.put, nS]
             refine oneH 16 rfl (by kernel_rfl) (by rfl) (fun K hK => ?_)
             go_simp
             refine hK _ _ hbt_h.out ?_
             clear hK K
             refine tkH 17 ?_ rfl hbt_h.out (fun W' hW' => ?_) ?_; rotate_left; · (skip; clear hW'; go_simp; first | done | with_reducible rfl)
             simp only [Act.put, nS]
             refine doneH (by kernel_rfl) ?_
             go_wp2_with (fail)
             go_meet
             exact ⟨_, c', rfl, rfl, hc'_h.out, s1_h.out, hb1_h.out.size, hb3_h.out⟩
           case rest =>
            obtain ⟨G, c', rfl, rfl, hc', hG, hGz, hbc⟩ := hcut
            have hR2 := hR_h.out.below hbc
            obtain ⟨ad1, hA1, hlt1, -⟩ := TyTop hR_h.out.sl hq
            subst hA1
            have hjn : (κ, (0 : Int), noName) = joinNd p0 := by rw [hp_h.out]; rfl
            clear s1_h s2_h hB2_h hx_h hlt1
            cases c'
            · have hN := parse_none hR2.par hn_h.out (by rw [hjn, step_join, ← hc']; rfl)
              have hx := hR2.box
              have hxl := t_box_lt hx
              obtain ⟨⟨c00, c01⟩, f0, f1⟩ := t_box2 hx
              obtain ⟨s1, s2⟩ := t_set2 (a := .int .i64 0) (b := .int .i64 0) hx
              have hB2 := below_keeps hR2.bel s2 (by omega) (fun k hk => by omega)
              have hN_h := lH hN; have s1_h := lH s1; have s2_h := lH s2; have hB2_h := lH hB2; have hx_h := lH hx; have hR2_h := lH hR2; have hc'_h := lH hc'; have hG_h := lH hG; have hbc_h := lH hbc; have hjn_h := lH hjn; have hq_h := lH hq; clear hN s1 s2 hB2 hx hR2 hc' hG hbc hjn hq
              go_wp2_with (fail)
              refine bodyPost_ret (t_results_cell_tmp rfl _ _ w.heap.size _ _ (0, 0) _ rfl s1_h.out Tryz.underlying147 rfl (by kernel_rfl)) rfl ?_
              exact TyA.no hN_h.out hB2_h.out
            · have hpm := parse_more hR2.par hn_h.out (by rw [hjn, step_join, ← hc']; rfl)
              have hGne : ∀ b, b ∈ fpA (some ad1) → ¬ b = G := fun b hb e => by have := hR_h.out.sl.lt b hb; omega
              have hR2_h := lH hR2; have hc'_h := lH hc'; have hbc_h := lH hbc; have hjn_h := lH hjn; have hq_h := lH hq; have hpm_h := lH hpm; have hG_h := lH hG; have hGne_h := lH hGne; clear hR2 hc' hbc hjn hq hpm hG hGne
              go_wp2_with (fail)
              refine beginH (fun w' => w'.heap[G]? = some (.cells #[.int .i64 (joinTy p0 (ty a) (ty b)).1, .int .i64 (joinTy p0 (ty a) (ty b)).2] tWires)) (by kernel_rfl) ?_
              have hGd : wc.drew.heap[G]? = some (.cells #[.int .i64 (joinTy p0 (ty a) (ty b)).1, .int .i64 (joinTy p0 (ty a) (ty b)).2] tWires) := hG_h.out
              have hR3 : TyR w.heap.size w l k (b :: a :: r) (some ad1) c1 wc.drew := hR2_h.out.below (below_drew (Below.refl _ _))
              generalize wc.drew = W1 at hGd hR3 ⊢
              have hW2 := t_below_alloc W1 (.cells #[.int .i64 (joinTy p0 (ty a) (ty b)).1, .int .i64 (joinTy p0 (ty a) (ty b)).2] tWires)
              have hG2 := t_box_below hGd hW2
              have hR4 := hR3.below hW2
              have hSL : Sl (W1.alloc (.cells #[.int .i64 (joinTy p0 (ty a) (ty b)).1, .int .i64 (joinTy p0 (ty a) (ty b)).2] tWires)) tWires 2 (some ad1) q c1 (wcs r) := by
               have := Sl.take hR4.sl (k := q) (by have := hq_h.out; simp only [List.length_cons]; omega)
               rwa [wcs_take a b r hq_h.out] at this
              have hcq : q + 2 ≤ c1 := by have := hR4.sl.2.1; have h2 := hq_h.out; simp only [List.length_cons] at this; omega
              have hGd_h := lH hGd; have hR3_h := lH hR3; have hG2_h := lH hG2; have hR4_h := lH hR4; have hSL_h := lH hSL; have hW2_h := lH hW2; clear hGd hR3 hG2 hR4 hSL hW2
              refine tkH 0 ?_ rfl hGd_h.out (fun W' hW' => ?_) ?_; rotate_left; · (obtain ⟨⟨d0, d1⟩, e0, e1⟩ := t_box2 hW'; have r0 : IntKind.i64.wrap (q : Int) = (q : Int) := IntWalk.i64_in _ (by omega); have r2 : (0 : Int) ≤ (q : Int) := (by omega); have r3 : (q : Int) ≤ (q : Int) + 2 := (by omega); have r4 : q ≤ c1 := (by omega); clear hW'; go_simp; first | done | with_reducible rfl)
              simp only [Act.put, nS]
              refine tkH 1 ?_ rfl hGd_h.out (fun W' hW' => ?_) ?_; rotate_left; · (obtain ⟨⟨d0, d1⟩, e0, e1⟩ := t_box2 hW'; have r0 : IntKind.i64.wrap (q : Int) = (q : Int) := IntWalk.i64_in _ (by omega); have r2 : (0 : Int) ≤ (q : Int) := (by omega); have r3 : (q : Int) ≤ (q : Int) + 2 := (by omega); have r4 : q ≤ c1 := (by omega); clear hW'; go_simp; first | done | with_reducible rfl)
              simp only [Act.put, nS]
              refine tkH 2 ?_ rfl hGd_h.out (fun W' hW' => ?_) ?_; rotate_left; · (obtain ⟨⟨d0, d1⟩, e0, e1⟩ := t_box2 hW'; have r0 : IntKind.i64.wrap (q : Int) = (q : Int) := IntWalk.i64_in _ (by omega); have r2 : (0 : Int) ≤ (q : Int) := (by omega); have r3 : (q : Int) ≤ (q : Int) + 2 := (by omega); have r4 : q ≤ c1 := (by omega); clear hW'; go_simp; first | done | with_reducible rfl)
              simp only [Act.put, nS]
              refine tkH 3 ?_ rfl hGd_h.out (fun W' hW' => ?_) ?_; rotate_left; · (obtain ⟨⟨d0, d1⟩, e0, e1⟩ := t_box2 hW'; have r0 : IntKind.i64.wrap (q : Int) = (q : Int) := IntWalk.i64_in _ (by omega); have r2 : (0 : Int) ≤ (q : Int) := (by omega); have r3 : (q : Int) ≤ (q : Int) + 2 := (by omega); have r4 : q ≤ c1 := (by omega); clear hW'; go_simp; first | done | with_reducible rfl)
              simp only [Act.put, nS]
              refine tkH 4 ?_ rfl hGd_h.out (fun W' hW' => ?_) ?_; rotate_left; · (obtain ⟨⟨d0, d1⟩, e0, e1⟩ := t_box2 hW'; have r0 : IntKind.i64.wrap (q : Int) = (q : Int) := IntWalk.i64_in _ (by omega); have r2 : (0 : Int) ≤ (q : Int) := (by omega); have r3 : (q : Int) ≤ (q : Int) + 2 := (by omega); have r4 : q ≤ c1 := (by omega); clear hW'; go_simp; first | done | with_reducible rfl)
              simp only [Act.put, nS]
              refine oneH 5 rfl (by kernel_rfl) (by rfl) (fun K hK => ?_)
              go_simp
              refine hK _ _ hG2_h.out ?_
              clear hK K
              refine appH 6 rfl (by kernel_rfl) (by rfl) _ _ _ rfl tWires Tryz.underlying191 info_wires rfl (by omega) rfl hSL_h.out rfl (m := 1) rfl (Sl.rdc (Sl.laid W1 tWires 2 1 #[.int .i64 (joinTy p0 (ty a) (ty b)).1, .int .i64 (joinTy p0 (ty a) (ty b)).2] (by unfold maxLen; omega) rfl)) (by simp [Value.oneCell']) (by unfold maxLen; omega) (by omega) ?_
              intro A2 c2 w2 hs2 hA2 hk2
              have hG3 := t_box_keeps hG2_h.out hk2 (fun h => hGne_h.out _ h rfl)
              refine ⟨hG3, ?_⟩
              simp only [Act.put, nS]
              refine tkH 7 ?_ rfl hG3 (fun W' hW' => ?_) ?_; rotate_left; · (skip; clear hW'; go_simp; first | done | with_reducible rfl)
              simp only [Act.put, nS]
              refine doneH (by kernel_rfl) ?_
              go_wp2_with (fail)
              go_roundw
              case rel => exact ⟨k + 1, .node p0 a b :: r, A2, c2, q + 1, by omega, by go_num, rfl, by simp [hq_h.out], by omega, TyR.push hR4_h.out.bel hR4_h.out.box hR4_h.out.fr hpm_h.out hq_h.out.symm rfl hs2 hA2 hk2⟩
              case measure => simp [intOf]; omega
         · have h0 := name_ne ‹_›
           have hv : v = 0 := ‹_›
           subst hv
           have hN := hNo_h.out (.inr (.inl h0))
           refine bodyPost_ret (t_results_cell_tmp rfl _ _ w.heap.size _ _ (0, 0) _ rfl s1_h.out Tryz.underlying147 rfl (by kernel_rfl)) rfl ?_
           exact TyA.no hN hB2_h.out
         · have h0 : v ≠ 0 := ‹_›
           have hN := hNo_h.out (.inl h0)
           refine bodyPost_ret (t_results_cell_tmp rfl _ _ w.heap.size _ _ (0, 0) _ rfl s1_h.out Tryz.underlying147 rfl (by kernel_rfl)) rfl ?_
           exact TyA.no hN hB2_h.out
       · simp only [Bool.not_true] at e16
         go_wp2_with (fail)
         · have h0 : (n1 : Int) < 2 := ‹_›
           have hv : v = 0 := ‹_›
           subst hv
           have hN := hNo_h.out (.inr (.inr (by rw [← hn1_h.out]; omega)))
           refine bodyPost_ret (t_results_cell_tmp rfl _ _ w.heap.size _ _ (0, 0) _ rfl s1_h.out Tryz.underlying147 rfl (by kernel_rfl)) rfl ?_
           exact TyA.no hN hB2_h.out
         · have hv : v = 0 := ‹_›
           have hs' := name_eq ‹s.toList = []›
           have h2 : 2 ≤ (n1 : Int) := ‹_›
           subst hv hs'
           obtain ⟨q, rfl⟩ : ∃ q, n1 = q + 2 := ⟨n1 - 2, by omega⟩
           obtain ⟨b, a, r, rfl, hq⟩ := two_of hn1_h.out
           rw [show (((q + 2 : Nat) : Int) - 1) = ((q + 1 : Nat) : Int) by omega]
           clear c00 c01 f0 f1
           go_cut [12, 13] (fun s12 s13 wx => ∃ (G : Nat) (c' : Bool), s12 = .pointer (some ⟨G, 0, none⟩) ∧ s13 = .bool c' ∧ c' = joinB p0 (ty a) (ty b) ∧ wx.heap[G]? = some (.cells #[.int .i64 (joinTy p0 (ty a) (ty b)).1, .int .i64 (joinTy p0 (ty a) (ty b)).2] tWires) ∧ wr.heap.size ≤ G ∧ Below wr.heap.size wr wx)
           case first =>
            refine beginB (by kernel_rfl) (fun W1 hW1 => ?_)
            have hb1 : Below wr.heap.size wr W1 := by rw [hW1]; exact below_drew (t_below_alloc _ _)
            have hN : W1.heap[wr.heap.size]? = some (.cells #[.int .i64 κ, .int .i64 0, .string noName] 113) := by rw [hW1]; exact heap_alloc_new wr _
            have hR1 := hR_h.out.below hb1
            obtain ⟨ad1, hA1, hlt1, -⟩ := TyTop hR1.sl hq
            subst hA1
            obtain ⟨hwb, hwa, -⟩ := (parse_spec _ hR1.par trivial).1
            have fa := wt_fit hwa
            have fb := wt_fit hwb
            have hC := fun W => hJ_h.out (ty a).1 (ty a).2 (ty b).1 (ty b).2 W ⟨fa.1, fa.2.1⟩ ⟨fa.2.2.1, fa.2.2.2⟩ ⟨fb.1, fb.2.1⟩ ⟨fb.2.2.1, fb.2.2.2⟩
            clear hW1 s1_h s2_h hB2_h hNo_h hx_h fa fb hwa hwb; have hb1_h := lH hb1; have hN_h := lH hN; have hR1_h := lH hR1; have hq_h := lH hq; have hC_h := lH hC; clear hb1 hN hR1 hq hC
            refine tkH 0 ?_ rfl (Below.refl _ _) (fun W' hW' => ?_) ?_; rotate_left; · (obtain ⟨⟨c0, c1, c2⟩, f0, f1, f2⟩ := t_box3 (t_box_below hN_h.out hW'); obtain ⟨d0, d1, d2, d3⟩ := TyTop2 (hR1_h.out.sl.below hW') hq_h.out; have r0 : IntKind.i64.wrap (q : Int) = (q : Int) := IntWalk.i64_in _ (by omega); have r2 : (0 : Int) ≤ (q : Int) + 1 := (by omega); have r3 : (q : Int) < (q : Int) + 2 := (by omega); have r4 : (q : Int) + 1 < (q : Int) + 2 := (by omega); clear hW'; go_simp; first | done | with_reducible rfl)
            simp only [Act.put, nS]
            refine tkH 1 ?_ rfl (Below.refl _ _) (fun W' hW' => ?_) ?_; rotate_left; · (obtain ⟨⟨c0, c1, c2⟩, f0, f1, f2⟩ := t_box3 (t_box_below hN_h.out hW'); obtain ⟨d0, d1, d2, d3⟩ := TyTop2 (hR1_h.out.sl.below hW') hq_h.out; have r0 : IntKind.i64.wrap (q : Int) = (q : Int) := IntWalk.i64_in _ (by omega); have r2 : (0 : Int) ≤ (q : Int) + 1 := (by omega); have r3 : (q : Int) < (q : Int) + 2 := (by omega); have r4 : (q : Int) + 1 < (q : Int) + 2 := (by omega); clear hW'; go_simp; first | done | with_reducible rfl)
            simp only [Act.put, nS]
            refine tkH 2 ?_ rfl (Below.refl _ _) (fun W' hW' => ?_) ?_; rotate_left; · (obtain ⟨⟨c0, c1, c2⟩, f0, f1, f2⟩ := t_box3 (t_box_below hN_h.out hW'); obtain ⟨d0, d1, d2, d3⟩ := TyTop2 (hR1_h.out.sl.below hW') hq_h.out; have r0 : IntKind.i64.wrap (q : Int) = (q : Int) := IntWalk.i64_in _ (by omega); have r2 : (0 : Int) ≤ (q : Int) + 1 := (by omega); have r3 : (q : Int) < (q : Int) + 2 := (by omega); have r4 : (q : Int) + 1 < (q : Int) + 2 := (by omega); clear hW'; go_simp; first | done | with_reducible rfl)
            simp only [Act.put, nS]
            refine tkH 3 ?_ rfl (Below.refl _ _) (fun W' hW' => ?_) ?_; rotate_left; · (obtain ⟨⟨c0, c1, c2⟩, f0, f1, f2⟩ := t_box3 (t_box_below hN_h.out hW'); obtain ⟨d0, d1, d2, d3⟩ := TyTop2 (hR1_h.out.sl.below hW') hq_h.out; have r0 : IntKind.i64.wrap (q : Int) = (q : Int) := IntWalk.i64_in _ (by omega); have r2 : (0 : Int) ≤ (q : Int) + 1 := (by omega); have r3 : (q : Int) < (q : Int) + 2 := (by omega); have r4 : (q : Int) + 1 < (q : Int) + 2 := (by omega); clear hW'; go_simp; first | done | with_reducible rfl)
            simp only [Act.put, nS]
            refine tkH 4 ?_ rfl (Below.refl _ _) (fun W' hW' => ?_) ?_; rotate_left; · (obtain ⟨⟨c0, c1, c2⟩, f0, f1, f2⟩ := t_box3 (t_box_below hN_h.out hW'); obtain ⟨d0, d1, d2, d3⟩ := TyTop2 (hR1_h.out.sl.below hW') hq_h.out; have r0 : IntKind.i64.wrap (q : Int) = (q : Int) := IntWalk.i64_in _ (by omega); have r2 : (0 : Int) ≤ (q : Int) + 1 := (by omega); have r3 : (q : Int) < (q : Int) + 2 := (by omega); have r4 : (q : Int) + 1 < (q : Int) + 2 := (by omega); clear hW'; go_simp; first | done | with_reducible rfl)
            simp only [Act.put, nS]
            refine tkH 5 ?_ rfl (Below.refl _ _) (fun W' hW' => ?_) ?_; rotate_left; · (obtain ⟨⟨c0, c1, c2⟩, f0, f1, f2⟩ := t_box3 (t_box_below hN_h.out hW'); obtain ⟨d0, d1, d2, d3⟩ := TyTop2 (hR1_h.out.sl.below hW') hq_h.out; have r0 : IntKind.i64.wrap (q : Int) = (q : Int) := IntWalk.i64_in _ (by omega); have r2 : (0 : Int) ≤ (q : Int) + 1 := (by omega); have r3 : (q : Int) < (q : Int) + 2 := (by omega); have r4 : (q : Int) + 1 < (q : Int) + 2 := (by omega); clear hW'; go_simp; first | done | with_reducible rfl)
            simp only [Act.put, nS]
            refine tkH 6 ?_ rfl (Below.refl _ _) (fun W' hW' => ?_) ?_; rotate_left; · (obtain ⟨⟨c0, c1, c2⟩, f0, f1, f2⟩ := t_box3 (t_box_below hN_h.out hW'); obtain ⟨d0, d1, d2, d3⟩ := TyTop2 (hR1_h.out.sl.below hW') hq_h.out; have r0 : IntKind.i64.wrap (q : Int) = (q : Int) := IntWalk.i64_in _ (by omega); have r2 : (0 : Int) ≤ (q : Int) + 1 := (by omega); have r3 : (q : Int) < (q : Int) + 2 := (by omega); have r4 : (q : Int) + 1 < (q : Int) + 2 := (by omega); clear hW'; go_simp; first | done | with_reducible rfl)
            simp only [Act.put, nS]
            refine tkH 7 ?_ rfl (Below.refl _ _) (fun W' hW' => ?_) ?_; rotate_left; · (obtain ⟨⟨c0, c1, c2⟩, f0, f1, f2⟩ := t_box3 (t_box_below hN_h.out hW'); obtain ⟨d0, d1, d2, d3⟩ := TyTop2 (hR1_h.out.sl.below hW') hq_h.out; have r0 : IntKind.i64.wrap (q : Int) = (q : Int) := IntWalk.i64_in _ (by omega); have r2 : (0 : Int) ≤ (q : Int) + 1 := (by omega); have r3 : (q : Int) < (q : Int) + 2 := (by omega); have r4 : (q : Int) + 1 < (q : Int) + 2 := (by omega); clear hW'; go_simp; first | done | with_reducible rfl)
            simp only [Act.put, nS]
            refine tkH 8 ?_ rfl (Below.refl _ _) (fun W' hW' => ?_) ?_; rotate_left; · (obtain ⟨⟨c0, c1, c2⟩, f0, f1, f2⟩ := t_box3 (t_box_below hN_h.out hW'); obtain ⟨d0, d1, d2, d3⟩ := TyTop2 (hR1_h.out.sl.below hW') hq_h.out; have r0 : IntKind.i64.wrap (q : Int) = (q : Int) := IntWalk.i64_in _ (by omega); have r2 : (0 : Int) ≤ (q : Int) + 1 := (by omega); have r3 : (q : Int) < (q : Int) + 2 := (by omega); have r4 : (q : Int) + 1 < (q : Int) + 2 := (by omega); clear hW'; go_simp; first | done | with_reducible rfl)
            simp only [Act.put, nS]
            refine tkH 9 ?_ rfl (Below.refl _ _) (fun W' hW' => ?_) ?_; rotate_left; · (obtain ⟨⟨c0, c1, c2⟩, f0, f1, f2⟩ := t_box3 (t_box_below hN_h.out hW'); obtain ⟨d0, d1, d2, d3⟩ := TyTop2 (hR1_h.out.sl.below hW') hq_h.out; have r0 : IntKind.i64.wrap (q : Int) = (q : Int) := IntWalk.i64_in _ (by omega); have r2 : (0 : Int) ≤ (q : Int) + 1 := (by omega); have r3 : (q : Int) < (q : Int) + 2 := (by omega); have r4 : (q : Int) + 1 < (q : Int) + 2 := (by omega); clear hW'; go_simp; first | done | with_reducible rfl)
            simp only [Act.put, nS]
            refine tkH 10 ?_ rfl (Below.refl _ _) (fun W' hW' => ?_) ?_; rotate_left; · (obtain ⟨⟨c0, c1, c2⟩, f0, f1, f2⟩ := t_box3 (t_box_below hN_h.out hW'); obtain ⟨d0, d1, d2, d3⟩ := TyTop2 (hR1_h.out.sl.below hW') hq_h.out; have r0 : IntKind.i64.wrap (q : Int) = (q : Int) := IntWalk.i64_in _ (by omega); have r2 : (0 : Int) ≤ (q : Int) + 1 := (by omega); have r3 : (q : Int) < (q : Int) + 2 := (by omega); have r4 : (q : Int) + 1 < (q : Int) + 2 := (by omega); clear hW'; go_simp; first | done | with_reducible rfl)
            simp only [Act.put, nS]
            refine callOrH 11 15 (f := ?f2) (args := ?args2) (vj := ?vj2) (wj := ?wj2) rfl rfl (by kernel_rfl) (by rfl) (by rfl) ?hrun2 ?hrunj2 ?h12 ?hSj2 ?h22
            case hrun2 => (go_simp; first | done | with_reducible rfl | (constructor <;> with_reducible rfl))
            case hrunj2 => (go_simp; first | done | with_reducible rfl | (constructor <;> with_reducible rfl))
            case hSj2 => exact ((t_below_alloc _ _))
            case h12 =>
             refine (hC_h.out W1).mono ?_
             rintro e w2 ⟨c', rfl, hc', hb2⟩
             have hbx := hb1_h.out.trans (hb2.mono hb1_h.out.size)
             have hkx := heap_alloc_new w2 (.cells #[.int .i64 (joinTy p0 (ty a) (ty b)).1, .int .i64 (joinTy p0 (ty a) (ty b)).2] tWires)
             have hb3 := hbx.trans ((t_below_alloc w2 (.cells #[.int .i64 (joinTy p0 (ty a) (ty b)).1, .int .i64 (joinTy p0 (ty a) (ty b)).2] tWires)).mono hbx.size)
             refine ⟨_, rfl, hb2, ?_⟩
             have hc'_h := lH hc'; have hbx_h := lH hbx; have hkx_h := lH hkx; have hb3_h := lH hb3; clear hc' hbx hkx hb3
             simp only [Act.put, nS]
             refine tkH 12 ?_ rfl hb2 (fun W' hW' => ?_) ?_; rotate_left; · (skip; clear hW'; go_simp; first | done | with_reducible rfl)
             simp only [Act.put, nS]
             refine tkH 13 ?_ rfl hb2 (fun W' hW' => ?_) ?_; rotate_left; · (skip; clear hW'; go_simp; first | done | with_reducible rfl)
             simp only [Act.put, nS]
             refine tkH 14 ?_ rfl hb2 (fun W' hW' => ?_) ?_; rotate_left; · (skip; clear hW'; go_simp; first | done | with_reducible rfl)
             simp only [Act.put, nS]
             refine oneH 15 rfl (by kernel_rfl) (by rfl) (fun K hK => ?_)
             go_simp
             refine hK _ _ (hb2.trans ((t_below_alloc _ _).mono hb2.size)) ?_
             clear hK K
             refine oneH 16 rfl (by kernel_rfl) (by rfl) (fun K hK => ?_)
             go_simp
             refine hK _ _ (hb2.trans ((t_below_alloc _ _).mono hb2.size)) ?_
             clear hK K
             refine takeH 17 (v := ?_) rfl (by kernel_rfl) (by kernel_rfl) (by kernel_rfl) (fun _ _ _ h => h) (hb2.trans ((t_below_alloc _ _).mono hb2.size)) (by rfl) (fun W' hW' => ?_) ?_; rotate_left; · (skip; clear hW'; go_simp; first | done | with_reducible rfl)
             simp only [Act.put, nS]
             refine doneH (by kernel_rfl) ?_
             go_wp2_with (fail)
             go_meet
             exact ⟨_, c', rfl, rfl, hc'_h.out, hkx_h.out, hbx_h.out.size, hb3_h.out⟩
            case h22 =>
             refine' callH 11 (f := _) (args := _) rfl (by kernel_rfl) (by rfl) ?_ ?_; rotate_left 2; · (go_simp; first | done | with_reducible rfl | (constructor <;> with_reducible rfl))
             refine (hC_h.out _).mono ?_
             rintro e w2 ⟨c', rfl, hc', hb2⟩
             have hbs : Below W1.heap.size W1 w2 := (t_below_alloc W1 (.cells #[.int .i64 0, .int .i64 0] tWires)).trans (hb2.mono (by simp))
             have hk := t_box_below (heap_alloc_new W1 (.cells #[.int .i64 0, .int .i64 0] tWires)) hb2
             obtain ⟨s1, s2⟩ := t_set2 (a := .int .i64 (joinTy p0 (ty a) (ty b)).1) (b := .int .i64 (joinTy p0 (ty a) (ty b)).2) hk
             have hbt := below_keeps hbs s2 hbs.size (fun k hk => by omega)
             have hb3 := hb1_h.out.trans (hbt.mono hb1_h.out.size)
             obtain ⟨⟨c0, c1⟩, f0, f1⟩ := t_box2 hk
             refine ⟨_, rfl, hbs, ?_⟩
             have hc'_h := lH hc'; have hbs_h := lH hbs; have hk_h := lH hk; have s1_h := lH s1; have s2_h := lH s2; have hbt_h := lH hbt; have hb3_h := lH hb3; have hb2_h := lH hb2; clear hc' hbs hk s1 s2 hbt hb3 hb2
             simp only [Act.put, nS]
             refine tkH 12 ?_ rfl hbs_h.out (fun W' hW' => ?_) ?_; rotate_left; · (skip; clear hW'; go_simp; first | done | with_reducible rfl)
             simp only [Act.put, nS]
             refine tkH 13 ?_ rfl hbs_h.out (fun W' hW' => ?_) ?_; rotate_left; · (skip; clear hW'; go_simp; first | done | with_reducible rfl)
             simp only [Act.put, nS]
             refine tkH 14 ?_ rfl hbs_h.out (fun W' hW' => ?_) ?_; rotate_left; · (skip; clear hW'; go_simp; first | done | with_reducible rfl)
             simp only [Act.put, nS]
             refine oneH 16 rfl (by kernel_rfl) (by rfl) (fun K hK => ?_)
             go_simp
             refine hK _ _ hbt_h.out ?_
             clear hK K
             refine tkH 17 ?_ rfl hbt_h.out (fun W' hW' => ?_) ?_; rotate_left; · (skip; clear hW'; go_simp; first | done | with_reducible rfl)
             simp only [Act.put, nS]
             refine doneH (by kernel_rfl) ?_
             go_wp2_with (fail)
             go_meet
             exact ⟨_, c', rfl, rfl, hc'_h.out, s1_h.out, hb1_h.out.size, hb3_h.out⟩
           case rest =>
            obtain ⟨G, c', rfl, rfl, hc', hG, hGz, hbc⟩ := hcut
            have hR2 := hR_h.out.below hbc
            obtain ⟨ad1, hA1, hlt1, -⟩ := TyTop hR_h.out.sl hq
            subst hA1
            have hjn : (κ, (0 : Int), noName) = joinNd p0 := by rw [hp_h.out]; rfl
            clear s1_h s2_h hB2_h hx_h hlt1
            cases c'
            · have hN := parse_none hR2.par hn_h.out (by rw [hjn, step_join, ← hc']; rfl)
              have hx := hR2.box
              have hxl := t_box_lt hx
              obtain ⟨⟨c00, c01⟩, f0, f1⟩ := t_box2 hx
              obtain ⟨s1, s2⟩ := t_set2 (a := .int .i64 0) (b := .int .i64 0) hx
              have hB2 := below_keeps hR2.bel s2 (by omega) (fun k hk => by omega)
              have hN_h := lH hN; have s1_h := lH s1; have s2_h := lH s2; have hB2_h := lH hB2; have hx_h := lH hx; have hR2_h := lH hR2; have hc'_h := lH hc'; have hG_h := lH hG; have hbc_h := lH hbc; have hjn_h := lH hjn; have hq_h := lH hq; clear hN s1 s2 hB2 hx hR2 hc' hG hbc hjn hq
              go_wp2_with (fail)
              refine bodyPost_ret (t_results_cell_tmp rfl _ _ w.heap.size _ _ (0, 0) _ rfl s1_h.out Tryz.underlying147 rfl (by kernel_rfl)) rfl ?_
              exact TyA.no hN_h.out hB2_h.out
            · have hpm := parse_more hR2.par hn_h.out (by rw [hjn, step_join, ← hc']; rfl)
              have hGne : ∀ b, b ∈ fpA (some ad1) → ¬ b = G := fun b hb e => by have := hR_h.out.sl.lt b hb; omega
              have hR2_h := lH hR2; have hc'_h := lH hc'; have hbc_h := lH hbc; have hjn_h := lH hjn; have hq_h := lH hq; have hpm_h := lH hpm; have hG_h := lH hG; have hGne_h := lH hGne; clear hR2 hc' hbc hjn hq hpm hG hGne
              go_wp2_with (fail)
              refine beginH (fun w' => w'.heap[G]? = some (.cells #[.int .i64 (joinTy p0 (ty a) (ty b)).1, .int .i64 (joinTy p0 (ty a) (ty b)).2] tWires)) (by kernel_rfl) ?_
              have hGd : wc.drew.heap[G]? = some (.cells #[.int .i64 (joinTy p0 (ty a) (ty b)).1, .int .i64 (joinTy p0 (ty a) (ty b)).2] tWires) := hG_h.out
              have hR3 : TyR w.heap.size w l k (b :: a :: r) (some ad1) c1 wc.drew := hR2_h.out.below (below_drew (Below.refl _ _))
              generalize wc.drew = W1 at hGd hR3 ⊢
              have hW2 := t_below_alloc W1 (.cells #[.int .i64 (joinTy p0 (ty a) (ty b)).1, .int .i64 (joinTy p0 (ty a) (ty b)).2] tWires)
              have hG2 := t_box_below hGd hW2
              have hR4 := hR3.below hW2
              have hSL : Sl (W1.alloc (.cells #[.int .i64 (joinTy p0 (ty a) (ty b)).1, .int .i64 (joinTy p0 (ty a) (ty b)).2] tWires)) tWires 2 (some ad1) q c1 (wcs r) := by
               have := Sl.take hR4.sl (k := q) (by have := hq_h.out; simp only [List.length_cons]; omega)
               rwa [wcs_take a b r hq_h.out] at this
              have hcq : q + 2 ≤ c1 := by have := hR4.sl.2.1; have h2 := hq_h.out; simp only [List.length_cons] at this; omega
              have hGd_h := lH hGd; have hR3_h := lH hR3; have hG2_h := lH hG2; have hR4_h := lH hR4; have hSL_h := lH hSL; have hW2_h := lH hW2; clear hGd hR3 hG2 hR4 hSL hW2
              refine tkH 0 ?_ rfl hGd_h.out (fun W' hW' => ?_) ?_; rotate_left; · (obtain ⟨⟨d0, d1⟩, e0, e1⟩ := t_box2 hW'; have r0 : IntKind.i64.wrap (q : Int) = (q : Int) := IntWalk.i64_in _ (by omega); have r2 : (0 : Int) ≤ (q : Int) := (by omega); have r3 : (q : Int) ≤ (q : Int) + 2 := (by omega); have r4 : q ≤ c1 := (by omega); clear hW'; go_simp; first | done | with_reducible rfl)
              simp only [Act.put, nS]
              refine tkH 1 ?_ rfl hGd_h.out (fun W' hW' => ?_) ?_; rotate_left; · (obtain ⟨⟨d0, d1⟩, e0, e1⟩ := t_box2 hW'; have r0 : IntKind.i64.wrap (q : Int) = (q : Int) := IntWalk.i64_in _ (by omega); have r2 : (0 : Int) ≤ (q : Int) := (by omega); have r3 : (q : Int) ≤ (q : Int) + 2 := (by omega); have r4 : q ≤ c1 := (by omega); clear hW'; go_simp; first | done | with_reducible rfl)
              simp only [Act.put, nS]
              refine tkH 2 ?_ rfl hGd_h.out (fun W' hW' => ?_) ?_; rotate_left; · (obtain ⟨⟨d0, d1⟩, e0, e1⟩ := t_box2 hW'; have r0 : IntKind.i64.wrap (q : Int) = (q : Int) := IntWalk.i64_in _ (by omega); have r2 : (0 : Int) ≤ (q : Int) := (by omega); have r3 : (q : Int) ≤ (q : Int) + 2 := (by omega); have r4 : q ≤ c1 := (by omega); clear hW'; go_simp; first | done | with_reducible rfl)
              simp only [Act.put, nS]
              refine tkH 3 ?_ rfl hGd_h.out (fun W' hW' => ?_) ?_; rotate_left; · (obtain ⟨⟨d0, d1⟩, e0, e1⟩ := t_box2 hW'; have r0 : IntKind.i64.wrap (q : Int) = (q : Int) := IntWalk.i64_in _ (by omega); have r2 : (0 : Int) ≤ (q : Int) := (by omega); have r3 : (q : Int) ≤ (q : Int) + 2 := (by omega); have r4 : q ≤ c1 := (by omega); clear hW'; go_simp; first | done | with_reducible rfl)
              simp only [Act.put, nS]
              refine tkH 4 ?_ rfl hGd_h.out (fun W' hW' => ?_) ?_; rotate_left; · (obtain ⟨⟨d0, d1⟩, e0, e1⟩ := t_box2 hW'; have r0 : IntKind.i64.wrap (q : Int) = (q : Int) := IntWalk.i64_in _ (by omega); have r2 : (0 : Int) ≤ (q : Int) := (by omega); have r3 : (q : Int) ≤ (q : Int) + 2 := (by omega); have r4 : q ≤ c1 := (by omega); clear hW'; go_simp; first | done | with_reducible rfl)
              simp only [Act.put, nS]
              refine oneH 5 rfl (by kernel_rfl) (by rfl) (fun K hK => ?_)
              go_simp
              refine hK _ _ hG2_h.out ?_
              clear hK K
              refine appH 6 rfl (by kernel_rfl) (by rfl) _ _ _ rfl tWires Tryz.underlying191 info_wires rfl (by omega) rfl hSL_h.out rfl (m := 1) rfl (Sl.rdc (Sl.laid W1 tWires 2 1 #[.int .i64 (joinTy p0 (ty a) (ty b)).1, .int .i64 (joinTy p0 (ty a) (ty b)).2] (by unfold maxLen; omega) rfl)) (by simp [Value.oneCell']) (by unfold maxLen; omega) (by omega) ?_
              intro A2 c2 w2 hs2 hA2 hk2
              have hG3 := t_box_keeps hG2_h.out hk2 (fun h => hGne_h.out _ h rfl)
              refine ⟨hG3, ?_⟩
              simp only [Act.put, nS]
              refine tkH 7 ?_ rfl hG3 (fun W' hW' => ?_) ?_; rotate_left; · (skip; clear hW'; go_simp; first | done | with_reducible rfl)
              simp only [Act.put, nS]
              refine doneH (by kernel_rfl) ?_
              go_wp2_with (fail)
              go_roundw
              case rel => exact ⟨k + 1, .node p0 a b :: r, A2, c2, q + 1, by omega, by go_num, rfl, by simp [hq_h.out], by omega, TyR.push hR4_h.out.bel hR4_h.out.box hR4_h.out.fr hpm_h.out hq_h.out.symm rfl hs2 hA2 hk2⟩
              case measure => simp [intOf]; omega
         · have h0 := name_ne ‹_›
           have hv : v = 0 := ‹_›
           subst hv
           have hN := hNo_h.out (.inr (.inl h0))
           refine bodyPost_ret (t_results_cell_tmp rfl _ _ w.heap.size _ _ (0, 0) _ rfl s1_h.out Tryz.underlying147 rfl (by kernel_rfl)) rfl ?_
           exact TyA.no hN hB2_h.out
         · have h0 : v ≠ 0 := ‹_›
           have hN := hNo_h.out (.inl h0)
           refine bodyPost_ret (t_results_cell_tmp rfl _ _ w.heap.size _ _ (0, 0) _ rfl s1_h.out Tryz.underlying147 rfl (by kernel_rfl)) rfl ?_
           exact TyA.no hN hB2_h.out
     · have e15 : (κ != 15) = true := by simp; omega
       have e16 : (κ != 16) = true := by simp; omega
       have hl := lH (fun W => leafWires_any κ v s W)
       have hj_h := lH hj; clear hj
       go_wp2_with (fail)
       refine (hl.out _).mono ?_
       rintro e w1 ⟨i, o, b, rfl, hb, hty, hB1⟩
       have hB1' := (t_below_alloc wr (.cells #[.int .i64 κ, .int .i64 v, .string s] 113)).trans (hB1.mono (by simp))
       have hR1 := hR_h.out.below hB1'
       have hx := hR1.box
       have hxl := t_box_lt hx
       have hx2 := t_box_below hx (t_below_alloc w1 (.cells #[.int .i64 i, .int .i64 o] tWires))
       obtain ⟨⟨c00, c01⟩, f0, f1⟩ := t_box2 hx
       cases b
       · have hN := parse_none hR1.par hn_h.out (by rw [step_leaf (n := (κ, v, s)) (show ¬ isJoin (κ, v, s) from hj_h.out), ← hb]; rfl)
         obtain ⟨s0, s2⟩ := t_set2 (a := .int .i64 0) (b := .int .i64 0) hx
         have s1 := t_box_below s0 (t_below_alloc _ (.cells #[.int .i64 i, .int .i64 o] tWires))
         have hB2 := below_trans (below_keeps hR1.bel s2 (by omega) (fun k hk => by omega)) (t_below_alloc _ (.cells #[.int .i64 i, .int .i64 o] tWires)) (Nat.le_trans (by omega) s2.size)
         clear s0; have hN_h := lH hN; have s1_h := lH s1; have s2_h := lH s2; have hB2_h := lH hB2; have hx_h := lH hx; have hx2_h := lH hx2; have hR1_h := lH hR1; have hb_h := lH hb; have hty_h := lH hty; have hB1_h := lH hB1; have hB1'_h := lH hB1'; clear hN s1 s2 hB2 hx hx2 hR1 hb hty hB1 hB1'; clear hl
         go_wp2_with (fail)
         refine bodyPost_ret (t_results_cell_tmp rfl _ _ w.heap.size _ _ (0, 0) _ rfl s1_h.out Tryz.underlying147 rfl (by kernel_rfl)) rfl ?_
         exact TyA.no hN_h.out hB2_h.out
       · have hp := parse_more hR1.par hn_h.out (by rw [step_leaf (n := (κ, v, s)) (show ¬ isJoin (κ, v, s) from hj_h.out), ← hb]; rfl)
         have hio := hty rfl
         have hx_h := lH hx; have hx2_h := lH hx2; have hR1_h := lH hR1; have hb_h := lH hb; have hty_h := lH hty; have hB1_h := lH hB1; have hB1'_h := lH hB1'; have hp_h := lH hp; have hio_h := lH hio; clear hx hx2 hR1 hb hty hB1 hB1' hp hio; clear hl
         have hSL : Sl (w1.alloc (.cells #[.int .i64 i, .int .i64 o] tWires)) tWires 2 A1 n1 c1 (wcs st) := Sl.alloc (by rw [hn1_h.out]; exact hR1_h.out.sl) _
         have HSL := lH hSL; clear hSL
         go_wp2_with (at_builtin; refine wpList_append1 rfl _ _ _ rfl tWires Tryz.underlying191 info_wires rfl (by omega) rfl HSL.out rfl (by simp) rfl (by simp [Value.oneCell']) (by omega) (by omega) ?_; intro A2 c2 w2 hs2 hA2 hk2)
         go_roundw
         case rel => exact ⟨k + 1, .leaf (κ, v, s) :: st, A2, c2, n1 + 1, by omega, by go_num, rfl, by simp [hn1_h.out], by omega, TyR.push (below_trans hR1_h.out.bel (t_below_alloc _ _) hR1_h.out.bel.size) hx2_h.out hR1_h.out.fr hp_h.out hn1_h.out hio_h.out hs2 hA2 hk2⟩
         case measure => simp [intOf]; omega
   · obtain rfl : k = m := by omega
     have hpar := hR.par
     rw [List.take_of_length_le (by rw [hm_h.out]; omega)] at hpar
     obtain ⟨hws, hfl⟩ := parse_spec _ hpar trivial
     have hne : st ≠ [] := fun e => by
      subst e
      have : l = [] := by simpa [flats] using hfl.symm
      subst this
      have := hm_h.out
      simp at this
      omega
     obtain ⟨i, o, h0, h1, hio⟩ := wcs_bot hne
     obtain ⟨ad1, hA1, hlt1, c0, _⟩ := Sl.cell hR.sl h0
     obtain ⟨ad1', hA1', _, c1', _⟩ := Sl.cell hR.sl h1
     rw [hA1] at hA1'
     obtain rfl := Option.some.inj hA1'
     subst hA1
     rw [show ad1.add 0 = ad1 from rfl] at c0
     rw [show (1 : Nat) = 0 + 1 from rfl, add_next _ _ 1 (by omega), show ad1.add 0 = ad1 from rfl] at c1'
     have hnb : ¬ ad1.block = w.heap.size := fun e => by have := hR.fr ad1.block (by simp); omega
     have hx := hR.box
     have hres : treeM l = oneOf st := treeM_of ⟨by rw [← hm_h.out]; omega, by rw [← hm_h.out]; omega⟩ hpar
     have hn0 : 0 < n1 := by rw [hn1]; exact List.length_pos_iff.2 hne
     have hbl := hR.bel
     have hxl := t_box_lt hx
     obtain ⟨⟨c00, c01⟩, f0, f1⟩ := t_box2 hx
     obtain ⟨s1, s2⟩ := t_set2 (a := .int .i64 i) (b := .int .i64 o) hx
     have hB2 := below_keeps hbl s2 (by omega) (fun k hk => by omega)
     have hR_h := lH hR; have hn1_h := lH hn1; have hpar_h := lH hpar; have hws_h := lH hws; have hfl_h := lH hfl; have hne_h := lH hne; have h0_h := lH h0; have h1_h := lH h1; have hio_h := lH hio; have hres_h := lH hres; have hx_h := lH hx; have hbl_h := lH hbl; have hnb_h := lH hnb; have s1_h := lH s1; have s2_h := lH s2; have hB2_h := lH hB2; clear hR hn1 hpar hws hfl hne h0 h1 hio hres hx hbl hnb s1 s2 hB2; clear h
     go_wp2_with (fail)
     refine bodyPost_ret (t_results_cell_tmp rfl _ _ w.heap.size _ _ (0, 0) _ rfl s1_h.out Tryz.underlying147 rfl (by kernel_rfl)) rfl ?_
     refine ⟨i, o, ((n1 : Int) == 1), rfl, ?_, fun t ht => ?_, hB2_h.out⟩
     · rw [hres_h.out]; exact oneOf_one hn1_h.out
     · rw [hres_h.out] at ht; exact hio_h.out t (oneOf_some ht)
abbrev tInfo : TypeId := 139
abbrev tTerm : TypeId := 54
def frL (st : List Tr) : List Int := (infos st).map fun x => (x.1 : Int)
def inL (st : List Tr) : List Int := (infos st).map (·.2.1)
def ouL (st : List Tr) : List Int := (infos st).map (·.2.2)
structure Th (w : World) (X : Nat) (A0 A1 A2 : Option Addr) (c0 c1 c2 n0 n1 n2 : Nat) (F I O : List Int) : Prop where
 box : w.heap[X]? = some (.cells #[.slice A0 n0 c0, .slice A1 n1 c1, .slice A2 n2 c2] tInfo)
 f : Sl w tInt 1 A0 n0 c0 (ints F)
 i : Sl w tInt 1 A1 n1 c1 (ints I)
 o : Sl w tInt 1 A2 n2 c2 (ints O)
 fr : ∀ b, b ∈ fpA A0 ∨ b ∈ fpA A1 ∨ b ∈ fpA A2 → X < b
 ap01 : ∀ b, b ∈ fpA A0 → ¬ b ∈ fpA A1
 ap02 : ∀ b, b ∈ fpA A0 → ¬ b ∈ fpA A2
 ap12 : ∀ b, b ∈ fpA A1 → ¬ b ∈ fpA A2
section
variable {w w1 w2 : World} {X : Nat} {A0 A1 A2 A' : Option Addr} {c0 c1 c2 c' n0 n1 n2 : Nat} {F I O : List Int}
theorem Th.below (h : Th w X A0 A1 A2 c0 c1 c2 n0 n1 n2 F I O) (hb : Below w.heap.size w w1) : Th w1 X A0 A1 A2 c0 c1 c2 n0 n1 n2 F I O :=
 ⟨t_box_below h.box hb, h.f.below hb, h.i.below hb, h.o.below hb, h.fr, h.ap01, h.ap02, h.ap12⟩
theorem t_set3 {B : Nat} {t : TypeId} {x y z a b c : Value} (h : w.heap[B]? = some (.cells #[x, y, z] t)) : (((w.setCell ⟨B, 0, none⟩ a).setCell ⟨B, 1, none⟩ b).setCell ⟨B, 2, none⟩ c).heap[B]? = some (.cells #[a, b, c] t) ∧ Keeps (· = B) w (((w.setCell ⟨B, 0, none⟩ a).setCell ⟨B, 1, none⟩ b).setCell ⟨B, 2, none⟩ c) := by
 refine ⟨by simp [World.setCell, Array.getElem?_modify, h], ?_⟩
 exact ((((Keeps.refl (fun x => x = B) w).setCell (p := ⟨B, 0, none⟩) rfl _).setCell (p := ⟨B, 1, none⟩) rfl _).setCell (p := ⟨B, 2, none⟩) rfl _)
theorem keeps_one {B i : Nat} {u : Value} : Keeps (· = B) w (w.setCell ⟨B, i, none⟩ u) := (Keeps.refl (fun x => x = B) w).setCell (p := ⟨B, i, none⟩) rfl u
theorem Th.app0 (h : Th w X A0 A1 A2 c0 c1 c2 n0 n1 n2 F I O) {x : Int} (hs : Sl w2 tInt 1 A' (n0 + 1) c' (ints F ++ [.int .i64 x])) (hA : ∀ b, b ∈ fpA A' → b ∈ fpA A0 ∨ w.heap.size ≤ b) (hk : Keeps (· ∈ fpA A0) w w2) :
  Th (w2.setCell ⟨X, 0, none⟩ (.slice A' (n0 + 1) c')) X A' A1 A2 c' c1 c2 (n0 + 1) n1 n2 (F ++ [x]) I O ∧ (w2.heap[X]? = some (.cells #[.slice A0 n0 c0, .slice A1 n1 c1, .slice A2 n2 c2] tInfo)) ∧ (∀ B, B ≤ X → Below B w (w2.setCell ⟨X, 0, none⟩ (.slice A' (n0 + 1) c'))) := by
 have hX := t_box_lt h.box
 have hb2 := t_box_keeps h.box hk (fun hm => by have := h.fr X (.inl hm); omega)
 have hX2 := t_box_lt hb2
 have f' : ∀ b, b ∈ fpA A' → X < b := fun b hb => (hA b hb).elim (fun h1 => h.fr b (.inl h1)) (fun h1 => by omega)
 refine ⟨⟨by simp [World.setCell, Array.getElem?_modify, hb2], ?_, ?_, ?_, ?_, ?_, ?_, h.ap12⟩, hb2, fun B hB => ?_⟩
 · have e : ints (F ++ [x]) = ints F ++ [.int .i64 x] := by simp [ints]
   rw [e]; exact hs.keeps keeps_one fun b hb hx => by have := f' b hb; omega
 · exact (h.i.keeps hk fun b hb hm => h.ap01 b hm hb).keeps keeps_one fun b hb hx => by have := h.fr b (.inr (.inl hb)); omega
 · exact (h.o.keeps hk fun b hb hm => h.ap02 b hm hb).keeps keeps_one fun b hb hx => by have := h.fr b (.inr (.inr hb)); omega
 · rintro b (hb | hb | hb)
   · exact f' b hb
   · exact h.fr b (.inr (.inl hb))
   · exact h.fr b (.inr (.inr hb))
 · intro b hb hm
   rcases hA b hb with h1 | h1
   · exact h.ap01 b h1 hm
   · have := h.i.lt b hm; omega
 · intro b hb hm
   rcases hA b hb with h1 | h1
   · exact h.ap02 b h1 hm
   · have := h.o.lt b hm; omega
 · exact below_keeps (hk.below (by omega) fun b hb => by have := h.fr b (.inl hb); omega) keeps_one (by omega) (fun b hb => by omega)
theorem Th.app1 (h : Th w X A0 A1 A2 c0 c1 c2 n0 n1 n2 F I O) {x : Int} (hs : Sl w2 tInt 1 A' (n1 + 1) c' (ints I ++ [.int .i64 x])) (hA : ∀ b, b ∈ fpA A' → b ∈ fpA A1 ∨ w.heap.size ≤ b) (hk : Keeps (· ∈ fpA A1) w w2) :
  Th (w2.setCell ⟨X, 1, none⟩ (.slice A' (n1 + 1) c')) X A0 A' A2 c0 c' c2 n0 (n1 + 1) n2 F (I ++ [x]) O ∧ (w2.heap[X]? = some (.cells #[.slice A0 n0 c0, .slice A1 n1 c1, .slice A2 n2 c2] tInfo)) ∧ (∀ B, B ≤ X → Below B w (w2.setCell ⟨X, 1, none⟩ (.slice A' (n1 + 1) c'))) := by
 have hX := t_box_lt h.box
 have hb2 := t_box_keeps h.box hk (fun hm => by have := h.fr X (.inr (.inl hm)); omega)
 have hX2 := t_box_lt hb2
 have f' : ∀ b, b ∈ fpA A' → X < b := fun b hb => (hA b hb).elim (fun h1 => h.fr b (.inr (.inl h1))) (fun h1 => by omega)
 refine ⟨⟨by simp [World.setCell, Array.getElem?_modify, hb2], ?_, ?_, ?_, ?_, ?_, h.ap02, ?_⟩, hb2, fun B hB => ?_⟩
 · exact (h.f.keeps hk fun b hb hm => h.ap01 b hb hm).keeps keeps_one fun b hb hx => by have := h.fr b (.inl hb); omega
 · have e : ints (I ++ [x]) = ints I ++ [.int .i64 x] := by simp [ints]
   rw [e]; exact hs.keeps keeps_one fun b hb hx => by have := f' b hb; omega
 · exact (h.o.keeps hk fun b hb hm => h.ap12 b hm hb).keeps keeps_one fun b hb hx => by have := h.fr b (.inr (.inr hb)); omega
 · rintro b (hb | hb | hb)
   · exact h.fr b (.inl hb)
   · exact f' b hb
   · exact h.fr b (.inr (.inr hb))
 · intro b hb hm
   rcases hA b hm with h1 | h1
   · exact h.ap01 b hb h1
   · have := h.f.lt b hb; omega
 · intro b hb hm
   rcases hA b hb with h1 | h1
   · exact h.ap12 b h1 hm
   · have := h.o.lt b hm; omega
 · exact below_keeps (hk.below (by omega) fun b hb => by have := h.fr b (.inr (.inl hb)); omega) keeps_one (by omega) (fun b hb => by omega)
theorem Th.app2 (h : Th w X A0 A1 A2 c0 c1 c2 n0 n1 n2 F I O) {x : Int} (hs : Sl w2 tInt 1 A' (n2 + 1) c' (ints O ++ [.int .i64 x])) (hA : ∀ b, b ∈ fpA A' → b ∈ fpA A2 ∨ w.heap.size ≤ b) (hk : Keeps (· ∈ fpA A2) w w2) :
  Th (w2.setCell ⟨X, 2, none⟩ (.slice A' (n2 + 1) c')) X A0 A1 A' c0 c1 c' n0 n1 (n2 + 1) F I (O ++ [x]) ∧ (w2.heap[X]? = some (.cells #[.slice A0 n0 c0, .slice A1 n1 c1, .slice A2 n2 c2] tInfo)) ∧ (∀ B, B ≤ X → Below B w (w2.setCell ⟨X, 2, none⟩ (.slice A' (n2 + 1) c'))) := by
 have hX := t_box_lt h.box
 have hb2 := t_box_keeps h.box hk (fun hm => by have := h.fr X (.inr (.inr hm)); omega)
 have hX2 := t_box_lt hb2
 have f' : ∀ b, b ∈ fpA A' → X < b := fun b hb => (hA b hb).elim (fun h1 => h.fr b (.inr (.inr h1))) (fun h1 => by omega)
 refine ⟨⟨by simp [World.setCell, Array.getElem?_modify, hb2], ?_, ?_, ?_, ?_, h.ap01, ?_, ?_⟩, hb2, fun B hB => ?_⟩
 · exact (h.f.keeps hk fun b hb hm => h.ap02 b hb hm).keeps keeps_one fun b hb hx => by have := h.fr b (.inl hb); omega
 · exact (h.i.keeps hk fun b hb hm => h.ap12 b hb hm).keeps keeps_one fun b hb hx => by have := h.fr b (.inr (.inl hb)); omega
 · have e : ints (O ++ [x]) = ints O ++ [.int .i64 x] := by simp [ints]
   rw [e]; exact hs.keeps keeps_one fun b hb hx => by have := f' b hb; omega
 · rintro b (hb | hb | hb)
   · exact h.fr b (.inl hb)
   · exact h.fr b (.inr (.inl hb))
   · exact f' b hb
 · intro b hb hm
   rcases hA b hm with h1 | h1
   · exact h.ap02 b hb h1
   · have := h.f.lt b hb; omega
 · intro b hb hm
   rcases hA b hm with h1 | h1
   · exact h.ap12 b hb h1
   · have := h.i.lt b hb; omega
 · exact below_keeps (hk.below (by omega) fun b hb => by have := h.fr b (.inr (.inr hb)); omega) keeps_one (by omega) (fun b hb => by omega)
end
abbrev RV := Int × Int × Option Addr × Nat × Nat
def rc (h : RV) : List Value := [.int .i64 h.1, .int .i64 h.2.1, .slice h.2.2.1 h.2.2.2.1 h.2.2.2.2]
def rv (h : RV) : Value := .agg #[.int .i64 h.1, .int .i64 h.2.1, .slice h.2.2.1 h.2.2.2.1 h.2.2.2.2]
def rcs : List RV → List Value
 | [] => []
 | n :: r => rc n ++ rcs r
theorem rcs_append (l m : List RV) : rcs (l ++ m) = rcs l ++ rcs m := by
 induction l with
 | nil => rfl
 | cons n r ih => simp [rcs, ih]
@[simp] theorem rcs_length (l : List RV) : (rcs l).length = l.length * 3 := by
  induction l with
  | nil => rfl
  | cons n r ih => simp only [rcs, rc, List.length_append, List.length_cons, List.length_nil, ih]; omega
theorem rcs_take : ∀ (l : List RV) (k : Nat), rcs (l.take k) = (rcs l).take (k * 3)
 | [], k => by simp [rcs]
 | n :: r, 0 => by simp [rcs]
 | n :: r, k + 1 => by
   rw [show (k + 1) * 3 = k * 3 + 1 + 1 + 1 by omega]
   simp only [List.take_succ_cons, rcs, rc, List.cons_append, List.nil_append, rcs_take r k]
theorem rcs_get {l : List RV} {j : Nat} {n : RV} (h : l[j]? = some n) : (rcs l)[j * 3]? = some (.int .i64 n.1) ∧ (rcs l)[j * 3 + 1]? = some (.int .i64 n.2.1) ∧ (rcs l)[j * 3 + 2]? = some (.slice n.2.2.1 n.2.2.2.1 n.2.2.2.2) := by
 induction l generalizing j with
 | nil => simp at h
 | cons a r ih =>
   cases j with
   | zero =>
     obtain rfl : a = n := by simpa using h
     simp [rcs, rc]
   | succ j =>
     have := ih (j := j) (by simpa using h)
     have hl : (rc a).length = 3 := rfl
     simp only [rcs]
     rw [List.getElem?_append_right (by omega), List.getElem?_append_right (by omega), List.getElem?_append_right (by omega), hl]
     rw [show (j + 1) * 3 - 3 = j * 3 by omega, show (j + 1) * 3 + 1 - 3 = j * 3 + 1 by omega, show (j + 1) * 3 + 2 - 3 = j * 3 + 2 by omega]
     exact this
theorem info_rel : (Tryz.prog.info? tRelD).map (fun i => (i.zero, i.size, i.bytes)) = some (some (.agg #[.int .i64 0, .int .i64 0, .slice none 0 0]), 3, 40) := by kernel_rfl
theorem Sl.apart_ty {w : World} {e e' : TypeId} {sz sz' n n' c c' : Nat} {A B : Option Addr} {xs ys : List Value} (h : Sl w e sz A n c xs) (h' : Sl w e' sz' B n' c' ys) (he : e ≠ e') : ∀ b, b ∈ fpA A → ¬ b ∈ fpA B := by
 intro x hx hx'
 rcases h.2.2.2 with ⟨rfl, _⟩ | ⟨g, off, cur, rfl, hg, _⟩
 · simp at hx
 rcases h'.2.2.2 with ⟨rfl, _⟩ | ⟨g', off', cur', rfl, hg', _⟩
 · simp at hx'
 simp at hx hx'
 subst hx
 subst hx'
 rw [hg] at hg'
 injection hg' with hg'
 injection hg' with _ h2 _
 exact he h2
theorem OwSys.apart_rel {w : World} {v : Value} {s : Sys} {fp : List Nat} {n c : Nat} {B : Option Addr} {ys : List Value} (h : OwSys w v s fp) (h' : Sl w tRelD 3 B n c ys) : ∀ b, b ∈ fp → ¬ b ∈ fpA B := by
 obtain ⟨A, c, hs, rfl, _, hO, rfl⟩ := h
 intro b hb
 rcases List.mem_append.1 hb with hb | hb
 · exact hO.sl.apart_ty h' (by decide) b hb
 · obtain ⟨x, hx, hb⟩ := mem_fpR.1 hb
   exact Sl.apart_ty (hO.rows x hx) h' (by decide) b hb
theorem cell_mv {w0 w1 : World} {P : Addr} {u : Value} (hb : Below w0.heap.size w0 w1) (h : w0.cell? P = some u) : w1.cell? P = some u := (hb.cell (World.block_lt_of_cell? _ _ h)).trans h
theorem bx1_d {w : World} {B : Nat} {x : Value} {t : TypeId} (h : w.heap[B]? = some (.cells #[x] t)) : w.cell? ⟨B, 0, none⟩ = some x ∧ w.frozen? ⟨B, 0, none⟩ = false := by simp [World.cell?, World.frozen?, h]
structure Stk (w0 w : World) (A : Option Addr) (cap : Nat) (hs : List RV) (L : List Sys) : Prop where
 sl : Sl w tRelD 3 A hs.length cap (rcs hs)
 els : ∀ (i : Nat) (s : Sys), L[i]? = some s → ∃ h fp, hs[i]? = some h ∧ OwSys w (rv h) s fp ∧ FreshL w0.heap.size fp
 len : hs.length = L.length
 new : ∀ b, b ∈ fpA A → w0.heap.size ≤ b
 below_ : Below w0.heap.size w0 w
theorem Stk.below {w0 w w' : World} {A : Option Addr} {cap : Nat} {hs : List RV} {L : List Sys} (h : Stk w0 w A cap hs L) (hb : Below w.heap.size w w') : Stk w0 w' A cap hs L :=
 ⟨h.sl.below hb, fun i s hi => by obtain ⟨x, fp, h1, h2, h3⟩ := h.els i s hi; exact ⟨x, fp, h1, h2.below hb, h3⟩, h.len, h.new, below_trans h.below_ hb h.below_.size⟩
theorem Stk.take {w0 w : World} {A : Option Addr} {cap : Nat} {hs : List RV} {L : List Sys} (h : Stk w0 w A cap hs L) {k : Nat} (hk : k ≤ hs.length) : Stk w0 w A cap (hs.take k) (L.take k) := by
 have h1 := Sl.take h.sl hk
 rw [← rcs_take] at h1
 refine ⟨by rw [List.length_take, Nat.min_eq_left hk]; exact h1, fun i s hi => ?_, by rw [List.length_take, List.length_take, h.len], h.new, h.below_⟩
 rw [List.getElem?_take] at hi
 split at hi
 · rename_i hlt
   obtain ⟨x, fp, h1, h2, h3⟩ := h.els i s hi
   exact ⟨x, fp, by rw [List.getElem?_take, if_pos hlt]; exact h1, h2, h3⟩
 · cases hi
theorem Stk.push {w0 w w1 w2 : World} {A : Option Addr} {cap : Nat} {hs : List RV} {L : List Sys} (h : Stk w0 w A cap hs L) (hb : Below w.heap.size w w1) {v : RV} {s : Sys} {fp : List Nat} (hv : OwSys w1 (rv v) s fp) (hf : FreshL w0.heap.size fp) {A' : Option Addr} {cap' n : Nat} (hn : n = hs.length + 1) (hs' : Sl w2 tRelD 3 A' n cap' (rcs hs ++ rc v)) (hA' : ∀ b, b ∈ fpA A' → b ∈ fpA A ∨ w1.heap.size ≤ b) (hk : Keeps (· ∈ fpA A) w1 w2) : Stk w0 w2 A' cap' (hs ++ [v]) (L ++ [s]) := by
 have hsl := h.sl.below hb
 have hb1 := below_trans h.below_ hb h.below_.size
 subst hn
 refine ⟨by rw [rcs_append, List.length_append]; simpa [rcs] using hs', fun i x hi => ?_, by rw [List.length_append, List.length_append, h.len]; rfl, fun b hb' => ?_, below_keeps hb1 hk hb1.size h.new⟩
 · by_cases hlt : i < L.length
   · rw [List.getElem?_append_left hlt] at hi
     obtain ⟨y, fq, h1, h2, h3⟩ := h.els i x hi
     exact ⟨y, fq, by rw [List.getElem?_append_left (by rw [h.len]; exact hlt)]; exact h1, (h2.below hb).keeps hk ((h2.below hb).apart_rel hsl), h3⟩
   · rw [List.getElem?_append_right (by omega)] at hi
     have hi0 : i - L.length = 0 := by
      rcases Nat.eq_zero_or_pos (i - L.length) with h0 | h0
      · exact h0
      · rw [List.getElem?_eq_none (by simp; omega)] at hi; cases hi
     rw [hi0] at hi
     obtain rfl : s = x := by simpa using hi
     exact ⟨v, fp, by rw [List.getElem?_append_right (by rw [h.len]; omega), h.len, hi0]; rfl, hv.keeps hk (hv.apart_rel hsl), hf⟩
 · rcases hA' b hb' with h1 | h1
   · exact h.new b h1
   · have := hb1.size; omega
theorem Stk.at_ {w0 w : World} {A : Option Addr} {cap : Nat} {hs : List RV} {L : List Sys} (h : Stk w0 w A cap hs L) {i : Nat} {s : Sys} (hi : L[i]? = some s) : ∃ ad x y B n c fp, A = some ad ∧ w.cell? (ad.add (i * 3)) = some (.int .i64 x) ∧ w.cell? ⟨(ad.add (i * 3)).block, (ad.add (i * 3)).off + 1, none⟩ = some (.int .i64 y) ∧ w.cell? ⟨(ad.add (i * 3)).block, (ad.add (i * 3)).off + 2, none⟩ = some (.slice B n c) ∧ OwSys w (.agg #[.int .i64 x, .int .i64 y, .slice B n c]) s fp ∧ FreshL w0.heap.size fp := by
 obtain ⟨⟨x, y, B, n, c⟩, fp, h1, h2, h3⟩ := h.els i s hi
 obtain ⟨g0, g1, g2⟩ := rcs_get h1
 obtain ⟨ad, hA, _, c0, _⟩ := h.sl.cell g0
 obtain ⟨ad1, hA1, _, c1, _⟩ := h.sl.cell g1
 obtain ⟨ad2, hA2, _, c2, _⟩ := h.sl.cell g2
 rw [hA] at hA1 hA2
 obtain rfl := Option.some.inj hA1
 obtain rfl := Option.some.inj hA2
 rw [add_next _ _ 1 (by omega)] at c1
 rw [add_next _ _ 2 (by omega)] at c2
 exact ⟨ad, x, y, B, n, c, fp, hA, c0, c1, c2, h2, h3⟩
def dens (p : Int) (st : List Tr) : List Sys := (st.map (den p)).reverse
@[simp] theorem dens_length (p : Int) (st : List Tr) : (dens p st).length = st.length := by simp [dens]
theorem dens_push (p : Int) (t : Tr) (r : List Tr) : dens p (t :: r) = dens p r ++ [den p t] := by simp [dens]
theorem dens_two {p : Int} {b a : Tr} {r : List Tr} {q : Nat} (hq : r.length = q) : (dens p (b :: a :: r))[q]? = some (den p a) ∧ (dens p (b :: a :: r))[q + 1]? = some (den p b) ∧ (dens p (b :: a :: r)).take q = dens p r := by
 have hl : (dens p r).length = q := by rw [dens_length, hq]
 rw [dens_push, dens_push, List.append_assoc]
 refine ⟨?_, ?_, ?_⟩
 · rw [List.getElem?_append_right (by omega), hl, Nat.sub_self]; rfl
 · rw [List.getElem?_append_right (by omega), hl, Nat.add_sub_cancel_left]; rfl
 · rw [List.take_append_of_le_length (by omega), List.take_of_length_le (by omega)]
def okNd (p : Int) (n : Nd) : Prop := n.1 ≠ 8 ∧ n.1 ≠ 14 ∧ ((n.1 = 7 ∨ n.1 = 13) → n.2.1 < p)
theorem step_some {l : List Nd} {k : Nat} {n : Nd} {st : List Tr} {t : Tr} (hv : treeM l = some t) (h : parse [] (l.take k) = some st) (hn : l[k]? = some n) : ∃ st', stepT st n = some st' ∧ parse [] (l.take (k + 1)) = some st' := by
 cases e : stepT st n with
 | none => rw [parse_none h hn e] at hv; cases hv
 | some st' => exact ⟨st', rfl, parse_more h hn e⟩
theorem step_leaf_some {st st' : List Tr} {n : Nd} (hj : ¬ isJoin n) (h : stepT st n = some st') : leafB n = true ∧ st' = .leaf n :: st := by
 rw [step_leaf hj] at h
 split at h
 · rename_i hl; exact ⟨hl, (Option.some.inj h).symm⟩
 · cases h
theorem step_join_some {st st' : List Tr} {n : Nd} (hj : isJoin n) (h : stepT st n = some st') : ∃ b a r, st = b :: a :: r ∧ joinB (decide (n.1 = 16)) (ty a) (ty b) = true ∧ st' = .node (decide (n.1 = 16)) a b :: r := by
 unfold stepT at h
 rw [if_pos hj] at h
 split at h
 · rename_i b a r
   split at h
   · rename_i hc; exact ⟨b, a, r, rfl, hc.2.2, (Option.some.inj h).symm⟩
   · cases h
 · cases h
set_option maxRecDepth 100000 in
set_option maxHeartbeats 4000000 in
theorem denote_any (p : Int) {v : Value} {l : List Nd} {t : Tr} (w : World) (h : RdTm w v l) (hf : fieldB p = true) (hv : treeM l = some t) (hok : ∀ n, n ∈ l → okNd p n) :
  Calls Tryz.prog 53 #[.int .i64 p, v] w fun e w' => ∃ v' fp, e = .returned v' ∧ OwSys w' v' (den p t) fp ∧ FreshL w.heap.size fp ∧ Below w.heap.size w w' := by
 obtain ⟨A, c, rfl, h⟩ := h
 obtain ⟨m, hm⟩ : ∃ m, m = l.length := ⟨_, rfl⟩
 rw [← hm]
 have hl400 : m ≤ 400 := by
  unfold treeM at hv
  split at hv
  · rename_i h2; omega
  · cases hv
 obtain ⟨W, hW, bW, k0, k1⟩ := alloc2 w (.cells #[.slice A m c] tTerm) (.cells #[.int .i64 0, .int .i64 0, .slice none 0 0] tRelD)
 have hbz := box_lt k1
 have hr := h.below bW
 obtain ⟨W1, hW1⟩ : ∃ W1, W1 = W.alloc (.cells #[] tRelD) := ⟨_, rfl⟩
 have b1 : Below W.heap.size W W1 := by rw [hW1]; exact below_alloc _ _
 have hWs : W.heap.size = w.heap.size + 1 + 1 := by rw [hW]; simp
 have hS0 : Stk W W1 (some ⟨w.heap.size + 1 + 1, 0, none⟩) 0 [] (dens p []) := by
  rw [hW1, ← hWs]
  exact ⟨Sl.laid W tRelD 3 0 #[] (by unfold maxLen; omega) rfl, fun i s hi => by simp [dens] at hi, rfl, fun b hb => by simp at hb; omega, below_alloc _ _⟩
 have hr1 := hr.below b1
 have k01 := box_below k0 b1
 clear h hWs; have hm_h := lH hm; have bW_h := lH bW; have k0_h := lH k0; have k1_h := lH k1; have hr_h := lH hr; have b1_h := lH b1; have hS0_h := lH hS0; have hr1_h := lH hr1; have k01_h := lH k01; have hok_h := lH hok; have hv_h := lH hv; clear hm bW k0 k1 hr b1 hS0 hr1 k01 hok hv
 obtain ⟨k01_c, k01_f⟩ := bx1_d k01_h.out
 go_enter Tryz.func53, Tryz.ntmps53
 go_upto_region 2 with (fail)
 rw [← hW, ← hW1]
 clear hW hW1
 go_wp2_with (fail)
 clear k01_c k01_f
 go_loopw [13, 5] (fun iv sv wr => ∃ (k : Nat) (st : List Tr) (A1 : Option Addr) (c1 n1 : Nat) (hs : List RV), k ≤ m ∧ iv = .int .i64 k ∧ sv = .slice A1 n1 c1 ∧ n1 = st.length ∧ n1 ≤ k ∧ hs.length = n1 ∧ parse [] (l.take k) = some st ∧ (∀ t, t ∈ st → wt t ∧ okTr p t) ∧ Stk W wr A1 c1 hs (dens p st)) (fun iv _ _ => m - (intOf iv).toNat)
 case atStart => exact ⟨0, [], _, 0, 0, [], Nat.zero_le _, rfl, rfl, rfl, Nat.le_refl _, rfl, by simp [parse], fun t ht => (by cases ht), hS0_h.out⟩
 case round =>
  clear hS0_h hr1_h
  obtain ⟨k, st, A1, c1, n1, hs, hk, rfl, rfl, hn1, hnk, hsl, hpar, hall, hS⟩ := hrel
  obtain ⟨wo, rfl⟩ : ∃ x, x = wr := ⟨_, rfl⟩
  by_cases hlt : k < m
  · have hbo := hS.below_
    obtain ⟨ad, κ, v, s, rfl, hn, d0, d1, d2⟩ := (hr_h.out.below hbo).at_ (j := k) (by rw [← hm_h.out]; exact hlt)
    have hkI : (k : Int) < (m : Int) := by omega
    obtain ⟨st', hst, hpar'⟩ := step_some hv_h.out hpar hn
    have hokn := hok_h.out _ (List.mem_of_getElem? hn)
    obtain ⟨wN, hwN⟩ : ∃ wN, wN = wo.alloc (.cells #[.int .i64 κ, .int .i64 v, .string s] 113) := ⟨_, rfl⟩
    have hbN : Below wo.heap.size wo wN := by rw [hwN]; exact below_alloc _ _
    have kN : wN.heap[wo.heap.size]? = some (.cells #[.int .i64 κ, .int .i64 v, .string s] 113) := by rw [hwN]; exact heap_alloc_new _ _
    have hSN := hS.below hbN
    by_cases hj : κ = 15 ∨ κ = 16
    · obtain ⟨b, a, r, rfl, hjb, rfl⟩ := step_join_some (show isJoin (κ, v, s) from hj) hst
      obtain ⟨q, hq⟩ : ∃ q, q = r.length := ⟨_, rfl⟩
      have hnq : n1 = q + 2 := by rw [hn1, hq]; rfl
      obtain ⟨ga, gb, gt⟩ := dens_two (p := p) (b := b) (a := a) hq.symm
      obtain ⟨wa, oa⟩ := hall a (by simp)
      obtain ⟨wb, ob⟩ := hall b (by simp)
      obtain ⟨ra, ta1, ta2⟩ := den_ok hf wa oa
      obtain ⟨rb, tb1, tb2⟩ := den_ok hf wb ob
      have fa := wt_fit wa
      have fb := wt_fit wb
      have hwn : wt (.node (decide (κ = 16)) a b) ∧ okTr p (.node (decide (κ = 16)) a b) := ⟨⟨wa, wb, hjb⟩, oa, ob⟩
      have hall' : ∀ t, t ∈ (Tr.node (decide (κ = 16)) a b :: r) → wt t ∧ okTr p t := fun t ht => by
       rcases List.mem_cons.1 ht with rfl | ht
       · exact hwn
       · exact hall t (by simp [ht])
      obtain ⟨qb, hqb⟩ : ∃ qb, qb = q + 1 := ⟨_, rfl⟩
      rw [← hqb] at gb
      have i1 : (n1 : Int) - 1 = (qb : Int) := by omega
      have i2 : (qb : Int) - 1 = (q : Int) := by omega
      have r1 : IntKind.i64.wrap (qb : Int) = (qb : Int) := IntWalk.i64_in _ (by omega)
      have r2 : IntKind.i64.wrap (q : Int) = (q : Int) := IntWalk.i64_in _ (by omega)
      have hqI : (q : Int) < (n1 : Int) := by omega
      have hqbI : (qb : Int) < (n1 : Int) := by omega
      have hqle : (q : Int) ≤ (n1 : Int) := by omega
      have hq0 : (0 : Int) ≤ (q : Int) := by omega
      have hcap := hSN.sl.2.1
      rw [hsl] at hcap
      have hqc : (q : Int) ≤ (c1 : Int) := by omega
      have hT := hSN.take (k := q) (by omega)
      rw [gt] at hT
      by_cases hp : κ = 15
      · have hdk : decide (κ = 16) = false := decide_eq_false (by omega)
        rw [hdk] at hjb hall' hpar'
        simp only [joinB, Bool.false_eq_true, if_false, decide_eq_true_eq] at hjb
        have hb15 : (κ == 15) = true := by rw [hp]; rfl
        have hden : den p (.node false a b) = cmpV p (den p a) (den p b) := rfl
        have hC := fun (W' : World) (x y x' y' : Int) (B B' : Option Addr) (n c n' c' : Nat) (fp fp' : List Nat) (h1 : OwSys W' (.agg #[.int .i64 x, .int .i64 y, .slice B n c]) (den p a) fp) (h2 : OwSys W' (.agg #[.int .i64 x', .int .i64 y', .slice B' n' c']) (den p b) fp') => composed_any p W' h1 h2 ra rb (by omega) (by omega)
        obtain ⟨V, hV⟩ : ∃ V, V = cmpV p (den p a) (den p b) := ⟨_, rfl⟩
        simp only [← hV] at hC
        rw [← hV] at hden
        have hqk : q + 2 ≤ k := by omega
        clear hwn fa fb ra rb ta1 ta2 tb1 tb2 oa ob wa wb hst hokn hpar hall hj hp  hdk hjb hS hn hnq; have hsl_h := lH hsl; have hn1_h := lH hn1; have hpar'_h := lH hpar'; have hall'_h := lH hall'; have hSN_h := lH hSN; have hC_h := lH hC; have hbN_h := lH hbN; have kN_h := lH kN; have hbo_h := lH hbo; have ga_h := lH ga; have gb_h := lH gb; have gt_h := lH gt; have hden_h := lH hden; have hV_h := lH hV; have hT_h := lH hT; have hqb_h := lH hqb; have hq_h := lH hq; clear hsl hn1 hpar' hall' hSN hC hbN kN hbo ga gb gt hden hV hT hqb hq
        obtain ⟨ad1, x, y, B, n, e, fpa, rfl, a0, a1', a2, hoa, hfa⟩ := hSN_h.out.at_ ga_h.out
        obtain ⟨ad2, x', y', B', n', e', fpb, hA2, z0, z1, z2, hob, hfb⟩ := hSN_h.out.at_ gb_h.out
        obtain rfl := Option.some.inj hA2
        clear hA2 hfa hfb; have hoa_h := lH hoa; have hob_h := lH hob; clear hoa hob
        go_wp2_with (fail)
        rw [← hwN]
        clear hwN
        refine beginZw 16 (fun w' => (w'.cell? (ad1.add (q * 3)) = some (.int .i64 x) ∧ w'.cell? ⟨(ad1.add (q * 3)).block, (ad1.add (q * 3)).off + 1, none⟩ = some (.int .i64 y) ∧ w'.cell? ⟨(ad1.add (q * 3)).block, (ad1.add (q * 3)).off + 2, none⟩ = some (.slice B n e)) ∧ (w'.cell? (ad1.add (qb * 3)) = some (.int .i64 x') ∧ w'.cell? ⟨(ad1.add (qb * 3)).block, (ad1.add (qb * 3)).off + 1, none⟩ = some (.int .i64 y') ∧ w'.cell? ⟨(ad1.add (qb * 3)).block, (ad1.add (qb * 3)).off + 2, none⟩ = some (.slice B' n' e'))) (by kernel_rfl) (fun W2 hW2 => ?_)
        have hbd : Below wN.heap.size wN W2 := by rw [hW2]; exact below_drewN (Below.refl _ _) 1
        clear hW2
        have hF := And.intro (And.intro (cell_mv hbd a0) (And.intro (cell_mv hbd a1') (cell_mv hbd a2))) (And.intro (cell_mv hbd z0) (And.intro (cell_mv hbd z1) (cell_mv hbd z2)))
        clear a0 a1' a2 z0 z1 z2 d0 d1 d2; have hF_h := lH hF; have hbd_h := lH hbd; clear hF hbd
        refine tkC 0 ?_ rfl hF_h.out (fun W' hW' => ?_) ?_; rotate_left; · (have y0 := hW'.1.1; have y1 := hW'.1.2.1; have y2 := hW'.1.2.2; have y3 := hW'.2.1; have y4 := hW'.2.2.1; have y5 := hW'.2.2.2; clear hW'; go_simp; first | done | with_reducible rfl)
        simp only [Act.put, nS]
        refine tkC 1 ?_ rfl hF_h.out (fun W' hW' => ?_) ?_; rotate_left; · (have y0 := hW'.1.1; have y1 := hW'.1.2.1; have y2 := hW'.1.2.2; have y3 := hW'.2.1; have y4 := hW'.2.2.1; have y5 := hW'.2.2.2; clear hW'; go_simp; first | done | with_reducible rfl)
        simp only [Act.put, nS]
        refine tkC 2 ?_ rfl hF_h.out (fun W' hW' => ?_) ?_; rotate_left; · (have y0 := hW'.1.1; have y1 := hW'.1.2.1; have y2 := hW'.1.2.2; have y3 := hW'.2.1; have y4 := hW'.2.2.1; have y5 := hW'.2.2.2; clear hW'; go_simp; first | done | with_reducible rfl)
        simp only [Act.put, nS]
        refine tkC 3 ?_ rfl hF_h.out (fun W' hW' => ?_) ?_; rotate_left; · (have y0 := hW'.1.1; have y1 := hW'.1.2.1; have y2 := hW'.1.2.2; have y3 := hW'.2.1; have y4 := hW'.2.2.1; have y5 := hW'.2.2.2; clear hW'; go_simp; first | done | with_reducible rfl)
        simp only [Act.put, nS]
        refine tkC 4 ?_ rfl hF_h.out (fun W' hW' => ?_) ?_; rotate_left; · (have y0 := hW'.1.1; have y1 := hW'.1.2.1; have y2 := hW'.1.2.2; have y3 := hW'.2.1; have y4 := hW'.2.2.1; have y5 := hW'.2.2.2; clear hW'; go_simp; first | done | with_reducible rfl)
        simp only [Act.put, nS]
        refine tkC 5 ?_ rfl hF_h.out (fun W' hW' => ?_) ?_; rotate_left; · (have y0 := hW'.1.1; have y1 := hW'.1.2.1; have y2 := hW'.1.2.2; have y3 := hW'.2.1; have y4 := hW'.2.2.1; have y5 := hW'.2.2.2; clear hW'; go_simp; first | done | with_reducible rfl)
        simp only [Act.put, nS]
        refine tkC 6 ?_ rfl hF_h.out (fun W' hW' => ?_) ?_; rotate_left; · (have y0 := hW'.1.1; have y1 := hW'.1.2.1; have y2 := hW'.1.2.2; have y3 := hW'.2.1; have y4 := hW'.2.2.1; have y5 := hW'.2.2.2; clear hW'; go_simp; first | done | with_reducible rfl)
        simp only [Act.put, nS]
        refine tkC 7 ?_ rfl hF_h.out (fun W' hW' => ?_) ?_; rotate_left; · (have y0 := hW'.1.1; have y1 := hW'.1.2.1; have y2 := hW'.1.2.2; have y3 := hW'.2.1; have y4 := hW'.2.2.1; have y5 := hW'.2.2.2; clear hW'; go_simp; first | done | with_reducible rfl)
        simp only [Act.put, nS]
        refine tkC 8 ?_ rfl hF_h.out (fun W' hW' => ?_) ?_; rotate_left; · (have y0 := hW'.1.1; have y1 := hW'.1.2.1; have y2 := hW'.1.2.2; have y3 := hW'.2.1; have y4 := hW'.2.2.1; have y5 := hW'.2.2.2; clear hW'; go_simp; first | done | with_reducible rfl)
        simp only [Act.put, nS]
        refine tkC 9 ?_ rfl hF_h.out (fun W' hW' => ?_) ?_; rotate_left; · (have y0 := hW'.1.1; have y1 := hW'.1.2.1; have y2 := hW'.1.2.2; have y3 := hW'.2.1; have y4 := hW'.2.2.1; have y5 := hW'.2.2.2; clear hW'; go_simp; first | done | with_reducible rfl)
        simp only [Act.put, nS]
        refine tkC 10 ?_ rfl hF_h.out (fun W' hW' => ?_) ?_; rotate_left; · (have y0 := hW'.1.1; have y1 := hW'.1.2.1; have y2 := hW'.1.2.2; have y3 := hW'.2.1; have y4 := hW'.2.2.1; have y5 := hW'.2.2.2; clear hW'; go_simp; first | done | with_reducible rfl)
        simp only [Act.put, nS]
        refine tkC 11 ?_ rfl hF_h.out (fun W' hW' => ?_) ?_; rotate_left; · (have y0 := hW'.1.1; have y1 := hW'.1.2.1; have y2 := hW'.1.2.2; have y3 := hW'.2.1; have y4 := hW'.2.2.1; have y5 := hW'.2.2.2; clear hW'; go_simp; first | done | with_reducible rfl)
        simp only [Act.put, nS]
        refine tkC 12 ?_ rfl hF_h.out (fun W' hW' => ?_) ?_; rotate_left; · (have y0 := hW'.1.1; have y1 := hW'.1.2.1; have y2 := hW'.1.2.2; have y3 := hW'.2.1; have y4 := hW'.2.2.1; have y5 := hW'.2.2.2; clear hW'; go_simp; first | done | with_reducible rfl)
        simp only [Act.put, nS]
        refine tkC 13 ?_ rfl hF_h.out (fun W' hW' => ?_) ?_; rotate_left; · (have y0 := hW'.1.1; have y1 := hW'.1.2.1; have y2 := hW'.1.2.2; have y3 := hW'.2.1; have y4 := hW'.2.2.1; have y5 := hW'.2.2.2; clear hW'; go_simp; first | done | with_reducible rfl)
        simp only [Act.put, nS]
        refine callZ 14 (f := ?f1) (args := ?args1) rfl (by kernel_rfl) (by rfl) ?hrun1 ?hcall1
        case hrun1 => (go_simp; first | done | with_reducible rfl | (constructor <;> with_reducible rfl))
        case hcall1 =>
         refine (hC_h.out W2 _ _ _ _ _ _ _ _ _ _ _ _ (hoa_h.out.below hbd_h.out) (hob_h.out.below hbd_h.out)).mono ?_
         rintro e w2 ⟨v2, fp2, rfl, hO2, hf2, hb2⟩
         obtain ⟨A2, n2, c2, rfl⟩ := hO2.shape
         have hF2 := And.intro (And.intro (cell_mv hb2 hF_h.out.1.1) (And.intro (cell_mv hb2 hF_h.out.1.2.1) (cell_mv hb2 hF_h.out.1.2.2))) (And.intro (cell_mv hb2 hF_h.out.2.1) (And.intro (cell_mv hb2 hF_h.out.2.2.1) (cell_mv hb2 hF_h.out.2.2.2)))
         have hal := below_alloc w2 (.cells #[.int .i64 V.1, .int .i64 V.2.1, .slice A2 n2 c2] tRelD)
         have hF3 := And.intro (And.intro (cell_mv hal hF2.1.1) (And.intro (cell_mv hal hF2.1.2.1) (cell_mv hal hF2.1.2.2))) (And.intro (cell_mv hal hF2.2.1) (And.intro (cell_mv hal hF2.2.2.1) (cell_mv hal hF2.2.2.2)))
         have hba := below_trans (below_trans hbd_h.out hb2 hbd_h.out.size) hal (below_trans hbd_h.out hb2 hbd_h.out.size).size
         have htl : (hs.take q).length = q := by rw [List.length_take, hsl_h.out]; omega
         have hsl' : Sl (w2.alloc (.cells #[.int .i64 V.1, .int .i64 V.2.1, .slice A2 n2 c2] tRelD)) tRelD 3 (some ad1) q c1 (rcs (hs.take q)) := by
          have := hT_h.out.sl.below hba
          rwa [htl] at this
         have hO3 : OwSys (w2.alloc (.cells #[.int .i64 V.1, .int .i64 V.2.1, .slice A2 n2 c2] tRelD)) (rv (V.1, V.2.1, A2, n2, c2)) V fp2 := hO2.below hal
         have hf3 : FreshL W.heap.size fp2 := hf2.mono (by have := hbd_h.out.size; have := hbN_h.out.size; have := hbo_h.out.size; omega)
         clear hO2 hf2; have hF2_h := lH hF2; have hF3_h := lH hF3; have hal_h := lH hal; have hba_h := lH hba; have hsl'_h := lH hsl'; have hO3_h := lH hO3; have hf3_h := lH hf3; have htl_h := lH htl; clear hF2 hF3 hal hba hsl' hO3 hf3 htl
         refine ⟨_, rfl, fun _ => hF2_h.out, ?_⟩
         simp only [Act.put, nS]
         refine oneZ 15 rfl (by kernel_rfl) (by rfl) (fun K hK => ?_)
         go_simp
         refine hK _ _ (fun _ => hF3_h.out) ?_
         clear hK K
         refine appZ 16 rfl (by kernel_rfl) (by rfl) _ _ _ rfl tRelD Tryz.underlying112 info_rel rfl (by omega) rfl hsl'_h.out rfl (news := [.int .i64 V.1, .int .i64 V.2.1, .slice A2 n2 c2]) rfl (Sl.rdc (Sl.laid w2 tRelD 3 1 #[.int .i64 V.1, .int .i64 V.2.1, .slice A2 n2 c2] (by unfold maxLen; omega) rfl)) (by intro u hu; simp at hu; rcases hu with rfl | rfl | rfl <;> rfl) (by unfold maxLen; omega) (by omega) ?_
         intro A6 c6 w6 hsA6 hA6 hkA6 hrdA6
         have hS6 := hT_h.out.push hba_h.out (v := (V.1, V.2.1, A2, n2, c2)) hO3_h.out hf3_h.out (n := q + 1) (by rw [htl_h.out]) hsA6 hA6 hkA6
         have hdn : dens p r ++ [V] = dens p (Tr.node false a b :: r) := by rw [dens_push, hden_h.out]
         rw [hdn] at hS6
         clear hdn
         have hl6 : (hs.take q ++ [(V.1, V.2.1, A2, n2, c2)]).length = q + 1 := by rw [List.length_append, htl_h.out]; rfl
         clear hsA6 hA6 hkA6 hrdA6; have hS6_h := lH hS6; have hl6_h := lH hl6; clear hS6 hl6
         refine ⟨fun h => (by cases h), ?_⟩
         simp only [Act.put, nS]
         refine oneZ 17 rfl (by kernel_rfl) (by rfl) (fun K hK => ?_)
         go_simp
         refine hK _ _ (fun h => by cases h) ?_
         clear hK K
         refine doneZ (by kernel_rfl) ?_
         go_wp2_with (fail)
         go_roundw
         case rel => exact ⟨k + 1, _, A6, c6, q + 1, _, by omega, by go_num, rfl, by rw [List.length_cons, ← hq_h.out], by omega, hl6_h.out, hpar'_h.out, hall'_h.out, hS6_h.out⟩
         case measure => simp [intOf]; omega
      · have hp16 : κ = 16 := by omega
        have hdk : decide (κ = 16) = true := decide_eq_true hp16
        rw [hdk] at hjb hall' hpar'
        simp only [joinB, if_true, decide_eq_true_eq] at hjb
        have hb15 : (κ == 15) = false := by rw [hp16]; rfl
        have hb16 : (κ == 16) = true := by rw [hp16]; rfl
        have hden : den p (.node true a b) = tenV p (den p a) (den p b) := rfl
        have hC := fun (W' : World) (x y x' y' : Int) (B B' : Option Addr) (n c n' c' : Nat) (fp fp' : List Nat) (h1 : OwSys W' (.agg #[.int .i64 x, .int .i64 y, .slice B n c]) (den p a) fp) (h2 : OwSys W' (.agg #[.int .i64 x', .int .i64 y', .slice B' n' c']) (den p b) fp') => tensor_any p W' h1 h2 ra rb (by omega)
        obtain ⟨V, hV⟩ : ∃ V, V = tenV p (den p a) (den p b) := ⟨_, rfl⟩
        simp only [← hV] at hC
        rw [← hV] at hden
        have hqk : q + 2 ≤ k := by omega
        clear hwn fa fb ra rb ta1 ta2 tb1 tb2 oa ob wa wb hst hokn hpar hall hj hp hp16 hdk hjb hS hn hnq; have hsl_h := lH hsl; have hn1_h := lH hn1; have hpar'_h := lH hpar'; have hall'_h := lH hall'; have hSN_h := lH hSN; have hC_h := lH hC; have hbN_h := lH hbN; have kN_h := lH kN; have hbo_h := lH hbo; have ga_h := lH ga; have gb_h := lH gb; have gt_h := lH gt; have hden_h := lH hden; have hV_h := lH hV; have hT_h := lH hT; have hqb_h := lH hqb; have hq_h := lH hq; clear hsl hn1 hpar' hall' hSN hC hbN kN hbo ga gb gt hden hV hT hqb hq
        obtain ⟨ad1, x, y, B, n, e, fpa, rfl, a0, a1', a2, hoa, hfa⟩ := hSN_h.out.at_ ga_h.out
        obtain ⟨ad2, x', y', B', n', e', fpb, hA2, z0, z1, z2, hob, hfb⟩ := hSN_h.out.at_ gb_h.out
        obtain rfl := Option.some.inj hA2
        clear hA2 hfa hfb; have hoa_h := lH hoa; have hob_h := lH hob; clear hoa hob
        go_wp2_with (fail)
        rw [← hwN]
        clear hwN
        refine beginZw 16 (fun w' => (w'.cell? (ad1.add (q * 3)) = some (.int .i64 x) ∧ w'.cell? ⟨(ad1.add (q * 3)).block, (ad1.add (q * 3)).off + 1, none⟩ = some (.int .i64 y) ∧ w'.cell? ⟨(ad1.add (q * 3)).block, (ad1.add (q * 3)).off + 2, none⟩ = some (.slice B n e)) ∧ (w'.cell? (ad1.add (qb * 3)) = some (.int .i64 x') ∧ w'.cell? ⟨(ad1.add (qb * 3)).block, (ad1.add (qb * 3)).off + 1, none⟩ = some (.int .i64 y') ∧ w'.cell? ⟨(ad1.add (qb * 3)).block, (ad1.add (qb * 3)).off + 2, none⟩ = some (.slice B' n' e'))) (by kernel_rfl) (fun W2 hW2 => ?_)
        have hbd : Below wN.heap.size wN W2 := by rw [hW2]; exact below_drewN (Below.refl _ _) 1
        clear hW2
        have hF := And.intro (And.intro (cell_mv hbd a0) (And.intro (cell_mv hbd a1') (cell_mv hbd a2))) (And.intro (cell_mv hbd z0) (And.intro (cell_mv hbd z1) (cell_mv hbd z2)))
        clear a0 a1' a2 z0 z1 z2 d0 d1 d2; have hF_h := lH hF; have hbd_h := lH hbd; clear hF hbd
        refine tkC 0 ?_ rfl hF_h.out (fun W' hW' => ?_) ?_; rotate_left; · (have y0 := hW'.1.1; have y1 := hW'.1.2.1; have y2 := hW'.1.2.2; have y3 := hW'.2.1; have y4 := hW'.2.2.1; have y5 := hW'.2.2.2; clear hW'; go_simp; first | done | with_reducible rfl)
        simp only [Act.put, nS]
        refine tkC 1 ?_ rfl hF_h.out (fun W' hW' => ?_) ?_; rotate_left; · (have y0 := hW'.1.1; have y1 := hW'.1.2.1; have y2 := hW'.1.2.2; have y3 := hW'.2.1; have y4 := hW'.2.2.1; have y5 := hW'.2.2.2; clear hW'; go_simp; first | done | with_reducible rfl)
        simp only [Act.put, nS]
        refine tkC 2 ?_ rfl hF_h.out (fun W' hW' => ?_) ?_; rotate_left; · (have y0 := hW'.1.1; have y1 := hW'.1.2.1; have y2 := hW'.1.2.2; have y3 := hW'.2.1; have y4 := hW'.2.2.1; have y5 := hW'.2.2.2; clear hW'; go_simp; first | done | with_reducible rfl)
        simp only [Act.put, nS]
        refine tkC 3 ?_ rfl hF_h.out (fun W' hW' => ?_) ?_; rotate_left; · (have y0 := hW'.1.1; have y1 := hW'.1.2.1; have y2 := hW'.1.2.2; have y3 := hW'.2.1; have y4 := hW'.2.2.1; have y5 := hW'.2.2.2; clear hW'; go_simp; first | done | with_reducible rfl)
        simp only [Act.put, nS]
        refine tkC 4 ?_ rfl hF_h.out (fun W' hW' => ?_) ?_; rotate_left; · (have y0 := hW'.1.1; have y1 := hW'.1.2.1; have y2 := hW'.1.2.2; have y3 := hW'.2.1; have y4 := hW'.2.2.1; have y5 := hW'.2.2.2; clear hW'; go_simp; first | done | with_reducible rfl)
        simp only [Act.put, nS]
        refine tkC 5 ?_ rfl hF_h.out (fun W' hW' => ?_) ?_; rotate_left; · (have y0 := hW'.1.1; have y1 := hW'.1.2.1; have y2 := hW'.1.2.2; have y3 := hW'.2.1; have y4 := hW'.2.2.1; have y5 := hW'.2.2.2; clear hW'; go_simp; first | done | with_reducible rfl)
        simp only [Act.put, nS]
        refine tkC 6 ?_ rfl hF_h.out (fun W' hW' => ?_) ?_; rotate_left; · (have y0 := hW'.1.1; have y1 := hW'.1.2.1; have y2 := hW'.1.2.2; have y3 := hW'.2.1; have y4 := hW'.2.2.1; have y5 := hW'.2.2.2; clear hW'; go_simp; first | done | with_reducible rfl)
        simp only [Act.put, nS]
        refine tkC 7 ?_ rfl hF_h.out (fun W' hW' => ?_) ?_; rotate_left; · (have y0 := hW'.1.1; have y1 := hW'.1.2.1; have y2 := hW'.1.2.2; have y3 := hW'.2.1; have y4 := hW'.2.2.1; have y5 := hW'.2.2.2; clear hW'; go_simp; first | done | with_reducible rfl)
        simp only [Act.put, nS]
        refine tkC 8 ?_ rfl hF_h.out (fun W' hW' => ?_) ?_; rotate_left; · (have y0 := hW'.1.1; have y1 := hW'.1.2.1; have y2 := hW'.1.2.2; have y3 := hW'.2.1; have y4 := hW'.2.2.1; have y5 := hW'.2.2.2; clear hW'; go_simp; first | done | with_reducible rfl)
        simp only [Act.put, nS]
        refine tkC 9 ?_ rfl hF_h.out (fun W' hW' => ?_) ?_; rotate_left; · (have y0 := hW'.1.1; have y1 := hW'.1.2.1; have y2 := hW'.1.2.2; have y3 := hW'.2.1; have y4 := hW'.2.2.1; have y5 := hW'.2.2.2; clear hW'; go_simp; first | done | with_reducible rfl)
        simp only [Act.put, nS]
        refine tkC 10 ?_ rfl hF_h.out (fun W' hW' => ?_) ?_; rotate_left; · (have y0 := hW'.1.1; have y1 := hW'.1.2.1; have y2 := hW'.1.2.2; have y3 := hW'.2.1; have y4 := hW'.2.2.1; have y5 := hW'.2.2.2; clear hW'; go_simp; first | done | with_reducible rfl)
        simp only [Act.put, nS]
        refine tkC 11 ?_ rfl hF_h.out (fun W' hW' => ?_) ?_; rotate_left; · (have y0 := hW'.1.1; have y1 := hW'.1.2.1; have y2 := hW'.1.2.2; have y3 := hW'.2.1; have y4 := hW'.2.2.1; have y5 := hW'.2.2.2; clear hW'; go_simp; first | done | with_reducible rfl)
        simp only [Act.put, nS]
        refine tkC 12 ?_ rfl hF_h.out (fun W' hW' => ?_) ?_; rotate_left; · (have y0 := hW'.1.1; have y1 := hW'.1.2.1; have y2 := hW'.1.2.2; have y3 := hW'.2.1; have y4 := hW'.2.2.1; have y5 := hW'.2.2.2; clear hW'; go_simp; first | done | with_reducible rfl)
        simp only [Act.put, nS]
        refine tkC 13 ?_ rfl hF_h.out (fun W' hW' => ?_) ?_; rotate_left; · (have y0 := hW'.1.1; have y1 := hW'.1.2.1; have y2 := hW'.1.2.2; have y3 := hW'.2.1; have y4 := hW'.2.2.1; have y5 := hW'.2.2.2; clear hW'; go_simp; first | done | with_reducible rfl)
        simp only [Act.put, nS]
        refine callZ 14 (f := ?f2) (args := ?args2) rfl (by kernel_rfl) (by rfl) ?hrun2 ?hcall2
        case hrun2 => (go_simp; first | done | with_reducible rfl | (constructor <;> with_reducible rfl))
        case hcall2 =>
         refine (hC_h.out W2 _ _ _ _ _ _ _ _ _ _ _ _ (hoa_h.out.below hbd_h.out) (hob_h.out.below hbd_h.out)).mono ?_
         rintro e w2 ⟨v2, fp2, rfl, hO2, hf2, hb2⟩
         obtain ⟨A2, n2, c2, rfl⟩ := hO2.shape
         have hF2 := And.intro (And.intro (cell_mv hb2 hF_h.out.1.1) (And.intro (cell_mv hb2 hF_h.out.1.2.1) (cell_mv hb2 hF_h.out.1.2.2))) (And.intro (cell_mv hb2 hF_h.out.2.1) (And.intro (cell_mv hb2 hF_h.out.2.2.1) (cell_mv hb2 hF_h.out.2.2.2)))
         have hal := below_alloc w2 (.cells #[.int .i64 V.1, .int .i64 V.2.1, .slice A2 n2 c2] tRelD)
         have hF3 := And.intro (And.intro (cell_mv hal hF2.1.1) (And.intro (cell_mv hal hF2.1.2.1) (cell_mv hal hF2.1.2.2))) (And.intro (cell_mv hal hF2.2.1) (And.intro (cell_mv hal hF2.2.2.1) (cell_mv hal hF2.2.2.2)))
         have hba := below_trans (below_trans hbd_h.out hb2 hbd_h.out.size) hal (below_trans hbd_h.out hb2 hbd_h.out.size).size
         have htl : (hs.take q).length = q := by rw [List.length_take, hsl_h.out]; omega
         have hsl' : Sl (w2.alloc (.cells #[.int .i64 V.1, .int .i64 V.2.1, .slice A2 n2 c2] tRelD)) tRelD 3 (some ad1) q c1 (rcs (hs.take q)) := by
          have := hT_h.out.sl.below hba
          rwa [htl] at this
         have hO3 : OwSys (w2.alloc (.cells #[.int .i64 V.1, .int .i64 V.2.1, .slice A2 n2 c2] tRelD)) (rv (V.1, V.2.1, A2, n2, c2)) V fp2 := hO2.below hal
         have hf3 : FreshL W.heap.size fp2 := hf2.mono (by have := hbd_h.out.size; have := hbN_h.out.size; have := hbo_h.out.size; omega)
         clear hO2 hf2; have hF2_h := lH hF2; have hF3_h := lH hF3; have hal_h := lH hal; have hba_h := lH hba; have hsl'_h := lH hsl'; have hO3_h := lH hO3; have hf3_h := lH hf3; have htl_h := lH htl; clear hF2 hF3 hal hba hsl' hO3 hf3 htl
         refine ⟨_, rfl, fun _ => hF2_h.out, ?_⟩
         simp only [Act.put, nS]
         refine oneZ 15 rfl (by kernel_rfl) (by rfl) (fun K hK => ?_)
         go_simp
         refine hK _ _ (fun _ => hF3_h.out) ?_
         clear hK K
         refine appZ 16 rfl (by kernel_rfl) (by rfl) _ _ _ rfl tRelD Tryz.underlying112 info_rel rfl (by omega) rfl hsl'_h.out rfl (news := [.int .i64 V.1, .int .i64 V.2.1, .slice A2 n2 c2]) rfl (Sl.rdc (Sl.laid w2 tRelD 3 1 #[.int .i64 V.1, .int .i64 V.2.1, .slice A2 n2 c2] (by unfold maxLen; omega) rfl)) (by intro u hu; simp at hu; rcases hu with rfl | rfl | rfl <;> rfl) (by unfold maxLen; omega) (by omega) ?_
         intro A6 c6 w6 hsA6 hA6 hkA6 hrdA6
         have hS6 := hT_h.out.push hba_h.out (v := (V.1, V.2.1, A2, n2, c2)) hO3_h.out hf3_h.out (n := q + 1) (by rw [htl_h.out]) hsA6 hA6 hkA6
         have hdn : dens p r ++ [V] = dens p (Tr.node true a b :: r) := by rw [dens_push, hden_h.out]
         rw [hdn] at hS6
         clear hdn
         have hl6 : (hs.take q ++ [(V.1, V.2.1, A2, n2, c2)]).length = q + 1 := by rw [List.length_append, htl_h.out]; rfl
         clear hsA6 hA6 hkA6 hrdA6; have hS6_h := lH hS6; have hl6_h := lH hl6; clear hS6 hl6
         refine ⟨fun h => (by cases h), ?_⟩
         simp only [Act.put, nS]
         refine oneZ 17 rfl (by kernel_rfl) (by rfl) (fun K hK => ?_)
         go_simp
         refine hK _ _ (fun h => by cases h) ?_
         clear hK K
         refine doneZ (by kernel_rfl) ?_
         go_wp2_with (fail)
         go_roundw
         case rel => exact ⟨k + 1, _, A6, c6, q + 1, _, by omega, by go_num, rfl, by rw [List.length_cons, ← hq_h.out], by omega, hl6_h.out, hpar'_h.out, hall'_h.out, hS6_h.out⟩
         case measure => simp [intOf]; omega
    · have hb15 : (κ == 15) = false := by rw [beq_eq_false_iff_ne]; omega
      have hb16 : (κ == 16) = false := by rw [beq_eq_false_iff_ne]; omega
      obtain ⟨hlb, rfl⟩ := step_leaf_some (show ¬ isJoin (κ, v, s) from hj) hst
      have hlf : okLf p (κ, v, s) := ⟨hlb, hokn.1, hokn.2.1, hokn.2.2⟩
      have hC := fun (W' : World) => leafRelation_any p κ v s W' hf hlf
      have hall' : ∀ t, t ∈ (Tr.leaf (κ, v, s) :: st) → wt t ∧ okTr p t := fun t ht => by
       rcases List.mem_cons.1 ht with rfl | ht
       · exact ⟨hlb, hlf⟩
       · exact hall t ht
      clear hj hst hokn hlb hlf hpar hall hS hn; have hsl_h := lH hsl; have hn1_h := lH hn1; have hpar'_h := lH hpar'; have hall'_h := lH hall'; have hSN_h := lH hSN; have hC_h := lH hC; have hbN_h := lH hbN; have kN_h := lH kN; have hbo_h := lH hbo; clear hsl hn1 hpar' hall' hSN hC hbN kN hbo
      go_wp2_with (fail)
      rw [← hwN]
      clear hwN d0 d1 d2
      refine (hC_h.out wN).mono ?_
      rintro e w2 ⟨v2, fp2, rfl, hO2, hf2, hb2⟩
      obtain ⟨V, hV⟩ : ∃ V, V = leafV p (κ, v, s) := ⟨_, rfl⟩
      rw [← hV] at hO2
      obtain ⟨A2, n2, c2, rfl⟩ := hO2.shape
      have hal := below_alloc w2 (.cells #[.int .i64 V.1, .int .i64 V.2.1, .slice A2 n2 c2] tRelD)
      have hba := below_trans hb2 hal hb2.size
      have hsl' : Sl (w2.alloc (.cells #[.int .i64 V.1, .int .i64 V.2.1, .slice A2 n2 c2] tRelD)) tRelD 3 A1 n1 c1 (rcs hs) := by
       have := hSN_h.out.sl.below hba
       rwa [hsl_h.out] at this
      have hO3 : OwSys (w2.alloc (.cells #[.int .i64 V.1, .int .i64 V.2.1, .slice A2 n2 c2] tRelD)) (rv (V.1, V.2.1, A2, n2, c2)) V fp2 := hO2.below hal
      have hf3 : FreshL W.heap.size fp2 := hf2.mono (by have := hbN_h.out.size; have := hbo_h.out.size; omega)
      clear hO2 hf2; have hal_h := lH hal; have hba_h := lH hba; have hsl'_h := lH hsl'; have hO3_h := lH hO3; have hf3_h := lH hf3; have hV_h := lH hV; have hb2_h := lH hb2; clear hal hba hsl' hO3 hf3 hV hb2
      go_wp2_with (at_builtin; refine wpList_append_Sl _ rfl _ _ _ rfl tRelD Tryz.underlying112 info_rel rfl (by omega) rfl hsl'_h.out rfl (news := [.int .i64 V.1, .int .i64 V.2.1, .slice A2 n2 c2]) rfl (Sl.rdc (Sl.laid w2 tRelD 3 1 #[.int .i64 V.1, .int .i64 V.2.1, .slice A2 n2 c2] (by unfold maxLen; omega) rfl)) (by intro u hu; simp at hu; rcases hu with rfl | rfl | rfl <;> rfl) (by unfold maxLen; omega) (by omega) ?_; intro A6 c6 w6 hsA6 hA6 hkA6)
      have hS6 := hSN_h.out.push hba_h.out (v := (V.1, V.2.1, A2, n2, c2)) hO3_h.out hf3_h.out (n := n1 + 1) (by rw [hsl_h.out]) hsA6 hA6 hkA6
      have hdn : dens p (Tr.leaf (κ, v, s) :: st) = dens p st ++ [V] := by rw [dens_push, hV_h.out]; rfl
      rw [← hdn] at hS6
      have hl6 : (hs ++ [(V.1, V.2.1, A2, n2, c2)]).length = n1 + 1 := by rw [List.length_append, hsl_h.out]; rfl
      clear hsA6 hA6 hkA6 hdn; have hS6_h := lH hS6; have hl6_h := lH hl6; clear hS6 hl6
      go_roundw
      case rel => exact ⟨k + 1, _, A6, c6, n1 + 1, _, by omega, by go_num, rfl, by rw [List.length_cons, ← hn1_h.out], by omega, hl6_h.out, hpar'_h.out, hall'_h.out, hS6_h.out⟩
      case measure => simp [intOf]; omega
  · obtain rfl : m = k := by omega
    have hpl : parse [] l = some st := by have := hpar; rwa [List.take_of_length_le (by rw [hm_h.out]; exact Nat.le_refl _)] at this
    have h400 : 1 ≤ l.length ∧ l.length ≤ 400 := by
     have h2 := hv_h.out
     unfold treeM at h2
     split at h2
     · rename_i h3; exact h3
     · cases h2
    have hst := treeM_of h400 hpl
    rw [hv_h.out] at hst
    have hst1 := oneOf_some hst.symm
    subst hst1
    obtain ⟨ad, x, y, B, n, e, fp, rfl, a0, a1', a2, hO, hfp⟩ := hS.at_ (i := 0) (s := den p t) (by simp [dens])
    have hbo := hS.below_
    have k1r := box_below k1_h.out hbo
    obtain ⟨⟨y0, y1, y2⟩, y3, y4, y5⟩ := box3 k1r
    obtain ⟨s1, s2⟩ := set3 (a := .int .i64 x) (b := .int .i64 y) (c := .slice B n e) k1r
    have hbb := below_trans bW_h.out hbo bW_h.out.size
    have hbw := below_keeps hbb s2 hbb.size (fun k hk => by omega)
    have hz1 := bW_h.out.size
    have hO2 := hO.keeps s2 (fun k hk e => by have := hfp k hk; omega)
    have hf2 : FreshL w.heap.size fp := hfp.mono hz1
    have hnz : (0 : Int) < (n1 : Int) := by rw [hn1]; simp
    have hb0 : wo.cell? ad = some (.int .i64 x) := a0
    have hb1 : wo.cell? ⟨ad.block, ad.off + 1, none⟩ = some (.int .i64 y) := a1'
    have hb2 : wo.cell? ⟨ad.block, ad.off + 2, none⟩ = some (.slice B n e) := a2
    have ha : ad.add 0 = ad := rfl
    clear a0 a1' a2; clear hS hst hpl h400 hpar hall hbo k1r s2 hbb hO hfp; have s1_h := lH s1; have hbw_h := lH hbw; have hO2_h := lH hO2; have hf2_h := lH hf2; have hn1_h := lH hn1; have hsl_h := lH hsl; clear s1 hbw hO2 hf2 hn1 hsl
    go_wp2_with (fail)
    refine bodyPost_ret (results_cell_row rfl _ _ (w.heap.size + 1) _ _ (0, 0) _ rfl s1_h.out Tryz.underlying29 rfl (by kernel_rfl)) rfl ?_
    first | exact ⟨_, fp, rfl, hO2_h.out, hf2_h.out, hbw_h.out⟩ | exact ⟨_, rfl, fp, hO2_h.out, hf2_h.out, hbw_h.out⟩
theorem set4_2 {w : World} {B : Nat} {t : TypeId} {x y z u b : Value} (h : w.heap[B]? = some (.cells #[x, y, z, u] t)) : (w.setCell ⟨B, 2, none⟩ b).heap[B]? = some (.cells #[x, y, b, u] t) ∧ Keeps (· = B) w (w.setCell ⟨B, 2, none⟩ b) := by
 refine ⟨by simp [World.setCell, Array.getElem?_modify, h], ?_⟩
 exact (Keeps.refl (fun x => x = B) w).setCell (p := ⟨B, 2, none⟩) rfl _
theorem set4_3 {w : World} {B : Nat} {t : TypeId} {x y z u b : Value} (h : w.heap[B]? = some (.cells #[x, y, z, u] t)) : (w.setCell ⟨B, 3, none⟩ b).heap[B]? = some (.cells #[x, y, z, b] t) ∧ Keeps (· = B) w (w.setCell ⟨B, 3, none⟩ b) := by
 refine ⟨by simp [World.setCell, Array.getElem?_modify, h], ?_⟩
 exact (Keeps.refl (fun x => x = B) w).setCell (p := ⟨B, 3, none⟩) rfl _
theorem set4_1 {w : World} {B : Nat} {t : TypeId} {x y z u b : Value} (h : w.heap[B]? = some (.cells #[x, y, z, u] t)) : (w.setCell ⟨B, 1, none⟩ b).heap[B]? = some (.cells #[x, b, z, u] t) ∧ Keeps (· = B) w (w.setCell ⟨B, 1, none⟩ b) := by
 refine ⟨by simp [World.setCell, Array.getElem?_modify, h], ?_⟩
 exact (Keeps.refl (fun x => x = B) w).setCell (p := ⟨B, 1, none⟩) rfl _
theorem rangeI_succ (k : Nat) : rangeI (k + 1) = rangeI k ++ [(k : Int)] := by unfold rangeI; rw [List.range_succ, List.map_append]; rfl
@[simp] theorem rangeI_length' (k : Nat) : (rangeI k).length = k := by simp [rangeI]
theorem IS.ne_gr {w : World} {A : Option Addr} {c b : Nat} {l : List Int} {cs : Array Value} (h : IS w A c l) (hb : w.heap[b]? = some (.cells cs tGr)) : ∀ x, x ∈ fpA A → x ≠ b := by
 intro x hx e
 subst e
 rcases h.2.2.2 with ⟨rfl, _⟩ | ⟨g, off, cur, rfl, hg, _⟩
 · simp at hx
 · simp at hx
   subst hx
   rw [hb] at hg
   injection hg with hg
   injection hg with _ h2 _
   exact absurd h2 (by decide)
theorem IS.ne_ed {w : World} {A : Option Addr} {c b : Nat} {l : List Int} {cs : Array Value} (h : IS w A c l) (hb : w.heap[b]? = some (.cells cs tEd)) : ∀ x, x ∈ fpA A → x ≠ b := by
 intro x hx e
 subst e
 rcases h.2.2.2 with ⟨rfl, _⟩ | ⟨g, off, cur, rfl, hg, _⟩
 · simp at hx
 · simp at hx
   subst hx
   rw [hb] at hg
   injection hg with hg
   injection hg with _ h2 _
   exact absurd h2 (by decide)
theorem IS.app1 {w2 : World} {A' : Option Addr} {c' k : Nat} {l : List Int} {x : Int} (hl : l.length = k) (hs : Sl w2 3 1 A' (k + 1) c' (ints l ++ [.int .i64 x])) : IS w2 A' c' (l ++ [x]) := by
 have e : ints (l ++ [x]) = ints l ++ [.int .i64 x] := by simp [ints]
 unfold IS
 rw [e, List.length_append, hl]
 exact hs
set_option maxRecDepth 100000 in
set_option maxHeartbeats 4000000 in
theorem hgId_any (n : Nat) (w : World) (hn : n ≤ 100) :
  Calls Tryz.prog 161 #[.int .i64 (n : Int)] w fun e w' => ∃ (Ai Ao : Option Addr) (ci co : Nat), e = .returned (.agg #[.int .i64 (n : Int), .slice none 0 0, .slice Ai n ci, .slice Ao n co]) ∧ IS w' Ai ci (rangeI n) ∧ IS w' Ao co (rangeI n) ∧ Below w.heap.size w w' := by
 obtain ⟨W, hW, bW, k0, k1⟩ := alloc2 w (.cells #[.int .i64 0, .slice none 0 0, .slice none 0 0, .slice none 0 0] tGr) (.cells #[.int .i64 (n : Int), .slice none 0 0, .slice none 0 0, .slice none 0 0] tGr)
 have hWs : W.heap.size = w.heap.size + 1 + 1 := by rw [hW]; simp
 have k0_h := lH k0; have k1_h := lH k1; have bW_h := lH bW; clear k0 k1 bW
 go_enter Tryz.func161, Tryz.ntmps161
 go_upto_region 2 with (fail)
 rw [← hW]
 clear hW
 go_wp2_with (fail)
 go_loopw [4] (fun i wr => ∃ (k : Nat) (Ai Ao : Option Addr) (ci co : Nat), k ≤ n ∧ i = .int .i64 k ∧ wr.heap[w.heap.size + 1]? = some (.cells #[.int .i64 (n : Int), .slice none 0 0, .slice Ai k ci, .slice Ao k co] tGr) ∧ IS wr Ai ci (rangeI k) ∧ IS wr Ao co (rangeI k) ∧ (∀ b, b ∈ fpA Ai → ¬ b ∈ fpA Ao) ∧ ((∀ b, b ∈ fpA Ai → w.heap.size ≤ b) ∧ ∀ b, b ∈ fpA Ao → w.heap.size ≤ b) ∧ wr.heap[w.heap.size]? = some (.cells #[.int .i64 0, .slice none 0 0, .slice none 0 0, .slice none 0 0] tGr) ∧ Below w.heap.size w wr) (fun i _ => n - (intOf i).toNat)
 case atStart => exact ⟨0, none, none, 0, 0, Nat.zero_le _, rfl, k1_h.out, Sl.nil _ _ _, Sl.nil _ _ _, fun b hb => (by simp at hb), ⟨fun b hb => (by simp at hb), fun b hb => (by simp at hb)⟩, k0_h.out, bW_h.out⟩
 case round =>
  clear k0_h k1_h bW_h
  obtain ⟨k, Ai, Ao, ci, co, hk, rfl, kx, hi, ho, hap, ⟨hfi, hfo⟩, kr, hbr⟩ := hrel
  obtain ⟨wo, rfl⟩ : ∃ x, x = wr := ⟨_, rfl⟩
  by_cases hlt : k < n
  · have hkI : (k : Int) < (n : Int) := by omega
    have hal := below_alloc wo (.cells #[.int .i64 (k : Int)] 3)
    have hsl : Sl (wo.alloc (.cells #[.int .i64 (k : Int)] 3)) 3 1 Ai k ci (ints (rangeI k)) := by
     have := hi.below hal
     unfold IS at this
     rw [rangeI_length'] at this
     exact this
    have kx1 := box_below kx hal
    have kr1 := box_below kr hal
    have hi1 := hi.below hal
    have ho1 := ho.below hal
    have hlto := ho.lt
    obtain ⟨⟨x0, x1, x2, x3⟩, x4, x5, x6, x7⟩ := box4 kx
    have hb1 := below_trans hbr hal hbr.size
    have hsl_h := lH hsl; have hal_h := lH hal; have kx1_h := lH kx1; have kr1_h := lH kr1; have hi1_h := lH hi1; have ho1_h := lH ho1; have hap_h := lH hap; have kx_h := lH kx; have kr_h := lH kr; have hb1_h := lH hb1; have hlto_h := lH hlto; clear hsl hal kx1 kr1 hi1 ho1 hap kx kr hb1 hlto; clear hi ho
    go_upto_region 6 with (at_builtin; refine wpList_append_Sl _ rfl _ _ _ rfl 3 Tryz.underlying23 info_int rfl (by omega) rfl hsl_h.out rfl (news := [.int .i64 (k : Int)]) rfl (Sl.rdc (Sl.laid wo 3 1 1 #[.int .i64 (k : Int)] (by unfold maxLen; omega) rfl)) (by intro u hu; simp at hu; subst hu; rfl) (by unfold maxLen; omega) (by omega) ?_; intro A3 c3 w3 hs3 hA3 hk3; have kx3 := box_keeps kx1_h.out hk3 (fun hb => IS.ne_gr hi1_h.out kx1_h.out _ hb rfl); obtain ⟨⟨y0, y1, y2, y3⟩, y4, y5, y6, y7⟩ := box4 kx3)
    have hi3 : IS w3 A3 c3 (rangeI (k + 1)) := by rw [rangeI_succ]; exact IS.app1 (rangeI_length' k) hs3
    have ho3 := ho1_h.out.keeps hk3 (fun b hb hb' => hap_h.out b hb' hb)
    have kr3 := box_keeps kr1_h.out hk3 (fun hb => IS.ne_gr hi1_h.out kr1_h.out _ hb rfl)
    have hap3 : ∀ b, b ∈ fpA A3 → ¬ b ∈ fpA Ao := fun b hb hb' => by
     rcases hA3 b hb with h | h
     · exact hap_h.out b h hb'
     · have := hlto_h.out b hb'; have := hal_h.out.size; omega
    have hb3 := below_keeps hb1_h.out hk3 hb1_h.out.size hfi
    have hfi3 : ∀ b, b ∈ fpA A3 → w.heap.size ≤ b := fun b hb => by
     rcases hA3 b hb with h | h
     · exact hfi b h
     · have := hb1_h.out.size; omega
    obtain ⟨s1, s2⟩ := set4_2 (b := .slice A3 (k + 1) c3) kx3
    have hi5 := hi3.keeps s2 (fun b hb e => IS.ne_gr hi3 kx3 b hb e)
    have ho5 := ho3.keeps s2 (fun b hb e => IS.ne_gr ho3 kx3 b hb e)
    have kr5 := box_keeps kr3 s2 (by omega)
    have hb5 := below_keeps hb3 s2 hb3.size (fun q e => by omega)
    obtain ⟨W5, hW5⟩ : ∃ W5, W5 = w3.setCell ⟨w.heap.size + 1, 2, none⟩ (.slice A3 (k + 1) c3) := ⟨_, rfl⟩
    rw [← hW5] at s1 hi5 ho5 kr5 hb5 ⊢
    clear hW5 s2 hi3 ho3 kr3 hb3 kx3 hs3 hA3 hk3 x0 x1 x2 x3 x4 x5 x6 x7 hsl_h hal_h kx1_h kr1_h hi1_h ho1_h hap_h kx_h kr_h hb1_h hlto_h y0 y1 y2 y3 y4 y5 y6 y7
    have hal := below_alloc W5 (.cells #[.int .i64 (k : Int)] 3)
    have hsl : Sl (W5.alloc (.cells #[.int .i64 (k : Int)] 3)) 3 1 Ao k co (ints (rangeI k)) := by
     have := ho5.below hal
     unfold IS at this
     rw [rangeI_length'] at this
     exact this
    have kx1 := box_below s1 hal
    have kr1 := box_below kr5 hal
    have hi1 := hi5.below hal
    have ho1 := ho5.below hal
    have hlti := hi5.lt
    have hb1 := below_trans hb5 hal hb5.size
    obtain ⟨⟨x0, x1, x2, x3⟩, x4, x5, x6, x7⟩ := box4 s1
    have hsl_h := lH hsl; have hal_h := lH hal; have kx1_h := lH kx1; have kr1_h := lH kr1; have hi1_h := lH hi1; have ho1_h := lH ho1; have hap3_h := lH hap3; have hb1_h := lH hb1; have hlti_h := lH hlti; have s1_h := lH s1; have hb5_h := lH hb5; have hi5_h := lH hi5; have ho5_h := lH ho5; have kr5_h := lH kr5; clear hsl hal kx1 kr1 hi1 ho1 hap3 hb1 hlti s1 hb5 hi5 ho5 kr5
    go_upto_region 4 with (at_builtin; refine wpList_append_Sl _ rfl _ _ _ rfl 3 Tryz.underlying23 info_int rfl (by omega) rfl hsl_h.out rfl (news := [.int .i64 (k : Int)]) rfl (Sl.rdc (Sl.laid W5 3 1 1 #[.int .i64 (k : Int)] (by unfold maxLen; omega) rfl)) (by intro u hu; simp at hu; subst hu; rfl) (by unfold maxLen; omega) (by omega) ?_; intro A6 c6 w6 hs6 hA6 hk6; have kx6 := box_keeps kx1_h.out hk6 (fun hb => IS.ne_gr ho1_h.out kx1_h.out _ hb rfl); obtain ⟨⟨y0, y1, y2, y3⟩, y4, y5, y6, y7⟩ := box4 kx6)
    have ho6 : IS w6 A6 c6 (rangeI (k + 1)) := by rw [rangeI_succ]; exact IS.app1 (rangeI_length' k) hs6
    have hi6 := hi1_h.out.keeps hk6 (fun b hb hb' => hap3_h.out b hb hb')
    have kr6 := box_keeps kr1_h.out hk6 (fun hb => IS.ne_gr ho1_h.out kr1_h.out _ hb rfl)
    have hap6 : ∀ b, b ∈ fpA A3 → ¬ b ∈ fpA A6 := fun b hb hb' => by
     rcases hA6 b hb' with h | h
     · exact hap3_h.out b hb h
     · have := hlti_h.out b hb; have := hal_h.out.size; omega
    have hb6 := below_keeps hb1_h.out hk6 hb1_h.out.size hfo
    have hfo6 : ∀ b, b ∈ fpA A6 → w.heap.size ≤ b := fun b hb => by
     rcases hA6 b hb with h | h
     · exact hfo b h
     · have := hb1_h.out.size; omega
    obtain ⟨s1, s2⟩ := set4_3 (b := .slice A6 (k + 1) c6) kx6
    have hi7 := hi6.keeps s2 (fun b hb e => IS.ne_gr hi6 kx6 b hb e)
    have ho7 := ho6.keeps s2 (fun b hb e => IS.ne_gr ho6 kx6 b hb e)
    have kr7 := box_keeps kr6 s2 (by omega)
    have hb7 := below_keeps hb6 s2 hb6.size (fun q e => by omega)
    clear s2 hi6 ho6 kr6 hb6 hs6 hA6 hk6; have s1_h := lH s1; have hi7_h := lH hi7; have ho7_h := lH ho7; have kr7_h := lH kr7; have hb7_h := lH hb7; have hap6_h := lH hap6; have hfi3_h := lH hfi3; have hfo6_h := lH hfo6; clear s1 hi7 ho7 kr7 hb7 hap6 hfi3 hfo6
    go_wp2_with (fail)
    go_roundw
    case rel => exact ⟨k + 1, A3, A6, c3, c6, by omega, by go_num, s1_h.out, hi7_h.out, ho7_h.out, hap6_h.out, ⟨hfi3_h.out, hfo6_h.out⟩, kr7_h.out, hb7_h.out⟩
    case measure => simp [intOf]; omega
  · obtain rfl : n = k := by omega
    obtain ⟨⟨x0, x1, x2, x3⟩, x4, x5, x6, x7⟩ := box4 kx
    obtain ⟨⟨y0, y1, y2, y3⟩, y4, y5, y6, y7⟩ := box4 kr
    obtain ⟨s1, s2⟩ := set4 (a := .int .i64 (n : Int)) (b := .slice none 0 0) (c := .slice Ai n ci) (d := .slice Ao n co) kr
    have hi7 := hi.keeps s2 (fun b hb e => IS.ne_gr hi kr b hb e)
    have ho7 := ho.keeps s2 (fun b hb e => IS.ne_gr ho kr b hb e)
    have hb7 := below_keeps hbr s2 hbr.size (fun q e => by omega)
    clear s2 hi ho hap hfi hfo hbr kx kr; have s1_h := lH s1; have hi7_h := lH hi7; have ho7_h := lH ho7; have hb7_h := lH hb7; clear s1 hi7 ho7 hb7
    go_wp2_with (fail)
    refine bodyPost_ret (results_cell_row rfl _ _ w.heap.size _ _ (0, 0) _ rfl s1_h.out Tryz.underlying34 rfl (by kernel_rfl)) rfl ?_
    exact ⟨Ai, Ao, ci, co, rfl, hi7_h.out, ho7_h.out, hb7_h.out⟩
theorem OwLs.app1 {w w1 w2 : World} {ls : List Hd} (h : OwLs w [] ls) {i : Nat} {A : Option Addr} {c : Nat} {l : List Int} (hi : ls[i]? = some (A, c, l)) (hb : Below w.heap.size w w1) {A' : Option Addr} {c' : Nat} {l' : List Int} (hx : IS w2 A' c' l') (hA' : ∀ b, b ∈ fpA A' → b ∈ fpA A ∨ w1.heap.size ≤ b) (hk : Keeps (· ∈ fpA A) w1 w2) : OwLs w2 [] (ls.set i (A', c', l')) := by
 have hil := (List.getElem?_eq_some_iff.1 hi).1
 have hap : ∀ (k : Nat) (x : Hd), ls[k]? = some x → k ≠ i → ∀ b, b ∈ fpA x.1 → ¬ b ∈ fpA A := by
  intro k x hk hne b hb1 hb2
  have hp := List.pairwise_iff_getElem.1 h.apart
  have hkl := (List.getElem?_eq_some_iff.1 hk).1
  have ek : ls[k] = x := (List.getElem?_eq_some_iff.1 hk).2
  have ei : ls[i] = (A, c, l) := (List.getElem?_eq_some_iff.1 hi).2
  rcases Nat.lt_or_gt_of_ne hne with h1 | h1
  · exact hp k i hkl hil h1 b (by rw [ek]; exact hb1) (by rw [ei]; exact hb2)
  · exact hp i k hil hkl h1 b (by rw [ei]; exact hb2) (by rw [ek]; exact hb1)
 have hget : ∀ (k : Nat) (x : Hd), (ls.set i (A', c', l'))[k]? = some x → (k = i ∧ x = (A', c', l')) ∨ (k ≠ i ∧ ls[k]? = some x) := by
  intro k x hx
  rw [List.getElem?_set] at hx
  split at hx
  · rename_i hk; subst hk
    simp at hx
    exact .inl ⟨rfl, hx.symm⟩
  · rename_i hk; exact .inr ⟨fun e => hk e.symm, hx⟩
 have hbs := hb.size
 refine ⟨fun x hx' => ?_, ?_, fun x _ b _ hb' => by cases hb'⟩
 · obtain ⟨k, hk', rfl⟩ := List.getElem_of_mem hx'
   rcases hget k _ (List.getElem?_eq_getElem hk') with ⟨_, e⟩ | ⟨hne, e⟩
   · rw [e]; exact hx
   · exact ((h.rows _ (List.mem_of_getElem? e)).below hb).keeps hk (hap k _ e hne)
 · refine List.pairwise_iff_getElem.2 fun a b ha hb' hab q h1 h2 => ?_
   rcases hget a _ (List.getElem?_eq_getElem ha) with ⟨ea, e1⟩ | ⟨ea, e1⟩ <;> rcases hget b _ (List.getElem?_eq_getElem hb') with ⟨eb, e2⟩ | ⟨eb, e2⟩
   · omega
   · rw [e1] at h1
     have h3 := (h.rows _ (List.mem_of_getElem? e2)).lt q h2
     rcases hA' q h1 with h4 | h4
     · exact hap b _ e2 eb q h2 h4
     · omega
   · rw [e2] at h2
     have h3 := (h.rows _ (List.mem_of_getElem? e1)).lt q h1
     rcases hA' q h2 with h4 | h4
     · exact hap a _ e1 ea q h1 h4
     · omega
   · have hp := List.pairwise_iff_getElem.1 h.apart
     obtain ⟨hal, ea'⟩ := List.getElem?_eq_some_iff.1 e1
     obtain ⟨hbl, eb'⟩ := List.getElem?_eq_some_iff.1 e2
     exact hp a b hal hbl hab q (by rw [ea']; exact h1) (by rw [eb']; exact h2)
theorem is_laidH (w : World) (l : List Int) (hl : l.length ≤ maxLen) : IS (w.alloc (.cells (ints l).toArray 3)) (some ⟨w.heap.size, 0, none⟩) l.length l := by
 have h := Sl.laid w 3 1 l.length (ints l).toArray hl (by simp)
 unfold IS
 simpa using h
def lfI (n k : Nat) : List Int := (rangeI k).take n
def lfO (n k : Nat) : List Int := (rangeI k).drop n
@[simp] theorem lfI_length (n k : Nat) : (lfI n k).length = min n k := by simp [lfI]
@[simp] theorem lfO_length (n k : Nat) : (lfO n k).length = k - n := by simp [lfO]
theorem lf_lt {n k : Nat} (h : k < n) : lfI n (k + 1) = lfI n k ++ [(k : Int)] ∧ lfO n (k + 1) = lfO n k := by
 unfold lfI lfO
 rw [rangeI_succ]
 refine ⟨?_, ?_⟩
 · rw [List.take_of_length_le (by simp; omega), List.take_of_length_le (by simp; omega)]
 · rw [List.drop_of_length_le (by simp; omega), List.drop_of_length_le (by simp; omega)]
theorem lf_ge {n k : Nat} (h : n ≤ k) : lfI n (k + 1) = lfI n k ∧ lfO n (k + 1) = lfO n k ++ [(k : Int)] := by
 unfold lfI lfO
 rw [rangeI_succ]
 exact ⟨by rw [List.take_append_of_le_length (by simp; omega)], by rw [List.drop_append_of_le_length (by simp; omega)]⟩
theorem is_nilI (n : Nat) (w : World) : IS w none 0 (lfI n 0) := by
 have e : lfI n 0 = [] := by simp [lfI, rangeI]
 rw [e]; exact Sl.nil _ _ _
theorem is_nilO (n : Nat) (w : World) : IS w none 0 (lfO n 0) := by
 have e : lfO n 0 = [] := by simp [lfO, rangeI]
 rw [e]; exact Sl.nil _ _ _
def leafG (k v : Int) : Gr :=
 if k = 1 then (v, [], rangeI v.toNat, rangeI v.toNat) else if k = 2 then (2, [], [0, 1], [1, 0])
 else ((kdN k : Int), [(k, v, lfI (kindTy k).1.toNat (kdN k), lfO (kindTy k).1.toNat (kdN k))], lfI (kindTy k).1.toNat (kdN k), lfO (kindTy k).1.toNat (kdN k))
set_option maxRecDepth 100000 in
set_option maxHeartbeats 4000000 in
theorem hgLeaf_any (k v : Int) (s : ByteArray) (w : World) (hl : leafB (k, v, s) = true) :
  Calls Tryz.prog 131 #[.agg #[.int .i64 k, .int .i64 v, .string s]] w fun e w' => ∃ v', e = .returned v' ∧ RdGr w' v' (leafG k v) ∧ Below w.heap.size w w' := by
 obtain ⟨W, hW, bW, k0, k1⟩ := alloc2 w (.cells #[.int .i64 k, .int .i64 v, .string s] 113) (.cells #[.int .i64 0, .slice none 0 0, .slice none 0 0, .slice none 0 0] tGr)
 have hWs : W.heap.size = w.heap.size + 1 + 1 := by rw [hW]; simp
 obtain ⟨G, hG⟩ : ∃ G, G = leafG k v := ⟨_, rfl⟩
 rw [← hG]
 unfold leafG at hG
 have hl1 := hl
 unfold leafB at hl1
 simp only [decide_eq_true_eq] at hl1
 obtain ⟨⟨c0, c1, c2⟩, f0, f1, f2⟩ := box3 k0
 by_cases h1 : k = 1
 · rw [if_pos h1] at hG
   obtain ⟨n, rfl⟩ : ∃ n : Nat, v = (n : Int) := ⟨v.toNat, by omega⟩
   have hC := hgId_any n W (by omega)
   have hb1 : (k == 1) = true := by rw [h1]; rfl
   rw [Int.toNat_natCast] at hG
   subst hG
   clear hl hl1 h1; have k0_h := lH k0; have k1_h := lH k1; have bW_h := lH bW; have hC_h := lH hC; clear k0 k1 bW hC
   go_enter Tryz.func131, Tryz.ntmps131
   go_upto_region 1 with (fail)
   rw [← hW]
   clear hW
   go_wp2_with (fail)
   refine (hC_h.out).mono ?_
   rintro e w2 ⟨Ai, Ao, ci, co, rfl, hI2, hO2, hb2⟩
   have k1r := box_below k1_h.out hb2
   have hz2 := hb2.size
   obtain ⟨⟨y0, y1, y2, y3⟩, y4, y5, y6, y7⟩ := box4 k1r
   obtain ⟨s1, s2⟩ := set4 (a := .int .i64 (n : Int)) (b := .slice none 0 0) (c := .slice Ai n ci) (d := .slice Ao n co) k1r
   have hB2 := below_trans bW_h.out hb2 bW_h.out.size
   have hB3 := below_keeps hB2 s2 hB2.size (fun q e => by omega)
   have hI3 := hI2.keeps s2 (fun b hb e => IS.ne_gr hI2 k1r b hb e)
   have hO3 := hO2.keeps s2 (fun b hb e => IS.ne_gr hO2 k1r b hb e)
   clear k1r s2 hI2 hO2 hb2 hB2; have s1_h := lH s1; have hB3_h := lH hB3; have hI3_h := lH hI3; have hO3_h := lH hO3; clear s1 hB3 hI3 hO3
   go_wp2_with (fail)
   refine bodyPost_ret (results_cell_row rfl _ _ (w.heap.size + 1) _ _ (0, 0) _ rfl s1_h.out Tryz.underlying34 rfl (by kernel_rfl)) rfl ?_
   exact ⟨_, rfl, ⟨none, 0, [], (Ai, ci, rangeI n), (Ao, co, rangeI n), by simp, rfl, rfl, rfl, RdE.nil _ _, hI3_h.out.rd, hO3_h.out.rd⟩, hB3_h.out⟩
 · rw [if_neg h1] at hG
   have hb1 : (k == 1) = false := by rw [beq_eq_false_iff_ne]; exact h1
   by_cases h2 : k = 2
   · rw [if_pos h2] at hG
     have hb2 : (k == 2) = true := by rw [h2]; rfl
     have r0 := is_laidH W [0, 1] (by unfold maxLen; simp)
     have b0 := below_alloc W (.cells (ints [0, 1]).toArray 3)
     have r1 := is_laidH (W.alloc (.cells (ints [0, 1]).toArray 3)) [1, 0] (by unfold maxLen; simp)
     have b1 := below_alloc (W.alloc (.cells (ints [0, 1]).toArray 3)) (.cells (ints [1, 0]).toArray 3)
     simp only [World.size_alloc] at r1
     have r0' := r0.below b1
     have b2 := below_trans b0 b1 b0.size
     have k1r := box_below k1 b2
     obtain ⟨W3, hW3⟩ : ∃ W3, W3 = (W.alloc (.cells (ints [0, 1]).toArray 3)).alloc (.cells (ints [1, 0]).toArray 3) := ⟨_, rfl⟩
     rw [← hW3] at r1 r0' b2 k1r
     have hz3 := b2.size
     obtain ⟨⟨y0, y1, y2, y3⟩, y4, y5, y6, y7⟩ := box4 k1r
     obtain ⟨s1, s2⟩ := set4 (a := .int .i64 2) (b := .slice none 0 0) (c := .slice (some ⟨W.heap.size, 0, none⟩) 2 2) (d := .slice (some ⟨W.heap.size + 1, 0, none⟩) 2 2) k1r
     have hB2 := below_trans bW b2 bW.size
     have hB3 := below_keeps hB2 s2 hB2.size (fun q e => by omega)
     have r0s := r0'.keeps s2 (fun b hb e => IS.ne_gr r0' k1r b hb e)
     have r1s := r1.keeps s2 (fun b hb e => IS.ne_gr r1 k1r b hb e)
     clear hl hl1 h1 h2 r0 r1 b0 b1 r0' b2 k1r s2 hB2 c0 c1 c2 f0 f1 f2
     obtain ⟨⟨c0, c1, c2⟩, f0, f1, f2⟩ := box3 k0
     subst hG
     have k0_h := lH k0; have k1_h := lH k1; have bW_h := lH bW; have s1_h := lH s1; have hB3_h := lH hB3; have r0s_h := lH r0s; have r1s_h := lH r1s; have hWs_h := lH hWs; clear k0 k1 bW s1 hB3 r0s r1s hWs
     go_enter Tryz.func131, Tryz.ntmps131
     go_upto_region 1 with (fail)
     rw [← hW]
     clear hW
     have hW3' : W3 = (W.alloc (.cells #[.int .i64 0, .int .i64 1] 3)).alloc (.cells #[.int .i64 1, .int .i64 0] 3) := hW3
     rw [hW3'] at y0 y1 y2 y3 y4 y5 y6 y7
     clear hW3
     go_wp2_with (fail)
     rw [← hW3']
     refine bodyPost_ret (results_cell_row rfl _ _ (w.heap.size + 1) _ _ (0, 0) _ rfl s1_h.out Tryz.underlying34 rfl (by kernel_rfl)) rfl ?_
     exact ⟨_, rfl, ⟨none, 0, [], (_, 2, [0, 1]), (_, 2, [1, 0]), by simp, rfl, rfl, rfl, RdE.nil _ _, r0s_h.out.rd, r1s_h.out.rd⟩, hB3_h.out⟩
   · rw [if_neg h2] at hG
     have hb2 : (k == 2) = false := by rw [beq_eq_false_iff_ne]; exact h2
     have hk : 3 ≤ k ∧ k ≤ 14 := by omega
     obtain ⟨n, hn⟩ : ∃ n, n = (kindTy k).1.toNat := ⟨_, rfl⟩
     obtain ⟨m, hm⟩ : ∃ n, n = (kindTy k).2.toNat := ⟨_, rfl⟩
     obtain ⟨N, hN⟩ : ∃ n, n = kdN k := ⟨_, rfl⟩
     obtain ⟨x1, x2, x3, x4⟩ := kindTy_nn k
     have hkt : kindTy k = ((n : Int), (m : Int)) := Prod.ext (by omega) (by omega)
     have hNm : (n : Int) + (m : Int) = (N : Int) := by rw [hN, ← x3]; omega
     have hN4 : N ≤ 4 := by omega
     have hC := fun W' => tmKind_any k W'
     simp only [hkt] at hC
     rw [← hn, ← hN] at hG
     subst hG
     obtain ⟨W2, hW2⟩ : ∃ W2, W2 = (W.alloc (.cells #[.int .i64 (N : Int), .slice none 0 0, .slice none 0 0, .slice none 0 0] tGr)).alloc (.cells #[.int .i64 k, .int .i64 v, .slice none 0 0, .slice none 0 0] tEd) := ⟨_, rfl⟩
     have kx0 : W2.heap[W.heap.size]? = some (.cells #[.int .i64 (N : Int), .slice none 0 0, .slice none 0 0, .slice none 0 0] tGr) := by rw [hW2]; exact box_below (heap_alloc_new W _) (below_alloc _ _)
     have ex0 : W2.heap[W.heap.size + 1]? = some (.cells #[.int .i64 k, .int .i64 v, .slice none 0 0, .slice none 0 0] tEd) := by
      rw [hW2]
      have := heap_alloc_new (W.alloc (.cells #[.int .i64 (N : Int), .slice none 0 0, .slice none 0 0, .slice none 0 0] tGr)) (.cells #[.int .i64 k, .int .i64 v, .slice none 0 0, .slice none 0 0] tEd)
      rwa [World.size_alloc] at this
     have hb2W : Below W.heap.size W W2 := by rw [hW2]; exact below_trans (below_alloc _ _) (below_alloc _ _) (by simp)
     have nx0 := box_below k0 hb2W
     have rx0 := box_below k1 hb2W
     have hL0 : OwLs W2 [] [(none, 0, lfI n 0), (none, 0, lfO n 0), (none, 0, lfI n 0), (none, 0, lfO n 0)] := ⟨fun x hx => by
      simp only [List.mem_cons, List.not_mem_nil, or_false] at hx
      rcases hx with rfl | rfl | rfl | rfl
      · exact is_nilI n W2
      · exact is_nilO n W2
      · exact is_nilI n W2
      · exact is_nilO n W2, by simp, fun x _ b _ hb => by cases hb⟩
     have hn4 : n ≤ 4 := by omega
     have hm4 : m ≤ 4 := by omega
     have hWl : w.heap.size + 1 < W.heap.size := by omega
     obtain ⟨W1, hW1⟩ : ∃ W1, W1 = W.alloc (.cells #[.int .i64 (N : Int), .slice none 0 0, .slice none 0 0, .slice none 0 0] tGr) := ⟨_, rfl⟩
     have nx1 : W1.heap[w.heap.size]? = some (.cells #[.int .i64 k, .int .i64 v, .string s] 113) := by rw [hW1]; exact box_below k0 (below_alloc _ _)
     have hW1s : W1.heap.size = W.heap.size + 1 := by rw [hW1]; simp
     have hW2' : W2 = W1.alloc (.cells #[.int .i64 k, .int .i64 v, .slice none 0 0, .slice none 0 0] tEd) := by rw [hW2, hW1]
     obtain ⟨⟨d0, d1, d2⟩, d3, d4, d5⟩ := box3 nx1
     have hNw : IntKind.i64.wrap ((n : Int) + (m : Int)) = (N : Int) := by rw [hNm]; exact IntWalk.i64_in _ (by omega)
     clear hl hl1 h1 h2 hn hm hN x1 x2 x3 x4 hkt nx1 hW2 hNm; have k0_h := lH k0; have k1_h := lH k1; have bW_h := lH bW; have hC_h := lH hC; have kx0_h := lH kx0; have ex0_h := lH ex0; have hb2W_h := lH hb2W; have nx0_h := lH nx0; have rx0_h := lH rx0; have hL0_h := lH hL0; have hWs_h := lH hWs; have hW1s_h := lH hW1s; have hNw_h := lH hNw; have hW2'_h := lH hW2'; clear k0 k1 bW hC kx0 ex0 hb2W nx0 rx0 hL0 hWs hW1s hNw hW2'
     go_enter Tryz.func131, Tryz.ntmps131
     go_upto_region 1 with (fail)
     rw [← hW]
     clear hW
     go_wp2_with (fail)
     refine (hC_h.out _).mono ?_
     rintro e w' ⟨rfl, hw'⟩
     subst hw'
     obtain ⟨W, rfl⟩ : ∃ x, x = w' := ⟨_, rfl⟩
     have hNw := hNw_h.out
     go_upto_region 8 with (fail)
     rw [← hW1]
     clear hW1
     go_upto_region 9 with (fail)
     rw [hW1s_h.out, ← hW2'_h.out]
     clear d0 d1 d2 d3 d4 d5 c0 c1 c2 f0 f1 f2 hW2'_h
     go_wp2_with (fail)
     go_loopw [7] (fun i wr => ∃ (j q1 q2 : Nat) (A1 A2 A3 A4 : Option Addr) (c1 c2 c3 c4 : Nat), j ≤ N ∧ i = .int .i64 (j : Int) ∧ q1 = min n j ∧ q2 = j - n ∧ wr.heap[W.heap.size]? = some (.cells #[.int .i64 (N : Int), .slice none 0 0, .slice A1 q1 c1, .slice A2 q2 c2] tGr) ∧ wr.heap[W.heap.size + 1]? = some (.cells #[.int .i64 k, .int .i64 v, .slice A3 q1 c3, .slice A4 q2 c4] tEd) ∧ wr.heap[w.heap.size]? = some (.cells #[.int .i64 k, .int .i64 v, .string s] 113) ∧ wr.heap[w.heap.size + 1]? = some (.cells #[.int .i64 0, .slice none 0 0, .slice none 0 0, .slice none 0 0] tGr) ∧ OwLs wr [] [(A1, c1, lfI n j), (A2, c2, lfO n j), (A3, c3, lfI n j), (A4, c4, lfO n j)] ∧ (∀ x, x ∈ ([(A1, c1, lfI n j), (A2, c2, lfO n j), (A3, c3, lfI n j), (A4, c4, lfO n j)] : List Hd) → ∀ b, b ∈ fpA x.1 → W.heap.size ≤ b) ∧ Below W.heap.size W wr) (fun i _ => N - (intOf i).toNat)
     case atStart => exact ⟨0, 0, 0, none, none, none, none, 0, 0, 0, 0, Nat.zero_le _, rfl, by omega, by omega, kx0_h.out, ex0_h.out, nx0_h.out, rx0_h.out, hL0_h.out, fun x hx b hb => by
      simp only [List.mem_cons, List.not_mem_nil, or_false] at hx
      rcases hx with rfl | rfl | rfl | rfl <;> simp at hb, hb2W_h.out⟩
     case round =>
      clear kx0_h ex0_h hb2W_h nx0_h rx0_h hL0_h
      obtain ⟨j, q1, q2, A1, A2, A3, A4, c1, c2, c3, c4, hj, rfl, hq1, hq2, kx, ex, nx, rx, hL, hfr, hbr⟩ := hrel
      obtain ⟨wo, rfl⟩ : ∃ x, x = wr := ⟨_, rfl⟩
      have hq1l : q1 ≤ 4 := by omega
      have hq2l : q2 ≤ 4 := by omega
      by_cases hlt : j < N
      · have hjN : (j : Int) < (N : Int) := by omega
        by_cases hjn : j < n
        · have hjI : (j : Int) < (n : Int) := by omega
          have hgr := (lf_lt hjn).1
          have hsame := (lf_lt hjn).2
          have hal := below_alloc wo (.cells #[.int .i64 (j : Int)] 3)
          have hrow := hL.rows (A1, c1, lfI n j) (by simp)
          have hsl : Sl (wo.alloc (.cells #[.int .i64 (j : Int)] 3)) 3 1 A1 q1 c1 (ints (lfI n j)) := by
           have := hrow.below hal
           unfold IS at this
           rw [lfI_length, ← hq1] at this
           exact this
          have kx1 := box_below kx hal
          have ex1 := box_below ex hal
          have nx1 := box_below nx hal
          have rx1 := box_below rx hal
          have hb1 := below_trans hbr hal hbr.size
          have hr1 := hrow.below hal
          obtain ⟨⟨x0, x1, x2, x3⟩, x4, x5, x6, x7⟩ := box4 kx
          have hsl_h := lH hsl; have hal_h := lH hal; have kx1_h := lH kx1; have ex1_h := lH ex1; have nx1_h := lH nx1; have rx1_h := lH rx1; have hb1_h := lH hb1; have hr1_h := lH hr1; have hL_h := lH hL; have kx_h := lH kx; have ex_h := lH ex; have nx_h := lH nx; have rx_h := lH rx; have hfr_h := lH hfr; have hq1_h := lH hq1; clear hsl hal kx1 ex1 nx1 rx1 hb1 hr1 hL kx ex nx rx hfr hq1; clear hrow
          go_upto_region 14 with (at_builtin; refine wpList_append_Sl _ rfl _ _ _ rfl 3 Tryz.underlying23 info_int rfl (by omega) rfl hsl_h.out rfl (news := [.int .i64 (j : Int)]) rfl (Sl.rdc (Sl.laid wo 3 1 1 #[.int .i64 (j : Int)] (by unfold maxLen; omega) rfl)) (by intro u hu; simp at hu; subst hu; rfl) (by unfold maxLen; omega) (by omega) ?_; intro A5 c5 w3 hs3 hA3 hk3; have kx3 := box_keeps kx1_h.out hk3 (fun hb => IS.ne_gr hr1_h.out kx1_h.out _ hb rfl); obtain ⟨⟨y0, y1, y2, y3⟩, y4, y5, y6, y7⟩ := box4 kx3)
          have hi3 : IS w3 A5 c5 (lfI n (j + 1)) := by rw [hgr]; exact IS.app1 (by rw [lfI_length, ← hq1_h.out]) hs3
          have hL3 := hL_h.out.app1 (i := 0) rfl hal_h.out hi3 hA3 hk3
          have ex3 := box_keeps ex1_h.out hk3 (fun hb => IS.ne_ed hr1_h.out ex1_h.out _ hb rfl)
          have hfA : ∀ b, b ∈ fpA A1 → W.heap.size ≤ b := fun b hb => hfr_h.out (A1, c1, lfI n j) (by simp) b hb
          have nx3 := box_keeps nx1_h.out hk3 (fun hb => by have := hfA _ hb; omega)
          have rx3 := box_keeps rx1_h.out hk3 (fun hb => by have := hfA _ hb; omega)
          have hb3 := below_keeps hb1_h.out hk3 hb1_h.out.size hfA
          have hf5 : ∀ b, b ∈ fpA A5 → W.heap.size ≤ b := fun b hb => by
           rcases hA3 b hb with h | h
           · exact hfA b h
           · have := hb1_h.out.size; omega
          obtain ⟨s1, s2⟩ := set4_2 (b := .slice A5 (q1 + 1) c5) kx3
          have hL5 := hL3.keeps s2 (fun b hb e => by
           obtain ⟨y, hy, hb⟩ := mem_fpR.1 hb
           exact IS.ne_gr (hL3.rows y hy) kx3 b hb e)
          have hr5 := hL5.rows
          have ex5 := box_keeps ex3 s2 (by omega)
          have nx5 := box_keeps nx3 s2 (by omega)
          have rx5 := box_keeps rx3 s2 (by omega)
          have hb5 := below_keeps hb3 s2 hb3.size (fun q e => by omega)
          obtain ⟨W5, hW5⟩ : ∃ W5, W5 = w3.setCell ⟨W.heap.size, 2, none⟩ (.slice A5 (q1 + 1) c5) := ⟨_, rfl⟩
          rw [← hW5] at s1 hL5 ex5 nx5 rx5 hb5 ⊢
          clear hW5 s2 hi3 hL3 ex3 nx3 rx3 hb3 kx3 hs3 hA3 hk3 x0 x1 x2 x3 x4 x5 x6 x7 hsl_h hal_h kx1_h ex1_h nx1_h rx1_h hb1_h hr1_h hL_h kx_h ex_h nx_h rx_h y0 y1 y2 y3 y4 y5 y6 y7 hfA hr5
          have hL5 : OwLs W5 [] [(A5, c5, lfI n (j + 1)), (A2, c2, lfO n j), (A3, c3, lfI n j), (A4, c4, lfO n j)] := hL5
          have hal := below_alloc W5 (.cells #[.int .i64 (j : Int)] 3)
          have hrow := hL5.rows (A3, c3, lfI n j) (by simp)
          have hsl : Sl (W5.alloc (.cells #[.int .i64 (j : Int)] 3)) 3 1 A3 q1 c3 (ints (lfI n j)) := by
           have := hrow.below hal
           unfold IS at this
           rw [lfI_length, ← hq1_h.out] at this
           exact this
          have kx1 := box_below s1 hal
          have ex1 := box_below ex5 hal
          have nx1 := box_below nx5 hal
          have rx1 := box_below rx5 hal
          have hb1 := below_trans hb5 hal hb5.size
          have hr1 := hrow.below hal
          obtain ⟨⟨x0, x1, x2, x3⟩, x4, x5, x6, x7⟩ := box4 ex5
          have kx := s1
          have ex := ex5
          have hsl_h := lH hsl; have hal_h := lH hal; have kx1_h := lH kx1; have ex1_h := lH ex1; have nx1_h := lH nx1; have rx1_h := lH rx1; have hb1_h := lH hb1; have hr1_h := lH hr1; have hL5_h := lH hL5; have kx_h := lH kx; have ex_h := lH ex; have s1_h := lH s1; have ex5_h := lH ex5; have nx5_h := lH nx5; have rx5_h := lH rx5; have hb5_h := lH hb5; have hf5_h := lH hf5; clear hsl hal kx1 ex1 nx1 rx1 hb1 hr1 hL5 kx ex s1 ex5 nx5 rx5 hb5 hf5; clear hrow
          go_upto_region 11 with (at_builtin; refine wpList_append_Sl _ rfl _ _ _ rfl 3 Tryz.underlying23 info_int rfl (by omega) rfl hsl_h.out rfl (news := [.int .i64 (j : Int)]) rfl (Sl.rdc (Sl.laid W5 3 1 1 #[.int .i64 (j : Int)] (by unfold maxLen; omega) rfl)) (by intro u hu; simp at hu; subst hu; rfl) (by unfold maxLen; omega) (by omega) ?_; intro A6 c6 w6 hs6 hA6 hk6; have ex6 := box_keeps ex1_h.out hk6 (fun hb => IS.ne_ed hr1_h.out ex1_h.out _ hb rfl); obtain ⟨⟨y0, y1, y2, y3⟩, y4, y5, y6, y7⟩ := box4 ex6)
          have hi6 : IS w6 A6 c6 (lfI n (j + 1)) := by rw [hgr]; exact IS.app1 (by rw [lfI_length, ← hq1_h.out]) hs6
          have hL6 := hL5_h.out.app1 (i := 2) rfl hal_h.out hi6 hA6 hk6
          have kx6 := box_keeps kx1_h.out hk6 (fun hb => IS.ne_gr hr1_h.out kx1_h.out _ hb rfl)
          have hfA : ∀ b, b ∈ fpA A3 → W.heap.size ≤ b := fun b hb => hfr_h.out (A3, c3, lfI n j) (by simp) b hb
          have nx6 := box_keeps nx1_h.out hk6 (fun hb => by have := hfA _ hb; omega)
          have rx6 := box_keeps rx1_h.out hk6 (fun hb => by have := hfA _ hb; omega)
          have hb6 := below_keeps hb1_h.out hk6 hb1_h.out.size hfA
          have hf6 : ∀ b, b ∈ fpA A6 → W.heap.size ≤ b := fun b hb => by
           rcases hA6 b hb with h | h
           · exact hfA b h
           · have := hb1_h.out.size; omega
          obtain ⟨s1, s2⟩ := set4_2 (b := .slice A6 (q1 + 1) c6) ex6
          have hL7 := hL6.keeps s2 (fun b hb e => by
           obtain ⟨y, hy, hb⟩ := mem_fpR.1 hb
           exact IS.ne_ed (hL6.rows y hy) ex6 b hb e)
          have kx7 := box_keeps kx6 s2 (by omega)
          have nx7 := box_keeps nx6 s2 (by omega)
          have rx7 := box_keeps rx6 s2 (by omega)
          have hb7 := below_keeps hb6 s2 hb6.size (fun q e => by omega)
          obtain ⟨W7, hW7⟩ : ∃ W7, W7 = w6.setCell ⟨W.heap.size + 1, 2, none⟩ (.slice A6 (q1 + 1) c6) := ⟨_, rfl⟩
          rw [← hW7] at s1 hL7 kx7 nx7 rx7 hb7 ⊢
          have hL7 : OwLs W7 [] [(A5, c5, lfI n (j + 1)), (A2, c2, lfO n j), (A6, c6, lfI n (j + 1)), (A4, c4, lfO n j)] := hL7
          have hL8 : OwLs W7 [] [(A5, c5, lfI n (j + 1)), (A2, c2, lfO n (j + 1)), (A6, c6, lfI n (j + 1)), (A4, c4, lfO n (j + 1))] := by rw [hsame]; exact hL7
          have hfr7 : ∀ x, x ∈ ([(A5, c5, lfI n (j + 1)), (A2, c2, lfO n (j + 1)), (A6, c6, lfI n (j + 1)), (A4, c4, lfO n (j + 1))] : List Hd) → ∀ b, b ∈ fpA x.1 → W.heap.size ≤ b := fun x hx => by
           simp only [List.mem_cons, List.not_mem_nil, or_false] at hx
           have h1 := hfr_h.out (A1, c1, lfI n j) (by simp)
           have h2 := hfr_h.out (A2, c2, lfO n j) (by simp)
           have h3 := hfr_h.out (A3, c3, lfI n j) (by simp)
           have h4 := hfr_h.out (A4, c4, lfO n j) (by simp)
           rcases hx with rfl | rfl | rfl | rfl
           · exact hf5_h.out
           · exact h2
           · exact hf6
           · exact h4
          clear hW7 s2 hi6 hL6 kx6 nx6 rx6 hb6 ex6 hs6 hA6 hk6 x0 x1 x2 x3 x4 x5 x6 x7 hL7 hfA; have s1_h := lH s1; have kx7_h := lH kx7; have nx7_h := lH nx7; have rx7_h := lH rx7; have hb7_h := lH hb7; have hL8_h := lH hL8; have hfr7_h := lH hfr7; clear s1 kx7 nx7 rx7 hb7 hL8 hfr7
          go_wp2_with (fail)
          go_roundw
          case rel => exact ⟨j + 1, q1 + 1, q2, A5, A2, A6, A4, c5, c2, c6, c4, by omega, by go_num, by have := hq1_h.out; omega, by omega, kx7_h.out, s1_h.out, nx7_h.out, rx7_h.out, hL8_h.out, hfr7_h.out, hb7_h.out⟩
          case measure => simp [intOf]; omega
        · have hjI : ¬ (j : Int) < (n : Int) := by omega
          have hgr := (lf_ge (Nat.le_of_not_lt hjn)).2
          have hsame := (lf_ge (Nat.le_of_not_lt hjn)).1
          have hal := below_alloc wo (.cells #[.int .i64 (j : Int)] 3)
          have hrow := hL.rows (A2, c2, lfO n j) (by simp)
          have hsl : Sl (wo.alloc (.cells #[.int .i64 (j : Int)] 3)) 3 1 A2 q2 c2 (ints (lfO n j)) := by
           have := hrow.below hal
           unfold IS at this
           rw [lfO_length, ← hq2] at this
           exact this
          have kx1 := box_below kx hal
          have ex1 := box_below ex hal
          have nx1 := box_below nx hal
          have rx1 := box_below rx hal
          have hb1 := below_trans hbr hal hbr.size
          have hr1 := hrow.below hal
          obtain ⟨⟨x0, x1, x2, x3⟩, x4, x5, x6, x7⟩ := box4 kx
          have hsl_h := lH hsl; have hal_h := lH hal; have kx1_h := lH kx1; have ex1_h := lH ex1; have nx1_h := lH nx1; have rx1_h := lH rx1; have hb1_h := lH hb1; have hr1_h := lH hr1; have hL_h := lH hL; have kx_h := lH kx; have ex_h := lH ex; have nx_h := lH nx; have rx_h := lH rx; have hfr_h := lH hfr; have hq2_h := lH hq2; clear hsl hal kx1 ex1 nx1 rx1 hb1 hr1 hL kx ex nx rx hfr hq2; clear hrow
          go_upto_region 16 with (at_builtin; refine wpList_append_Sl _ rfl _ _ _ rfl 3 Tryz.underlying23 info_int rfl (by omega) rfl hsl_h.out rfl (news := [.int .i64 (j : Int)]) rfl (Sl.rdc (Sl.laid wo 3 1 1 #[.int .i64 (j : Int)] (by unfold maxLen; omega) rfl)) (by intro u hu; simp at hu; subst hu; rfl) (by unfold maxLen; omega) (by omega) ?_; intro A5 c5 w3 hs3 hA3 hk3; have kx3 := box_keeps kx1_h.out hk3 (fun hb => IS.ne_gr hr1_h.out kx1_h.out _ hb rfl); obtain ⟨⟨y0, y1, y2, y3⟩, y4, y5, y6, y7⟩ := box4 kx3)
          have hi3 : IS w3 A5 c5 (lfO n (j + 1)) := by rw [hgr]; exact IS.app1 (by rw [lfO_length, ← hq2_h.out]) hs3
          have hL3 := hL_h.out.app1 (i := 1) rfl hal_h.out hi3 hA3 hk3
          have ex3 := box_keeps ex1_h.out hk3 (fun hb => IS.ne_ed hr1_h.out ex1_h.out _ hb rfl)
          have hfA : ∀ b, b ∈ fpA A2 → W.heap.size ≤ b := fun b hb => hfr_h.out (A2, c2, lfO n j) (by simp) b hb
          have nx3 := box_keeps nx1_h.out hk3 (fun hb => by have := hfA _ hb; omega)
          have rx3 := box_keeps rx1_h.out hk3 (fun hb => by have := hfA _ hb; omega)
          have hb3 := below_keeps hb1_h.out hk3 hb1_h.out.size hfA
          have hf5 : ∀ b, b ∈ fpA A5 → W.heap.size ≤ b := fun b hb => by
           rcases hA3 b hb with h | h
           · exact hfA b h
           · have := hb1_h.out.size; omega
          obtain ⟨s1, s2⟩ := set4_3 (b := .slice A5 (q2 + 1) c5) kx3
          have hL5 := hL3.keeps s2 (fun b hb e => by
           obtain ⟨y, hy, hb⟩ := mem_fpR.1 hb
           exact IS.ne_gr (hL3.rows y hy) kx3 b hb e)
          have hr5 := hL5.rows
          have ex5 := box_keeps ex3 s2 (by omega)
          have nx5 := box_keeps nx3 s2 (by omega)
          have rx5 := box_keeps rx3 s2 (by omega)
          have hb5 := below_keeps hb3 s2 hb3.size (fun q e => by omega)
          obtain ⟨W5, hW5⟩ : ∃ W5, W5 = w3.setCell ⟨W.heap.size, 3, none⟩ (.slice A5 (q2 + 1) c5) := ⟨_, rfl⟩
          rw [← hW5] at s1 hL5 ex5 nx5 rx5 hb5 ⊢
          clear hW5 s2 hi3 hL3 ex3 nx3 rx3 hb3 kx3 hs3 hA3 hk3 x0 x1 x2 x3 x4 x5 x6 x7 hsl_h hal_h kx1_h ex1_h nx1_h rx1_h hb1_h hr1_h hL_h kx_h ex_h nx_h rx_h y0 y1 y2 y3 y4 y5 y6 y7 hfA hr5
          have hL5 : OwLs W5 [] [(A1, c1, lfI n j), (A5, c5, lfO n (j + 1)), (A3, c3, lfI n j), (A4, c4, lfO n j)] := hL5
          have hal := below_alloc W5 (.cells #[.int .i64 (j : Int)] 3)
          have hrow := hL5.rows (A4, c4, lfO n j) (by simp)
          have hsl : Sl (W5.alloc (.cells #[.int .i64 (j : Int)] 3)) 3 1 A4 q2 c4 (ints (lfO n j)) := by
           have := hrow.below hal
           unfold IS at this
           rw [lfO_length, ← hq2_h.out] at this
           exact this
          have kx1 := box_below s1 hal
          have ex1 := box_below ex5 hal
          have nx1 := box_below nx5 hal
          have rx1 := box_below rx5 hal
          have hb1 := below_trans hb5 hal hb5.size
          have hr1 := hrow.below hal
          obtain ⟨⟨x0, x1, x2, x3⟩, x4, x5, x6, x7⟩ := box4 ex5
          have kx := s1
          have ex := ex5
          have hsl_h := lH hsl; have hal_h := lH hal; have kx1_h := lH kx1; have ex1_h := lH ex1; have nx1_h := lH nx1; have rx1_h := lH rx1; have hb1_h := lH hb1; have hr1_h := lH hr1; have hL5_h := lH hL5; have kx_h := lH kx; have ex_h := lH ex; have s1_h := lH s1; have ex5_h := lH ex5; have nx5_h := lH nx5; have rx5_h := lH rx5; have hb5_h := lH hb5; have hf5_h := lH hf5; clear hsl hal kx1 ex1 nx1 rx1 hb1 hr1 hL5 kx ex s1 ex5 nx5 rx5 hb5 hf5; clear hrow
          go_upto_region 11 with (at_builtin; refine wpList_append_Sl _ rfl _ _ _ rfl 3 Tryz.underlying23 info_int rfl (by omega) rfl hsl_h.out rfl (news := [.int .i64 (j : Int)]) rfl (Sl.rdc (Sl.laid W5 3 1 1 #[.int .i64 (j : Int)] (by unfold maxLen; omega) rfl)) (by intro u hu; simp at hu; subst hu; rfl) (by unfold maxLen; omega) (by omega) ?_; intro A6 c6 w6 hs6 hA6 hk6; have ex6 := box_keeps ex1_h.out hk6 (fun hb => IS.ne_ed hr1_h.out ex1_h.out _ hb rfl); obtain ⟨⟨y0, y1, y2, y3⟩, y4, y5, y6, y7⟩ := box4 ex6)
          have hi6 : IS w6 A6 c6 (lfO n (j + 1)) := by rw [hgr]; exact IS.app1 (by rw [lfO_length, ← hq2_h.out]) hs6
          have hL6 := hL5_h.out.app1 (i := 3) rfl hal_h.out hi6 hA6 hk6
          have kx6 := box_keeps kx1_h.out hk6 (fun hb => IS.ne_gr hr1_h.out kx1_h.out _ hb rfl)
          have hfA : ∀ b, b ∈ fpA A4 → W.heap.size ≤ b := fun b hb => hfr_h.out (A4, c4, lfO n j) (by simp) b hb
          have nx6 := box_keeps nx1_h.out hk6 (fun hb => by have := hfA _ hb; omega)
          have rx6 := box_keeps rx1_h.out hk6 (fun hb => by have := hfA _ hb; omega)
          have hb6 := below_keeps hb1_h.out hk6 hb1_h.out.size hfA
          have hf6 : ∀ b, b ∈ fpA A6 → W.heap.size ≤ b := fun b hb => by
           rcases hA6 b hb with h | h
           · exact hfA b h
           · have := hb1_h.out.size; omega
          obtain ⟨s1, s2⟩ := set4_3 (b := .slice A6 (q2 + 1) c6) ex6
          have hL7 := hL6.keeps s2 (fun b hb e => by
           obtain ⟨y, hy, hb⟩ := mem_fpR.1 hb
           exact IS.ne_ed (hL6.rows y hy) ex6 b hb e)
          have kx7 := box_keeps kx6 s2 (by omega)
          have nx7 := box_keeps nx6 s2 (by omega)
          have rx7 := box_keeps rx6 s2 (by omega)
          have hb7 := below_keeps hb6 s2 hb6.size (fun q e => by omega)
          obtain ⟨W7, hW7⟩ : ∃ W7, W7 = w6.setCell ⟨W.heap.size + 1, 3, none⟩ (.slice A6 (q2 + 1) c6) := ⟨_, rfl⟩
          rw [← hW7] at s1 hL7 kx7 nx7 rx7 hb7 ⊢
          have hL7 : OwLs W7 [] [(A1, c1, lfI n j), (A5, c5, lfO n (j + 1)), (A3, c3, lfI n j), (A6, c6, lfO n (j + 1))] := hL7
          have hL8 : OwLs W7 [] [(A1, c1, lfI n (j + 1)), (A5, c5, lfO n (j + 1)), (A3, c3, lfI n (j + 1)), (A6, c6, lfO n (j + 1))] := by rw [hsame]; exact hL7
          have hfr7 : ∀ x, x ∈ ([(A1, c1, lfI n (j + 1)), (A5, c5, lfO n (j + 1)), (A3, c3, lfI n (j + 1)), (A6, c6, lfO n (j + 1))] : List Hd) → ∀ b, b ∈ fpA x.1 → W.heap.size ≤ b := fun x hx => by
           simp only [List.mem_cons, List.not_mem_nil, or_false] at hx
           have h1 := hfr_h.out (A1, c1, lfI n j) (by simp)
           have h2 := hfr_h.out (A2, c2, lfO n j) (by simp)
           have h3 := hfr_h.out (A3, c3, lfI n j) (by simp)
           have h4 := hfr_h.out (A4, c4, lfO n j) (by simp)
           rcases hx with rfl | rfl | rfl | rfl
           · exact h1
           · exact hf5_h.out
           · exact h3
           · exact hf6
          clear hW7 s2 hi6 hL6 kx6 nx6 rx6 hb6 ex6 hs6 hA6 hk6 x0 x1 x2 x3 x4 x5 x6 x7 hL7 hfA; have s1_h := lH s1; have kx7_h := lH kx7; have nx7_h := lH nx7; have rx7_h := lH rx7; have hb7_h := lH hb7; have hL8_h := lH hL8; have hfr7_h := lH hfr7; clear s1 kx7 nx7 rx7 hb7 hL8 hfr7
          go_wp2_with (fail)
          go_roundw
          case rel => exact ⟨j + 1, q1, q2 + 1, A1, A5, A3, A6, c1, c5, c3, c6, by omega, by go_num, by omega, by have := hq2_h.out; omega, kx7_h.out, s1_h.out, nx7_h.out, rx7_h.out, hL8_h.out, hfr7_h.out, hb7_h.out⟩
          case measure => simp [intOf]; omega
      · obtain rfl : N = j := by omega
        have hjN : ¬ (N : Int) < (N : Int) := by omega
        have hsz := box_lt kx
        obtain ⟨⟨x0, x1, x2, x3⟩, x4, x5, x6, x7⟩ := box4 ex
        have hal := below_alloc wo (.cells #[.int .i64 k, .int .i64 v, .slice A3 q1 c3, .slice A4 q2 c4] tEd)
        have kx1 := box_below kx hal
        have rx1 := box_below rx hal
        have hb1 := below_trans hbr hal hbr.size
        have hL1 := hL.below hal
        have hE := Sl.laid wo tEd 4 1 #[.int .i64 k, .int .i64 v, .slice A3 q1 c3, .slice A4 q2 c4] (by unfold maxLen; omega) rfl
        have hws := World.size_alloc wo (.cells #[.int .i64 k, .int .i64 v, .slice A3 q1 c3, .slice A4 q2 c4] tEd)
        obtain ⟨W5, hW5⟩ : ∃ W5, W5 = wo.alloc (.cells #[.int .i64 k, .int .i64 v, .slice A3 q1 c3, .slice A4 q2 c4] tEd) := ⟨_, rfl⟩
        rw [← hW5] at kx1 rx1 hb1 hL1 hE hws
        obtain ⟨⟨y0, y1, y2, y3⟩, y4, y5, y6, y7⟩ := box4 kx1
        obtain ⟨s1, s2⟩ := set4_1 (b := .slice (some ⟨wo.heap.size, 0, none⟩) 1 1) kx1
        have rx2 := box_keeps rx1 s2 (by omega)
        have hb2 := below_keeps hb1 s2 hb1.size (fun q e => by omega)
        have hL2 := hL1.keeps s2 (fun b hb e => by
         obtain ⟨y, hy, hb⟩ := mem_fpR.1 hb
         exact IS.ne_gr (hL1.rows y hy) kx1 b hb e)
        have hE2 := hE.keeps s2 (fun b hb e => by simp at hb; omega)
        obtain ⟨W6, hW6⟩ : ∃ W6, W6 = W5.setCell ⟨W.heap.size, 1, none⟩ (.slice (some ⟨wo.heap.size, 0, none⟩) 1 1) := ⟨_, rfl⟩
        rw [← hW6] at s1 rx2 hb2 hL2 hE2
        obtain ⟨⟨z0, z1, z2, z3⟩, z4, z5, z6, z7⟩ := box4 s1
        obtain ⟨⟨u0, u1, u2, u3⟩, u4, u5, u6, u7⟩ := box4 rx2
        obtain ⟨t1, t2⟩ := set4 (a := .int .i64 (N : Int)) (b := .slice (some ⟨wo.heap.size, 0, none⟩) 1 1) (c := .slice A1 q1 c1) (d := .slice A2 q2 c2) rx2
        have hbW := below_trans bW_h.out hb2 (by omega)
        have hb3 := below_keeps hbW t2 hbW.size (fun q e => by omega)
        have hL3 := hL2.keeps t2 (fun b hb e => by
         obtain ⟨y, hy, hb⟩ := mem_fpR.1 hb
         exact IS.ne_gr (hL2.rows y hy) rx2 b hb e)
        have hE3 := hE2.keeps t2 (fun b hb e => by simp at hb; omega)
        have g1 := hL3.rows (A1, c1, lfI n N) (by simp)
        have g2 := hL3.rows (A2, c2, lfO n N) (by simp)
        have g3 := hL3.rows (A3, c3, lfI n N) (by simp)
        have g4 := hL3.rows (A4, c4, lfO n N) (by simp)
        clear kx ex nx rx hL hfr hbr s1 s2 kx1 rx1 hb1 hL1 hE rx2 hb2 hL2 hE2 t2 hbW hL3 hal; have t1_h := lH t1; have hb3_h := lH hb3; have hE3_h := lH hE3; have g1_h := lH g1; have g2_h := lH g2; have g3_h := lH g3; have g4_h := lH g4; have hq1_h := lH hq1; have hq2_h := lH hq2; have hws_h := lH hws; have hsz_h := lH hsz; have hWs_h_h := lH hWs_h; clear t1 hb3 hE3 g1 g2 g3 g4 hq1 hq2 hws hsz hWs_h; clear hWs_h_h
        rw [hW5] at y0 y1 y2 y3 y4 y5 y6 y7
        go_upto_region 18 with (fail)
        rw [← hW5, ← hW6]
        clear hW6 y0 y1 y2 y3 y4 y5 y6 y7 hW5
        go_wp2_with (fail)
        refine bodyPost_ret (results_cell_row rfl _ _ (w.heap.size + 1) _ _ (0, 0) _ rfl t1_h.out Tryz.underlying34 rfl (by kernel_rfl)) rfl ?_
        have hq1 := hq1_h.out
        have hq2 := hq2_h.out
        exact ⟨_, rfl, ⟨some ⟨wo.heap.size, 0, none⟩, 1, [(k, v, (A3, c3, lfI n N), (A4, c4, lfO n N))], (A1, c1, lfI n N), (A2, c2, lfO n N), by simp [hq1, hq2], rfl, rfl, rfl, ⟨by
         have := Sl.rdc hE3_h.out
         simpa [ecs, ec, Hd.val, hq1, hq2] using this, fun x hx => by
         simp only [List.mem_cons, List.not_mem_nil, or_false] at hx
         subst hx
         exact ⟨g3_h.out.rd, g4_h.out.rd⟩⟩, g1_h.out.rd, g2_h.out.rd⟩, hb3_h.out⟩
theorem idM_red {p : Int} (hp : 1 < p) (n : Nat) : RedL p n (idM n) := by
 have hm := idM_mat hp n
 have hl : (idM n).length = n := by simp [idM]
 refine ⟨by rw [hl]; exact hm, id, ?_⟩
 rw [hl]
 refine ⟨fun i hi => hi, fun i hi => ?_, fun i k hi hk hne => ?_, fun i j hi hj => ?_, fun i k h _ => h, fun i j hi hj => ?_⟩
 · show en (idM n) i i = 1
   rw [idM_en hi hi, if_pos rfl]
 · show en (idM n) k i = 0
   rw [idM_en hk hi, if_neg (fun e => hne e.symm)]
 · have hj' : j < i := hj
   rw [idM_en hi (by omega), if_neg (by omega)]
 · rw [idM_en hi hj]; split <;> omega
theorem unitV_eq {n j : Nat} : (List.replicate n (0 : Int)).set j 1 = unitV n j := by
 apply List.ext_getElem (by simp)
 intro i h1 h2
 simp only [List.getElem_set, List.getElem_replicate, unitV, List.getElem_map, List.getElem_range]
 by_cases h : j = i
 · rw [if_pos h, if_pos h.symm]
 · rw [if_neg h, if_neg (fun e => h e.symm)]
theorem nullM_nil {p : Int} (hp : fieldB p = true) (n : Nat) : nullM p n [] = idM n := by
 have hpb := fieldB_bounds hp
 have hr := redM_spec hp (n := n) (L := []) ⟨rfl, fun u hu => by cases hu⟩
 have e : redM p n [] = [] := List.eq_nil_of_length_eq_zero (Nat.le_zero.1 hr.2.2)
 have e2 : nvecs p n [] = idM n := by
  unfold nvecs freeCols idM
  have ef : ((List.range n).filter fun j => ([] : List (List Int)).all fun v => leadV v != j) = List.range n := List.filter_eq_self.2 (fun j _ => rfl)
  rw [ef]
  exact List.map_congr_left fun j _ => unitV_eq
 unfold nullM
 rw [e, e2]
 exact redM_self hp (idM_red (by omega) n)
theorem mapL_all {v : List Int} {n : Nat} (h : v.length = n) : mapL v (rangeI n) = v := by
 subst h
 apply List.ext_getElem (by simp [rangeI])
 intro i h1 h2
 simp [mapL, rangeI, List.getD, h2]
theorem mapL_app (v l m : List Int) : mapL v (l ++ m) = mapL v l ++ mapL v m := by simp [mapL]
theorem lf_all (n k : Nat) : lfI n k ++ lfO n k = rangeI k := List.take_append_drop n (rangeI k)
theorem id_gr : ∀ n : Nat, n < 13 → grB ((n : Int), [], rangeI n, rangeI n) = true := by decide
theorem dnV_id {p : Int} (hf : fieldB p = true) (n : Nat) : dnV p ((n : Int), [], rangeI n, rangeI n) = ((n : Int), (n : Int), idRows n) := by
 have hpb := fieldB_bounds hf
 unfold dnV dnEqs
 simp only [List.flatMap_nil, Int.toNat_natCast, rangeI_length', nullM_nil hf]
 have e : (idM n).map (fun v => mapL v (rangeI n ++ rangeI n)) = idRows n := by
  unfold idM idRows
  rw [List.map_map]
  refine List.map_congr_left fun j _ => ?_
  show mapL (unitV n j) (rangeI n ++ rangeI n) = _
  rw [mapL_app, mapL_all (unitV_length n j)]
 rw [e, redM_self hf (idRows_red (by omega) n)]
theorem dnV_swap {p : Int} (hf : fieldB p = true) : dnV p (2, [], [0, 1], [1, 0]) = (2, 2, redM p 4 swapRows) := by
 unfold dnV dnEqs
 simp only [List.flatMap_nil]
 show ((2 : Int), (2 : Int), redM p 4 ((nullM p 2 []).map fun v => mapL v [0, 1, 1, 0])) = _
 rw [nullM_nil hf]
 rfl
theorem em1 {p : Int} (hp : 2 ≤ p) : (0 + (p - 1)) % p = p - 1 ∧ (0 + 1) % p = 1 ∧ (1 : Int) % p = 1 ∧ (p - 1) % p = p - 1 ∧ (0 : Int) % p = 0 := by
 refine ⟨?_, ?_, ?_, ?_, ?_⟩ <;> (try rw [Int.zero_add]) <;> (try exact Int.emod_eq_of_lt (by omega) (by omega))
theorem leaf_rows {p k v : Int} (hp : 2 ≤ p) (hk : genB k) : dnRowsM p (kdN k) (k, v, lfI (kindTy k).1.toNat (kdN k), lfO (kindTy k).1.toNat (kdN k)) = leafEq p k v := by
 obtain ⟨z1, z2, z3, z4, z5⟩ := em1 hp
 have z6 : (-v % p) % p = -v % p := Int.emod_emod_of_dvd _ (Int.dvd_refl p)
 rcases hk with rfl | rfl | rfl | rfl | rfl | rfl | rfl | rfl | rfl | rfl
 all_goals
  simp (decide := true) [dnRowsM, efK, efI, efO, kdN, kindTy, lfI, lfO, rangeI, List.range, List.range.loop, leafEq, sprV, sprTo, List.replicate, List.getD, z3, z4, z6]
theorem leaf_gr {k v : Int} (hk : genB k) (hv : gvB k v = true) : grB ((kdN k : Int), [(k, v, lfI (kindTy k).1.toNat (kdN k), lfO (kindTy k).1.toNat (kdN k))], lfI (kindTy k).1.toNat (kdN k), lfO (kindTy k).1.toNat (kdN k)) = true := by
 unfold grB
 have he : egB (k, v, lfI (kindTy k).1.toNat (kdN k), lfO (kindTy k).1.toNat (kdN k)) = true := by
  unfold egB
  simp only [hv, Bool.true_and]
  rcases hk with rfl | rfl | rfl | rfl | rfl | rfl | rfl | rfl | rfl | rfl <;> rfl
 simp only [List.all_cons, List.all_nil, he, Bool.true_and, Bool.and_true, t_allW, edW]
 rcases hk with rfl | rfl | rfl | rfl | rfl | rfl | rfl | rfl | rfl | rfl <;> rfl
theorem dnGM_leaf {p : Int} (hf : fieldB p = true) {n : Nd} (ok : okLf p n) : dnGM p (leafG n.1 n.2.1) = (leafV p n, true) := by
 have hpb := fieldB_bounds hf
 have hl := ok.1
 obtain ⟨k, v, s⟩ := n
 have hl' := hl
 unfold leafB at hl'
 simp only [decide_eq_true_eq] at hl'
 unfold dnGM leafG leafV
 show (if dnAskB p _ = true then _ else _) = _
 by_cases h1 : k = 1
 · subst h1
   obtain ⟨n, rfl⟩ : ∃ n : Nat, v = (n : Int) := ⟨v.toNat, by omega⟩
   simp only [if_true, Int.toNat_natCast]
   have e : dnAskB p ((n : Int), [], rangeI n, rangeI n) = true := by
    unfold dnAskB gOverB
    rw [hf, id_gr n (by omega)]
    rfl
   rw [if_pos e, dnV_id hf]
 · simp only [if_neg h1]
   by_cases h2 : k = 2
   · subst h2
     simp only [if_true]
     have e : dnAskB p (2, [], [0, 1], [1, 0]) = true := by
      unfold dnAskB gOverB
      rw [hf]
      rfl
     rw [if_pos e, dnV_swap hf]
   · simp only [if_neg h2]
     have hk : genB k := gen_of_leaf hl h1 h2 ok.2.1 ok.2.2.1
     have hv : 0 ≤ v ∧ v < p := ok.val (by omega) h1
     have hgv : gvB k v = true := by
      unfold gvB hvB t_inB
      by_cases h7 : k = 7 ∨ k = 13
      · simp only [h7, decide_true, if_true]; exact decide_eq_true (by omega)
      · simp only [h7, decide_false]; exact decide_eq_true (by omega)
     have hnd : noDl k = true := by
      unfold noDl
      have a := ok.2.1
      have b := ok.2.2.1
      simp only [decide_eq_true_eq, Bool.and_eq_true]
      exact ⟨a, b⟩
     have e : dnAskB p ((kdN k : Int), [(k, v, lfI (kindTy k).1.toNat (kdN k), lfO (kindTy k).1.toNat (kdN k))], lfI (kindTy k).1.toNat (kdN k), lfO (kindTy k).1.toNat (kdN k)) = true := by
      unfold dnAskB gOverB
      rw [hf, leaf_gr hk hgv]
      simp [hv.2, hnd]
     rw [if_pos e]
     unfold dnV dnEqs
     obtain ⟨x1, x2, x3, x4⟩ := kindTy_nn k
     have hN : kdN k = (kindTy k).1.toNat + (kindTy k).2.toNat := rfl
     have ei : (lfI (kindTy k).1.toNat (kdN k)).length = (kindTy k).1.toNat := by rw [lfI_length]; omega
     have eo : (lfO (kindTy k).1.toNat (kdN k)).length = (kindTy k).2.toNat := by rw [lfO_length]; omega
     simp only [List.flatMap_cons, List.flatMap_nil, List.append_nil, Int.toNat_natCast, ei, eo, lf_all, leaf_rows (by omega : 2 ≤ p) hk, ← hN]
     have em : (nullM p (kdN k) (leafEq p k v)).map (fun u => mapL u (rangeI (kdN k))) = nullM p (kdN k) (leafEq p k v) := by
      have hm := (nullM_red hf (kdN k) (leafEq p k v)).1
      conv => rhs; rw [← List.map_id (nullM p (kdN k) (leafEq p k v))]
      refine List.map_congr_left fun u hu => ?_
      exact mapL_all (hm.2 u hu).1
     rw [em, redM_self hf (nullM_red hf _ _)]
     refine Prod.ext (Prod.ext ?_ (Prod.ext ?_ rfl)) rfl
     · show (((kindTy k).1.toNat : Nat) : Int) = (kindTy k).1; omega
     · show (((kindTy k).2.toNat : Nat) : Int) = (kindTy k).2; omega
theorem okG_leaf {n : Nd} (h : leafB n = true) : OkG (leafG n.1 n.2.1) := by
 obtain ⟨k, v, s⟩ := n
 unfold leafB at h
 simp only [decide_eq_true_eq] at h
 unfold leafG
 show OkG (if k = 1 then _ else _)
 by_cases h1 : k = 1
 · rw [if_pos h1]
   unfold OkG cntG
   simp [rangeI, cntE]
   omega
 · rw [if_neg h1]
   by_cases h2 : k = 2
   · rw [if_pos h2]
     unfold OkG cntG
     simp [cntE]
   · rw [if_neg h2]
     obtain ⟨x1, x2, x3, x4⟩ := kindTy_nn k
     unfold OkG cntG
     simp [cntE]
     omega
set_option maxRecDepth 100000 in
set_option maxHeartbeats 4000000 in
theorem dnLeaf_any {p : Int} {k v : Int} {s : ByteArray} (w : World) (hf : fieldB p = true) (ok : okLf p (k, v, s)) :
  Calls Tryz.prog 88 #[.int .i64 p, .agg #[.int .i64 k, .int .i64 v, .string s]] w fun e w' => ∃ v' fp, e = .returned v' ∧ OwSys w' v' (leafV p (k, v, s)) fp ∧ FreshL w.heap.size fp ∧ Below w.heap.size w w' := by
 obtain ⟨W, hW, bW, k0, k1⟩ := alloc2 w (.cells #[.int .i64 k, .int .i64 v, .string s] 113) (.cells #[.int .i64 0, .int .i64 0, .slice none 0 0] 29)
 have hWs : W.heap.size = w.heap.size + 1 + 1 := by rw [hW]; simp
 have hWl : w.heap.size + 1 < W.heap.size := by omega
 have hG := hgLeaf_any k v s W ok.1
 have oG := okG_leaf ok.1
 have hD := dnGM_leaf hf ok
 simp only at oG hD
 obtain ⟨R, hR⟩ : ∃ R, R = leafV p (k, v, s) := ⟨_, rfl⟩
 rw [← hR] at hD
 rw [← hR]
 obtain ⟨G, hGG⟩ : ∃ G, G = leafG k v := ⟨_, rfl⟩
 rw [← hGG] at oG hD hG
 obtain ⟨⟨c0, c1, c2⟩, f0, f1, f2⟩ := box3 k0
 clear hR hGG ok hWs; have k0_h := lH k0; have k1_h := lH k1; have bW_h := lH bW; have hG_h := lH hG; have oG_h := lH oG; have hD_h := lH hD; clear k0 k1 bW hG oG hD
 go_enter Tryz.func88, Tryz.ntmps88
 go_upto_region 1 with (fail)
 rw [← hW]
 clear hW
 go_wp2_with (fail)
 refine (hG_h.out).mono ?_
 rintro e w2 ⟨v2, rfl, hR2, hb2⟩
 have hC := dnGraph_any p w2 hR2 oG_h.out
 rw [hD_h.out] at hC
 have k1r := box_below k1_h.out hb2
 have hB2 := below_trans bW_h.out hb2 bW_h.out.size
 clear hR2 c0 c1 c2 f0 f1 f2; have hC_h := lH hC; have k1r_h := lH k1r; have hB2_h := lH hB2; have hb2_h := lH hb2; clear hC k1r hB2 hb2
 go_wp2_with (fail)
 refine (hC_h.out).mono ?_
 rintro e w3 ⟨v3, fp, rfl, hO3, hf3, hb3⟩
 obtain ⟨A, n', c', rfl⟩ := hO3.shape
 have k1r := box_below k1r_h.out hb3
 have hz := hb3.size
 have hz2 := hb2_h.out.size
 have hz3 := hB2_h.out.size
 have hB3 := below_trans hB2_h.out hb3 hz3
 have hal := below_alloc w3 (.cells #[.int .i64 R.1, .int .i64 R.2.1, .slice A n' c'] 29)
 have bx := heap_alloc_new w3 (.cells #[.int .i64 R.1, .int .i64 R.2.1, .slice A n' c'] 29)
 have k1s := box_below k1r hal
 have hO4 := hO3.below hal
 have hB4 := below_trans hB3 hal hB3.size
 have hlt := hO3.lt
 obtain ⟨W4, hW4⟩ : ∃ W4, W4 = w3.alloc (.cells #[.int .i64 R.1, .int .i64 R.2.1, .slice A n' c'] 29) := ⟨_, rfl⟩
 rw [← hW4] at bx k1s hO4 hB4
 obtain ⟨⟨x0, x1, x2⟩, x3, x4, x5⟩ := box3 bx
 obtain ⟨⟨y0, y1, y2⟩, y3, y4, y5⟩ := box3 k1s
 obtain ⟨s1, s2⟩ := set3 (a := .int .i64 R.1) (b := .int .i64 R.2.1) (c := .slice A n' c') k1s
 have hB5 := below_keeps hB4 s2 hB4.size (fun q e => by omega)
 have hO5 := hO4.keeps s2 (fun q hq e => by have := hf3 q hq; omega)
 have hf5 := hf3.mono (by omega : w.heap.size ≤ w2.heap.size)
 clear k1r hb3 hB3 hal bx k1s hO4 hB4 hlt s2 hO3 hf3; have s1_h := lH s1; have hB5_h := lH hB5; have hO5_h := lH hO5; have hf5_h := lH hf5; clear s1 hB5 hO5 hf5
 go_upto_region 2 with (fail)
 rw [← hW4]
 clear hW4
 go_wp2_with (fail)
 refine bodyPost_ret (results_cell_row rfl _ _ (w.heap.size + 1) _ _ (0, 0) _ rfl s1_h.out Tryz.underlying29 rfl (by kernel_rfl)) rfl ?_
 exact ⟨_, fp, rfl, hO5_h.out, hf5_h.out, hB5_h.out⟩
def LbA (l : List Nd) (w : World) (e : Ending) (w' : World) : Prop :=
 ∃ (A0 A1 A2 : Option Addr) (c0 c1 c2 n0 n1 n2 : Nat) (b : Bool), e = .returned (.tuple #[.agg #[.slice A0 n0 c0, .slice A1 n1 c1, .slice A2 n2 c2], .bool b]) ∧ b = (treeM l).isSome ∧
   (∀ t, treeM l = some t → n0 = sz t ∧ n1 = sz t ∧ n2 = sz t ∧ RdC w' A0 (ints (frL [t])) ∧ RdC w' A1 (ints (inL [t])) ∧ RdC w' A2 (ints (ouL [t])) ∧ ∀ b, b ∈ fpA A0 ∨ b ∈ fpA A1 ∨ b ∈ fpA A2 → w.heap.size ≤ b) ∧ Below w.heap.size w w'
theorem LbA.no {l : List Nd} {w w' : World} {A0 A1 A2 : Option Addr} {c0 c1 c2 n0 n1 n2 : Nat} (hN : treeM l = none) (hb : Below w.heap.size w w') : LbA l w (.returned (.tuple #[.agg #[.slice A0 n0 c0, .slice A1 n1 c1, .slice A2 n2 c2], .bool false])) w' :=
 ⟨A0, A1, A2, c0, c1, c2, n0, n1, n2, false, rfl, by rw [hN]; rfl, fun t ht => (by rw [hN] at ht; cases ht), hb⟩
structure LbR (B : Nat) (w : World) (A : Option Addr) (m c : Nat) (l : List Nd) (k : Nat) (st : List Tr) (A0 A1 A2 : Option Addr) (c0 c1 c2 : Nat) (wr : World) : Prop where
 par : parse [] (l.take k) = some st
 th : Th wr (B + 1 + 1) A0 A1 A2 c0 c1 c2 k k k (frL st) (inL st) (ouL st)
 kb : wr.heap[B]? = some (.cells #[.slice A m c] tTerm)
 kr : wr.heap[B + 1]? = some (.cells #[.slice none 0 0, .slice none 0 0, .slice none 0 0] tInfo)
 bel : Below B w wr
section
variable {B : Nat} {w wr w1 : World} {A : Option Addr} {m c : Nat} {l : List Nd} {k : Nat} {st : List Tr} {A0 A1 A2 : Option Addr} {c0 c1 c2 : Nat}
theorem LbR.below (h : LbR B w A m c l k st A0 A1 A2 c0 c1 c2 wr) (hb : Below wr.heap.size wr w1) : LbR B w A m c l k st A0 A1 A2 c0 c1 c2 w1 :=
 ⟨h.par, h.th.below hb, t_box_below h.kb hb, t_box_below h.kr hb, below_trans h.bel hb (Nat.le_of_lt (t_box_lt h.kb))⟩
theorem LbR.step {k' : Nat} {w' : World} {st' : List Tr} {A0' A1' A2' : Option Addr} {c0' c1' c2' : Nat} {F I O : List Int} (h : LbR B w A m c l k st A0 A1 A2 c0 c1 c2 wr) (hp : parse [] (l.take k') = some st')
  (ht : Th w' (B + 1 + 1) A0' A1' A2' c0' c1' c2' k' k' k' F I O) (hF : F = frL st') (hI : I = inL st') (hO : O = ouL st') (hb : Below (B + 1 + 1) wr w') : LbR B w A m c l k' st' A0' A1' A2' c0' c1' c2' w' := by
 subst hF hI hO
 exact ⟨hp, ht, (hb.block _ (by omega)).trans h.kb, (hb.block _ (by omega)).trans h.kr, h.bel.trans (hb.mono (by omega))⟩
end
theorem lists_leaf (n : Nd) (st : List Tr) : frL (.leaf n :: st) = frL st ++ [((flats st).length : Int)] ∧ inL (.leaf n :: st) = inL st ++ [(leafTy n).1] ∧ ouL (.leaf n :: st) = ouL st ++ [(leafTy n).2] := by
 simp [frL, inL, ouL, infos_leaf]
theorem lists_node (p : Bool) (a b : Tr) (r : List Tr) : frL (.node p a b :: r) = frL (b :: a :: r) ++ [((flats r).length : Int)] ∧ inL (.node p a b :: r) = inL (b :: a :: r) ++ [(joinTy p (ty a) (ty b)).1] ∧ ouL (.node p a b :: r) = ouL (b :: a :: r) ++ [(joinTy p (ty a) (ty b)).2] := by
 simp [frL, inL, ouL, infos_node]
theorem flats_len {l : List Nd} {k : Nat} {st : List Tr} (h : parse [] (l.take k) = some st) (hk : k ≤ l.length) : (flats st).length = k := by
 obtain ⟨_, hf⟩ := parse_spec _ h trivial
 rw [hf]
 simp [flats, Nat.min_eq_left hk]
theorem infos_at (t : Tr) (r : List Tr) {k : Nat} (h : (flats (t :: r)).length = k) : (frL (t :: r))[k - 1]? = some ((flats r).length : Int) ∧ (inL (t :: r))[k - 1]? = some (ty t).1 ∧ (ouL (t :: r))[k - 1]? = some (ty t).2 := by
 have := infos_last t r
 rw [h] at this
 simp [frL, inL, ouL, this]
theorem infos_at2 (b a : Tr) (r : List Tr) {k : Nat} (h : (flats (a :: r)).length = k) : (frL (b :: a :: r))[k - 1]? = some ((flats r).length : Int) ∧ (inL (b :: a :: r))[k - 1]? = some (ty a).1 ∧ (ouL (b :: a :: r))[k - 1]? = some (ty a).2 := by
 have := infos_last2 b a r
 rw [h] at this
 simp [frL, inL, ouL, this]
theorem lbFind_nil (s : ByteArray) (w : World) : Calls Tryz.prog 175 #[.slice none 0 0, .string s] w fun e w' => e = .returned (.int .i64 (-1)) ∧ w' = w := by
 go_enter Tryz.func175, Tryz.ntmps175
 go_wp2_with (fail)
 refine wp_loop_rounds 1 ?_
 rw [rounds_succ]
 go_wp2_with (fail)
 go_ret
 exact ⟨rfl, rfl⟩
set_option maxRecDepth 8000 in
set_option maxHeartbeats 8000000 in
theorem lbScan_any (A : Option Addr) (c : Nat) (l : List Nd) (w : World) (h : RdN w A l) :
  Calls Tryz.prog 160 #[.slice none 0 0, .agg #[.slice A l.length c]] w (LbA l w) := by
 obtain ⟨m, hm⟩ : ∃ m, m = l.length := ⟨_, rfl⟩
 rw [← hm]
 obtain ⟨W, hW⟩ : ∃ W, W = ((w.alloc (.cells #[.slice A m c] tTerm)).alloc (.cells #[.slice none 0 0, .slice none 0 0, .slice none 0 0] tInfo)).alloc (.cells #[.slice none 0 0, .slice none 0 0, .slice none 0 0] tInfo) := ⟨_, rfl⟩
 obtain ⟨b0, k0, k1, hz⟩ := two_boxes w (.cells #[.slice A m c] tTerm) (.cells #[.slice none 0 0, .slice none 0 0, .slice none 0 0] tInfo)
 have hbW := b0.alloc (by omega) (.cells #[.slice none 0 0, .slice none 0 0, .slice none 0 0] tInfo)
 have k2 := heap_alloc_new ((w.alloc (.cells #[.slice A m c] tTerm)).alloc (.cells #[.slice none 0 0, .slice none 0 0, .slice none 0 0] tInfo)) (.cells #[.slice none 0 0, .slice none 0 0, .slice none 0 0] tInfo)
 rw [hz, show w.heap.size + 2 = w.heap.size + 1 + 1 from rfl] at k2
 have k0 := t_box_below k0 (t_below_alloc _ (.cells #[.slice none 0 0, .slice none 0 0, .slice none 0 0] tInfo))
 have k1 := t_box_below k1 (t_below_alloc _ (.cells #[.slice none 0 0, .slice none 0 0, .slice none 0 0] tInfo))
 rw [← hW] at hbW k0 k1 k2
 clear b0 hz
 by_cases hl : 1 ≤ m ∧ m ≤ 400
 case neg =>
  have hb : t_inB (m : Int) 1 400 = false := by simp [t_inB]; omega
  have hw := t_l1In_any (m : Int) 1 400 W
  rw [hb] at hw
  have hN : treeM l = none := by unfold treeM; rw [if_neg (by rw [← hm]; exact hl)]
  obtain ⟨s1, s2⟩ := t_set3 (a := .slice none 0 0) (b := .slice none 0 0) (c := .slice none 0 0) k1
  have hw_h := lH hw; have hN_h := lH hN; have hbW_h := lH hbW; have k0_h := lH k0; have k1_h := lH k1; have k2_h := lH k2; have hm_h := lH hm; have s1_h := lH s1; have s2_h := lH s2; clear hw hN hbW k0 k1 k2 hm s1 s2; clear hb hl h
  go_enter Tryz.func160, Tryz.ntmps160
  go_wp2_with (fail)
  rw [← hW]
  refine (hw_h.out).mono ?_
  rintro e w' ⟨rfl, rfl⟩
  rw [hW]
  go_wp2_with (fail)
  refine bodyPost_ret (v := .tuple #[.agg #[.slice none 0 0, .slice none 0 0, .slice none 0 0], .bool false]) (by simp [results, Tryz.results160, go_sem]) rfl (LbA.no hN_h.out (by rw [← hW]; exact hbW_h.out))
 case pos =>
  have hb : t_inB (m : Int) 1 400 = true := by simp [t_inB]; omega
  have hw := t_l1In_any (m : Int) 1 400 W
  rw [hb] at hw
  have hR0 : LbR w.heap.size w A m c l 0 [] none none none 0 0 0 W := by
   refine ⟨by simp [parse], ⟨k2, Sl.nil _ _ _, Sl.nil _ _ _, Sl.nil _ _ _, ?_, ?_, ?_, ?_⟩, k0, k1, hbW⟩
   · rintro b (hb | hb | hb) <;> simp at hb
   all_goals (intro b hb; simp at hb)
  obtain ⟨⟨d0, d1, d2⟩, g0, g1, g2⟩ := t_box3 k2
  have e0 : W.cell? ⟨w.heap.size, 0, none⟩ = some (.slice A m c) := by simp [World.cell?, k0]
  have hw_h := lH hw; have hR0_h := lH hR0; have hm_h := lH hm; have hbW_h := lH hbW; have k0_h := lH k0; have k1_h := lH k1; have k2_h := lH k2; clear hw hR0 hm hbW k0 k1 k2; clear hb
  go_enter Tryz.func160, Tryz.ntmps160
  go_wp2_with (fail)
  rw [← hW]
  clear hW
  refine (hw_h.out).mono ?_
  rintro e w' ⟨rfl, rfl⟩
  go_wp2_with (fail)
  go_loopw [25] (fun iv wr => ∃ (k : Nat) (st : List Tr) (A0 A1 A2 : Option Addr) (c0 c1 c2 : Nat), k ≤ m ∧ iv = .int .i64 k ∧ LbR w.heap.size w A m c l k st A0 A1 A2 c0 c1 c2 wr) (fun iv _ => m - (intOf iv).toNat)
  case atStart => exact ⟨0, [], none, none, none, 0, 0, 0, Nat.zero_le _, rfl, hR0_h.out⟩
  case round =>
   obtain ⟨k, st, A0, A1, A2, c0, c1, c2, hk, rfl, hR⟩ := hrel
   clear hR0_h hw_h hbW_h k0_h k1_h k2_h d0 d1 d2 g0 g1 g2 e0
   by_cases hlt : k < m
   · obtain ⟨ad, κ, v, s, rfl, hn, d0, d1, d2⟩ := (h.below hR.bel).at_ (j := k) (by rw [← hm_h.out]; exact hlt)
     have hkI : (k : Int) < (m : Int) := by omega
     have hR_h := lH hR; have hn_h := lH hn; clear hR hn; clear h
     have hL := lH (fun W => tmLeaf_any κ v s W)
     have hAr := lH (fun W => tmArity_any κ v s W)
     go_wp2_with (fail)
     refine (hL.out _).mono ?_
     rintro e w1 ⟨b, rfl, hb, hB1⟩
     have hB1' := (t_below_alloc wr (.cells #[.int .i64 κ, .int .i64 v, .string s] 113)).trans (hB1.mono (by simp))
     have hR1 := hR_h.out.below hB1'
     have kn : w1.heap[wr.heap.size]? = some (.cells #[.int .i64 κ, .int .i64 v, .string s] 113) := t_box_below (heap_alloc_new wr _) hB1
     obtain ⟨⟨d0, d1, d2⟩, g0, g1, g2⟩ := t_box3 kn
     cases b
     · have hR1' := hR1
       have hx := hR1.kr
       have hxl := t_box_lt hx
       have hxx := hR1.th.box
       obtain ⟨s1, s2⟩ := t_set3 (a := .slice A0 k c0) (b := .slice A1 k c1) (c := .slice A2 k c2) hx
       have hB2 := below_keeps hR1.bel s2 (by omega) (fun k hk => by omega)
       obtain ⟨⟨x0, x1, x2⟩, y0, y1, y2⟩ := t_box3 hxx
       obtain ⟨⟨r0, r1, r2⟩, q0, q1, q2⟩ := t_box3 hx
       by_cases h17 : κ = 17
       · have hb17 : (κ == 17) = true := by simp [h17]
         have hnj : ¬ isJoin (κ, v, s) := by unfold isJoin; simp only; omega
         have hN := parse_none hR1.par hn_h.out (by rw [step_leaf hnj, ← hb]; rfl)
         clear s1 s2 hB2 hx hxl hxx x0 x1 x2 y0 y1 y2 r0 r1 r2 q0 q1 q2; have hb_h := lH hb; have h17_h := lH h17; have hnj_h := lH hnj; have hN_h := lH hN; have hR1_h := lH hR1; have hR1'_h := lH hR1'; have kn_h := lH kn; have hB1_h := lH hB1; have hB1'_h := lH hB1'; clear hb h17 hnj hN hR1 hR1' kn hB1 hB1'
         go_wp2_with (fail)
         refine (hAr.out _).mono ?_
         rintro e w2 ⟨rfl, hB2⟩
         have hR2 := hR1_h.out.below hB2
         obtain ⟨⟨d0, d1, d2⟩, g0, g1, g2⟩ := t_box3 (t_box_below kn_h.out hB2)
         have hx := hR2.kr
         have hxl := t_box_lt hx
         have hxx := hR2.th.box
         obtain ⟨s1, s2⟩ := t_set3 (a := .slice A0 k c0) (b := .slice A1 k c1) (c := .slice A2 k c2) hx
         have hB2 := below_keeps hR2.bel s2 (by omega) (fun k hk => by omega)
         obtain ⟨⟨x0, x1, x2⟩, y0, y1, y2⟩ := t_box3 hxx
         obtain ⟨⟨r0, r1, r2⟩, q0, q1, q2⟩ := t_box3 hx
         have hR2_h := lH hR2; have hx_h := lH hx; have hxx_h := lH hxx; have s1_h := lH s1; have s2_h := lH s2; have hB2_h := lH hB2; clear hR2 hx hxx s1 s2 hB2; clear hL hAr
         go_wp2_with (fail)
         refine (lbFind_nil _ _).mono ?_
         rintro e w' ⟨rfl, rfl⟩
         go_wp2_with (fail)
         refine bodyPost_ret (t_results_cell_tmp rfl _ _ (w.heap.size + 1) _ _ (0, 0) _ rfl s1_h.out Tryz.underlying139 rfl (by kernel_rfl)) rfl ?_
         exact LbA.no hN_h.out hB2_h.out
       · have hb17 : (κ == 17) = false := by simp [h17]
         by_cases hj : κ = 15 ∨ κ = 16
         · obtain ⟨p0, p, hpp, hp⟩ : ∃ p0 p, p = p0 ∧ κ = kd p0 := by
            rcases hj with h | h
            · exact ⟨false, false, rfl, h⟩
            · exact ⟨true, true, rfl, h⟩
           have e15 : (κ != 15) = p := by rw [hp, hpp]; cases p0 <;> rfl
           have e16 : (κ != 16) = !p := by rw [hp, hpp]; cases p0 <;> rfl
           have f15 : (κ == 15) = !p := by rw [hp, hpp]; cases p0 <;> rfl
           have hji : isJoin (κ, v, s) := hj
           have hNo := fun hh => parse_none hR1.par hn_h.out (step_none (st := st) hji hh)
           have hln := flats_len hR1.par (by rw [← hm_h.out]; omega)
           have hb_h := lH hb; have h17_h := lH h17; have hj_h := lH hj; have hji_h := lH hji; have hp_h := lH hp; have hpp_h := lH hpp; have hNo_h := lH hNo; have hx_h := lH hx; have hxx_h := lH hxx; have s1_h := lH s1; have s2_h := lH s2; have hB2_h := lH hB2; have hR1_h := lH hR1; have hR1'_h := lH hR1'; have kn_h := lH kn; have hB1_h := lH hB1; have hB1'_h := lH hB1'; have hln_h := lH hln; clear hb h17 hj hji hp hpp hNo hx hxx s1 s2 hB2 hR1 hR1' kn hB1 hB1' hln; clear hL hAr
           by_cases hs : s = noName
           · have he : (!s.toList.isEmpty) = false := by rw [hs, ByteArray.toList_eq]; rfl
             have he2 : s.toList = [] := by rw [hs, ByteArray.toList_eq]; rfl
             have hs_h := lH hs; clear hs
             by_cases hv : v = 0
             · have hvb : (v != 0) = false := by simp [hv]
               have hv_h := lH hv; clear hv
               by_cases hk2 : k < 2
               · have hkI2 : (k : Int) < 2 := by omega
                 have hN := hNo_h.out (.inr (.inr (by
                  have h1 := hln_h.out
                  match st with
                  | [] => simp
                  | [_] => simp
                  | b :: a :: r =>
                    have p1 := sz_pos b
                    have p2 := sz_pos a
                    simp only [flats, List.length_append] at h1
                    unfold sz at p1 p2
                    omega)))
                 have hN_h := lH hN; clear hN
                 cases p
                 · simp only [Bool.not_false] at e16 f15
                   go_wp2_with (fail)
                   refine bodyPost_ret (t_results_cell_tmp rfl _ _ (w.heap.size + 1) _ _ (0, 0) _ rfl s1_h.out Tryz.underlying139 rfl (by kernel_rfl)) rfl ?_
                   exact LbA.no hN_h.out hB2_h.out
                 · simp only [Bool.not_true] at e16 f15
                   go_wp2_with (fail)
                   refine bodyPost_ret (t_results_cell_tmp rfl _ _ (w.heap.size + 1) _ _ (0, 0) _ rfl s1_h.out Tryz.underlying139 rfl (by kernel_rfl)) rfl ?_
                   exact LbA.no hN_h.out hB2_h.out
               · obtain ⟨k1, rfl⟩ : ∃ k1, k = k1 + 1 := ⟨k - 1, by omega⟩
                 have hln' := hln_h.out
                 obtain ⟨t, r, rfl⟩ : ∃ t r, st = t :: r := by
                  match st, hln' with
                  | [], h => simp [flats] at h
                  | t :: r, _ => exact ⟨t, r, rfl⟩
                 obtain ⟨i0, i1, i2⟩ := infos_at t r hln'
                 rw [Nat.add_sub_cancel] at i0 i1 i2
                 obtain ⟨f, hf⟩ : ∃ f, f = (flats r).length := ⟨_, rfl⟩
                 rw [← hf] at i0
                 have hfk : f ≤ k1 := by
                  have := sz_pos t
                  simp only [flats, List.length_append] at hln'
                  unfold sz at this
                  omega
                 obtain ⟨ad0, hA0, _, cf, _⟩ := Sl.cell hR1_h.out.th.f (ints_get i0)
                 obtain ⟨ad1, hA1, _, ci, _⟩ := Sl.cell hR1_h.out.th.i (ints_get i1)
                 obtain ⟨ad2, hA2, _, co, _⟩ := Sl.cell hR1_h.out.th.o (ints_get i2)
                 subst hA0 hA1 hA2
                 have hkb : ¬ ((k1 : Int) + 1 < 2) := by omega
                 have hkc : (k1 : Int) < (k1 : Int) + 1 := by omega
                 have hk0 : (0 : Int) ≤ (k1 : Int) := by omega
                 by_cases hf1 : f < 1
                 · have hfI : (f : Int) < 1 := by omega
                   have hN := hNo_h.out (.inr (.inr (by
                    match r with
                    | [] => simp
                    | a :: r' =>
                      have := sz_pos a
                      simp only [flats, List.length_append] at hf
                      unfold sz at this
                      omega)))
                   have hN_h := lH hN; have i0_h := lH i0; have i1_h := lH i1; have i2_h := lH i2; have hf_h := lH hf; have hln'_h := lH hln'; clear hN i0 i1 i2 hf hln'
                   cases p
                   · simp only [Bool.not_false] at e16 f15
                     go_wp2_with (fail)
                     refine bodyPost_ret (t_results_cell_tmp rfl _ _ (w.heap.size + 1) _ _ (0, 0) _ rfl s1_h.out Tryz.underlying139 rfl (by kernel_rfl)) rfl ?_
                     exact LbA.no hN_h.out hB2_h.out
                   · simp only [Bool.not_true] at e16 f15
                     go_wp2_with (fail)
                     refine bodyPost_ret (t_results_cell_tmp rfl _ _ (w.heap.size + 1) _ _ (0, 0) _ rfl s1_h.out Tryz.underlying139 rfl (by kernel_rfl)) rfl ?_
                     exact LbA.no hN_h.out hB2_h.out
                 · obtain ⟨f1, rfl⟩ : ∃ f1, f = f1 + 1 := ⟨f - 1, by omega⟩
                   have hfI : ¬ ((f1 : Int) + 1 < 1) := by omega
                   obtain ⟨a, r', rfl⟩ : ∃ a r', r = a :: r' := by
                    match r, hf with
                    | [], h => simp [flats] at h
                    | a :: r', _ => exact ⟨a, r', rfl⟩
                   obtain ⟨j0, j1, j2⟩ := infos_at2 t a r' hf.symm
                   rw [Nat.add_sub_cancel] at j0 j1 j2
                   obtain ⟨ad0', hA0', _, dg, _⟩ := Sl.cell hR1_h.out.th.f (ints_get j0)
                   obtain ⟨ad1', hA1', _, di, _⟩ := Sl.cell hR1_h.out.th.i (ints_get j1)
                   obtain ⟨ad2', hA2', _, do2, _⟩ := Sl.cell hR1_h.out.th.o (ints_get j2)
                   obtain rfl := Option.some.inj hA0'
                   obtain rfl := Option.some.inj hA1'
                   obtain rfl := Option.some.inj hA2'
                   clear hA0' hA1' hA2'
                   obtain ⟨⟨hwt, hwa, hwr⟩, -⟩ := parse_spec _ hR1_h.out.par trivial
                   have fa := wt_fit hwa
                   have ft := wt_fit hwt
                   clear hwt hwa hwr
                   obtain ⟨l0, l1, l2⟩ := lists_node p0 a t r'
                   have hjn : (κ, v, s) = joinNd p0 := by rw [hp_h.out, hv_h.out, hs_h.out]; rfl
                   obtain ⟨ai, hai⟩ : ∃ x, x = (ty a).1 := ⟨_, rfl⟩
                   obtain ⟨ao, hao⟩ : ∃ x, x = (ty a).2 := ⟨_, rfl⟩
                   obtain ⟨bi, hbi⟩ : ∃ x, x = (ty t).1 := ⟨_, rfl⟩
                   obtain ⟨bo, hbo⟩ : ∃ x, x = (ty t).2 := ⟨_, rfl⟩
                   obtain ⟨g, hg⟩ : ∃ g, g = (flats r').length := ⟨_, rfl⟩
                   have hst : stepT (t :: a :: r') (κ, v, s) = if joinB p0 (ai, ao) (bi, bo) = true then some (.node p0 a t :: r') else none := by rw [hjn, step_join, hai, hao, hbi, hbo]
                   have hja : joinTy p0 (ty a) (ty t) = joinTy p0 (ai, ao) (bi, bo) := by rw [hai, hao, hbi, hbo]
                   rw [← hg] at dg j0 l0
                   rw [hja] at l1 l2
                   rw [← hai] at di fa
                   rw [← hao] at do2 fa
                   rw [← hbi] at ci ft
                   rw [← hbo] at co ft
                   have hfc : (f1 : Int) < (k1 : Int) + 1 := by omega
                   have hf0 : (0 : Int) ≤ (f1 : Int) := by omega
                   have hwi : IntKind.i64.wrap (ai + bi) = ai + bi := IntWalk.i64_in _ (by omega)
                   have hwo : IntKind.i64.wrap (ao + bo) = ao + bo := IntWalk.i64_in _ (by omega)
                   obtain ⟨fa1, fa2, fa3, fa4⟩ := fa
                   obtain ⟨ft1, ft2, ft3, ft4⟩ := ft
                   have i0_h := lH i0; have i1_h := lH i1; have i2_h := lH i2; have j0_h := lH j0; have j1_h := lH j1; have j2_h := lH j2; have hf_h := lH hf; have hln'_h := lH hln'; have l0_h := lH l0; have l1_h := lH l1; have l2_h := lH l2; have hjn_h := lH hjn; have hai_h := lH hai; have hao_h := lH hao; have hbi_h := lH hbi; have hbo_h := lH hbo; have hg_h := lH hg; have hst_h := lH hst; have hja_h := lH hja; clear i0 i1 i2 j0 j1 j2 hf hln' l0 l1 l2 hjn hai hao hbi hbo hg hst hja
                   cases p
                   · obtain rfl : p0 = false := hpp_h.out.symm
                     simp only [Bool.not_false] at e16 f15
                     have hfit : joinB false (ai, ao) (bi, bo) = decide (ao = bi) := by simp [joinB]
                     by_cases ho : ao = bi
                     · have hob : (ao != bi) = false := by simp [ho]
                       have h12 : ¬ 12 < ai := by omega
                       have h12' : ¬ 12 < bo := by omega
                       have hpm := parse_more hR1_h.out.par hn_h.out (by rw [hst_h.out, hfit, decide_eq_true ho]; rfl)
                       have hpm_h := lH hpm; have ho_h := lH ho; have hfit_h := lH hfit; clear hpm ho hfit
                       go_wp2_with (fail)
                       go_quiet (fail)
                       go_wp2_with (fail)
                       go_quiet (fail)
                       go_wp2_with (fail)
                       go_quiet (fail)
                       go_wp2_with (fail)
                       refine beginZw 10 (fun w' => w'.heap[w.heap.size + 1 + 1]? = some (.cells #[.slice (some ad0) (k1 + 1) c0, .slice (some ad1) (k1 + 1) c1, .slice (some ad2) (k1 + 1) c2] tInfo) ∧ w'.cell? (ad0.add f1) = some (.int .i64 (g : Int))) (by kernel_rfl) (fun W1 hW1 => ?_)
                       have hR3 : LbR w.heap.size w (some ad) m c l (k1 + 1) (t :: a :: r') (some ad0) (some ad1) (some ad2) c0 c1 c2 W1 := by rw [hW1]; exact hR1_h.out.below (below_drew (below_drewN (Below.refl _ _) _))
                       have hdg : W1.cell? (ad0.add f1) = some (.int .i64 (g : Int)) := by rw [hW1]; exact dg
                       have hF := And.intro hR3.th.box hdg
                       have hR4 := hR3.below (t_below_alloc W1 (.cells #[.int .i64 (g : Int)] tInt))
                       have hF4 : (W1.alloc (.cells #[.int .i64 (g : Int)] tInt)).heap[w.heap.size + 1 + 1]? = some (.cells #[.slice (some ad0) (k1 + 1) c0, .slice (some ad1) (k1 + 1) c1, .slice (some ad2) (k1 + 1) c2] tInfo) ∧ (W1.alloc (.cells #[.int .i64 (g : Int)] tInt)).cell? (ad0.add f1) = some (.int .i64 (g : Int)) :=
                        ⟨hR4.th.box, ((t_below_alloc W1 _).cell (World.block_lt_of_cell? W1 _ hdg)).trans hdg⟩
                       clear hW1 x0 x1 x2 y0 y1 y2 r0 r1 r2 q0 q1 q2 d0 d1 d2 g0 g1 g2 cf ci co dg di do2 hwi hwo s1_h s2_h hB2_h hNo_h; have hR3_h := lH hR3; have hdg_h := lH hdg; have hF_h := lH hF; have hR4_h := lH hR4; have hF4_h := lH hF4; clear hR3 hdg hF hR4 hF4
                       refine tkZ 0 ?_ rfl hF_h.out (fun W' hW' => ?_) ?_; rotate_left; · (obtain ⟨⟨x0, x1, x2⟩, y0, y1, y2⟩ := t_box3 hW'.1; have e1 := hW'.2; clear hW'; go_simp; first | done | with_reducible rfl)
                       simp only [Act.put, nS]
                       refine tkZ 1 ?_ rfl hF_h.out (fun W' hW' => ?_) ?_; rotate_left; · (obtain ⟨⟨x0, x1, x2⟩, y0, y1, y2⟩ := t_box3 hW'.1; have e1 := hW'.2; clear hW'; go_simp; first | done | with_reducible rfl)
                       simp only [Act.put, nS]
                       refine tkZ 2 ?_ rfl hF_h.out (fun W' hW' => ?_) ?_; rotate_left; · (obtain ⟨⟨x0, x1, x2⟩, y0, y1, y2⟩ := t_box3 hW'.1; have e1 := hW'.2; clear hW'; go_simp; first | done | with_reducible rfl)
                       simp only [Act.put, nS]
                       refine tkZ 3 ?_ rfl hF_h.out (fun W' hW' => ?_) ?_; rotate_left; · (obtain ⟨⟨x0, x1, x2⟩, y0, y1, y2⟩ := t_box3 hW'.1; have e1 := hW'.2; clear hW'; go_simp; first | done | with_reducible rfl)
                       simp only [Act.put, nS]
                       refine tkZ 4 ?_ rfl hF_h.out (fun W' hW' => ?_) ?_; rotate_left; · (obtain ⟨⟨x0, x1, x2⟩, y0, y1, y2⟩ := t_box3 hW'.1; have e1 := hW'.2; clear hW'; go_simp; first | done | with_reducible rfl)
                       simp only [Act.put, nS]
                       refine tkZ 5 ?_ rfl hF_h.out (fun W' hW' => ?_) ?_; rotate_left; · (obtain ⟨⟨x0, x1, x2⟩, y0, y1, y2⟩ := t_box3 hW'.1; have e1 := hW'.2; clear hW'; go_simp; first | done | with_reducible rfl)
                       simp only [Act.put, nS]
                       refine tkZ 6 ?_ rfl hF_h.out (fun W' hW' => ?_) ?_; rotate_left; · (obtain ⟨⟨x0, x1, x2⟩, y0, y1, y2⟩ := t_box3 hW'.1; have e1 := hW'.2; clear hW'; go_simp; first | done | with_reducible rfl)
                       simp only [Act.put, nS]
                       refine oneZ 7 rfl (by kernel_rfl) (by rfl) (fun K hK => ?_)
                       go_simp
                       refine hK _ _ (fun _ => hF4_h.out) ?_
                       clear hK K
                       refine appZ 8 rfl (by kernel_rfl) (by rfl) _ _ _ rfl tInt Tryz.underlying23 info_int rfl (by omega) rfl hR4_h.out.th.f rfl (m := 1) rfl (Sl.rdc (Sl.laid W1 tInt 1 1 #[.int .i64 (g : Int)] (by unfold maxLen; omega) rfl)) (by simp [Value.oneCell']) (by unfold maxLen; omega) (by omega) ?_
                       intro A0' c0' w3 hs0 hA0 hk0 hrd0
                       have ht0 := hR4_h.out.th.app0 hs0 hA0 hk0
                       have hc3 : w3.cell? (ad0.add f1) = some (.int .i64 (g : Int)) := by
                        obtain ⟨ad', h1, h2⟩ := hrd0 _ _ (ints_get j0_h.out)
                        obtain rfl := Option.some.inj h1
                        exact h2
                       have hF5 := And.intro ht0.2.1 hc3
                       refine ⟨fun _ => hF5, ?_⟩
                       obtain ⟨⟨x0, x1, x2⟩, y0, y1, y2⟩ := t_box3 ht0.2.1
                       have ht0_h := lH ht0; have hF5_h := lH hF5; have hc3_h := lH hc3; clear ht0 hF5 hc3; clear hs0 hA0 hk0 hrd0
                       simp only [Act.put, nS]
                       refine tkZ 9 ?_ rfl hF5_h.out (fun W' hW' => ?_) ?_; rotate_left; · (skip; clear hW'; go_simp; first | done | with_reducible rfl)
                       simp only [Act.put, nS]
                       refine oneZ 10 rfl (by kernel_rfl) (by rfl) (fun K hK => ?_)
                       go_simp
                       refine hK _ _ (fun h => by cases h) ?_
                       clear hK K
                       refine doneZ (by kernel_rfl) ?_
                       have hT1 := ht0_h.out.1
                       have hb1 := ht0_h.out.2.2 _ (Nat.le_refl _)
                       clear ht0_h x0 x1 x2 y0 y1 y2 hF5_h hc3_h
                       generalize w3.setCell ⟨w.heap.size + 1 + 1, 0, none⟩ (.slice A0' (k1 + 1 + 1) c0') = w4 at hT1 hb1 ⊢
                       obtain ⟨⟨x0, x1, x2⟩, y0, y1, y2⟩ := t_box3 hT1.box
                       have hT1_h := lH hT1; have hb1_h := lH hb1; clear hT1 hb1
                       go_upto_region 30 with (at_builtin; refine wpList_append1 rfl _ _ _ rfl tInt Tryz.underlying23 info_int rfl (by omega) rfl hT1_h.out.i rfl rfl rfl (by simp [Value.oneCell']) (by omega) (by omega) ?_; intro A1' c1' w5 hs0 hA0 hk0; have ht0 := hT1_h.out.app1 hs0 hA0 hk0; clear hs0 hA0 hk0 x0 x1 x2 y0 y1 y2; obtain ⟨⟨x0, x1, x2⟩, y0, y1, y2⟩ := t_box3 ht0.2.1; have ht0_h := lH ht0; clear ht0)
                       have hT2 := ht0_h.out.1
                       have hb2 := ht0_h.out.2.2 _ (Nat.le_refl _)
                       clear ht0_h x0 x1 x2 y0 y1 y2
                       generalize w5.setCell ⟨w.heap.size + 1 + 1, 1, none⟩ (.slice A1' (k1 + 1 + 1) c1') = w6 at hT2 hb2 ⊢
                       obtain ⟨⟨x0, x1, x2⟩, y0, y1, y2⟩ := t_box3 hT2.box
                       have hT2_h := lH hT2; have hb2_h := lH hb2; clear hT2 hb2
                       go_wp2_with (at_builtin; refine wpList_append1 rfl _ _ _ rfl tInt Tryz.underlying23 info_int rfl (by omega) rfl hT2_h.out.o rfl rfl rfl (by simp [Value.oneCell']) (by omega) (by omega) ?_; intro A2' c2' w7 hs0 hA0 hk0; have ht0 := hT2_h.out.app2 hs0 hA0 hk0; clear hs0 hA0 hk0 x0 x1 x2 y0 y1 y2; obtain ⟨⟨x0, x1, x2⟩, y0, y1, y2⟩ := t_box3 ht0.2.1; have ht0_h := lH ht0; clear ht0)
                       have hT3 := ht0_h.out.1
                       have hb3 := ht0_h.out.2.2 _ (Nat.le_refl _)
                       clear ht0_h x0 x1 x2 y0 y1 y2
                       go_roundw
                       case rel => exact ⟨k1 + 1 + 1, .node false a t :: r', A0', A1', A2', c0', c1', c2', by omega, by go_num, hR4_h.out.step hpm_h.out hT3 l0_h.out.symm l1_h.out.symm l2_h.out.symm ((hb1_h.out.trans hb2_h.out).trans hb3)⟩
                       case measure => simp [intOf]; omega
                     · have hob : (ao != bi) = true := by simp [ho]
                       have hN := parse_none hR1_h.out.par hn_h.out (by rw [hst_h.out, hfit, decide_eq_false ho]; rfl)
                       have HN := lH hN; clear hN; have ho_h := lH ho; have hfit_h := lH hfit; clear ho hfit
                       go_wp2_with (fail)
                       go_quiet (fail)
                       go_wp2_with (fail)
                       go_quiet (fail)
                       go_wp2_with (fail)
                       refine bodyPost_ret (t_results_cell_tmp rfl _ _ (w.heap.size + 1) _ _ (0, 0) _ rfl s1_h.out Tryz.underlying139 rfl (by kernel_rfl)) rfl ?_
                       exact LbA.no HN.out (below_drewN hB2_h.out _)
                   · obtain rfl : p0 = true := hpp_h.out.symm
                     simp only [Bool.not_true] at e16 f15
                     have hfit : joinB true (ai, ao) (bi, bo) = decide (ai + bi ≤ 12 ∧ ao + bo ≤ 12) := by simp [joinB]
                     by_cases ho : ai + bi ≤ 12
                     · have h12 : ¬ 12 < ai + bi := by omega
                       by_cases ho2 : ao + bo ≤ 12
                       · have h12' : ¬ 12 < ao + bo := by omega
                         have hpm := parse_more hR1_h.out.par hn_h.out (by rw [hst_h.out, hfit, decide_eq_true ⟨ho, ho2⟩]; rfl)
                         have hpm_h := lH hpm; have hfit_h := lH hfit; clear hpm hfit
                         go_wp2_with (fail)
                         go_quiet (fail)
                         go_wp2_with (fail)
                         refine beginZw 10 (fun w' => w'.heap[w.heap.size + 1 + 1]? = some (.cells #[.slice (some ad0) (k1 + 1) c0, .slice (some ad1) (k1 + 1) c1, .slice (some ad2) (k1 + 1) c2] tInfo) ∧ w'.cell? (ad0.add f1) = some (.int .i64 (g : Int))) (by kernel_rfl) (fun W1 hW1 => ?_)
                         have hR3 : LbR w.heap.size w (some ad) m c l (k1 + 1) (t :: a :: r') (some ad0) (some ad1) (some ad2) c0 c1 c2 W1 := by rw [hW1]; exact hR1_h.out.below (below_drew (below_drewN (Below.refl _ _) _))
                         have hdg : W1.cell? (ad0.add f1) = some (.int .i64 (g : Int)) := by rw [hW1]; exact dg
                         have hF := And.intro hR3.th.box hdg
                         have hR4 := hR3.below (t_below_alloc W1 (.cells #[.int .i64 (g : Int)] tInt))
                         have hF4 : (W1.alloc (.cells #[.int .i64 (g : Int)] tInt)).heap[w.heap.size + 1 + 1]? = some (.cells #[.slice (some ad0) (k1 + 1) c0, .slice (some ad1) (k1 + 1) c1, .slice (some ad2) (k1 + 1) c2] tInfo) ∧ (W1.alloc (.cells #[.int .i64 (g : Int)] tInt)).cell? (ad0.add f1) = some (.int .i64 (g : Int)) :=
                          ⟨hR4.th.box, ((t_below_alloc W1 _).cell (World.block_lt_of_cell? W1 _ hdg)).trans hdg⟩
                         clear hW1 x0 x1 x2 y0 y1 y2 r0 r1 r2 q0 q1 q2 d0 d1 d2 g0 g1 g2 cf ci co dg di do2 hwi hwo s1_h s2_h hB2_h hNo_h; have hR3_h := lH hR3; have hdg_h := lH hdg; have hF_h := lH hF; have hR4_h := lH hR4; have hF4_h := lH hF4; clear hR3 hdg hF hR4 hF4
                         refine tkZ 0 ?_ rfl hF_h.out (fun W' hW' => ?_) ?_; rotate_left; · (obtain ⟨⟨x0, x1, x2⟩, y0, y1, y2⟩ := t_box3 hW'.1; have e1 := hW'.2; clear hW'; go_simp; first | done | with_reducible rfl)
                         simp only [Act.put, nS]
                         refine tkZ 1 ?_ rfl hF_h.out (fun W' hW' => ?_) ?_; rotate_left; · (obtain ⟨⟨x0, x1, x2⟩, y0, y1, y2⟩ := t_box3 hW'.1; have e1 := hW'.2; clear hW'; go_simp; first | done | with_reducible rfl)
                         simp only [Act.put, nS]
                         refine tkZ 2 ?_ rfl hF_h.out (fun W' hW' => ?_) ?_; rotate_left; · (obtain ⟨⟨x0, x1, x2⟩, y0, y1, y2⟩ := t_box3 hW'.1; have e1 := hW'.2; clear hW'; go_simp; first | done | with_reducible rfl)
                         simp only [Act.put, nS]
                         refine tkZ 3 ?_ rfl hF_h.out (fun W' hW' => ?_) ?_; rotate_left; · (obtain ⟨⟨x0, x1, x2⟩, y0, y1, y2⟩ := t_box3 hW'.1; have e1 := hW'.2; clear hW'; go_simp; first | done | with_reducible rfl)
                         simp only [Act.put, nS]
                         refine tkZ 4 ?_ rfl hF_h.out (fun W' hW' => ?_) ?_; rotate_left; · (obtain ⟨⟨x0, x1, x2⟩, y0, y1, y2⟩ := t_box3 hW'.1; have e1 := hW'.2; clear hW'; go_simp; first | done | with_reducible rfl)
                         simp only [Act.put, nS]
                         refine tkZ 5 ?_ rfl hF_h.out (fun W' hW' => ?_) ?_; rotate_left; · (obtain ⟨⟨x0, x1, x2⟩, y0, y1, y2⟩ := t_box3 hW'.1; have e1 := hW'.2; clear hW'; go_simp; first | done | with_reducible rfl)
                         simp only [Act.put, nS]
                         refine tkZ 6 ?_ rfl hF_h.out (fun W' hW' => ?_) ?_; rotate_left; · (obtain ⟨⟨x0, x1, x2⟩, y0, y1, y2⟩ := t_box3 hW'.1; have e1 := hW'.2; clear hW'; go_simp; first | done | with_reducible rfl)
                         simp only [Act.put, nS]
                         refine oneZ 7 rfl (by kernel_rfl) (by rfl) (fun K hK => ?_)
                         go_simp
                         refine hK _ _ (fun _ => hF4_h.out) ?_
                         clear hK K
                         refine appZ 8 rfl (by kernel_rfl) (by rfl) _ _ _ rfl tInt Tryz.underlying23 info_int rfl (by omega) rfl hR4_h.out.th.f rfl (m := 1) rfl (Sl.rdc (Sl.laid W1 tInt 1 1 #[.int .i64 (g : Int)] (by unfold maxLen; omega) rfl)) (by simp [Value.oneCell']) (by unfold maxLen; omega) (by omega) ?_
                         intro A0' c0' w3 hs0 hA0 hk0 hrd0
                         have ht0 := hR4_h.out.th.app0 hs0 hA0 hk0
                         have hc3 : w3.cell? (ad0.add f1) = some (.int .i64 (g : Int)) := by
                          obtain ⟨ad', h1, h2⟩ := hrd0 _ _ (ints_get j0_h.out)
                          obtain rfl := Option.some.inj h1
                          exact h2
                         have hF5 := And.intro ht0.2.1 hc3
                         refine ⟨fun _ => hF5, ?_⟩
                         obtain ⟨⟨x0, x1, x2⟩, y0, y1, y2⟩ := t_box3 ht0.2.1
                         have ht0_h := lH ht0; have hF5_h := lH hF5; have hc3_h := lH hc3; clear ht0 hF5 hc3; clear hs0 hA0 hk0 hrd0
                         simp only [Act.put, nS]
                         refine tkZ 9 ?_ rfl hF5_h.out (fun W' hW' => ?_) ?_; rotate_left; · (skip; clear hW'; go_simp; first | done | with_reducible rfl)
                         simp only [Act.put, nS]
                         refine oneZ 10 rfl (by kernel_rfl) (by rfl) (fun K hK => ?_)
                         go_simp
                         refine hK _ _ (fun h => by cases h) ?_
                         clear hK K
                         refine doneZ (by kernel_rfl) ?_
                         have hT1 := ht0_h.out.1
                         have hb1 := ht0_h.out.2.2 _ (Nat.le_refl _)
                         clear ht0_h x0 x1 x2 y0 y1 y2 hF5_h hc3_h
                         generalize w3.setCell ⟨w.heap.size + 1 + 1, 0, none⟩ (.slice A0' (k1 + 1 + 1) c0') = w4 at hT1 hb1 ⊢
                         obtain ⟨⟨x0, x1, x2⟩, y0, y1, y2⟩ := t_box3 hT1.box
                         have hT1_h := lH hT1; have hb1_h := lH hb1; clear hT1 hb1
                         go_upto_region 30 with (at_builtin; refine wpList_append1 rfl _ _ _ rfl tInt Tryz.underlying23 info_int rfl (by omega) rfl hT1_h.out.i rfl rfl rfl (by simp [Value.oneCell']) (by omega) (by omega) ?_; intro A1' c1' w5 hs0 hA0 hk0; have ht0 := hT1_h.out.app1 hs0 hA0 hk0; clear hs0 hA0 hk0 x0 x1 x2 y0 y1 y2; obtain ⟨⟨x0, x1, x2⟩, y0, y1, y2⟩ := t_box3 ht0.2.1; have ht0_h := lH ht0; clear ht0)
                         have hT2 := ht0_h.out.1
                         have hb2 := ht0_h.out.2.2 _ (Nat.le_refl _)
                         clear ht0_h x0 x1 x2 y0 y1 y2
                         generalize w5.setCell ⟨w.heap.size + 1 + 1, 1, none⟩ (.slice A1' (k1 + 1 + 1) c1') = w6 at hT2 hb2 ⊢
                         obtain ⟨⟨x0, x1, x2⟩, y0, y1, y2⟩ := t_box3 hT2.box
                         have hT2_h := lH hT2; have hb2_h := lH hb2; clear hT2 hb2
                         go_wp2_with (at_builtin; refine wpList_append1 rfl _ _ _ rfl tInt Tryz.underlying23 info_int rfl (by omega) rfl hT2_h.out.o rfl rfl rfl (by simp [Value.oneCell']) (by omega) (by omega) ?_; intro A2' c2' w7 hs0 hA0 hk0; have ht0 := hT2_h.out.app2 hs0 hA0 hk0; clear hs0 hA0 hk0 x0 x1 x2 y0 y1 y2; obtain ⟨⟨x0, x1, x2⟩, y0, y1, y2⟩ := t_box3 ht0.2.1; have ht0_h := lH ht0; clear ht0)
                         have hT3 := ht0_h.out.1
                         have hb3 := ht0_h.out.2.2 _ (Nat.le_refl _)
                         clear ht0_h x0 x1 x2 y0 y1 y2
                         go_roundw
                         case rel => exact ⟨k1 + 1 + 1, .node true a t :: r', A0', A1', A2', c0', c1', c2', by omega, by go_num, hR4_h.out.step hpm_h.out hT3 l0_h.out.symm l1_h.out.symm l2_h.out.symm ((hb1_h.out.trans hb2_h.out).trans hb3)⟩
                         case measure => simp [intOf]; omega
                       · have h12' : 12 < ao + bo := by omega
                         have hN := parse_none hR1_h.out.par hn_h.out (by rw [hst_h.out, hfit, decide_eq_false (fun h => ho2 h.2)]; rfl)
                         have HN := lH hN; clear hN; have hfit_h := lH hfit; clear hfit
                         go_wp2_with (fail)
                         go_quiet (fail)
                         go_wp2_with (fail)
                         refine bodyPost_ret (t_results_cell_tmp rfl _ _ (w.heap.size + 1) _ _ (0, 0) _ rfl s1_h.out Tryz.underlying139 rfl (by kernel_rfl)) rfl ?_
                         exact LbA.no HN.out (below_drewN hB2_h.out _)
                     · have h12 : 12 < ai + bi := by omega
                       have hN := parse_none hR1_h.out.par hn_h.out (by rw [hst_h.out, hfit, decide_eq_false (fun h => ho h.1)]; rfl)
                       have HN := lH hN; clear hN; have hfit_h := lH hfit; clear hfit
                       go_wp2_with (fail)
                       go_quiet (fail)
                       go_wp2_with (fail)
                       refine bodyPost_ret (t_results_cell_tmp rfl _ _ (w.heap.size + 1) _ _ (0, 0) _ rfl s1_h.out Tryz.underlying139 rfl (by kernel_rfl)) rfl ?_
                       exact LbA.no HN.out (below_drewN hB2_h.out _)
             · have hvb : (v != 0) = true := by simp [hv]
               have hN := hNo_h.out (.inl hv)
               have hv_h := lH hv; have hN_h := lH hN; clear hv hN
               cases p
               · simp only [Bool.not_false] at e16 f15
                 go_wp2_with (fail)
                 refine bodyPost_ret (t_results_cell_tmp rfl _ _ (w.heap.size + 1) _ _ (0, 0) _ rfl s1_h.out Tryz.underlying139 rfl (by kernel_rfl)) rfl ?_
                 exact LbA.no hN_h.out hB2_h.out
               · simp only [Bool.not_true] at e16 f15
                 go_wp2_with (fail)
                 refine bodyPost_ret (t_results_cell_tmp rfl _ _ (w.heap.size + 1) _ _ (0, 0) _ rfl s1_h.out Tryz.underlying139 rfl (by kernel_rfl)) rfl ?_
                 exact LbA.no hN_h.out hB2_h.out
           · have he : (!s.toList.isEmpty) = true := by
              simp only [Bool.not_eq_true', List.isEmpty_eq_false_iff]
              exact fun h => hs (name_eq h)
             have hN := hNo_h.out (.inr (.inl hs))
             have hs_h := lH hs; have hN_h := lH hN; clear hs hN
             cases p
             · simp only [Bool.not_false] at e16 f15
               go_wp2_with (fail)
               refine bodyPost_ret (t_results_cell_tmp rfl _ _ (w.heap.size + 1) _ _ (0, 0) _ rfl s1_h.out Tryz.underlying139 rfl (by kernel_rfl)) rfl ?_
               exact LbA.no hN_h.out hB2_h.out
             · simp only [Bool.not_true] at e16 f15
               go_wp2_with (fail)
               refine bodyPost_ret (t_results_cell_tmp rfl _ _ (w.heap.size + 1) _ _ (0, 0) _ rfl s1_h.out Tryz.underlying139 rfl (by kernel_rfl)) rfl ?_
               exact LbA.no hN_h.out hB2_h.out
         · have hnj : ¬ isJoin (κ, v, s) := hj
           have hN := parse_none hR1.par hn_h.out (by rw [step_leaf hnj, ← hb]; rfl)
           have e15 : (κ != 15) = true := by simp; omega
           have e16 : (κ != 16) = true := by simp; omega
           have hb_h := lH hb; have h17_h := lH h17; have hj_h := lH hj; have hnj_h := lH hnj; have hN_h := lH hN; have hx_h := lH hx; have hxx_h := lH hxx; have s1_h := lH s1; have s2_h := lH s2; have hB2_h := lH hB2; have hR1_h := lH hR1; have hR1'_h := lH hR1'; have kn_h := lH kn; have hB1_h := lH hB1; have hB1'_h := lH hB1'; clear hb h17 hj hnj hN hx hxx s1 s2 hB2 hR1 hR1' kn hB1 hB1'; clear hL hAr
           go_wp2_with (fail)
           refine bodyPost_ret (t_results_cell_tmp rfl _ _ (w.heap.size + 1) _ _ (0, 0) _ rfl s1_h.out Tryz.underlying139 rfl (by kernel_rfl)) rfl ?_
           exact LbA.no hN_h.out hB2_h.out
     · have hκ : ¬ κ = 17 ∧ ¬ isJoin (κ, v, s) := by
        have := leafB_kind hb.symm
        refine ⟨?_, this⟩
        have hb' := hb
        simp only [leafB] at hb'
        have := of_decide_eq_true hb'.symm
        omega
       have h17 : (κ == 17) = false := by simp [hκ.1]
       have hpm := parse_more hR1.par hn_h.out (by rw [step_leaf hκ.2, ← hb]; rfl)
       have hln := flats_len hR1.par (by rw [← hm_h.out]; omega)
       obtain ⟨l0, l1, l2⟩ := lists_leaf (κ, v, s) st
       rw [hln] at l0
       have hb_h := lH hb; have hκ_h := lH hκ; have hpm_h := lH hpm; have hln_h := lH hln; have l0_h := lH l0; have l1_h := lH l1; have l2_h := lH l2; have hR1_h := lH hR1; have kn_h := lH kn; have hB1_h := lH hB1; have hB1'_h := lH hB1'; clear hb hκ hpm hln l0 l1 l2 hR1 kn hB1 hB1'
       go_wp2_with (fail)
       refine (hAr.out _).mono ?_
       rintro e w2 ⟨rfl, hB2⟩
       have hR2 := hR1_h.out.below hB2
       obtain ⟨⟨x0, x1, x2⟩, y0, y1, y2⟩ := t_box3 hR2.th.box
       have kn2 := t_box_below kn_h.out hB2
       obtain ⟨⟨d0, d1, d2⟩, g0, g1, g2⟩ := t_box3 kn2
       have hR2_h := lH hR2; have kn2_h := lH kn2; have hB2_h := lH hB2; clear hR2 kn2 hB2; clear hL hAr
       go_upto_region 15 with (at_builtin; refine wpList_append1 rfl _ _ _ rfl tInt Tryz.underlying23 info_int rfl (by omega) rfl hR2_h.out.th.f rfl rfl rfl (by simp [Value.oneCell']) (by omega) (by omega) ?_; intro A0' c0' w3 hs0 hA0 hk0; have ht0 := hR2_h.out.th.app0 hs0 hA0 hk0; clear hs0 hA0 hk0 x0 x1 x2 y0 y1 y2; obtain ⟨⟨x0, x1, x2⟩, y0, y1, y2⟩ := t_box3 ht0.2.1; have ht0_h := lH ht0; clear ht0)
       have hT1 := ht0_h.out.1
       have hb1 := ht0_h.out.2.2 _ (Nat.le_refl _)
       clear ht0_h x0 x1 x2 y0 y1 y2 d0 d1 d2 g0 g1 g2
       generalize w3.setCell ⟨w.heap.size + 1 + 1, 0, none⟩ (.slice A0' (k + 1) c0') = w4 at hT1 hb1 ⊢
       obtain ⟨⟨x0, x1, x2⟩, y0, y1, y2⟩ := t_box3 hT1.box
       have hT1_h := lH hT1; have hb1_h := lH hb1; clear hT1 hb1
       go_upto_region 16 with (at_builtin; refine wpList_append1 rfl _ _ _ rfl tInt Tryz.underlying23 info_int rfl (by omega) rfl hT1_h.out.i rfl rfl rfl (by simp [Value.oneCell']) (by omega) (by omega) ?_; intro A1' c1' w5 hs0 hA0 hk0; have ht0 := hT1_h.out.app1 hs0 hA0 hk0; clear hs0 hA0 hk0 x0 x1 x2 y0 y1 y2; obtain ⟨⟨x0, x1, x2⟩, y0, y1, y2⟩ := t_box3 ht0.2.1; have ht0_h := lH ht0; clear ht0)
       have hT2 := ht0_h.out.1
       have hb2 := ht0_h.out.2.2 _ (Nat.le_refl _)
       clear ht0_h x0 x1 x2 y0 y1 y2
       generalize w5.setCell ⟨w.heap.size + 1 + 1, 1, none⟩ (.slice A1' (k + 1) c1') = w6 at hT2 hb2 ⊢
       obtain ⟨⟨x0, x1, x2⟩, y0, y1, y2⟩ := t_box3 hT2.box
       have hT2_h := lH hT2; have hb2_h := lH hb2; clear hT2 hb2
       go_wp2_with (at_builtin; refine wpList_append1 rfl _ _ _ rfl tInt Tryz.underlying23 info_int rfl (by omega) rfl hT2_h.out.o rfl rfl rfl (by simp [Value.oneCell']) (by omega) (by omega) ?_; intro A2' c2' w7 hs0 hA0 hk0; have ht0 := hT2_h.out.app2 hs0 hA0 hk0; clear hs0 hA0 hk0 x0 x1 x2 y0 y1 y2; obtain ⟨⟨x0, x1, x2⟩, y0, y1, y2⟩ := t_box3 ht0.2.1; have ht0_h := lH ht0; clear ht0)
       have hT3 := ht0_h.out.1
       have hb3 := ht0_h.out.2.2 _ (Nat.le_refl _)
       clear ht0_h x0 x1 x2 y0 y1 y2
       go_roundw
       case rel => exact ⟨k + 1, .leaf (κ, v, s) :: st, A0', A1', A2', c0', c1', c2', by omega, by go_num, hR2_h.out.step hpm_h.out hT3 l0_h.out.symm l1_h.out.symm l2_h.out.symm ((hb1_h.out.trans hb2_h.out).trans hb3)⟩
       case measure => simp [intOf]; omega
   · obtain rfl : k = m := by omega
     have hpar := hR.par
     rw [List.take_of_length_le (by rw [hm_h.out]; omega)] at hpar
     have hln := flats_len hR.par (by rw [← hm_h.out]; omega)
     obtain ⟨kq, rfl⟩ : ∃ kq, k = kq + 1 := ⟨k - 1, by omega⟩
     obtain ⟨t, r, rfl⟩ : ∃ t r, st = t :: r := by
      match st, hln with
      | [], h => simp [flats] at h
      | t :: r, _ => exact ⟨t, r, rfl⟩
     obtain ⟨i0, -, -⟩ := infos_at t r hln
     rw [Nat.add_sub_cancel] at i0
     obtain ⟨f, hf⟩ : ∃ f, f = (flats r).length := ⟨_, rfl⟩
     rw [← hf] at i0
     obtain ⟨ad0, hA0, hlt0, cf, _⟩ := Sl.cell hR.th.f (ints_get i0)
     subst hA0
     have hres : treeM l = oneOf (t :: r) := treeM_of ⟨by rw [← hm_h.out]; omega, by rw [← hm_h.out]; omega⟩ hpar
     have hone : ((f : Int) == 0) = (oneOf (t :: r)).isSome := by
      match r, hf with
      | [], h => subst h; rfl
      | a :: r', h =>
        have := sz_pos a
        unfold sz at this
        have hb : ((f : Int) == 0) = false := by
         simp only [beq_eq_false_iff_ne]
         simp only [flats, List.length_append] at h
         omega
        rw [hb]; rfl
     have hkc : (kq : Int) < (kq : Int) + 1 := by omega
     have hk0 : (0 : Int) ≤ (kq : Int) := by omega
     have i0_h := lH i0; have hf_h := lH hf; have hres_h := lH hres; have hone_h := lH hone; have hpar_h := lH hpar; have hln_h := lH hln; clear i0 hf hres hone hpar hln; clear h
     go_wp2_with (fail)
     refine beginZw 11 (fun w' => w'.heap[w.heap.size + 1 + 1]? = some (.cells #[.slice (some ad0) (kq + 1) c0, .slice A1 (kq + 1) c1, .slice A2 (kq + 1) c2] tInfo) ∧ w'.heap[w.heap.size]? = some (.cells #[.slice A (kq + 1) c] tTerm) ∧ w'.cell? (ad0.add kq) = some (.int .i64 (f : Int))) (by kernel_rfl) (fun W1 hW1 => ?_)
     have hR3 : LbR w.heap.size w A (kq + 1) c l (kq + 1) (t :: r) (some ad0) A1 A2 c0 c1 c2 W1 := by rw [hW1]; exact hR.below (below_drew (Below.refl _ _))
     have cf1 : W1.cell? (ad0.add kq) = some (.int .i64 (f : Int)) := by rw [hW1]; exact cf
     have hF := And.intro hR3.th.box (And.intro hR3.kb cf1)
     clear hW1
     have hx := hR3.kr
     have hxl := t_box_lt hx
     obtain ⟨s1, s2⟩ := t_set3 (a := .slice (some ad0) (kq + 1) c0) (b := .slice A1 (kq + 1) c1) (c := .slice A2 (kq + 1) c2) hx
     have hFs := And.intro (t_box_keeps hR3.th.box s2 (by omega)) (And.intro (t_box_keeps hR3.kb s2 (by omega)) ((World.cell?_of_block (a := ad0.add kq) (s2.block _ (by rw [block_of_add]; exact hR3.th.f.lt _ (by simp)) (fun e => by rw [block_of_add] at e; have := hR3.th.fr ad0.block (.inl (by simp)); omega))).trans cf1))
     have hB2 := below_keeps hR3.bel s2 (by omega) (fun k hk => by omega)
     obtain ⟨⟨r0, r1, r2⟩, q0, q1, q2⟩ := t_box3 hx
     have hrd : ∀ t', treeM l = some t' → kq + 1 = sz t' ∧ kq + 1 = sz t' ∧ kq + 1 = sz t' ∧ RdC (((W1.setCell ⟨w.heap.size + 1, 0, none⟩ (.slice (some ad0) (kq + 1) c0)).setCell ⟨w.heap.size + 1, 1, none⟩ (.slice A1 (kq + 1) c1)).setCell ⟨w.heap.size + 1, 2, none⟩ (.slice A2 (kq + 1) c2)) (some ad0) (ints (frL [t'])) ∧ RdC (((W1.setCell ⟨w.heap.size + 1, 0, none⟩ (.slice (some ad0) (kq + 1) c0)).setCell ⟨w.heap.size + 1, 1, none⟩ (.slice A1 (kq + 1) c1)).setCell ⟨w.heap.size + 1, 2, none⟩ (.slice A2 (kq + 1) c2)) A1 (ints (inL [t'])) ∧ RdC (((W1.setCell ⟨w.heap.size + 1, 0, none⟩ (.slice (some ad0) (kq + 1) c0)).setCell ⟨w.heap.size + 1, 1, none⟩ (.slice A1 (kq + 1) c1)).setCell ⟨w.heap.size + 1, 2, none⟩ (.slice A2 (kq + 1) c2)) A2 (ints (ouL [t'])) ∧ ∀ b, b ∈ fpA (some ad0) ∨ b ∈ fpA A1 ∨ b ∈ fpA A2 → w.heap.size ≤ b := by
      intro t' ht'
      rw [hres_h.out] at ht'
      have e := oneOf_some ht'
      rw [e] at hR3 hln_h
      have hlen : kq + 1 = sz t' := by have := hln_h.out; simpa [flats, sz] using this.symm
      have ff := fun b hb e => (show ¬ b = w.heap.size + 1 from fun e => by have := hR3.th.fr b hb; omega) e
      exact ⟨hlen, hlen, hlen, (hR3.th.f.keeps s2 (fun b hb => ff b (.inl hb))).rdc, (hR3.th.i.keeps s2 (fun b hb => ff b (.inr (.inl hb)))).rdc, (hR3.th.o.keeps s2 (fun b hb => ff b (.inr (.inr hb)))).rdc, fun b hb => by have := hR3.th.fr b hb; omega⟩
     have hR3_h := lH hR3; have cf1_h := lH cf1; have hF_h := lH hF; have hFs_h := lH hFs; have hx_h := lH hx; have s1_h := lH s1; have s2_h := lH s2; have hB2_h := lH hB2; have hR_h := lH hR; have cf_h := lH cf; have hrd_h := lH hrd; clear hR3 cf1 hF hFs hx s1 s2 hB2 hR cf hrd
     refine tkZ 0 ?_ rfl hF_h.out (fun W' hW' => ?_) ?_; rotate_left; · (obtain ⟨⟨x0, x1, x2⟩, y0, y1, y2⟩ := t_box3 hW'.1; have z0 : W'.cell? ⟨w.heap.size, 0, none⟩ = some (.slice A (kq + 1) c) := (by simp [World.cell?, hW'.2.1]); have e1 := hW'.2.2; have r0 : IntKind.i64.wrap (kq : Int) = (kq : Int) := IntWalk.i64_in _ (by omega); clear hW'; go_simp; first | done | with_reducible rfl)
     simp only [Act.put, nS]
     refine tkZ 1 ?_ rfl hF_h.out (fun W' hW' => ?_) ?_; rotate_left; · (obtain ⟨⟨x0, x1, x2⟩, y0, y1, y2⟩ := t_box3 hW'.1; have z0 : W'.cell? ⟨w.heap.size, 0, none⟩ = some (.slice A (kq + 1) c) := (by simp [World.cell?, hW'.2.1]); have e1 := hW'.2.2; have r0 : IntKind.i64.wrap (kq : Int) = (kq : Int) := IntWalk.i64_in _ (by omega); clear hW'; go_simp; first | done | with_reducible rfl)
     simp only [Act.put, nS]
     refine tkZ 2 ?_ rfl hF_h.out (fun W' hW' => ?_) ?_; rotate_left; · (obtain ⟨⟨x0, x1, x2⟩, y0, y1, y2⟩ := t_box3 hW'.1; have z0 : W'.cell? ⟨w.heap.size, 0, none⟩ = some (.slice A (kq + 1) c) := (by simp [World.cell?, hW'.2.1]); have e1 := hW'.2.2; have r0 : IntKind.i64.wrap (kq : Int) = (kq : Int) := IntWalk.i64_in _ (by omega); clear hW'; go_simp; first | done | with_reducible rfl)
     simp only [Act.put, nS]
     refine tkZ 3 ?_ rfl hF_h.out (fun W' hW' => ?_) ?_; rotate_left; · (obtain ⟨⟨x0, x1, x2⟩, y0, y1, y2⟩ := t_box3 hW'.1; have z0 : W'.cell? ⟨w.heap.size, 0, none⟩ = some (.slice A (kq + 1) c) := (by simp [World.cell?, hW'.2.1]); have e1 := hW'.2.2; have r0 : IntKind.i64.wrap (kq : Int) = (kq : Int) := IntWalk.i64_in _ (by omega); clear hW'; go_simp; first | done | with_reducible rfl)
     simp only [Act.put, nS]
     refine tkZ 4 ?_ rfl hF_h.out (fun W' hW' => ?_) ?_; rotate_left; · (obtain ⟨⟨x0, x1, x2⟩, y0, y1, y2⟩ := t_box3 hW'.1; have z0 : W'.cell? ⟨w.heap.size, 0, none⟩ = some (.slice A (kq + 1) c) := (by simp [World.cell?, hW'.2.1]); have e1 := hW'.2.2; have r0 : IntKind.i64.wrap (kq : Int) = (kq : Int) := IntWalk.i64_in _ (by omega); clear hW'; go_simp; first | done | with_reducible rfl)
     simp only [Act.put, nS]
     refine tkZ 5 ?_ rfl hF_h.out (fun W' hW' => ?_) ?_; rotate_left; · (obtain ⟨⟨x0, x1, x2⟩, y0, y1, y2⟩ := t_box3 hW'.1; have z0 : W'.cell? ⟨w.heap.size, 0, none⟩ = some (.slice A (kq + 1) c) := (by simp [World.cell?, hW'.2.1]); have e1 := hW'.2.2; have r0 : IntKind.i64.wrap (kq : Int) = (kq : Int) := IntWalk.i64_in _ (by omega); clear hW'; go_simp; first | done | with_reducible rfl)
     simp only [Act.put, nS]
     refine tkZ 6 ?_ rfl hF_h.out (fun W' hW' => ?_) ?_; rotate_left; · (obtain ⟨⟨x0, x1, x2⟩, y0, y1, y2⟩ := t_box3 hW'.1; have z0 : W'.cell? ⟨w.heap.size, 0, none⟩ = some (.slice A (kq + 1) c) := (by simp [World.cell?, hW'.2.1]); have e1 := hW'.2.2; have r0 : IntKind.i64.wrap (kq : Int) = (kq : Int) := IntWalk.i64_in _ (by omega); clear hW'; go_simp; first | done | with_reducible rfl)
     simp only [Act.put, nS]
     refine tkZ 7 ?_ rfl hF_h.out (fun W' hW' => ?_) ?_; rotate_left; · (obtain ⟨⟨x0, x1, x2⟩, y0, y1, y2⟩ := t_box3 hW'.1; have z0 : W'.cell? ⟨w.heap.size, 0, none⟩ = some (.slice A (kq + 1) c) := (by simp [World.cell?, hW'.2.1]); have e1 := hW'.2.2; have r0 : IntKind.i64.wrap (kq : Int) = (kq : Int) := IntWalk.i64_in _ (by omega); clear hW'; go_simp; first | done | with_reducible rfl)
     simp only [Act.put, nS]
     refine tkZ 8 ?_ rfl hF_h.out (fun W' hW' => ?_) ?_; rotate_left; · (obtain ⟨⟨x0, x1, x2⟩, y0, y1, y2⟩ := t_box3 hW'.1; have z0 : W'.cell? ⟨w.heap.size, 0, none⟩ = some (.slice A (kq + 1) c) := (by simp [World.cell?, hW'.2.1]); have e1 := hW'.2.2; have r0 : IntKind.i64.wrap (kq : Int) = (kq : Int) := IntWalk.i64_in _ (by omega); clear hW'; go_simp; first | done | with_reducible rfl)
     simp only [Act.put, nS]
     refine tkZ 9 ?_ rfl hF_h.out (fun W' hW' => ?_) ?_; rotate_left; · (obtain ⟨⟨x0, x1, x2⟩, y0, y1, y2⟩ := t_box3 hW'.1; have z0 : W'.cell? ⟨w.heap.size, 0, none⟩ = some (.slice A (kq + 1) c) := (by simp [World.cell?, hW'.2.1]); have e1 := hW'.2.2; have r0 : IntKind.i64.wrap (kq : Int) = (kq : Int) := IntWalk.i64_in _ (by omega); clear hW'; go_simp; first | done | with_reducible rfl)
     simp only [Act.put, nS]
     refine oneZ 10 rfl (by kernel_rfl) (by rfl) (fun K hK => ?_)
     go_simp
     refine hK _ _ (fun _ => hFs_h.out) ?_
     clear hK K
     refine oneZ 11 rfl (by kernel_rfl) (by rfl) (fun K hK => ?_)
     go_simp
     refine hK _ _ (fun h => by cases h) ?_
     clear hK K
     refine doneZ (by kernel_rfl) ?_
     go_wp2_with (fail)
     refine bodyPost_ret (t_results_cell_tmp rfl _ _ (w.heap.size + 1) _ _ (0, 0) _ rfl s1_h.out Tryz.underlying139 rfl (by kernel_rfl)) rfl ?_
     exact ⟨some ad0, A1, A2, c0, c1, c2, kq + 1, kq + 1, kq + 1, ((f : Int) == 0), rfl, by rw [hone_h.out, hres_h.out], hrd_h.out, hB2_h.out⟩
theorem RdC.keeps {w w' : World} {A : Option Addr} {xs : List Value} (h : RdC w A xs) {S : Nat → Prop} (hk : Keeps S w w') (hS : ∀ b, b ∈ fpA A → ¬ S b) : RdC w' A xs := fun j u hj => by
 obtain ⟨ad, hA, hc⟩ := h j u hj
 have hl := World.block_lt_of_cell? w _ hc
 rw [block_of_add] at hl
 exact ⟨ad, hA, (World.cell?_of_block (a := ad.add j) (by rw [block_of_add]; exact hk.block _ hl (hS _ (by simp [hA])))).trans hc⟩
set_option maxRecDepth 8000 in
set_option maxHeartbeats 1000000 in
theorem wires_any {v : Value} {l : List Nd} {w : World} (h : RdTm w v l) :
  Calls Tryz.prog 163 #[v] w (TyA l w) := by
 obtain ⟨A, c, rfl, h⟩ := h
 obtain ⟨W, hW⟩ : ∃ W, W = (w.alloc (.cells #[.slice A l.length c] tTerm)).alloc (.cells #[.int .i64 0, .int .i64 0] tWires) := ⟨_, rfl⟩
 obtain ⟨b0, k0, k1, -⟩ := two_boxes w (.cells #[.slice A l.length c] tTerm) (.cells #[.int .i64 0, .int .i64 0] tWires)
 rw [← hW] at b0 k0 k1
 have hC := typed_any A c l W (h.below b0)
 obtain ⟨m, hm⟩ : ∃ m, m = l.length := ⟨_, rfl⟩
 rw [← hm] at hC hW k0 ⊢
 have b0_h := lH b0; have k0_h := lH k0; have k1_h := lH k1; have hC_h := lH hC; have hm_h := lH hm; clear b0 k0 k1 hC hm; clear h
 go_enter Tryz.func163, Tryz.ntmps163
 go_wp2_with (fail)
 rw [← hW]
 clear hW
 refine (hC_h.out).mono ?_
 rintro e w1 ⟨i, o, b, rfl, hb, ht, hb1⟩
 have hx := t_box_below k1_h.out hb1
 have hxl := t_box_lt hx
 obtain ⟨⟨c0, c1⟩, f0, f1⟩ := t_box2 hx
 obtain ⟨s1, s2⟩ := t_set2 (a := .int .i64 i) (b := .int .i64 o) hx
 have hB2 := below_keeps (below_trans b0_h.out hb1 b0_h.out.size) s2 (by omega) (fun k hk => by omega)
 have hx_h := lH hx; have hb_h := lH hb; have ht_h := lH ht; have hb1_h := lH hb1; have s1_h := lH s1; have s2_h := lH s2; have hB2_h := lH hB2; clear hx hb ht hb1 s1 s2 hB2; clear k0_h k1_h b0_h hC_h
 go_wp2_with (fail)
 refine bodyPost_ret (t_results_cell_tmp rfl _ _ (w.heap.size + 1) _ _ (0, 0) _ rfl s1_h.out Tryz.underlying147 rfl (by kernel_rfl)) rfl ?_
 exact ⟨i, o, b, rfl, hb_h.out, ht_h.out, hB2_h.out⟩
theorem isValid_any {v : Value} {l : List Nd} {w : World} (h : RdTm w v l) :
  Calls Tryz.prog 132 #[v] w fun e w' => ∃ b, e = .returned (.bool b) ∧ b = (treeM l).isSome ∧ Below w.heap.size w w' := by
 obtain ⟨A, c, rfl, h⟩ := h
 have hb0 := t_below_alloc w (.cells #[.slice A l.length c] tTerm)
 have hC := wires_any (v := .agg #[.slice A l.length c]) (l := l) (w := w.alloc (.cells #[.slice A l.length c] tTerm)) ⟨A, c, rfl, h.below hb0⟩
 obtain ⟨m, hm⟩ : ∃ m, m = l.length := ⟨_, rfl⟩
 rw [← hm] at hC hb0 ⊢
 have hC_h := lH hC; have hm_h := lH hm; have hb0_h := lH hb0; clear hC hm hb0; clear h
 go_enter Tryz.func132, Tryz.ntmps132
 go_wp2_with (fail)
 refine (hC_h.out).mono ?_
 rintro e w1 ⟨i, o, b, rfl, hb, ht, hb1⟩
 have hb_h := lH hb; have ht_h := lH ht; have hb1_h := lH hb1; clear hb ht hb1
 go_wp2_with (fail)
 go_ret
 exact ⟨b, rfl, hb_h.out, below_trans (below_trans hb0_h.out hb1_h.out hb0_h.out.size) (t_below_alloc _ _) (Nat.le_trans hb0_h.out.size hb1_h.out.size)⟩
set_option maxRecDepth 8000 in
set_option maxHeartbeats 1000000 in
theorem tmScan_any {v : Value} {l : List Nd} {w : World} (h : RdTm w v l) :
  Calls Tryz.prog 130 #[v] w (LbA l w) := by
 obtain ⟨A, c, rfl, h⟩ := h
 obtain ⟨W, hW⟩ : ∃ W, W = (w.alloc (.cells #[.slice A l.length c] tTerm)).alloc (.cells #[.slice none 0 0, .slice none 0 0, .slice none 0 0] tInfo) := ⟨_, rfl⟩
 obtain ⟨b0, k0, k1, -⟩ := two_boxes w (.cells #[.slice A l.length c] tTerm) (.cells #[.slice none 0 0, .slice none 0 0, .slice none 0 0] tInfo)
 rw [← hW] at b0 k0 k1
 have hC := lbScan_any A c l W (h.below b0)
 obtain ⟨m, hm⟩ : ∃ m, m = l.length := ⟨_, rfl⟩
 rw [← hm] at hC hW k0 ⊢
 have b0_h := lH b0; have k0_h := lH k0; have k1_h := lH k1; have hC_h := lH hC; have hm_h := lH hm; clear b0 k0 k1 hC hm; clear h
 go_enter Tryz.func130, Tryz.ntmps130
 go_wp2_with (fail)
 rw [← hW]
 clear hW
 refine (hC_h.out).mono ?_
 rintro e w1 ⟨A0, A1, A2, c0, c1, c2, n0, n1, n2, b, rfl, hb, ht, hb1⟩
 have hx := t_box_below k1_h.out hb1
 have hxl := t_box_lt hx
 obtain ⟨⟨x0, x1, x2⟩, f0, f1, f2⟩ := t_box3 hx
 obtain ⟨s1, s2⟩ := t_set3 (a := .slice A0 n0 c0) (b := .slice A1 n1 c1) (c := .slice A2 n2 c2) hx
 have hB2 := below_keeps (below_trans b0_h.out hb1 b0_h.out.size) s2 (by omega) (fun k hk => by omega)
 have hrd : ∀ t, treeM l = some t → n0 = sz t ∧ n1 = sz t ∧ n2 = sz t ∧ RdC (((w1.setCell ⟨w.heap.size + 1, 0, none⟩ (.slice A0 n0 c0)).setCell ⟨w.heap.size + 1, 1, none⟩ (.slice A1 n1 c1)).setCell ⟨w.heap.size + 1, 2, none⟩ (.slice A2 n2 c2)) A0 (ints (frL [t])) ∧ RdC (((w1.setCell ⟨w.heap.size + 1, 0, none⟩ (.slice A0 n0 c0)).setCell ⟨w.heap.size + 1, 1, none⟩ (.slice A1 n1 c1)).setCell ⟨w.heap.size + 1, 2, none⟩ (.slice A2 n2 c2)) A1 (ints (inL [t])) ∧ RdC (((w1.setCell ⟨w.heap.size + 1, 0, none⟩ (.slice A0 n0 c0)).setCell ⟨w.heap.size + 1, 1, none⟩ (.slice A1 n1 c1)).setCell ⟨w.heap.size + 1, 2, none⟩ (.slice A2 n2 c2)) A2 (ints (ouL [t])) ∧ ∀ b, b ∈ fpA A0 ∨ b ∈ fpA A1 ∨ b ∈ fpA A2 → w.heap.size ≤ b := by
  intro t h
  obtain ⟨a1, a2, a3, a4, a5, a6, a7⟩ := ht t h
  have hW2 := t_box_lt k1_h.out
  exact ⟨a1, a2, a3, a4.keeps s2 (fun b hb e => by have := a7 b (.inl hb); omega), a5.keeps s2 (fun b hb e => by have := a7 b (.inr (.inl hb)); omega), a6.keeps s2 (fun b hb e => by have := a7 b (.inr (.inr hb)); omega), fun b hb => Nat.le_trans b0_h.out.size (a7 b hb)⟩
 have hx_h := lH hx; have hb_h := lH hb; have ht_h := lH ht; have hb1_h := lH hb1; have s1_h := lH s1; have s2_h := lH s2; have hB2_h := lH hB2; have hrd_h := lH hrd; clear hx hb ht hb1 s1 s2 hB2 hrd; clear k0_h k1_h b0_h hC_h
 go_wp2_with (fail)
 refine bodyPost_ret (t_results_cell_tmp rfl _ _ (w.heap.size + 1) _ _ (0, 0) _ rfl s1_h.out Tryz.underlying139 rfl (by kernel_rfl)) rfl ?_
 exact ⟨A0, A1, A2, c0, c1, c2, n0, n1, n2, b, rfl, hb_h.out, hrd_h.out, hB2_h.out⟩
theorem info_nd : (Tryz.prog.info? tNd).map (fun i => (i.zero, i.size, i.bytes)) = some (some (.agg #[.int .i64 0, .int .i64 0, .string ⟨#[]⟩]), 3, 32) := by kernel_rfl
abbrev tNdL : TypeId := 110
def szN : List Nd → Int → Int
 | [], left => left
 | n :: r, left => if left - n.2.2.size < 0 then -1 else szN r (left - n.2.2.size)
def szNS (l : List Nd) (left : Int) : Int := if left - l.length < 0 then -1 else szN l (left - l.length)
theorem szN_le : ∀ (l : List Nd) (left : Int), 0 ≤ left → szN l left ≤ left ∧ (szN l left < 0 → szN l left = -1)
 | [], left, h => ⟨Int.le_refl _, fun h' => by simp only [szN] at h'; omega⟩
 | n :: r, left, h => by
   unfold szN
   split
   · exact ⟨by omega, fun _ => rfl⟩
   · have := szN_le r (left - n.2.2.size) (by omega)
     exact ⟨by omega, this.2⟩
theorem szNS_ok {l : List Nd} {left : Int} (h : 0 ≤ szNS l left) (h1 : left ≤ 1048576) : l.length ≤ 1048576 ∧ szNS l left ≤ left := by
 unfold szNS at h ⊢
 split at h
 · omega
 · rename_i h2
   rw [if_neg h2]
   have := szN_le l (left - l.length) (by omega)
   omega
theorem szNS_neg {l : List Nd} {left : Int} (h : szNS l left < 0) : szNS l left = -1 := by
 unfold szNS at h ⊢
 split at h
 · rename_i h2; rw [if_pos h2]
 · rename_i h2
   rw [if_neg h2]
   exact (szN_le l (left - l.length) (by omega)).2 h
set_option maxHeartbeats 400000 in
theorem szNode_any (k v : Int) (s : ByteArray) (left : Int) (w : World) (h0 : 0 ≤ left) (h1 : left ≤ 1048576) (hs : s.size ≤ maxLen) :
  Calls Tryz.prog 86 #[.agg #[.int .i64 k, .int .i64 v, .string s], .int .i64 left] w fun e w' => e = .returned (.int .i64 (if left - s.size < 0 then -1 else left - s.size)) ∧ Below w.heap.size w w' := by
 unfold maxLen at hs
 obtain ⟨z, hz⟩ : ∃ z, z = s.size := ⟨_, rfl⟩
 by_cases hl : left - s.size < 0
 · rw [if_pos hl]
   go_enter Tryz.func86, Tryz.ntmps86
   go_wp2_with (fail)
   go_ret
   exact ⟨rfl, t_below_alloc _ _⟩
 · rw [if_neg hl]
   go_enter Tryz.func86, Tryz.ntmps86
   go_wp2_with (fail)
   go_ret
   exact ⟨rfl, t_below_alloc _ _⟩
set_option maxHeartbeats 1000000 in
theorem szNodeS_any (A : Option Addr) (c : Nat) (l : List Nd) (left : Int) (w : World) (h : RdN w A l) (hB : BigTm l) (h0 : 0 ≤ left) (h1 : left ≤ 1048576) :
  Calls Tryz.prog 49 #[.slice A l.length c, .int .i64 left] w fun e w' => e = .returned (.int .i64 (szNS l left)) ∧ Below w.heap.size w w' := by
 obtain ⟨hB1, hB2⟩ := hB
 unfold maxLen at hB1
 obtain ⟨m, hm⟩ : ∃ m, m = l.length := ⟨_, rfl⟩
 rw [← hm] at hB1 ⊢
 obtain ⟨S, hS⟩ : ∃ S, S = szNS l left := ⟨_, rfl⟩
 rw [← hS]
 by_cases hl : left - (m : Int) < 0
 · have e : S = -1 := by rw [hS]; unfold szNS; rw [← hm, if_pos hl]
   subst e
   have hm_h := lH hm; have hB2_h := lH hB2; have hS_h := lH hS; clear hm hB2 hS; clear h
   go_enter Tryz.func49, Tryz.ntmps49
   go_wp2_with (fail)
   go_ret
   exact ⟨rfl, Below.refl _ _⟩
 · have e : S = szN l (left - m) := by rw [hS]; unfold szNS; rw [← hm, if_neg hl]
   have hsl := szN_le l (left - m) (by omega)
   rw [← e] at hsl
   have hm_h := lH hm; have hB2_h := lH hB2; have hS_h := lH hS; have e_h := lH e; clear hm hB2 hS e
   go_enter Tryz.func49, Tryz.ntmps49
   go_wp2_with (fail)
   go_loopw [1, 5] (fun q i wr => ∃ (k : Nat) (x : Int), k ≤ m ∧ i = .int .i64 k ∧ q = .int .i64 x ∧ 0 ≤ x ∧ x ≤ 1048576 ∧ szN (l.drop k) x = S ∧ Below w.heap.size w wr) (fun _ i _ => m - (intOf i).toNat)
   case atStart => exact ⟨0, left - m, Nat.zero_le _, rfl, rfl, by omega, by omega, by rw [e_h.out]; rfl, Below.refl _ _⟩
   case round =>
    obtain ⟨k, x, hk, rfl, rfl, hx0, hx1, hsz, hb⟩ := hrel
    by_cases hlt : k < m
    · obtain ⟨ad, κ, v, s, rfl, hn, d0, d1, d2⟩ := (h.below hb).at_ (j := k) (by rw [← hm_h.out]; exact hlt)
      have hss : s.size ≤ maxLen := hB2_h.out _ (List.mem_of_getElem? hn)
      have hdrop : l.drop k = (κ, v, s) :: l.drop (k + 1) := by
       obtain ⟨hk', e⟩ := List.getElem?_eq_some_iff.1 hn
       rw [← e]; exact List.drop_eq_getElem_cons hk'
      have hC := fun W => szNode_any κ v s x W hx0 hx1 hss
      have hkI : (k : Int) < (m : Int) := by omega
      rw [hdrop] at hsz
      by_cases hneg : x - s.size < 0
      · have hS1 : S = -1 := by rw [← hsz]; show (if _ then _ else _) = _; rw [if_pos hneg]
        simp only [if_pos hneg] at hC
        subst hS1
        have hC_h := lH hC; have hsz_h := lH hsz; have hn_h := lH hn; have hss_h := lH hss; have hdrop_h := lH hdrop; clear hC hsz hn hss hdrop; clear h
        go_wp2_with (fail)
        refine (hC_h.out _).mono ?_
        rintro e w1 ⟨rfl, hb1⟩
        go_wp2_with (fail)
        go_ret
        exact ⟨rfl, below_trans hb hb1 hb.size⟩
      · have hs1 : szN (l.drop (k + 1)) (x - s.size) = S := by rw [← hsz]; show _ = (if _ then _ else _); rw [if_neg hneg]
        simp only [if_neg hneg] at hC
        obtain ⟨x', hx'⟩ : ∃ x', x' = x - (s.size : Int) := ⟨_, rfl⟩
        rw [← hx'] at hs1
        simp only [← hx'] at hC
        have hn0 : ¬ x' < 0 := by omega
        have hn1 : x' ≤ 1048576 := by omega
        have hC_h := lH hC; have hsz_h := lH hsz; have hn_h := lH hn; have hss_h := lH hss; have hdrop_h := lH hdrop; have hs1_h := lH hs1; have hx'_h := lH hx'; clear hC hsz hn hss hdrop hs1 hx'; clear h
        go_wp2_with (fail)
        refine (hC_h.out _).mono ?_
        rintro e w1 ⟨rfl, hb1⟩
        go_wp2_with (fail)
        go_roundw
        case rel => exact ⟨k + 1, x', by omega, by go_num, rfl, by omega, by omega, hs1_h.out, below_trans hb hb1 hb.size⟩
        case measure => simp [intOf]; omega
    · obtain rfl : k = m := by omega
      have : x = S := by
       rw [← hsz, List.drop_of_length_le (by rw [← hm_h.out]; omega)]; rfl
      subst this
      have hsz_h := lH hsz; clear hsz; clear h
      go_wp2_with (fail)
      go_ret
      exact ⟨rfl, hb⟩
set_option maxHeartbeats 400000 in
theorem toNode_any (k v : Int) (s : ByteArray) (w : World) :
  Calls Tryz.prog 91 #[.agg #[.int .i64 k, .int .i64 v, .string s]] w fun e w' => e = .returned (.agg #[.int .i64 k, .int .i64 v, .string s]) ∧ Below w.heap.size w w' := by
 go_enter Tryz.func91, Tryz.ntmps91
 go_wp2_with (fail)
 refine bodyPost_ret (v := .agg #[.int .i64 k, .int .i64 v, .string s]) (by simp [results, Tryz.results91, go_sem]) rfl ⟨rfl, ?_⟩
 exact (((Below.refl _ _).alloc (Nat.le_refl _) _).alloc (by simp) _).alloc (by simp; omega) _
theorem ret_sl {A : Option Addr} {n n' c : Nat} (h : n = n') : Ending.returned (.slice A n c) = .returned (.slice A n' c) := by rw [h]
theorem bytes_ext {s s' : ByteArray} (h : s.toList = s'.toList) : s = s' := by
 rw [ByteArray.toList_eq, ByteArray.toList_eq] at h
 cases s; cases s'; simp at h; simp [h]
def nd0 : Nd := (0, 0, noName)
theorem madeNodes (n : Nat) : (madeCells (Value.agg #[.int .i64 0, .int .i64 0, .string ⟨#[]⟩]).cells (n * 3)).toList.take (n * 3) = ncs (List.replicate n nd0) := by
 have hs : (madeCells (Value.agg #[.int .i64 0, .int .i64 0, .string ⟨#[]⟩]).cells (n * 3)).toList.length = n * 3 := by rw [Array.length_toList, size_madeCells]
 rw [List.take_of_length_le (by omega)]
 apply List.ext_getElem?
 intro j
 by_cases hj : j < n * 3
 · have key : ∀ q r, q * 3 + r < n * 3 → r < 3 → (madeCells (Value.agg #[.int .i64 0, .int .i64 0, .string ⟨#[]⟩]).cells (n * 3)).toList[q * 3 + r]? = (nc nd0)[r]? := by
    intro q r h hr
    have hm : (q * 3 + r) % 3 = r := by omega
    have hr' : r = 0 ∨ r = 1 ∨ r = 2 := by omega
    simp only [madeCells, Value.cells, Array.toList_map, List.getElem?_map, Array.toList_range, List.getElem?_range h, Option.map_some]
    show some (_[(q * 3 + r) % 3]!) = _
    rw [hm]
    rcases hr' with rfl | rfl | rfl <;> rfl
   have hq : j / 3 < n := by omega
   have hg := ncs_get (l := List.replicate n nd0) (j := j / 3) (n := nd0) (by simp [hq])
   have e : j = j / 3 * 3 + j % 3 := by omega
   have hr' : j % 3 = 0 ∨ j % 3 = 1 ∨ j % 3 = 2 := by omega
   rw [e]
   rcases hr' with h | h | h <;> rw [h] at e ⊢
   · rw [key _ 0 (by omega) (by omega)]; exact hg.1.symm
   · rw [key _ 1 (by omega) (by omega)]; exact hg.2.1.symm
   · rw [key _ 2 (by omega) (by omega)]; exact hg.2.2.symm
 · rw [List.getElem?_eq_none (by omega), List.getElem?_eq_none (by simp; omega)]
theorem NS.set {w : World} {A : Option Addr} {cap : Nat} {l : List Nd} (h : NS w A cap l) {ad : Addr} (hA : A = some ad) {j : Nat} (k v : Int) (s : ByteArray) (hj : j < l.length) :
  NS (((w.setCell (ad.add (j * 3)) (.int .i64 k)).setCell ⟨(ad.add (j * 3)).block, (ad.add (j * 3)).off + 1, none⟩ (.int .i64 v)).setCell ⟨(ad.add (j * 3)).block, (ad.add (j * 3)).off + 2, none⟩ (.string s)) A cap (l.set j (k, v, s)) ∧
  Keeps (· ∈ fpA A) w (((w.setCell (ad.add (j * 3)) (.int .i64 k)).setCell ⟨(ad.add (j * 3)).block, (ad.add (j * 3)).off + 1, none⟩ (.int .i64 v)).setCell ⟨(ad.add (j * 3)).block, (ad.add (j * 3)).off + 2, none⟩ (.string s)) := by
 have hl : (ncs l).length = l.length * 3 := ncs_length l
 have s1 := Sl.set h hA (j * 3) (.int .i64 k) (by omega)
 have s2 := Sl.set s1 hA (j * 3 + 1) (.int .i64 v) (by rw [List.length_set]; omega)
 have s3 := Sl.set s2 hA (j * 3 + 2) (.string s) (by rw [List.length_set, List.length_set]; omega)
 have e := ncs_set (l := l) (j := j) (k, v, s) hj
 simp only at e
 rw [e, add_next ad (j * 3) 1 (by omega), add_next ad (j * 3) 2 (by omega)] at s3
 refine ⟨by unfold NS; rw [List.length_set]; exact s3, ?_⟩
 have hb : (ad.add (j * 3)).block ∈ fpA A := by rw [block_of_add, hA]; simp
 exact (((Keeps.refl _ w).setCell (p := ad.add (j * 3)) hb _).setCell (p := ⟨(ad.add (j * 3)).block, (ad.add (j * 3)).off + 1, none⟩) hb _).setCell (p := ⟨(ad.add (j * 3)).block, (ad.add (j * 3)).off + 2, none⟩) hb _
theorem NS.mid {w : World} {ad : Addr} {cap : Nat} {l : List Nd} (h : NS w (some ad) cap l) {j : Nat} (k v : Int) (hj : j < l.length) :
  (∃ x, (w.setCell (ad.add (j * 3)) (.int .i64 k)).cell? ⟨(ad.add (j * 3)).block, (ad.add (j * 3)).off + 1, none⟩ = some x) ∧ (w.setCell (ad.add (j * 3)) (.int .i64 k)).frozen? ⟨(ad.add (j * 3)).block, (ad.add (j * 3)).off + 1, none⟩ = false ∧
  (∃ x, ((w.setCell (ad.add (j * 3)) (.int .i64 k)).setCell ⟨(ad.add (j * 3)).block, (ad.add (j * 3)).off + 1, none⟩ (.int .i64 v)).cell? ⟨(ad.add (j * 3)).block, (ad.add (j * 3)).off + 2, none⟩ = some x) ∧
  ((w.setCell (ad.add (j * 3)) (.int .i64 k)).setCell ⟨(ad.add (j * 3)).block, (ad.add (j * 3)).off + 1, none⟩ (.int .i64 v)).frozen? ⟨(ad.add (j * 3)).block, (ad.add (j * 3)).off + 2, none⟩ = false := by
 have hl : (ncs l).length = l.length * 3 := ncs_length l
 have s1 := Sl.set h rfl (j * 3) (.int .i64 k) (by omega)
 have s2 := Sl.set s1 rfl (j * 3 + 1) (.int .i64 v) (by rw [List.length_set]; omega)
 rw [← add_next ad (j * 3) 1 (by omega), ← add_next ad (j * 3) 2 (by omega)]
 obtain ⟨a1, h1, _, c1, f1⟩ := Sl.cell s1 (j := j * 3 + 1) (u := _) (List.getElem?_eq_getElem (by rw [List.length_set]; omega))
 obtain ⟨a2, h2, _, c2, f2⟩ := Sl.cell s2 (j := j * 3 + 2) (u := _) (List.getElem?_eq_getElem (by rw [List.length_set, List.length_set]; omega))
 obtain rfl := Option.some.inj h1
 obtain rfl := Option.some.inj h2
 exact ⟨⟨_, c1⟩, f1 _, ⟨_, c2⟩, f2 _⟩
theorem NS.free {w : World} {A : Option Addr} {cap : Nat} {l : List Nd} (h : NS w A cap l) {j : Nat} (hj : j < l.length) : ∃ ad, A = some ad ∧ w.frozen? (ad.add (j * 3)) = false ∧ w.frozen? ⟨(ad.add (j * 3)).block, (ad.add (j * 3)).off + 1, none⟩ = false ∧ w.frozen? ⟨(ad.add (j * 3)).block, (ad.add (j * 3)).off + 2, none⟩ = false := by
 obtain ⟨ad, hA, _, hf⟩ := h.at_ hj
 refine ⟨ad, hA, hf _, ?_, ?_⟩
 · rw [← add_next ad (j * 3) 1 (by omega)]; exact hf _
 · rw [← add_next ad (j * 3) 2 (by omega)]; exact hf _
theorem take_rep_step {l : List Nd} {k : Nat} {x z : Nd} (h : l[k]? = some x) :
  (l.take k ++ List.replicate (l.length - k) z).set k x = l.take (k + 1) ++ List.replicate (l.length - (k + 1)) z := by
 have hk : k < l.length := (List.getElem?_eq_some_iff.1 h).1
 have e : (l.take k).length = k := by simp; omega
 rw [List.set_append_right _ _ (by omega), e, Nat.sub_self, show l.length - k = (l.length - (k + 1)) + 1 by omega, List.replicate_succ, List.set_cons_zero, List.take_add_one, h]
 simp
set_option maxHeartbeats 1000000 in
theorem toNodeS_any (A : Option Addr) (c : Nat) (l : List Nd) (w : World) (h : RdN w A l) (hl : l.length ≤ 1048576) :
  Calls Tryz.prog 51 #[.slice A l.length c] w (RetN w l) := by
 obtain ⟨m, hm⟩ : ∃ m, m = l.length := ⟨_, rfl⟩
 rw [← hm] at hl ⊢
 have HM := lH hm; clear hm
 go_enter Tryz.func51, Tryz.ntmps51
 go_wp2_with (at_make; refine wpList_make_Sl _ rfl _ _ _ rfl tNd Tryz.underlying52 info_nd m m rfl rfl rfl rfl (Nat.le_refl _) (by omega) (by unfold maxLen; omega) ?_; intro G w1 hs hG hb1)
 have hs0 : NS w1 (some G) m (List.replicate m nd0) := by unfold NS; rw [← madeNodes, List.length_replicate]; exact hs
 clear hs
 go_loopw [4] (fun i wr => ∃ k : Nat, k ≤ m ∧ i = .int .i64 k ∧ NS wr (some G) m (l.take k ++ List.replicate (m - k) nd0) ∧ Below w.heap.size w wr)
  (fun i _ => m - (intOf i).toNat)
 case atStart => exact ⟨0, Nat.zero_le _, rfl, by simpa using hs0, hb1⟩
 case round =>
  obtain ⟨k, hk, rfl, his, hb⟩ := hrel
  clear hs0
  by_cases hlt : k < m
  · obtain ⟨ad, κ, v, s, rfl, hn, d0, d1, d2⟩ := (h.below hb).at_ (j := k) (by rw [← HM.out]; exact hlt)
    have hkI : (k : Int) < (m : Int) := by omega
    have hn_h := lH hn; have his_h := lH his; clear hn his; clear h
    go_wp2_with (fail)
    refine (toNode_any κ v s _).mono ?_
    rintro e w2 ⟨rfl, hb2⟩
    have his2 := his_h.out.below hb2
    have hlen : (l.take k ++ List.replicate (m - k) nd0).length = m := by have := HM.out; simp; omega
    obtain ⟨_, k', v', s', hG', _, e0, e1, e2⟩ := his2.rd.at_ (j := k) (by omega)
    obtain rfl := Option.some.inj hG'
    obtain ⟨_, hG', g0, g1, g2⟩ := his2.free (j := k) (by omega)
    obtain rfl := Option.some.inj hG'
    obtain ⟨⟨xm1, m1⟩, n1, ⟨xm2, m2⟩, n2⟩ := his2.mid (j := k) κ v (by omega)
    obtain ⟨hset, hks⟩ := his2.set (ad := G) rfl (j := k) κ v s (by omega)
    have htr := take_rep_step (z := nd0) hn_h.out
    rw [← HM.out] at htr
    rw [htr] at hset
    have hb3 := below_keeps (below_trans hb hb2 hb.size) hks (Nat.le_trans hb.size hb2.size) (fun b hb => by simp at hb; omega)
    have his2_h := lH his2; have hset_h := lH hset; have hks_h := lH hks; have htr_h := lH htr; have hb3_h := lH hb3; have hb2_h := lH hb2; clear his2 hset hks htr hb3 hb2; clear his_h hlen hG' d0 d1 d2
    go_wp2_with (fail)
    go_roundw
    case rel => exact ⟨k + 1, by omega, by go_num, hset_h.out, hb3_h.out⟩
    case measure => simp [intOf]; omega
  · obtain rfl : k = m := by omega
    have hfin : NS wr (some G) k l := by rw [List.take_of_length_le (by rw [← HM.out]; omega), Nat.sub_self] at his; simpa using his
    have his_h := lH his; have hfin_h := lH hfin; clear his hfin; clear h
    go_wp2_with (fail)
    go_ret
    exact ⟨some G, k, ret_sl HM.out, hfin_h.out, fun b hb => by simp at hb; subst hb; exact hG, hb⟩
set_option maxHeartbeats 400000 in
theorem eqNode_any (k v : Int) (s : ByteArray) (k' v' : Int) (s' : ByteArray) (w : World) :
  Calls Tryz.prog 96 #[.agg #[.int .i64 k, .int .i64 v, .string s], .agg #[.int .i64 k', .int .i64 v', .string s']] w fun e w' => ∃ b, e = .returned (.bool b) ∧ (b = true ↔ ((k, v, s) : Nd) = (k', v', s')) ∧ Below w.heap.size w w' := by
 have hB := ((Below.refl w.heap.size w).alloc (Nat.le_refl _) (.cells #[.int .i64 k, .int .i64 v, .string s] tNd)).alloc (by simp) (.cells #[.int .i64 k', .int .i64 v', .string s'] tNd)
 have hB_h := lH hB; clear hB
 go_enter Tryz.func96, Tryz.ntmps96
 go_wp2_with (fail)
 · have hk : k ≠ k' := by simpa using (‹(k != k') = true›)
   go_ret
   exact ⟨_, rfl, by simp [hk], hB_h.out⟩
 · have hk : v ≠ v' := by simpa using (‹(v != v') = true›)
   go_ret
   exact ⟨_, rfl, by simp [hk], hB_h.out⟩
 · have hk : ¬ s.toList = s'.toList := by simpa using (‹(!s.toList == s'.toList) = true›)
   have hs : ¬ s = s' := fun e => hk (by rw [e])
   go_ret
   exact ⟨_, rfl, by simp [hs], hB_h.out⟩
 · have hk : k = k' := by simpa using (‹(k != k') = false›)
   have hv : v = v' := by simpa using (‹(v != v') = false›)
   have hs : s = s' := bytes_ext (by simpa using (‹(!s.toList == s'.toList) = false›))
   go_ret
   exact ⟨_, rfl, by simp [hk, hv, hs], hB_h.out⟩
end Go.Proofs.YtahnhblodfdfhaaGreatDoor
