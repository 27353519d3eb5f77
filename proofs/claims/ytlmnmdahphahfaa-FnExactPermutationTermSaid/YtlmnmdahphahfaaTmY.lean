/-
  THE WALK: impl.typed.
-/
import Derived.Test.YtlmnmdahphahfaaTmJ
import Derived.Test.YtlmnmdahphahfaaTmN
import Derived.Deep.DeepCutAuto
namespace Go.Proofs.Ytlmnmdahphahfaa
open Go.RowKit

theorem info_wires : (Try.prog.info? tWires).map (fun i => (i.zero, i.size, i.bytes)) = some (some (.agg #[.int .i64 0, .int .i64 0]), 2, 16) := by kernel_rfl
/-- The types of a stack, the bottom first. -/
def wcs : List Tr → List Value
  | [] => []
  | t :: r => wcs r ++ [.int .i64 (ty t).1, .int .i64 (ty t).2]
theorem wcs_length : ∀ st : List Tr, (wcs st).length = st.length * 2
  | [] => rfl
  | t :: r => by simp only [wcs, List.length_append, wcs_length r, List.length_cons, List.length_nil]; omega
theorem wcs_top (t : Tr) (r : List Tr) : (wcs (t :: r))[r.length * 2]? = some (.int .i64 (ty t).1) ∧ (wcs (t :: r))[r.length * 2 + 1]? = some (.int .i64 (ty t).2) := by
  have := wcs_length r
  simp only [wcs]
  rw [List.getElem?_append_right (by omega), List.getElem?_append_right (by omega), this, Nat.sub_self, Nat.add_sub_cancel_left]
  exact ⟨rfl, rfl⟩
theorem wcs_top2 (b a : Tr) (r : List Tr) : (wcs (b :: a :: r))[r.length * 2]? = some (.int .i64 (ty a).1) ∧ (wcs (b :: a :: r))[r.length * 2 + 1]? = some (.int .i64 (ty a).2) := by
  have := wcs_length (a :: r)
  simp only [List.length_cons] at this
  obtain ⟨h1, h2⟩ := wcs_top a r
  show (wcs (a :: r) ++ _)[_]? = _ ∧ (wcs (a :: r) ++ _)[_]? = _
  rw [List.getElem?_append_left (by omega), List.getElem?_append_left (by omega)]
  exact ⟨h1, h2⟩

/-- What typed answers. -/
def TyA (l : List Nd) (w : World) (e : Ending) (w' : World) : Prop :=
  ∃ (i o : Int) (b : Bool), e = .returned (.tuple #[.agg #[.int .i64 i, .int .i64 o], .bool b]) ∧ b = (treeM l).isSome ∧ (∀ t, treeM l = some t → (i, o) = ty t) ∧ Below w.heap.size w w'
/-- What holds at each round's head. -/
structure TyR (B : Nat) (w : World) (l : List Nd) (k : Nat) (st : List Tr) (A1 : Option Addr) (c1 : Nat) (wr : World) : Prop where
  par : parse [] (l.take k) = some st
  sl : Sl wr tWires 2 A1 st.length c1 (wcs st)
  fr : ∀ b, b ∈ fpA A1 → B + 1 ≤ b
  box : wr.heap[B]? = some (.cells #[.int .i64 0, .int .i64 0] tWires)
  bel : Below B w wr
theorem TyR.below {B : Nat} {w wr w1 : World} {l : List Nd} {k : Nat} {st : List Tr} {A1 : Option Addr} {c1 : Nat} (h : TyR B w l k st A1 c1 wr) (hb : Below wr.heap.size wr w1) : TyR B w l k st A1 c1 w1 :=
  ⟨h.par, h.sl.below hb, h.fr, box_below h.box hb, below_trans h.bel hb (Nat.le_of_lt (box_lt h.box))⟩
theorem TyR.push {B : Nat} {w X w2 : World} {l : List Nd} {k : Nat} {t : Tr} {r : List Tr} {A1 A2 : Option Addr} {c2 n2 : Nat} {i o : Int} (hbel : Below B w X) (hbox : X.heap[B]? = some (.cells #[.int .i64 0, .int .i64 0] tWires)) (hfr : ∀ b, b ∈ fpA A1 → B + 1 ≤ b)
    (hp : parse [] (l.take (k + 1)) = some (t :: r)) (hn : n2 = r.length) (hio : (i, o) = ty t) (hs : Sl w2 tWires 2 A2 (n2 + 1) c2 (wcs r ++ [.int .i64 i, .int .i64 o])) (hA : ∀ b, b ∈ fpA A2 → b ∈ fpA A1 ∨ X.heap.size ≤ b) (hk : Keeps (· ∈ fpA A1) X w2) : TyR B w l (k + 1) (t :: r) A2 c2 w2 := by
  have hB := box_lt hbox
  refine ⟨hp, ?_, fun b hb => ?_, box_keeps hbox hk (fun h => by have := hfr _ h; omega), below_keeps hbel hk (Nat.le_of_lt hB) (fun b hb => by have := hfr b hb; omega)⟩
  · simp only [wcs, List.length_cons, ← hio, ← hn]; exact hs
  · rcases hA b hb with h | h
    · exact hfr b h
    · omega
theorem TyTop {W1 : World} {A1 : Option Addr} {c1 q n : Nat} {a b : Tr} {r : List Tr} (hs : Sl W1 tWires 2 A1 n c1 (wcs (b :: a :: r))) (hq : r.length = q) : ∃ ad1, A1 = some ad1 ∧ ad1.block < W1.heap.size ∧
    W1.cell? (ad1.add (q * 2)) = some (.int .i64 (ty a).1) ∧ W1.cell? ⟨(ad1.add (q * 2)).block, (ad1.add (q * 2)).off + 1, none⟩ = some (.int .i64 (ty a).2) ∧
    W1.cell? (ad1.add ((q + 1) * 2)) = some (.int .i64 (ty b).1) ∧ W1.cell? ⟨(ad1.add ((q + 1) * 2)).block, (ad1.add ((q + 1) * 2)).off + 1, none⟩ = some (.int .i64 (ty b).2) := by
  obtain ⟨h1, h2⟩ := wcs_top2 b a r
  obtain ⟨h3, h4⟩ := wcs_top b (a :: r)
  rw [List.length_cons] at h3 h4
  rw [hq] at h1 h2 h3 h4
  obtain ⟨ad, hA, hb, c0, _⟩ := Sl.cell hs h1
  obtain ⟨ad', hA', _, c1, _⟩ := Sl.cell hs h2
  obtain ⟨ad2, hA2, _, c2, _⟩ := Sl.cell hs h3
  obtain ⟨ad3, hA3, _, c3, _⟩ := Sl.cell hs h4
  rw [hA] at hA' hA2 hA3
  obtain rfl := Option.some.inj hA'
  obtain rfl := Option.some.inj hA2
  obtain rfl := Option.some.inj hA3
  rw [add_next _ _ 1 (by omega)] at c1 c3
  exact ⟨_, hA, hb, c0, c1, c2, c3⟩
theorem TyTop2 {W1 : World} {ad1 : Addr} {c1 q n : Nat} {a b : Tr} {r : List Tr} (hs : Sl W1 tWires 2 (some ad1) n c1 (wcs (b :: a :: r))) (hq : r.length = q) :
    W1.cell? (ad1.add (q * 2)) = some (.int .i64 (ty a).1) ∧ W1.cell? ⟨(ad1.add (q * 2)).block, (ad1.add (q * 2)).off + 1, none⟩ = some (.int .i64 (ty a).2) ∧
    W1.cell? (ad1.add ((q + 1) * 2)) = some (.int .i64 (ty b).1) ∧ W1.cell? ⟨(ad1.add ((q + 1) * 2)).block, (ad1.add ((q + 1) * 2)).off + 1, none⟩ = some (.int .i64 (ty b).2) := by
  obtain ⟨x, hx, _, h⟩ := TyTop hs hq
  obtain rfl := Option.some.inj hx
  exact h
theorem Sl.take {w : World} {e : TypeId} {sz n cap : Nat} {A : Option Addr} {xs : List Value} (h : Sl w e sz A n cap xs) {k : Nat} (hk : k ≤ n) : Sl w e sz A k cap (xs.take (k * sz)) := by
  obtain ⟨h1, h2, h3, h4⟩ := h
  have hm := Nat.mul_le_mul_right sz hk
  refine ⟨by rw [List.length_take, h1]; omega, by omega, h3, ?_⟩
  rcases h4 with h4 | ⟨g, off, cur, ha, hg, hc, ht⟩
  · exact .inl h4
  · exact .inr ⟨g, off, cur, ha, hg, hc, by rw [← ht, List.take_take]; congr 1; omega⟩
theorem wcs_take (a b : Tr) (r : List Tr) {q : Nat} (hq : r.length = q) : (wcs (b :: a :: r)).take (q * 2) = wcs r := by
  have := wcs_length r
  simp only [wcs, List.append_assoc]
  rw [List.take_append_of_le_length (by omega), List.take_of_length_le (by omega)]
theorem wcs_bot : ∀ {st : List Tr}, st ≠ [] → ∃ i o : Int, (wcs st)[0]? = some (.int .i64 i) ∧ (wcs st)[1]? = some (.int .i64 o) ∧ ∀ t, st = [t] → (i, o) = ty t
  | [], h => absurd rfl h
  | [t], _ => ⟨(ty t).1, (ty t).2, rfl, rfl, fun t' e => by obtain rfl := (List.cons.inj e).1; rfl⟩
  | b :: a :: r, _ => by
    obtain ⟨i, o, h1, h2, _⟩ := wcs_bot (st := a :: r) (by simp)
    refine ⟨i, o, ?_, ?_, fun t e => by cases e⟩
    · show (wcs (a :: r) ++ _)[0]? = _
      rw [List.getElem?_append_left (List.getElem?_eq_some_iff.1 h1).1]; exact h1
    · show (wcs (a :: r) ++ _)[1]? = _
      rw [List.getElem?_append_left (List.getElem?_eq_some_iff.1 h2).1]; exact h2
theorem TyA.no {l : List Nd} {w w' : World} {i o : Int} (hN : treeM l = none) (hb : Below w.heap.size w w') : TyA l w (.returned (.tuple #[.agg #[.int .i64 i, .int .i64 o], .bool false])) w' :=
  ⟨i, o, false, rfl, by rw [hN]; rfl, fun t ht => (by rw [hN] at ht; cases ht), hb⟩

set_option maxRecDepth 8000 in
set_option maxHeartbeats 8000000 in
theorem typed_any (A : Option Addr) (c : Nat) (l : List Nd) (w : World) (h : RdN w A l) :
    Calls Try.prog 77 #[.slice A l.length c, .func (.func 78) #[] #[]] w (TyA l w) := by
  by_cases hl : 1 ≤ l.length ∧ l.length ≤ 400
  case neg =>
    have hb : inB (l.length : Int) 1 400 = false := by simp [inB]; omega
    have hw := within_any (l.length : Int) 1 400 (w.alloc (.cells #[.int .i64 0, .int .i64 0] tWires))
    rw [hb] at hw
    have hN : treeM l = none := by unfold treeM; rw [if_neg hl]
    have hw_h := Lib.hid hw
    have hN_h := Lib.hid hN
    clear hw hN
    clear hb hl h
    go_enter Try.func77, Try.ntmps77
    go_wp2_with (fail)
    refine (hw_h.out).mono ?_
    rintro e w' ⟨rfl, rfl⟩
    go_wp2_with (fail)
    refine bodyPost_ret (v := .tuple #[.agg #[.int .i64 0, .int .i64 0], .bool false]) (by simp [results, Try.results77, go_sem]) rfl ⟨_, _, _, rfl, by rw [hN_h.out]; rfl, fun t ht => (by rw [hN_h.out] at ht; cases ht), below_alloc _ _⟩
  case pos =>
    have hb : inB (l.length : Int) 1 400 = true := by simp [inB]; omega
    have hw := within_any (l.length : Int) 1 400 (w.alloc (.cells #[.int .i64 0, .int .i64 0] tWires))
    rw [hb] at hw
    obtain ⟨W, hW⟩ : ∃ W, W = (w.alloc (.cells #[.int .i64 0, .int .i64 0] tWires)).alloc (.cells #[] tWires) := ⟨_, rfl⟩
    obtain ⟨b0, k0, k1, hz⟩ := two_boxes w (.cells #[.int .i64 0, .int .i64 0] tWires) (.cells #[] tWires)
    have hsl0 := Sl.laid (w.alloc (.cells #[.int .i64 0, .int .i64 0] tWires)) tWires 2 0 #[] (by unfold maxLen; omega) rfl
    simp only [World.size_alloc] at hsl0
    rw [← hW] at b0 k0 k1 hz hsl0
    have hR0 : TyR w.heap.size w l 0 [] (some ⟨w.heap.size + 1, 0, none⟩) 0 W := ⟨by simp [parse], by simpa [wcs] using hsl0, fun b hb => by simp at hb; omega, k0, b0⟩
    obtain ⟨m, hm⟩ : ∃ m, m = l.length := ⟨_, rfl⟩
    rw [← hm] at hw hl ⊢
    have hw_h := Lib.hid hw
    have hR0_h := Lib.hid hR0
    have hm_h := Lib.hid hm
    clear hw hR0 hm
    clear hb b0 k0 k1 hz hsl0
    go_enter Try.func77, Try.ntmps77
    go_wp2_with (fail)
    refine (hw_h.out).mono ?_
    rintro e w' ⟨rfl, rfl⟩
    go_wp2_with (fail)
    rw [← hW]
    clear hW
    go_loopw [6, 22] (fun sv iv wr => ∃ (k : Nat) (st : List Tr) (A1 : Option Addr) (c1 n1 : Nat), k ≤ m ∧ iv = .int .i64 k ∧ sv = .slice A1 n1 c1 ∧ n1 = st.length ∧ n1 ≤ k ∧ TyR w.heap.size w l k st A1 c1 wr) (fun _ iv _ => m - (intOf iv).toNat)
    case atStart => exact ⟨0, [], _, 0, 0, Nat.zero_le _, rfl, rfl, rfl, Nat.le_refl _, hR0_h.out⟩
    case round =>
      obtain ⟨k, st, A1, c1, n1, hk, rfl, rfl, hn1, hnk, hR⟩ := hrel
      clear hR0_h hw_h
      by_cases hlt : k < m
      · have hwl : w.heap.size ≤ wr.heap.size := hR.bel.size
        obtain ⟨ad, κ, v, s, rfl, hn, d0, d1, d2⟩ := (h.below hR.bel).at_ (j := k) (by rw [← hm_h.out]; exact hlt)
        have hkI : (k : Int) < (m : Int) := by omega
        have hR_h := Lib.hid hR
        have hn_h := Lib.hid hn
        have hn1_h := Lib.hid hn1
        clear hR hn hn1
        clear h
        by_cases hj : κ = 15 ∨ κ = 16
        · obtain ⟨p0, p, hpp, hp⟩ : ∃ p0 p, p = p0 ∧ κ = kd p0 := by
            rcases hj with h | h
            · exact ⟨false, false, rfl, h⟩
            · exact ⟨true, true, rfl, h⟩
          have e15 : (κ != 15) = p := by rw [hp, hpp]; cases p0 <;> rfl
          have e16 : (κ != 16) = !p := by rw [hp, hpp]; cases p0 <;> rfl
          have hJ : ∀ (ai ao bi bo : Int) (W : World), 0 ≤ ai ∧ ai ≤ 12 → 0 ≤ ao ∧ ao ≤ 12 → 0 ≤ bi ∧ bi ≤ 12 → 0 ≤ bo ∧ bo ≤ 12 →
              Calls Try.prog 103 #[.int .i64 κ, .agg #[.int .i64 ai, .int .i64 ao], .agg #[.int .i64 bi, .int .i64 bo]] W (JnA p0 (ai, ao) (bi, bo) W) := by
            rw [hp]; exact joinWires_any p0
          have hx := hR_h.out.box
          have hxl := box_lt hx
          obtain ⟨⟨c00, c01⟩, f0, f1⟩ := box2 hx
          obtain ⟨s0, s2⟩ := set2 (a := .int .i64 0) (b := .int .i64 0) hx
          have s1 := box_below s0 (below_alloc _ (.cells #[.int .i64 κ, .int .i64 v, .string s] 69))
          have hB2 := below_trans (below_keeps hR_h.out.bel s2 (by omega) (fun k hk => by omega)) (below_alloc _ (.cells #[.int .i64 κ, .int .i64 v, .string s] 69)) (Nat.le_trans (by omega) s2.size)
          have hji : isJoin (κ, v, s) := hj
          have hNo := fun hh => parse_none hR_h.out.par hn_h.out (step_none (st := st) hji hh)
          have s1_h := Lib.hid s1
          have s2_h := Lib.hid s2
          have hB2_h := Lib.hid hB2
          have hNo_h := Lib.hid hNo
          have hji_h := Lib.hid hji
          have hx_h := Lib.hid hx
          have hp_h := Lib.hid hp
          have hJ_h := Lib.hid hJ
          clear s1 s2 hB2 hNo hji hx hp hJ
          clear s0 hj hpp
          cases p
          · simp only [Bool.not_false] at e16
            go_wp2_with (fail)
            · have h0 : (n1 : Int) < 2 := ‹_›
              have hv : v = 0 := ‹_›
              subst hv
              have hN := hNo_h.out (.inr (.inr (by rw [← hn1_h.out]; omega)))
              refine bodyPost_ret (results_cell_tmp rfl _ _ w.heap.size _ _ (0, 0) _ rfl s1_h.out Try.underlying54 rfl (by kernel_rfl)) rfl ?_
              exact TyA.no hN hB2_h.out
            · have hv : v = 0 := ‹_›
              have hs' := name_eq ‹s.toList = []›
              have h2 : 2 ≤ (n1 : Int) := ‹_›
              subst hv hs'
              obtain ⟨q, rfl⟩ : ∃ q, n1 = q + 2 := ⟨n1 - 2, by omega⟩
              obtain ⟨b, a, r, rfl, hq⟩ := two_of hn1_h.out
              rw [show (((q + 2 : Nat) : Int) - 1) = ((q + 1 : Nat) : Int) by omega]
              clear c00 c01 f0 f1
              go_cut [12, 13] (fun s12 s13 wx => ∃ (G : Nat) (c' : Bool), s12 = .pointer (some ⟨G, 0, none⟩) ∧ s13 = .bool c' ∧ c' = joinB p0 (ty a) (ty b) ∧ wx.heap[G]? = some (.cells #[.int .i64 (joinTy p0 (ty a) (ty b)).1, .int .i64 (joinTy p0 (ty a) (ty b)).2] tWires) ∧ wr.heap.size ≤ G ∧ Below wr.heap.size wr wx)
              case first =>
                refine beginB (by kernel_rfl) (fun W1 hW1 => ?_)
                have hb1 : Below wr.heap.size wr W1 := by rw [hW1]; exact below_drew (below_alloc _ _)
                have hN : W1.heap[wr.heap.size]? = some (.cells #[.int .i64 κ, .int .i64 0, .string noName] 69) := by rw [hW1]; exact heap_alloc_new wr _
                have hR1 := hR_h.out.below hb1
                obtain ⟨ad1, hA1, hlt1, -⟩ := TyTop hR1.sl hq
                subst hA1
                obtain ⟨hwb, hwa, -⟩ := (parse_spec _ hR1.par trivial).1
                have fa := wt_fit hwa
                have fb := wt_fit hwb
                have hC := fun W => hJ_h.out (ty a).1 (ty a).2 (ty b).1 (ty b).2 W ⟨fa.1, fa.2.1⟩ ⟨fa.2.2.1, fa.2.2.2⟩ ⟨fb.1, fb.2.1⟩ ⟨fb.2.2.1, fb.2.2.2⟩
                clear hW1 s1_h s2_h hB2_h hNo_h hx_h fa fb hwa hwb
                have hb1_h := Lib.hid hb1
                have hN_h := Lib.hid hN
                have hR1_h := Lib.hid hR1
                have hq_h := Lib.hid hq
                have hC_h := Lib.hid hC
                clear hb1 hN hR1 hq hC
                refine takeH 0 (v := ?_) rfl (by kernel_rfl) (by kernel_rfl) (by kernel_rfl) (fun _ _ _ h => h) (Below.refl _ _) (by rfl) (fun W' hW' => ?_) ?_; rotate_left; · (obtain ⟨⟨c0, c1, c2⟩, f0, f1, f2⟩ := box3 (box_below hN_h.out hW'); obtain ⟨d0, d1, d2, d3⟩ := TyTop2 (hR1_h.out.sl.below hW') hq_h.out; have r0 : IntKind.i64.wrap (q : Int) = (q : Int) := IntWalk.i64_in _ (by omega); have r2 : (0 : Int) ≤ (q : Int) + 1 := (by omega); have r3 : (q : Int) < (q : Int) + 2 := (by omega); have r4 : (q : Int) + 1 < (q : Int) + 2 := (by omega); clear hW'; go_simp; first | done | with_reducible rfl)
                simp only [Act.put, List.setIfInBounds_toArray, List.set_cons_zero, List.set_cons_succ]
                refine takeH 1 (v := ?_) rfl (by kernel_rfl) (by kernel_rfl) (by kernel_rfl) (fun _ _ _ h => h) (Below.refl _ _) (by rfl) (fun W' hW' => ?_) ?_; rotate_left; · (obtain ⟨⟨c0, c1, c2⟩, f0, f1, f2⟩ := box3 (box_below hN_h.out hW'); obtain ⟨d0, d1, d2, d3⟩ := TyTop2 (hR1_h.out.sl.below hW') hq_h.out; have r0 : IntKind.i64.wrap (q : Int) = (q : Int) := IntWalk.i64_in _ (by omega); have r2 : (0 : Int) ≤ (q : Int) + 1 := (by omega); have r3 : (q : Int) < (q : Int) + 2 := (by omega); have r4 : (q : Int) + 1 < (q : Int) + 2 := (by omega); clear hW'; go_simp; first | done | with_reducible rfl)
                simp only [Act.put, List.setIfInBounds_toArray, List.set_cons_zero, List.set_cons_succ]
                refine takeH 2 (v := ?_) rfl (by kernel_rfl) (by kernel_rfl) (by kernel_rfl) (fun _ _ _ h => h) (Below.refl _ _) (by rfl) (fun W' hW' => ?_) ?_; rotate_left; · (obtain ⟨⟨c0, c1, c2⟩, f0, f1, f2⟩ := box3 (box_below hN_h.out hW'); obtain ⟨d0, d1, d2, d3⟩ := TyTop2 (hR1_h.out.sl.below hW') hq_h.out; have r0 : IntKind.i64.wrap (q : Int) = (q : Int) := IntWalk.i64_in _ (by omega); have r2 : (0 : Int) ≤ (q : Int) + 1 := (by omega); have r3 : (q : Int) < (q : Int) + 2 := (by omega); have r4 : (q : Int) + 1 < (q : Int) + 2 := (by omega); clear hW'; go_simp; first | done | with_reducible rfl)
                simp only [Act.put, List.setIfInBounds_toArray, List.set_cons_zero, List.set_cons_succ]
                refine takeH 3 (v := ?_) rfl (by kernel_rfl) (by kernel_rfl) (by kernel_rfl) (fun _ _ _ h => h) (Below.refl _ _) (by rfl) (fun W' hW' => ?_) ?_; rotate_left; · (obtain ⟨⟨c0, c1, c2⟩, f0, f1, f2⟩ := box3 (box_below hN_h.out hW'); obtain ⟨d0, d1, d2, d3⟩ := TyTop2 (hR1_h.out.sl.below hW') hq_h.out; have r0 : IntKind.i64.wrap (q : Int) = (q : Int) := IntWalk.i64_in _ (by omega); have r2 : (0 : Int) ≤ (q : Int) + 1 := (by omega); have r3 : (q : Int) < (q : Int) + 2 := (by omega); have r4 : (q : Int) + 1 < (q : Int) + 2 := (by omega); clear hW'; go_simp; first | done | with_reducible rfl)
                simp only [Act.put, List.setIfInBounds_toArray, List.set_cons_zero, List.set_cons_succ]
                refine takeH 4 (v := ?_) rfl (by kernel_rfl) (by kernel_rfl) (by kernel_rfl) (fun _ _ _ h => h) (Below.refl _ _) (by rfl) (fun W' hW' => ?_) ?_; rotate_left; · (obtain ⟨⟨c0, c1, c2⟩, f0, f1, f2⟩ := box3 (box_below hN_h.out hW'); obtain ⟨d0, d1, d2, d3⟩ := TyTop2 (hR1_h.out.sl.below hW') hq_h.out; have r0 : IntKind.i64.wrap (q : Int) = (q : Int) := IntWalk.i64_in _ (by omega); have r2 : (0 : Int) ≤ (q : Int) + 1 := (by omega); have r3 : (q : Int) < (q : Int) + 2 := (by omega); have r4 : (q : Int) + 1 < (q : Int) + 2 := (by omega); clear hW'; go_simp; first | done | with_reducible rfl)
                simp only [Act.put, List.setIfInBounds_toArray, List.set_cons_zero, List.set_cons_succ]
                refine takeH 5 (v := ?_) rfl (by kernel_rfl) (by kernel_rfl) (by kernel_rfl) (fun _ _ _ h => h) (Below.refl _ _) (by rfl) (fun W' hW' => ?_) ?_; rotate_left; · (obtain ⟨⟨c0, c1, c2⟩, f0, f1, f2⟩ := box3 (box_below hN_h.out hW'); obtain ⟨d0, d1, d2, d3⟩ := TyTop2 (hR1_h.out.sl.below hW') hq_h.out; have r0 : IntKind.i64.wrap (q : Int) = (q : Int) := IntWalk.i64_in _ (by omega); have r2 : (0 : Int) ≤ (q : Int) + 1 := (by omega); have r3 : (q : Int) < (q : Int) + 2 := (by omega); have r4 : (q : Int) + 1 < (q : Int) + 2 := (by omega); clear hW'; go_simp; first | done | with_reducible rfl)
                simp only [Act.put, List.setIfInBounds_toArray, List.set_cons_zero, List.set_cons_succ]
                refine takeH 6 (v := ?_) rfl (by kernel_rfl) (by kernel_rfl) (by kernel_rfl) (fun _ _ _ h => h) (Below.refl _ _) (by rfl) (fun W' hW' => ?_) ?_; rotate_left; · (obtain ⟨⟨c0, c1, c2⟩, f0, f1, f2⟩ := box3 (box_below hN_h.out hW'); obtain ⟨d0, d1, d2, d3⟩ := TyTop2 (hR1_h.out.sl.below hW') hq_h.out; have r0 : IntKind.i64.wrap (q : Int) = (q : Int) := IntWalk.i64_in _ (by omega); have r2 : (0 : Int) ≤ (q : Int) + 1 := (by omega); have r3 : (q : Int) < (q : Int) + 2 := (by omega); have r4 : (q : Int) + 1 < (q : Int) + 2 := (by omega); clear hW'; go_simp; first | done | with_reducible rfl)
                simp only [Act.put, List.setIfInBounds_toArray, List.set_cons_zero, List.set_cons_succ]
                refine takeH 7 (v := ?_) rfl (by kernel_rfl) (by kernel_rfl) (by kernel_rfl) (fun _ _ _ h => h) (Below.refl _ _) (by rfl) (fun W' hW' => ?_) ?_; rotate_left; · (obtain ⟨⟨c0, c1, c2⟩, f0, f1, f2⟩ := box3 (box_below hN_h.out hW'); obtain ⟨d0, d1, d2, d3⟩ := TyTop2 (hR1_h.out.sl.below hW') hq_h.out; have r0 : IntKind.i64.wrap (q : Int) = (q : Int) := IntWalk.i64_in _ (by omega); have r2 : (0 : Int) ≤ (q : Int) + 1 := (by omega); have r3 : (q : Int) < (q : Int) + 2 := (by omega); have r4 : (q : Int) + 1 < (q : Int) + 2 := (by omega); clear hW'; go_simp; first | done | with_reducible rfl)
                simp only [Act.put, List.setIfInBounds_toArray, List.set_cons_zero, List.set_cons_succ]
                refine takeH 8 (v := ?_) rfl (by kernel_rfl) (by kernel_rfl) (by kernel_rfl) (fun _ _ _ h => h) (Below.refl _ _) (by rfl) (fun W' hW' => ?_) ?_; rotate_left; · (obtain ⟨⟨c0, c1, c2⟩, f0, f1, f2⟩ := box3 (box_below hN_h.out hW'); obtain ⟨d0, d1, d2, d3⟩ := TyTop2 (hR1_h.out.sl.below hW') hq_h.out; have r0 : IntKind.i64.wrap (q : Int) = (q : Int) := IntWalk.i64_in _ (by omega); have r2 : (0 : Int) ≤ (q : Int) + 1 := (by omega); have r3 : (q : Int) < (q : Int) + 2 := (by omega); have r4 : (q : Int) + 1 < (q : Int) + 2 := (by omega); clear hW'; go_simp; first | done | with_reducible rfl)
                simp only [Act.put, List.setIfInBounds_toArray, List.set_cons_zero, List.set_cons_succ]
                refine takeH 9 (v := ?_) rfl (by kernel_rfl) (by kernel_rfl) (by kernel_rfl) (fun _ _ _ h => h) (Below.refl _ _) (by rfl) (fun W' hW' => ?_) ?_; rotate_left; · (obtain ⟨⟨c0, c1, c2⟩, f0, f1, f2⟩ := box3 (box_below hN_h.out hW'); obtain ⟨d0, d1, d2, d3⟩ := TyTop2 (hR1_h.out.sl.below hW') hq_h.out; have r0 : IntKind.i64.wrap (q : Int) = (q : Int) := IntWalk.i64_in _ (by omega); have r2 : (0 : Int) ≤ (q : Int) + 1 := (by omega); have r3 : (q : Int) < (q : Int) + 2 := (by omega); have r4 : (q : Int) + 1 < (q : Int) + 2 := (by omega); clear hW'; go_simp; first | done | with_reducible rfl)
                simp only [Act.put, List.setIfInBounds_toArray, List.set_cons_zero, List.set_cons_succ]
                refine takeH 10 (v := ?_) rfl (by kernel_rfl) (by kernel_rfl) (by kernel_rfl) (fun _ _ _ h => h) (Below.refl _ _) (by rfl) (fun W' hW' => ?_) ?_; rotate_left; · (obtain ⟨⟨c0, c1, c2⟩, f0, f1, f2⟩ := box3 (box_below hN_h.out hW'); obtain ⟨d0, d1, d2, d3⟩ := TyTop2 (hR1_h.out.sl.below hW') hq_h.out; have r0 : IntKind.i64.wrap (q : Int) = (q : Int) := IntWalk.i64_in _ (by omega); have r2 : (0 : Int) ≤ (q : Int) + 1 := (by omega); have r3 : (q : Int) < (q : Int) + 2 := (by omega); have r4 : (q : Int) + 1 < (q : Int) + 2 := (by omega); clear hW'; go_simp; first | done | with_reducible rfl)
                simp only [Act.put, List.setIfInBounds_toArray, List.set_cons_zero, List.set_cons_succ]
                refine callOrH 11 15 (f := ?f1) (args := ?args1) (vj := ?vj1) (wj := ?wj1) rfl rfl (by kernel_rfl) (by rfl) (by rfl) ?hrun1 ?hrunj1 ?h11 ?hSj1 ?h21
                case hrun1 => (go_simp; first | done | with_reducible rfl | (constructor <;> with_reducible rfl))
                case hrunj1 => (go_simp; first | done | with_reducible rfl | (constructor <;> with_reducible rfl))
                case hSj1 => exact ((below_alloc _ _))
                case h11 =>
                  refine (hC_h.out W1).mono ?_
                  rintro e w2 ⟨c', rfl, hc', hb2⟩
                  have hbx := hb1_h.out.trans (hb2.mono hb1_h.out.size)
                  have hkx := heap_alloc_new w2 (.cells #[.int .i64 (joinTy p0 (ty a) (ty b)).1, .int .i64 (joinTy p0 (ty a) (ty b)).2] tWires)
                  have hb3 := hbx.trans ((below_alloc w2 (.cells #[.int .i64 (joinTy p0 (ty a) (ty b)).1, .int .i64 (joinTy p0 (ty a) (ty b)).2] tWires)).mono hbx.size)
                  refine ⟨_, rfl, hb2, ?_⟩
                  have hc'_h := Lib.hid hc'
                  have hbx_h := Lib.hid hbx
                  have hkx_h := Lib.hid hkx
                  have hb3_h := Lib.hid hb3
                  clear hc' hbx hkx hb3
                  simp only [Act.put, List.setIfInBounds_toArray, List.set_cons_zero, List.set_cons_succ]
                  refine takeH 12 (v := ?_) rfl (by kernel_rfl) (by kernel_rfl) (by kernel_rfl) (fun _ _ _ h => h) hb2 (by rfl) (fun W' hW' => ?_) ?_; rotate_left; · (skip; clear hW'; go_simp; first | done | with_reducible rfl)
                  simp only [Act.put, List.setIfInBounds_toArray, List.set_cons_zero, List.set_cons_succ]
                  refine takeH 13 (v := ?_) rfl (by kernel_rfl) (by kernel_rfl) (by kernel_rfl) (fun _ _ _ h => h) hb2 (by rfl) (fun W' hW' => ?_) ?_; rotate_left; · (skip; clear hW'; go_simp; first | done | with_reducible rfl)
                  simp only [Act.put, List.setIfInBounds_toArray, List.set_cons_zero, List.set_cons_succ]
                  refine takeH 14 (v := ?_) rfl (by kernel_rfl) (by kernel_rfl) (by kernel_rfl) (fun _ _ _ h => h) hb2 (by rfl) (fun W' hW' => ?_) ?_; rotate_left; · (skip; clear hW'; go_simp; first | done | with_reducible rfl)
                  simp only [Act.put, List.setIfInBounds_toArray, List.set_cons_zero, List.set_cons_succ]
                  refine oneH 15 rfl (by kernel_rfl) (by rfl) (fun K hK => ?_)
                  go_simp
                  refine hK _ _ (hb2.trans ((below_alloc _ _).mono hb2.size)) ?_
                  clear hK K
                  refine oneH 16 rfl (by kernel_rfl) (by rfl) (fun K hK => ?_)
                  go_simp
                  refine hK _ _ (hb2.trans ((below_alloc _ _).mono hb2.size)) ?_
                  clear hK K
                  refine takeH 17 (v := ?_) rfl (by kernel_rfl) (by kernel_rfl) (by kernel_rfl) (fun _ _ _ h => h) (hb2.trans ((below_alloc _ _).mono hb2.size)) (by rfl) (fun W' hW' => ?_) ?_; rotate_left; · (skip; clear hW'; go_simp; first | done | with_reducible rfl)
                  simp only [Act.put, List.setIfInBounds_toArray, List.set_cons_zero, List.set_cons_succ]
                  refine doneH (by kernel_rfl) ?_
                  go_wp2_with (fail)
                  go_meet
                  exact ⟨_, c', rfl, rfl, hc'_h.out, hkx_h.out, hbx_h.out.size, hb3_h.out⟩
                case h21 =>
                  refine' callH 11 (f := _) (args := _) rfl (by kernel_rfl) (by rfl) ?_ ?_; rotate_left 2; · (go_simp; first | done | with_reducible rfl | (constructor <;> with_reducible rfl))
                  refine (hC_h.out _).mono ?_
                  rintro e w2 ⟨c', rfl, hc', hb2⟩
                  have hbs : Below W1.heap.size W1 w2 := (below_alloc W1 (.cells #[.int .i64 0, .int .i64 0] tWires)).trans (hb2.mono (by simp))
                  have hk := box_below (heap_alloc_new W1 (.cells #[.int .i64 0, .int .i64 0] tWires)) hb2
                  obtain ⟨s1, s2⟩ := set2 (a := .int .i64 (joinTy p0 (ty a) (ty b)).1) (b := .int .i64 (joinTy p0 (ty a) (ty b)).2) hk
                  have hbt := below_keeps hbs s2 hbs.size (fun k hk => by omega)
                  have hb3 := hb1_h.out.trans (hbt.mono hb1_h.out.size)
                  obtain ⟨⟨c0, c1⟩, f0, f1⟩ := box2 hk
                  refine ⟨_, rfl, hbs, ?_⟩
                  have hc'_h := Lib.hid hc'
                  have hbs_h := Lib.hid hbs
                  have hk_h := Lib.hid hk
                  have s1_h := Lib.hid s1
                  have s2_h := Lib.hid s2
                  have hbt_h := Lib.hid hbt
                  have hb3_h := Lib.hid hb3
                  have hb2_h := Lib.hid hb2
                  clear hc' hbs hk s1 s2 hbt hb3 hb2
                  simp only [Act.put, List.setIfInBounds_toArray, List.set_cons_zero, List.set_cons_succ]
                  refine takeH 12 (v := ?_) rfl (by kernel_rfl) (by kernel_rfl) (by kernel_rfl) (fun _ _ _ h => h) hbs_h.out (by rfl) (fun W' hW' => ?_) ?_; rotate_left; · (skip; clear hW'; go_simp; first | done | with_reducible rfl)
                  simp only [Act.put, List.setIfInBounds_toArray, List.set_cons_zero, List.set_cons_succ]
                  refine takeH 13 (v := ?_) rfl (by kernel_rfl) (by kernel_rfl) (by kernel_rfl) (fun _ _ _ h => h) hbs_h.out (by rfl) (fun W' hW' => ?_) ?_; rotate_left; · (skip; clear hW'; go_simp; first | done | with_reducible rfl)
                  simp only [Act.put, List.setIfInBounds_toArray, List.set_cons_zero, List.set_cons_succ]
                  refine takeH 14 (v := ?_) rfl (by kernel_rfl) (by kernel_rfl) (by kernel_rfl) (fun _ _ _ h => h) hbs_h.out (by rfl) (fun W' hW' => ?_) ?_; rotate_left; · (skip; clear hW'; go_simp; first | done | with_reducible rfl)
                  simp only [Act.put, List.setIfInBounds_toArray, List.set_cons_zero, List.set_cons_succ]
                  refine oneH 16 rfl (by kernel_rfl) (by rfl) (fun K hK => ?_)
                  go_simp
                  refine hK _ _ hbt_h.out ?_
                  clear hK K
                  refine takeH 17 (v := ?_) rfl (by kernel_rfl) (by kernel_rfl) (by kernel_rfl) (fun _ _ _ h => h) hbt_h.out (by rfl) (fun W' hW' => ?_) ?_; rotate_left; · (skip; clear hW'; go_simp; first | done | with_reducible rfl)
                  simp only [Act.put, List.setIfInBounds_toArray, List.set_cons_zero, List.set_cons_succ]
                  refine doneH (by kernel_rfl) ?_
                  go_wp2_with (fail)
                  go_meet
                  exact ⟨_, c', rfl, rfl, hc'_h.out, s1_h.out, hb1_h.out.size, hb3_h.out⟩
              case rest =>
                obtain ⟨G, c', rfl, rfl, hc', hG, hGz, hbc⟩ := hcut
                have hR2 := hR_h.out.below hbc
                obtain ⟨ad1, hA1, hlt1, -⟩ := TyTop hR_h.out.sl hq
                subst hA1
                have hjn : (κ, (0 : Int), noName) = joinNd p0 := by rw [hp_h.out]; rfl
                clear s1_h s2_h hB2_h hx_h hlt1
                cases c'
                · have hN := parse_none hR2.par hn_h.out (by rw [hjn, step_join, ← hc']; rfl)
                  have hx := hR2.box
                  have hxl := box_lt hx
                  obtain ⟨⟨c00, c01⟩, f0, f1⟩ := box2 hx
                  obtain ⟨s1, s2⟩ := set2 (a := .int .i64 0) (b := .int .i64 0) hx
                  have hB2 := below_keeps hR2.bel s2 (by omega) (fun k hk => by omega)
                  have hN_h := Lib.hid hN
                  have s1_h := Lib.hid s1
                  have s2_h := Lib.hid s2
                  have hB2_h := Lib.hid hB2
                  have hx_h := Lib.hid hx
                  have hR2_h := Lib.hid hR2
                  have hc'_h := Lib.hid hc'
                  have hG_h := Lib.hid hG
                  have hbc_h := Lib.hid hbc
                  have hjn_h := Lib.hid hjn
                  have hq_h := Lib.hid hq
                  clear hN s1 s2 hB2 hx hR2 hc' hG hbc hjn hq
                  go_wp2_with (fail)
                  refine bodyPost_ret (results_cell_tmp rfl _ _ w.heap.size _ _ (0, 0) _ rfl s1_h.out Try.underlying54 rfl (by kernel_rfl)) rfl ?_
                  exact TyA.no hN_h.out hB2_h.out
                · have hpm := parse_more hR2.par hn_h.out (by rw [hjn, step_join, ← hc']; rfl)
                  have hGne : ∀ b, b ∈ fpA (some ad1) → ¬ b = G := fun b hb e => by have := hR_h.out.sl.lt b hb; omega
                  have hR2_h := Lib.hid hR2
                  have hc'_h := Lib.hid hc'
                  have hbc_h := Lib.hid hbc
                  have hjn_h := Lib.hid hjn
                  have hq_h := Lib.hid hq
                  have hpm_h := Lib.hid hpm
                  have hG_h := Lib.hid hG
                  have hGne_h := Lib.hid hGne
                  clear hR2 hc' hbc hjn hq hpm hG hGne
                  go_wp2_with (fail)
                  refine beginH (fun w' => w'.heap[G]? = some (.cells #[.int .i64 (joinTy p0 (ty a) (ty b)).1, .int .i64 (joinTy p0 (ty a) (ty b)).2] tWires)) (by kernel_rfl) ?_
                  have hGd : wc.drew.heap[G]? = some (.cells #[.int .i64 (joinTy p0 (ty a) (ty b)).1, .int .i64 (joinTy p0 (ty a) (ty b)).2] tWires) := hG_h.out
                  have hR3 : TyR w.heap.size w l k (b :: a :: r) (some ad1) c1 wc.drew := hR2_h.out.below (below_drew (Below.refl _ _))
                  generalize wc.drew = W1 at hGd hR3 ⊢
                  have hW2 := below_alloc W1 (.cells #[.int .i64 (joinTy p0 (ty a) (ty b)).1, .int .i64 (joinTy p0 (ty a) (ty b)).2] tWires)
                  have hG2 := box_below hGd hW2
                  have hR4 := hR3.below hW2
                  have hSL : Sl (W1.alloc (.cells #[.int .i64 (joinTy p0 (ty a) (ty b)).1, .int .i64 (joinTy p0 (ty a) (ty b)).2] tWires)) tWires 2 (some ad1) q c1 (wcs r) := by
                    have := Sl.take hR4.sl (k := q) (by have := hq_h.out; simp only [List.length_cons]; omega)
                    rwa [wcs_take a b r hq_h.out] at this
                  have hcq : q + 2 ≤ c1 := by have := hR4.sl.2.1; have h2 := hq_h.out; simp only [List.length_cons] at this; omega
                  have hGd_h := Lib.hid hGd
                  have hR3_h := Lib.hid hR3
                  have hG2_h := Lib.hid hG2
                  have hR4_h := Lib.hid hR4
                  have hSL_h := Lib.hid hSL
                  have hW2_h := Lib.hid hW2
                  clear hGd hR3 hG2 hR4 hSL hW2
                  refine takeH 0 (v := ?_) rfl (by kernel_rfl) (by kernel_rfl) (by kernel_rfl) (fun _ _ _ h => h) hGd_h.out (by rfl) (fun W' hW' => ?_) ?_; rotate_left; · (obtain ⟨⟨d0, d1⟩, e0, e1⟩ := box2 hW'; have r0 : IntKind.i64.wrap (q : Int) = (q : Int) := IntWalk.i64_in _ (by omega); have r2 : (0 : Int) ≤ (q : Int) := (by omega); have r3 : (q : Int) ≤ (q : Int) + 2 := (by omega); have r4 : q ≤ c1 := (by omega); clear hW'; go_simp; first | done | with_reducible rfl)
                  simp only [Act.put, List.setIfInBounds_toArray, List.set_cons_zero, List.set_cons_succ]
                  refine takeH 1 (v := ?_) rfl (by kernel_rfl) (by kernel_rfl) (by kernel_rfl) (fun _ _ _ h => h) hGd_h.out (by rfl) (fun W' hW' => ?_) ?_; rotate_left; · (obtain ⟨⟨d0, d1⟩, e0, e1⟩ := box2 hW'; have r0 : IntKind.i64.wrap (q : Int) = (q : Int) := IntWalk.i64_in _ (by omega); have r2 : (0 : Int) ≤ (q : Int) := (by omega); have r3 : (q : Int) ≤ (q : Int) + 2 := (by omega); have r4 : q ≤ c1 := (by omega); clear hW'; go_simp; first | done | with_reducible rfl)
                  simp only [Act.put, List.setIfInBounds_toArray, List.set_cons_zero, List.set_cons_succ]
                  refine takeH 2 (v := ?_) rfl (by kernel_rfl) (by kernel_rfl) (by kernel_rfl) (fun _ _ _ h => h) hGd_h.out (by rfl) (fun W' hW' => ?_) ?_; rotate_left; · (obtain ⟨⟨d0, d1⟩, e0, e1⟩ := box2 hW'; have r0 : IntKind.i64.wrap (q : Int) = (q : Int) := IntWalk.i64_in _ (by omega); have r2 : (0 : Int) ≤ (q : Int) := (by omega); have r3 : (q : Int) ≤ (q : Int) + 2 := (by omega); have r4 : q ≤ c1 := (by omega); clear hW'; go_simp; first | done | with_reducible rfl)
                  simp only [Act.put, List.setIfInBounds_toArray, List.set_cons_zero, List.set_cons_succ]
                  refine takeH 3 (v := ?_) rfl (by kernel_rfl) (by kernel_rfl) (by kernel_rfl) (fun _ _ _ h => h) hGd_h.out (by rfl) (fun W' hW' => ?_) ?_; rotate_left; · (obtain ⟨⟨d0, d1⟩, e0, e1⟩ := box2 hW'; have r0 : IntKind.i64.wrap (q : Int) = (q : Int) := IntWalk.i64_in _ (by omega); have r2 : (0 : Int) ≤ (q : Int) := (by omega); have r3 : (q : Int) ≤ (q : Int) + 2 := (by omega); have r4 : q ≤ c1 := (by omega); clear hW'; go_simp; first | done | with_reducible rfl)
                  simp only [Act.put, List.setIfInBounds_toArray, List.set_cons_zero, List.set_cons_succ]
                  refine takeH 4 (v := ?_) rfl (by kernel_rfl) (by kernel_rfl) (by kernel_rfl) (fun _ _ _ h => h) hGd_h.out (by rfl) (fun W' hW' => ?_) ?_; rotate_left; · (obtain ⟨⟨d0, d1⟩, e0, e1⟩ := box2 hW'; have r0 : IntKind.i64.wrap (q : Int) = (q : Int) := IntWalk.i64_in _ (by omega); have r2 : (0 : Int) ≤ (q : Int) := (by omega); have r3 : (q : Int) ≤ (q : Int) + 2 := (by omega); have r4 : q ≤ c1 := (by omega); clear hW'; go_simp; first | done | with_reducible rfl)
                  simp only [Act.put, List.setIfInBounds_toArray, List.set_cons_zero, List.set_cons_succ]
                  refine oneH 5 rfl (by kernel_rfl) (by rfl) (fun K hK => ?_)
                  go_simp
                  refine hK _ _ hG2_h.out ?_
                  clear hK K
                  refine appH 6 rfl (by kernel_rfl) (by rfl) _ _ _ rfl tWires Try.underlying124 info_wires rfl (by omega) rfl hSL_h.out rfl (m := 1) rfl (Sl.rdc (Sl.laid W1 tWires 2 1 #[.int .i64 (joinTy p0 (ty a) (ty b)).1, .int .i64 (joinTy p0 (ty a) (ty b)).2] (by unfold maxLen; omega) rfl)) (by simp [Value.oneCell']) (by unfold maxLen; omega) (by omega) ?_
                  intro A2 c2 w2 hs2 hA2 hk2
                  have hG3 := box_keeps hG2_h.out hk2 (fun h => hGne_h.out _ h rfl)
                  refine ⟨hG3, ?_⟩
                  simp only [Act.put, List.setIfInBounds_toArray, List.set_cons_zero, List.set_cons_succ]
                  refine takeH 7 (v := ?_) rfl (by kernel_rfl) (by kernel_rfl) (by kernel_rfl) (fun _ _ _ h => h) hG3 (by rfl) (fun W' hW' => ?_) ?_; rotate_left; · (skip; clear hW'; go_simp; first | done | with_reducible rfl)
                  simp only [Act.put, List.setIfInBounds_toArray, List.set_cons_zero, List.set_cons_succ]
                  refine doneH (by kernel_rfl) ?_
                  go_wp2_with (fail)
                  go_roundw
                  case rel => exact ⟨k + 1, .node p0 a b :: r, A2, c2, q + 1, by omega, by go_num, rfl, by simp [hq_h.out], by omega, TyR.push hR4_h.out.bel hR4_h.out.box hR4_h.out.fr hpm_h.out hq_h.out.symm rfl hs2 hA2 hk2⟩
                  case measure => simp [intOf]; omega
            · have h0 := name_ne ‹_›
              have hv : v = 0 := ‹_›
              subst hv
              have hN := hNo_h.out (.inr (.inl h0))
              refine bodyPost_ret (results_cell_tmp rfl _ _ w.heap.size _ _ (0, 0) _ rfl s1_h.out Try.underlying54 rfl (by kernel_rfl)) rfl ?_
              exact TyA.no hN hB2_h.out
            · have h0 : v ≠ 0 := ‹_›
              have hN := hNo_h.out (.inl h0)
              refine bodyPost_ret (results_cell_tmp rfl _ _ w.heap.size _ _ (0, 0) _ rfl s1_h.out Try.underlying54 rfl (by kernel_rfl)) rfl ?_
              exact TyA.no hN hB2_h.out
          · simp only [Bool.not_true] at e16
            go_wp2_with (fail)
            · have h0 : (n1 : Int) < 2 := ‹_›
              have hv : v = 0 := ‹_›
              subst hv
              have hN := hNo_h.out (.inr (.inr (by rw [← hn1_h.out]; omega)))
              refine bodyPost_ret (results_cell_tmp rfl _ _ w.heap.size _ _ (0, 0) _ rfl s1_h.out Try.underlying54 rfl (by kernel_rfl)) rfl ?_
              exact TyA.no hN hB2_h.out
            · have hv : v = 0 := ‹_›
              have hs' := name_eq ‹s.toList = []›
              have h2 : 2 ≤ (n1 : Int) := ‹_›
              subst hv hs'
              obtain ⟨q, rfl⟩ : ∃ q, n1 = q + 2 := ⟨n1 - 2, by omega⟩
              obtain ⟨b, a, r, rfl, hq⟩ := two_of hn1_h.out
              rw [show (((q + 2 : Nat) : Int) - 1) = ((q + 1 : Nat) : Int) by omega]
              clear c00 c01 f0 f1
              go_cut [12, 13] (fun s12 s13 wx => ∃ (G : Nat) (c' : Bool), s12 = .pointer (some ⟨G, 0, none⟩) ∧ s13 = .bool c' ∧ c' = joinB p0 (ty a) (ty b) ∧ wx.heap[G]? = some (.cells #[.int .i64 (joinTy p0 (ty a) (ty b)).1, .int .i64 (joinTy p0 (ty a) (ty b)).2] tWires) ∧ wr.heap.size ≤ G ∧ Below wr.heap.size wr wx)
              case first =>
                refine beginB (by kernel_rfl) (fun W1 hW1 => ?_)
                have hb1 : Below wr.heap.size wr W1 := by rw [hW1]; exact below_drew (below_alloc _ _)
                have hN : W1.heap[wr.heap.size]? = some (.cells #[.int .i64 κ, .int .i64 0, .string noName] 69) := by rw [hW1]; exact heap_alloc_new wr _
                have hR1 := hR_h.out.below hb1
                obtain ⟨ad1, hA1, hlt1, -⟩ := TyTop hR1.sl hq
                subst hA1
                obtain ⟨hwb, hwa, -⟩ := (parse_spec _ hR1.par trivial).1
                have fa := wt_fit hwa
                have fb := wt_fit hwb
                have hC := fun W => hJ_h.out (ty a).1 (ty a).2 (ty b).1 (ty b).2 W ⟨fa.1, fa.2.1⟩ ⟨fa.2.2.1, fa.2.2.2⟩ ⟨fb.1, fb.2.1⟩ ⟨fb.2.2.1, fb.2.2.2⟩
                clear hW1 s1_h s2_h hB2_h hNo_h hx_h fa fb hwa hwb
                have hb1_h := Lib.hid hb1
                have hN_h := Lib.hid hN
                have hR1_h := Lib.hid hR1
                have hq_h := Lib.hid hq
                have hC_h := Lib.hid hC
                clear hb1 hN hR1 hq hC
                refine takeH 0 (v := ?_) rfl (by kernel_rfl) (by kernel_rfl) (by kernel_rfl) (fun _ _ _ h => h) (Below.refl _ _) (by rfl) (fun W' hW' => ?_) ?_; rotate_left; · (obtain ⟨⟨c0, c1, c2⟩, f0, f1, f2⟩ := box3 (box_below hN_h.out hW'); obtain ⟨d0, d1, d2, d3⟩ := TyTop2 (hR1_h.out.sl.below hW') hq_h.out; have r0 : IntKind.i64.wrap (q : Int) = (q : Int) := IntWalk.i64_in _ (by omega); have r2 : (0 : Int) ≤ (q : Int) + 1 := (by omega); have r3 : (q : Int) < (q : Int) + 2 := (by omega); have r4 : (q : Int) + 1 < (q : Int) + 2 := (by omega); clear hW'; go_simp; first | done | with_reducible rfl)
                simp only [Act.put, List.setIfInBounds_toArray, List.set_cons_zero, List.set_cons_succ]
                refine takeH 1 (v := ?_) rfl (by kernel_rfl) (by kernel_rfl) (by kernel_rfl) (fun _ _ _ h => h) (Below.refl _ _) (by rfl) (fun W' hW' => ?_) ?_; rotate_left; · (obtain ⟨⟨c0, c1, c2⟩, f0, f1, f2⟩ := box3 (box_below hN_h.out hW'); obtain ⟨d0, d1, d2, d3⟩ := TyTop2 (hR1_h.out.sl.below hW') hq_h.out; have r0 : IntKind.i64.wrap (q : Int) = (q : Int) := IntWalk.i64_in _ (by omega); have r2 : (0 : Int) ≤ (q : Int) + 1 := (by omega); have r3 : (q : Int) < (q : Int) + 2 := (by omega); have r4 : (q : Int) + 1 < (q : Int) + 2 := (by omega); clear hW'; go_simp; first | done | with_reducible rfl)
                simp only [Act.put, List.setIfInBounds_toArray, List.set_cons_zero, List.set_cons_succ]
                refine takeH 2 (v := ?_) rfl (by kernel_rfl) (by kernel_rfl) (by kernel_rfl) (fun _ _ _ h => h) (Below.refl _ _) (by rfl) (fun W' hW' => ?_) ?_; rotate_left; · (obtain ⟨⟨c0, c1, c2⟩, f0, f1, f2⟩ := box3 (box_below hN_h.out hW'); obtain ⟨d0, d1, d2, d3⟩ := TyTop2 (hR1_h.out.sl.below hW') hq_h.out; have r0 : IntKind.i64.wrap (q : Int) = (q : Int) := IntWalk.i64_in _ (by omega); have r2 : (0 : Int) ≤ (q : Int) + 1 := (by omega); have r3 : (q : Int) < (q : Int) + 2 := (by omega); have r4 : (q : Int) + 1 < (q : Int) + 2 := (by omega); clear hW'; go_simp; first | done | with_reducible rfl)
                simp only [Act.put, List.setIfInBounds_toArray, List.set_cons_zero, List.set_cons_succ]
                refine takeH 3 (v := ?_) rfl (by kernel_rfl) (by kernel_rfl) (by kernel_rfl) (fun _ _ _ h => h) (Below.refl _ _) (by rfl) (fun W' hW' => ?_) ?_; rotate_left; · (obtain ⟨⟨c0, c1, c2⟩, f0, f1, f2⟩ := box3 (box_below hN_h.out hW'); obtain ⟨d0, d1, d2, d3⟩ := TyTop2 (hR1_h.out.sl.below hW') hq_h.out; have r0 : IntKind.i64.wrap (q : Int) = (q : Int) := IntWalk.i64_in _ (by omega); have r2 : (0 : Int) ≤ (q : Int) + 1 := (by omega); have r3 : (q : Int) < (q : Int) + 2 := (by omega); have r4 : (q : Int) + 1 < (q : Int) + 2 := (by omega); clear hW'; go_simp; first | done | with_reducible rfl)
                simp only [Act.put, List.setIfInBounds_toArray, List.set_cons_zero, List.set_cons_succ]
                refine takeH 4 (v := ?_) rfl (by kernel_rfl) (by kernel_rfl) (by kernel_rfl) (fun _ _ _ h => h) (Below.refl _ _) (by rfl) (fun W' hW' => ?_) ?_; rotate_left; · (obtain ⟨⟨c0, c1, c2⟩, f0, f1, f2⟩ := box3 (box_below hN_h.out hW'); obtain ⟨d0, d1, d2, d3⟩ := TyTop2 (hR1_h.out.sl.below hW') hq_h.out; have r0 : IntKind.i64.wrap (q : Int) = (q : Int) := IntWalk.i64_in _ (by omega); have r2 : (0 : Int) ≤ (q : Int) + 1 := (by omega); have r3 : (q : Int) < (q : Int) + 2 := (by omega); have r4 : (q : Int) + 1 < (q : Int) + 2 := (by omega); clear hW'; go_simp; first | done | with_reducible rfl)
                simp only [Act.put, List.setIfInBounds_toArray, List.set_cons_zero, List.set_cons_succ]
                refine takeH 5 (v := ?_) rfl (by kernel_rfl) (by kernel_rfl) (by kernel_rfl) (fun _ _ _ h => h) (Below.refl _ _) (by rfl) (fun W' hW' => ?_) ?_; rotate_left; · (obtain ⟨⟨c0, c1, c2⟩, f0, f1, f2⟩ := box3 (box_below hN_h.out hW'); obtain ⟨d0, d1, d2, d3⟩ := TyTop2 (hR1_h.out.sl.below hW') hq_h.out; have r0 : IntKind.i64.wrap (q : Int) = (q : Int) := IntWalk.i64_in _ (by omega); have r2 : (0 : Int) ≤ (q : Int) + 1 := (by omega); have r3 : (q : Int) < (q : Int) + 2 := (by omega); have r4 : (q : Int) + 1 < (q : Int) + 2 := (by omega); clear hW'; go_simp; first | done | with_reducible rfl)
                simp only [Act.put, List.setIfInBounds_toArray, List.set_cons_zero, List.set_cons_succ]
                refine takeH 6 (v := ?_) rfl (by kernel_rfl) (by kernel_rfl) (by kernel_rfl) (fun _ _ _ h => h) (Below.refl _ _) (by rfl) (fun W' hW' => ?_) ?_; rotate_left; · (obtain ⟨⟨c0, c1, c2⟩, f0, f1, f2⟩ := box3 (box_below hN_h.out hW'); obtain ⟨d0, d1, d2, d3⟩ := TyTop2 (hR1_h.out.sl.below hW') hq_h.out; have r0 : IntKind.i64.wrap (q : Int) = (q : Int) := IntWalk.i64_in _ (by omega); have r2 : (0 : Int) ≤ (q : Int) + 1 := (by omega); have r3 : (q : Int) < (q : Int) + 2 := (by omega); have r4 : (q : Int) + 1 < (q : Int) + 2 := (by omega); clear hW'; go_simp; first | done | with_reducible rfl)
                simp only [Act.put, List.setIfInBounds_toArray, List.set_cons_zero, List.set_cons_succ]
                refine takeH 7 (v := ?_) rfl (by kernel_rfl) (by kernel_rfl) (by kernel_rfl) (fun _ _ _ h => h) (Below.refl _ _) (by rfl) (fun W' hW' => ?_) ?_; rotate_left; · (obtain ⟨⟨c0, c1, c2⟩, f0, f1, f2⟩ := box3 (box_below hN_h.out hW'); obtain ⟨d0, d1, d2, d3⟩ := TyTop2 (hR1_h.out.sl.below hW') hq_h.out; have r0 : IntKind.i64.wrap (q : Int) = (q : Int) := IntWalk.i64_in _ (by omega); have r2 : (0 : Int) ≤ (q : Int) + 1 := (by omega); have r3 : (q : Int) < (q : Int) + 2 := (by omega); have r4 : (q : Int) + 1 < (q : Int) + 2 := (by omega); clear hW'; go_simp; first | done | with_reducible rfl)
                simp only [Act.put, List.setIfInBounds_toArray, List.set_cons_zero, List.set_cons_succ]
                refine takeH 8 (v := ?_) rfl (by kernel_rfl) (by kernel_rfl) (by kernel_rfl) (fun _ _ _ h => h) (Below.refl _ _) (by rfl) (fun W' hW' => ?_) ?_; rotate_left; · (obtain ⟨⟨c0, c1, c2⟩, f0, f1, f2⟩ := box3 (box_below hN_h.out hW'); obtain ⟨d0, d1, d2, d3⟩ := TyTop2 (hR1_h.out.sl.below hW') hq_h.out; have r0 : IntKind.i64.wrap (q : Int) = (q : Int) := IntWalk.i64_in _ (by omega); have r2 : (0 : Int) ≤ (q : Int) + 1 := (by omega); have r3 : (q : Int) < (q : Int) + 2 := (by omega); have r4 : (q : Int) + 1 < (q : Int) + 2 := (by omega); clear hW'; go_simp; first | done | with_reducible rfl)
                simp only [Act.put, List.setIfInBounds_toArray, List.set_cons_zero, List.set_cons_succ]
                refine takeH 9 (v := ?_) rfl (by kernel_rfl) (by kernel_rfl) (by kernel_rfl) (fun _ _ _ h => h) (Below.refl _ _) (by rfl) (fun W' hW' => ?_) ?_; rotate_left; · (obtain ⟨⟨c0, c1, c2⟩, f0, f1, f2⟩ := box3 (box_below hN_h.out hW'); obtain ⟨d0, d1, d2, d3⟩ := TyTop2 (hR1_h.out.sl.below hW') hq_h.out; have r0 : IntKind.i64.wrap (q : Int) = (q : Int) := IntWalk.i64_in _ (by omega); have r2 : (0 : Int) ≤ (q : Int) + 1 := (by omega); have r3 : (q : Int) < (q : Int) + 2 := (by omega); have r4 : (q : Int) + 1 < (q : Int) + 2 := (by omega); clear hW'; go_simp; first | done | with_reducible rfl)
                simp only [Act.put, List.setIfInBounds_toArray, List.set_cons_zero, List.set_cons_succ]
                refine takeH 10 (v := ?_) rfl (by kernel_rfl) (by kernel_rfl) (by kernel_rfl) (fun _ _ _ h => h) (Below.refl _ _) (by rfl) (fun W' hW' => ?_) ?_; rotate_left; · (obtain ⟨⟨c0, c1, c2⟩, f0, f1, f2⟩ := box3 (box_below hN_h.out hW'); obtain ⟨d0, d1, d2, d3⟩ := TyTop2 (hR1_h.out.sl.below hW') hq_h.out; have r0 : IntKind.i64.wrap (q : Int) = (q : Int) := IntWalk.i64_in _ (by omega); have r2 : (0 : Int) ≤ (q : Int) + 1 := (by omega); have r3 : (q : Int) < (q : Int) + 2 := (by omega); have r4 : (q : Int) + 1 < (q : Int) + 2 := (by omega); clear hW'; go_simp; first | done | with_reducible rfl)
                simp only [Act.put, List.setIfInBounds_toArray, List.set_cons_zero, List.set_cons_succ]
                refine callOrH 11 15 (f := ?f2) (args := ?args2) (vj := ?vj2) (wj := ?wj2) rfl rfl (by kernel_rfl) (by rfl) (by rfl) ?hrun2 ?hrunj2 ?h12 ?hSj2 ?h22
                case hrun2 => (go_simp; first | done | with_reducible rfl | (constructor <;> with_reducible rfl))
                case hrunj2 => (go_simp; first | done | with_reducible rfl | (constructor <;> with_reducible rfl))
                case hSj2 => exact ((below_alloc _ _))
                case h12 =>
                  refine (hC_h.out W1).mono ?_
                  rintro e w2 ⟨c', rfl, hc', hb2⟩
                  have hbx := hb1_h.out.trans (hb2.mono hb1_h.out.size)
                  have hkx := heap_alloc_new w2 (.cells #[.int .i64 (joinTy p0 (ty a) (ty b)).1, .int .i64 (joinTy p0 (ty a) (ty b)).2] tWires)
                  have hb3 := hbx.trans ((below_alloc w2 (.cells #[.int .i64 (joinTy p0 (ty a) (ty b)).1, .int .i64 (joinTy p0 (ty a) (ty b)).2] tWires)).mono hbx.size)
                  refine ⟨_, rfl, hb2, ?_⟩
                  have hc'_h := Lib.hid hc'
                  have hbx_h := Lib.hid hbx
                  have hkx_h := Lib.hid hkx
                  have hb3_h := Lib.hid hb3
                  clear hc' hbx hkx hb3
                  simp only [Act.put, List.setIfInBounds_toArray, List.set_cons_zero, List.set_cons_succ]
                  refine takeH 12 (v := ?_) rfl (by kernel_rfl) (by kernel_rfl) (by kernel_rfl) (fun _ _ _ h => h) hb2 (by rfl) (fun W' hW' => ?_) ?_; rotate_left; · (skip; clear hW'; go_simp; first | done | with_reducible rfl)
                  simp only [Act.put, List.setIfInBounds_toArray, List.set_cons_zero, List.set_cons_succ]
                  refine takeH 13 (v := ?_) rfl (by kernel_rfl) (by kernel_rfl) (by kernel_rfl) (fun _ _ _ h => h) hb2 (by rfl) (fun W' hW' => ?_) ?_; rotate_left; · (skip; clear hW'; go_simp; first | done | with_reducible rfl)
                  simp only [Act.put, List.setIfInBounds_toArray, List.set_cons_zero, List.set_cons_succ]
                  refine takeH 14 (v := ?_) rfl (by kernel_rfl) (by kernel_rfl) (by kernel_rfl) (fun _ _ _ h => h) hb2 (by rfl) (fun W' hW' => ?_) ?_; rotate_left; · (skip; clear hW'; go_simp; first | done | with_reducible rfl)
                  simp only [Act.put, List.setIfInBounds_toArray, List.set_cons_zero, List.set_cons_succ]
                  refine oneH 15 rfl (by kernel_rfl) (by rfl) (fun K hK => ?_)
                  go_simp
                  refine hK _ _ (hb2.trans ((below_alloc _ _).mono hb2.size)) ?_
                  clear hK K
                  refine oneH 16 rfl (by kernel_rfl) (by rfl) (fun K hK => ?_)
                  go_simp
                  refine hK _ _ (hb2.trans ((below_alloc _ _).mono hb2.size)) ?_
                  clear hK K
                  refine takeH 17 (v := ?_) rfl (by kernel_rfl) (by kernel_rfl) (by kernel_rfl) (fun _ _ _ h => h) (hb2.trans ((below_alloc _ _).mono hb2.size)) (by rfl) (fun W' hW' => ?_) ?_; rotate_left; · (skip; clear hW'; go_simp; first | done | with_reducible rfl)
                  simp only [Act.put, List.setIfInBounds_toArray, List.set_cons_zero, List.set_cons_succ]
                  refine doneH (by kernel_rfl) ?_
                  go_wp2_with (fail)
                  go_meet
                  exact ⟨_, c', rfl, rfl, hc'_h.out, hkx_h.out, hbx_h.out.size, hb3_h.out⟩
                case h22 =>
                  refine' callH 11 (f := _) (args := _) rfl (by kernel_rfl) (by rfl) ?_ ?_; rotate_left 2; · (go_simp; first | done | with_reducible rfl | (constructor <;> with_reducible rfl))
                  refine (hC_h.out _).mono ?_
                  rintro e w2 ⟨c', rfl, hc', hb2⟩
                  have hbs : Below W1.heap.size W1 w2 := (below_alloc W1 (.cells #[.int .i64 0, .int .i64 0] tWires)).trans (hb2.mono (by simp))
                  have hk := box_below (heap_alloc_new W1 (.cells #[.int .i64 0, .int .i64 0] tWires)) hb2
                  obtain ⟨s1, s2⟩ := set2 (a := .int .i64 (joinTy p0 (ty a) (ty b)).1) (b := .int .i64 (joinTy p0 (ty a) (ty b)).2) hk
                  have hbt := below_keeps hbs s2 hbs.size (fun k hk => by omega)
                  have hb3 := hb1_h.out.trans (hbt.mono hb1_h.out.size)
                  obtain ⟨⟨c0, c1⟩, f0, f1⟩ := box2 hk
                  refine ⟨_, rfl, hbs, ?_⟩
                  have hc'_h := Lib.hid hc'
                  have hbs_h := Lib.hid hbs
                  have hk_h := Lib.hid hk
                  have s1_h := Lib.hid s1
                  have s2_h := Lib.hid s2
                  have hbt_h := Lib.hid hbt
                  have hb3_h := Lib.hid hb3
                  have hb2_h := Lib.hid hb2
                  clear hc' hbs hk s1 s2 hbt hb3 hb2
                  simp only [Act.put, List.setIfInBounds_toArray, List.set_cons_zero, List.set_cons_succ]
                  refine takeH 12 (v := ?_) rfl (by kernel_rfl) (by kernel_rfl) (by kernel_rfl) (fun _ _ _ h => h) hbs_h.out (by rfl) (fun W' hW' => ?_) ?_; rotate_left; · (skip; clear hW'; go_simp; first | done | with_reducible rfl)
                  simp only [Act.put, List.setIfInBounds_toArray, List.set_cons_zero, List.set_cons_succ]
                  refine takeH 13 (v := ?_) rfl (by kernel_rfl) (by kernel_rfl) (by kernel_rfl) (fun _ _ _ h => h) hbs_h.out (by rfl) (fun W' hW' => ?_) ?_; rotate_left; · (skip; clear hW'; go_simp; first | done | with_reducible rfl)
                  simp only [Act.put, List.setIfInBounds_toArray, List.set_cons_zero, List.set_cons_succ]
                  refine takeH 14 (v := ?_) rfl (by kernel_rfl) (by kernel_rfl) (by kernel_rfl) (fun _ _ _ h => h) hbs_h.out (by rfl) (fun W' hW' => ?_) ?_; rotate_left; · (skip; clear hW'; go_simp; first | done | with_reducible rfl)
                  simp only [Act.put, List.setIfInBounds_toArray, List.set_cons_zero, List.set_cons_succ]
                  refine oneH 16 rfl (by kernel_rfl) (by rfl) (fun K hK => ?_)
                  go_simp
                  refine hK _ _ hbt_h.out ?_
                  clear hK K
                  refine takeH 17 (v := ?_) rfl (by kernel_rfl) (by kernel_rfl) (by kernel_rfl) (fun _ _ _ h => h) hbt_h.out (by rfl) (fun W' hW' => ?_) ?_; rotate_left; · (skip; clear hW'; go_simp; first | done | with_reducible rfl)
                  simp only [Act.put, List.setIfInBounds_toArray, List.set_cons_zero, List.set_cons_succ]
                  refine doneH (by kernel_rfl) ?_
                  go_wp2_with (fail)
                  go_meet
                  exact ⟨_, c', rfl, rfl, hc'_h.out, s1_h.out, hb1_h.out.size, hb3_h.out⟩
              case rest =>
                obtain ⟨G, c', rfl, rfl, hc', hG, hGz, hbc⟩ := hcut
                have hR2 := hR_h.out.below hbc
                obtain ⟨ad1, hA1, hlt1, -⟩ := TyTop hR_h.out.sl hq
                subst hA1
                have hjn : (κ, (0 : Int), noName) = joinNd p0 := by rw [hp_h.out]; rfl
                clear s1_h s2_h hB2_h hx_h hlt1
                cases c'
                · have hN := parse_none hR2.par hn_h.out (by rw [hjn, step_join, ← hc']; rfl)
                  have hx := hR2.box
                  have hxl := box_lt hx
                  obtain ⟨⟨c00, c01⟩, f0, f1⟩ := box2 hx
                  obtain ⟨s1, s2⟩ := set2 (a := .int .i64 0) (b := .int .i64 0) hx
                  have hB2 := below_keeps hR2.bel s2 (by omega) (fun k hk => by omega)
                  have hN_h := Lib.hid hN
                  have s1_h := Lib.hid s1
                  have s2_h := Lib.hid s2
                  have hB2_h := Lib.hid hB2
                  have hx_h := Lib.hid hx
                  have hR2_h := Lib.hid hR2
                  have hc'_h := Lib.hid hc'
                  have hG_h := Lib.hid hG
                  have hbc_h := Lib.hid hbc
                  have hjn_h := Lib.hid hjn
                  have hq_h := Lib.hid hq
                  clear hN s1 s2 hB2 hx hR2 hc' hG hbc hjn hq
                  go_wp2_with (fail)
                  refine bodyPost_ret (results_cell_tmp rfl _ _ w.heap.size _ _ (0, 0) _ rfl s1_h.out Try.underlying54 rfl (by kernel_rfl)) rfl ?_
                  exact TyA.no hN_h.out hB2_h.out
                · have hpm := parse_more hR2.par hn_h.out (by rw [hjn, step_join, ← hc']; rfl)
                  have hGne : ∀ b, b ∈ fpA (some ad1) → ¬ b = G := fun b hb e => by have := hR_h.out.sl.lt b hb; omega
                  have hR2_h := Lib.hid hR2
                  have hc'_h := Lib.hid hc'
                  have hbc_h := Lib.hid hbc
                  have hjn_h := Lib.hid hjn
                  have hq_h := Lib.hid hq
                  have hpm_h := Lib.hid hpm
                  have hG_h := Lib.hid hG
                  have hGne_h := Lib.hid hGne
                  clear hR2 hc' hbc hjn hq hpm hG hGne
                  go_wp2_with (fail)
                  refine beginH (fun w' => w'.heap[G]? = some (.cells #[.int .i64 (joinTy p0 (ty a) (ty b)).1, .int .i64 (joinTy p0 (ty a) (ty b)).2] tWires)) (by kernel_rfl) ?_
                  have hGd : wc.drew.heap[G]? = some (.cells #[.int .i64 (joinTy p0 (ty a) (ty b)).1, .int .i64 (joinTy p0 (ty a) (ty b)).2] tWires) := hG_h.out
                  have hR3 : TyR w.heap.size w l k (b :: a :: r) (some ad1) c1 wc.drew := hR2_h.out.below (below_drew (Below.refl _ _))
                  generalize wc.drew = W1 at hGd hR3 ⊢
                  have hW2 := below_alloc W1 (.cells #[.int .i64 (joinTy p0 (ty a) (ty b)).1, .int .i64 (joinTy p0 (ty a) (ty b)).2] tWires)
                  have hG2 := box_below hGd hW2
                  have hR4 := hR3.below hW2
                  have hSL : Sl (W1.alloc (.cells #[.int .i64 (joinTy p0 (ty a) (ty b)).1, .int .i64 (joinTy p0 (ty a) (ty b)).2] tWires)) tWires 2 (some ad1) q c1 (wcs r) := by
                    have := Sl.take hR4.sl (k := q) (by have := hq_h.out; simp only [List.length_cons]; omega)
                    rwa [wcs_take a b r hq_h.out] at this
                  have hcq : q + 2 ≤ c1 := by have := hR4.sl.2.1; have h2 := hq_h.out; simp only [List.length_cons] at this; omega
                  have hGd_h := Lib.hid hGd
                  have hR3_h := Lib.hid hR3
                  have hG2_h := Lib.hid hG2
                  have hR4_h := Lib.hid hR4
                  have hSL_h := Lib.hid hSL
                  have hW2_h := Lib.hid hW2
                  clear hGd hR3 hG2 hR4 hSL hW2
                  refine takeH 0 (v := ?_) rfl (by kernel_rfl) (by kernel_rfl) (by kernel_rfl) (fun _ _ _ h => h) hGd_h.out (by rfl) (fun W' hW' => ?_) ?_; rotate_left; · (obtain ⟨⟨d0, d1⟩, e0, e1⟩ := box2 hW'; have r0 : IntKind.i64.wrap (q : Int) = (q : Int) := IntWalk.i64_in _ (by omega); have r2 : (0 : Int) ≤ (q : Int) := (by omega); have r3 : (q : Int) ≤ (q : Int) + 2 := (by omega); have r4 : q ≤ c1 := (by omega); clear hW'; go_simp; first | done | with_reducible rfl)
                  simp only [Act.put, List.setIfInBounds_toArray, List.set_cons_zero, List.set_cons_succ]
                  refine takeH 1 (v := ?_) rfl (by kernel_rfl) (by kernel_rfl) (by kernel_rfl) (fun _ _ _ h => h) hGd_h.out (by rfl) (fun W' hW' => ?_) ?_; rotate_left; · (obtain ⟨⟨d0, d1⟩, e0, e1⟩ := box2 hW'; have r0 : IntKind.i64.wrap (q : Int) = (q : Int) := IntWalk.i64_in _ (by omega); have r2 : (0 : Int) ≤ (q : Int) := (by omega); have r3 : (q : Int) ≤ (q : Int) + 2 := (by omega); have r4 : q ≤ c1 := (by omega); clear hW'; go_simp; first | done | with_reducible rfl)
                  simp only [Act.put, List.setIfInBounds_toArray, List.set_cons_zero, List.set_cons_succ]
                  refine takeH 2 (v := ?_) rfl (by kernel_rfl) (by kernel_rfl) (by kernel_rfl) (fun _ _ _ h => h) hGd_h.out (by rfl) (fun W' hW' => ?_) ?_; rotate_left; · (obtain ⟨⟨d0, d1⟩, e0, e1⟩ := box2 hW'; have r0 : IntKind.i64.wrap (q : Int) = (q : Int) := IntWalk.i64_in _ (by omega); have r2 : (0 : Int) ≤ (q : Int) := (by omega); have r3 : (q : Int) ≤ (q : Int) + 2 := (by omega); have r4 : q ≤ c1 := (by omega); clear hW'; go_simp; first | done | with_reducible rfl)
                  simp only [Act.put, List.setIfInBounds_toArray, List.set_cons_zero, List.set_cons_succ]
                  refine takeH 3 (v := ?_) rfl (by kernel_rfl) (by kernel_rfl) (by kernel_rfl) (fun _ _ _ h => h) hGd_h.out (by rfl) (fun W' hW' => ?_) ?_; rotate_left; · (obtain ⟨⟨d0, d1⟩, e0, e1⟩ := box2 hW'; have r0 : IntKind.i64.wrap (q : Int) = (q : Int) := IntWalk.i64_in _ (by omega); have r2 : (0 : Int) ≤ (q : Int) := (by omega); have r3 : (q : Int) ≤ (q : Int) + 2 := (by omega); have r4 : q ≤ c1 := (by omega); clear hW'; go_simp; first | done | with_reducible rfl)
                  simp only [Act.put, List.setIfInBounds_toArray, List.set_cons_zero, List.set_cons_succ]
                  refine takeH 4 (v := ?_) rfl (by kernel_rfl) (by kernel_rfl) (by kernel_rfl) (fun _ _ _ h => h) hGd_h.out (by rfl) (fun W' hW' => ?_) ?_; rotate_left; · (obtain ⟨⟨d0, d1⟩, e0, e1⟩ := box2 hW'; have r0 : IntKind.i64.wrap (q : Int) = (q : Int) := IntWalk.i64_in _ (by omega); have r2 : (0 : Int) ≤ (q : Int) := (by omega); have r3 : (q : Int) ≤ (q : Int) + 2 := (by omega); have r4 : q ≤ c1 := (by omega); clear hW'; go_simp; first | done | with_reducible rfl)
                  simp only [Act.put, List.setIfInBounds_toArray, List.set_cons_zero, List.set_cons_succ]
                  refine oneH 5 rfl (by kernel_rfl) (by rfl) (fun K hK => ?_)
                  go_simp
                  refine hK _ _ hG2_h.out ?_
                  clear hK K
                  refine appH 6 rfl (by kernel_rfl) (by rfl) _ _ _ rfl tWires Try.underlying124 info_wires rfl (by omega) rfl hSL_h.out rfl (m := 1) rfl (Sl.rdc (Sl.laid W1 tWires 2 1 #[.int .i64 (joinTy p0 (ty a) (ty b)).1, .int .i64 (joinTy p0 (ty a) (ty b)).2] (by unfold maxLen; omega) rfl)) (by simp [Value.oneCell']) (by unfold maxLen; omega) (by omega) ?_
                  intro A2 c2 w2 hs2 hA2 hk2
                  have hG3 := box_keeps hG2_h.out hk2 (fun h => hGne_h.out _ h rfl)
                  refine ⟨hG3, ?_⟩
                  simp only [Act.put, List.setIfInBounds_toArray, List.set_cons_zero, List.set_cons_succ]
                  refine takeH 7 (v := ?_) rfl (by kernel_rfl) (by kernel_rfl) (by kernel_rfl) (fun _ _ _ h => h) hG3 (by rfl) (fun W' hW' => ?_) ?_; rotate_left; · (skip; clear hW'; go_simp; first | done | with_reducible rfl)
                  simp only [Act.put, List.setIfInBounds_toArray, List.set_cons_zero, List.set_cons_succ]
                  refine doneH (by kernel_rfl) ?_
                  go_wp2_with (fail)
                  go_roundw
                  case rel => exact ⟨k + 1, .node p0 a b :: r, A2, c2, q + 1, by omega, by go_num, rfl, by simp [hq_h.out], by omega, TyR.push hR4_h.out.bel hR4_h.out.box hR4_h.out.fr hpm_h.out hq_h.out.symm rfl hs2 hA2 hk2⟩
                  case measure => simp [intOf]; omega
            · have h0 := name_ne ‹_›
              have hv : v = 0 := ‹_›
              subst hv
              have hN := hNo_h.out (.inr (.inl h0))
              refine bodyPost_ret (results_cell_tmp rfl _ _ w.heap.size _ _ (0, 0) _ rfl s1_h.out Try.underlying54 rfl (by kernel_rfl)) rfl ?_
              exact TyA.no hN hB2_h.out
            · have h0 : v ≠ 0 := ‹_›
              have hN := hNo_h.out (.inl h0)
              refine bodyPost_ret (results_cell_tmp rfl _ _ w.heap.size _ _ (0, 0) _ rfl s1_h.out Try.underlying54 rfl (by kernel_rfl)) rfl ?_
              exact TyA.no hN hB2_h.out
        · have e15 : (κ != 15) = true := by simp; omega
          have e16 : (κ != 16) = true := by simp; omega
          have hl := Lib.hid (fun W => leafWires_any κ v s W)
          have hj_h := Lib.hid hj
          clear hj
          go_wp2_with (fail)
          refine (hl.out _).mono ?_
          rintro e w1 ⟨i, o, b, rfl, hb, hty, hB1⟩
          have hB1' := (below_alloc wr (.cells #[.int .i64 κ, .int .i64 v, .string s] 69)).trans (hB1.mono (by simp))
          have hR1 := hR_h.out.below hB1'
          have hx := hR1.box
          have hxl := box_lt hx
          have hx2 := box_below hx (below_alloc w1 (.cells #[.int .i64 i, .int .i64 o] tWires))
          obtain ⟨⟨c00, c01⟩, f0, f1⟩ := box2 hx
          cases b
          · have hN := parse_none hR1.par hn_h.out (by rw [step_leaf (n := (κ, v, s)) (show ¬ isJoin (κ, v, s) from hj_h.out), ← hb]; rfl)
            obtain ⟨s0, s2⟩ := set2 (a := .int .i64 0) (b := .int .i64 0) hx
            have s1 := box_below s0 (below_alloc _ (.cells #[.int .i64 i, .int .i64 o] tWires))
            have hB2 := below_trans (below_keeps hR1.bel s2 (by omega) (fun k hk => by omega)) (below_alloc _ (.cells #[.int .i64 i, .int .i64 o] tWires)) (Nat.le_trans (by omega) s2.size)
            clear s0
            have hN_h := Lib.hid hN
            have s1_h := Lib.hid s1
            have s2_h := Lib.hid s2
            have hB2_h := Lib.hid hB2
            have hx_h := Lib.hid hx
            have hx2_h := Lib.hid hx2
            have hR1_h := Lib.hid hR1
            have hb_h := Lib.hid hb
            have hty_h := Lib.hid hty
            have hB1_h := Lib.hid hB1
            have hB1'_h := Lib.hid hB1'
            clear hN s1 s2 hB2 hx hx2 hR1 hb hty hB1 hB1'
            clear hl
            go_wp2_with (fail)
            refine bodyPost_ret (results_cell_tmp rfl _ _ w.heap.size _ _ (0, 0) _ rfl s1_h.out Try.underlying54 rfl (by kernel_rfl)) rfl ?_
            exact TyA.no hN_h.out hB2_h.out
          · have hp := parse_more hR1.par hn_h.out (by rw [step_leaf (n := (κ, v, s)) (show ¬ isJoin (κ, v, s) from hj_h.out), ← hb]; rfl)
            have hio := hty rfl
            have hx_h := Lib.hid hx
            have hx2_h := Lib.hid hx2
            have hR1_h := Lib.hid hR1
            have hb_h := Lib.hid hb
            have hty_h := Lib.hid hty
            have hB1_h := Lib.hid hB1
            have hB1'_h := Lib.hid hB1'
            have hp_h := Lib.hid hp
            have hio_h := Lib.hid hio
            clear hx hx2 hR1 hb hty hB1 hB1' hp hio
            clear hl
            have hSL : Sl (w1.alloc (.cells #[.int .i64 i, .int .i64 o] tWires)) tWires 2 A1 n1 c1 (wcs st) := Sl.alloc (by rw [hn1_h.out]; exact hR1_h.out.sl) _
            have HSL := Lib.hid hSL
            clear hSL
            go_wp2_with (at_builtin; refine wpList_append1 rfl _ _ _ rfl tWires Try.underlying124 info_wires rfl (by omega) rfl HSL.out rfl (by simp) rfl (by simp [Value.oneCell']) (by omega) (by omega) ?_; intro A2 c2 w2 hs2 hA2 hk2)
            go_roundw
            case rel => exact ⟨k + 1, .leaf (κ, v, s) :: st, A2, c2, n1 + 1, by omega, by go_num, rfl, by simp [hn1_h.out], by omega, TyR.push (below_trans hR1_h.out.bel (below_alloc _ _) hR1_h.out.bel.size) hx2_h.out hR1_h.out.fr hp_h.out hn1_h.out hio_h.out hs2 hA2 hk2⟩
            case measure => simp [intOf]; omega
      · obtain rfl : k = m := by omega
        have hpar := hR.par
        rw [List.take_of_length_le (by rw [hm_h.out]; omega)] at hpar
        obtain ⟨hws, hfl⟩ := parse_spec _ hpar trivial
        have hne : st ≠ [] := fun e => by
          subst e
          have : l = [] := by simpa [flats] using hfl.symm
          subst this
          have := hm_h.out
          simp at this
          omega
        obtain ⟨i, o, h0, h1, hio⟩ := wcs_bot hne
        obtain ⟨ad1, hA1, hlt1, c0, _⟩ := Sl.cell hR.sl h0
        obtain ⟨ad1', hA1', _, c1', _⟩ := Sl.cell hR.sl h1
        rw [hA1] at hA1'
        obtain rfl := Option.some.inj hA1'
        subst hA1
        rw [show ad1.add 0 = ad1 from rfl] at c0
        rw [show (1 : Nat) = 0 + 1 from rfl, add_next _ _ 1 (by omega), show ad1.add 0 = ad1 from rfl] at c1'
        have hnb : ¬ ad1.block = w.heap.size := fun e => by have := hR.fr ad1.block (by simp); omega
        have hx := hR.box
        have hres : treeM l = oneOf st := treeM_of ⟨by rw [← hm_h.out]; omega, by rw [← hm_h.out]; omega⟩ hpar
        have hn0 : 0 < n1 := by rw [hn1]; exact List.length_pos_iff.2 hne
        have hbl := hR.bel
        have hxl := box_lt hx
        obtain ⟨⟨c00, c01⟩, f0, f1⟩ := box2 hx
        obtain ⟨s1, s2⟩ := set2 (a := .int .i64 i) (b := .int .i64 o) hx
        have hB2 := below_keeps hbl s2 (by omega) (fun k hk => by omega)
        have hR_h := Lib.hid hR
        have hn1_h := Lib.hid hn1
        have hpar_h := Lib.hid hpar
        have hws_h := Lib.hid hws
        have hfl_h := Lib.hid hfl
        have hne_h := Lib.hid hne
        have h0_h := Lib.hid h0
        have h1_h := Lib.hid h1
        have hio_h := Lib.hid hio
        have hres_h := Lib.hid hres
        have hx_h := Lib.hid hx
        have hbl_h := Lib.hid hbl
        have hnb_h := Lib.hid hnb
        have s1_h := Lib.hid s1
        have s2_h := Lib.hid s2
        have hB2_h := Lib.hid hB2
        clear hR hn1 hpar hws hfl hne h0 h1 hio hres hx hbl hnb s1 s2 hB2
        clear h
        go_wp2_with (fail)
        refine bodyPost_ret (results_cell_tmp rfl _ _ w.heap.size _ _ (0, 0) _ rfl s1_h.out Try.underlying54 rfl (by kernel_rfl)) rfl ?_
        refine ⟨i, o, ((n1 : Int) == 1), rfl, ?_, fun t ht => ?_, hB2_h.out⟩
        · rw [hres_h.out]; exact oneOf_one hn1_h.out
        · rw [hres_h.out] at ht; exact hio_h.out t (oneOf_some ht)
end Go.Proofs.Ytlmnmdahphahfaa
