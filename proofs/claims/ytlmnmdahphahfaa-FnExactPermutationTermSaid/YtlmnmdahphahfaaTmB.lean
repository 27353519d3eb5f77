/-
  THE WALK: spec.lbScan without a library.
-/
import Derived.Test.YtlmnmdahphahfaaTmS
import Derived.Test.YtlmnmdahphahfaaTmN
import Derived.Test.YtlmnmdahphahfaaRegZ
import Derived.LoopN
namespace Go.Proofs.Ytlmnmdahphahfaa
open Go.RowKit

/-- What lbScan answers. -/
def LbA (l : List Nd) (w : World) (e : Ending) (w' : World) : Prop :=
  ∃ (A0 A1 A2 : Option Addr) (c0 c1 c2 n0 n1 n2 : Nat) (b : Bool), e = .returned (.tuple #[.agg #[.slice A0 n0 c0, .slice A1 n1 c1, .slice A2 n2 c2], .bool b]) ∧ b = (treeM l).isSome ∧
    (∀ t, treeM l = some t → n0 = sz t ∧ n1 = sz t ∧ n2 = sz t ∧ RdC w' A0 (ints (frL [t])) ∧ RdC w' A1 (ints (inL [t])) ∧ RdC w' A2 (ints (ouL [t])) ∧ ∀ b, b ∈ fpA A0 ∨ b ∈ fpA A1 ∨ b ∈ fpA A2 → w.heap.size ≤ b) ∧ Below w.heap.size w w'
theorem LbA.no {l : List Nd} {w w' : World} {A0 A1 A2 : Option Addr} {c0 c1 c2 n0 n1 n2 : Nat} (hN : treeM l = none) (hb : Below w.heap.size w w') : LbA l w (.returned (.tuple #[.agg #[.slice A0 n0 c0, .slice A1 n1 c1, .slice A2 n2 c2], .bool false])) w' :=
  ⟨A0, A1, A2, c0, c1, c2, n0, n1, n2, false, rfl, by rw [hN]; rfl, fun t ht => (by rw [hN] at ht; cases ht), hb⟩
/-- What holds at each round's head: B the heap's size at the start. -/
structure LbR (B : Nat) (w : World) (A : Option Addr) (m c : Nat) (l : List Nd) (k : Nat) (st : List Tr) (A0 A1 A2 : Option Addr) (c0 c1 c2 : Nat) (wr : World) : Prop where
  par : parse [] (l.take k) = some st
  th : Th wr (B + 1 + 1) A0 A1 A2 c0 c1 c2 k k k (frL st) (inL st) (ouL st)
  kb : wr.heap[B]? = some (.cells #[.slice A m c] tTerm)
  kr : wr.heap[B + 1]? = some (.cells #[.slice none 0 0, .slice none 0 0, .slice none 0 0] tInfo)
  bel : Below B w wr
section
variable {B : Nat} {w wr w1 : World} {A : Option Addr} {m c : Nat} {l : List Nd} {k : Nat} {st : List Tr} {A0 A1 A2 : Option Addr} {c0 c1 c2 : Nat}
theorem LbR.below (h : LbR B w A m c l k st A0 A1 A2 c0 c1 c2 wr) (hb : Below wr.heap.size wr w1) : LbR B w A m c l k st A0 A1 A2 c0 c1 c2 w1 :=
  ⟨h.par, h.th.below hb, box_below h.kb hb, box_below h.kr hb, below_trans h.bel hb (Nat.le_of_lt (box_lt h.kb))⟩

theorem LbR.step {k' : Nat} {w' : World} {st' : List Tr} {A0' A1' A2' : Option Addr} {c0' c1' c2' : Nat} {F I O : List Int} (h : LbR B w A m c l k st A0 A1 A2 c0 c1 c2 wr) (hp : parse [] (l.take k') = some st')
    (ht : Th w' (B + 1 + 1) A0' A1' A2' c0' c1' c2' k' k' k' F I O) (hF : F = frL st') (hI : I = inL st') (hO : O = ouL st') (hb : Below (B + 1 + 1) wr w') : LbR B w A m c l k' st' A0' A1' A2' c0' c1' c2' w' := by
  subst hF hI hO
  exact ⟨hp, ht, (hb.block _ (by omega)).trans h.kb, (hb.block _ (by omega)).trans h.kr, h.bel.trans (hb.mono (by omega))⟩
end
theorem lists_leaf (n : Nd) (st : List Tr) : frL (.leaf n :: st) = frL st ++ [((flats st).length : Int)] ∧ inL (.leaf n :: st) = inL st ++ [(leafTy n).1] ∧ ouL (.leaf n :: st) = ouL st ++ [(leafTy n).2] := by
  simp [frL, inL, ouL, infos_leaf]
theorem lists_node (p : Bool) (a b : Tr) (r : List Tr) : frL (.node p a b :: r) = frL (b :: a :: r) ++ [((flats r).length : Int)] ∧ inL (.node p a b :: r) = inL (b :: a :: r) ++ [(joinTy p (ty a) (ty b)).1] ∧ ouL (.node p a b :: r) = ouL (b :: a :: r) ++ [(joinTy p (ty a) (ty b)).2] := by
  simp [frL, inL, ouL, infos_node]
theorem flats_len {l : List Nd} {k : Nat} {st : List Tr} (h : parse [] (l.take k) = some st) (hk : k ≤ l.length) : (flats st).length = k := by
  obtain ⟨_, hf⟩ := parse_spec _ h trivial
  rw [hf]
  simp [flats, Nat.min_eq_left hk]
theorem infos_at (t : Tr) (r : List Tr) {k : Nat} (h : (flats (t :: r)).length = k) : (frL (t :: r))[k - 1]? = some ((flats r).length : Int) ∧ (inL (t :: r))[k - 1]? = some (ty t).1 ∧ (ouL (t :: r))[k - 1]? = some (ty t).2 := by
  have := infos_last t r
  rw [h] at this
  simp [frL, inL, ouL, this]
theorem infos_at2 (b a : Tr) (r : List Tr) {k : Nat} (h : (flats (a :: r)).length = k) : (frL (b :: a :: r))[k - 1]? = some ((flats r).length : Int) ∧ (inL (b :: a :: r))[k - 1]? = some (ty a).1 ∧ (ouL (b :: a :: r))[k - 1]? = some (ty a).2 := by
  have := infos_last2 b a r
  rw [h] at this
  simp [frL, inL, ouL, this]

theorem lbFind_nil (s : ByteArray) (w : World) : Calls Try.prog 109 #[.slice none 0 0, .string s] w fun e w' => e = .returned (.int .i64 (-1)) ∧ w' = w := by
  go_enter Try.func109, Try.ntmps109
  go_wp2_with (fail)
  refine wp_loop_rounds 1 ?_
  rw [rounds_succ]
  go_wp2_with (fail)
  go_ret
  exact ⟨rfl, rfl⟩

set_option maxRecDepth 8000 in
set_option maxHeartbeats 8000000 in
theorem lbScan_any (A : Option Addr) (c : Nat) (l : List Nd) (w : World) (h : RdN w A l) :
    Calls Try.prog 85 #[.slice none 0 0, .agg #[.slice A l.length c]] w (LbA l w) := by
  obtain ⟨m, hm⟩ : ∃ m, m = l.length := ⟨_, rfl⟩
  rw [← hm]
  obtain ⟨W, hW⟩ : ∃ W, W = ((w.alloc (.cells #[.slice A m c] tTerm)).alloc (.cells #[.slice none 0 0, .slice none 0 0, .slice none 0 0] tInfo)).alloc (.cells #[.slice none 0 0, .slice none 0 0, .slice none 0 0] tInfo) := ⟨_, rfl⟩
  obtain ⟨b0, k0, k1, hz⟩ := two_boxes w (.cells #[.slice A m c] tTerm) (.cells #[.slice none 0 0, .slice none 0 0, .slice none 0 0] tInfo)
  have hbW := b0.alloc (by omega) (.cells #[.slice none 0 0, .slice none 0 0, .slice none 0 0] tInfo)
  have k2 := heap_alloc_new ((w.alloc (.cells #[.slice A m c] tTerm)).alloc (.cells #[.slice none 0 0, .slice none 0 0, .slice none 0 0] tInfo)) (.cells #[.slice none 0 0, .slice none 0 0, .slice none 0 0] tInfo)
  rw [hz, show w.heap.size + 2 = w.heap.size + 1 + 1 from rfl] at k2
  have k0 := box_below k0 (below_alloc _ (.cells #[.slice none 0 0, .slice none 0 0, .slice none 0 0] tInfo))
  have k1 := box_below k1 (below_alloc _ (.cells #[.slice none 0 0, .slice none 0 0, .slice none 0 0] tInfo))
  rw [← hW] at hbW k0 k1 k2
  clear b0 hz
  by_cases hl : 1 ≤ m ∧ m ≤ 400
  case neg =>
    have hb : inB (m : Int) 1 400 = false := by simp [inB]; omega
    have hw := l1In_any (m : Int) 1 400 W
    rw [hb] at hw
    have hN : treeM l = none := by unfold treeM; rw [if_neg (by rw [← hm]; exact hl)]
    obtain ⟨s1, s2⟩ := set3 (a := .slice none 0 0) (b := .slice none 0 0) (c := .slice none 0 0) k1
    have hw_h := Lib.hid hw
    have hN_h := Lib.hid hN
    have hbW_h := Lib.hid hbW
    have k0_h := Lib.hid k0
    have k1_h := Lib.hid k1
    have k2_h := Lib.hid k2
    have hm_h := Lib.hid hm
    have s1_h := Lib.hid s1
    have s2_h := Lib.hid s2
    clear hw hN hbW k0 k1 k2 hm s1 s2
    clear hb hl h
    go_enter Try.func85, Try.ntmps85
    go_wp2_with (fail)
    rw [← hW]
    refine (hw_h.out).mono ?_
    rintro e w' ⟨rfl, rfl⟩
    rw [hW]
    go_wp2_with (fail)
    refine bodyPost_ret (v := .tuple #[.agg #[.slice none 0 0, .slice none 0 0, .slice none 0 0], .bool false]) (by simp [results, Try.results85, go_sem]) rfl (LbA.no hN_h.out (by rw [← hW]; exact hbW_h.out))
  case pos =>
    have hb : inB (m : Int) 1 400 = true := by simp [inB]; omega
    have hw := l1In_any (m : Int) 1 400 W
    rw [hb] at hw
    have hR0 : LbR w.heap.size w A m c l 0 [] none none none 0 0 0 W := by
      refine ⟨by simp [parse], ⟨k2, Sl.nil _ _ _, Sl.nil _ _ _, Sl.nil _ _ _, ?_, ?_, ?_, ?_⟩, k0, k1, hbW⟩
      · rintro b (hb | hb | hb) <;> simp at hb
      all_goals (intro b hb; simp at hb)
    obtain ⟨⟨d0, d1, d2⟩, g0, g1, g2⟩ := box3 k2
    have e0 : W.cell? ⟨w.heap.size, 0, none⟩ = some (.slice A m c) := by simp [World.cell?, k0]
    have hw_h := Lib.hid hw
    have hR0_h := Lib.hid hR0
    have hm_h := Lib.hid hm
    have hbW_h := Lib.hid hbW
    have k0_h := Lib.hid k0
    have k1_h := Lib.hid k1
    have k2_h := Lib.hid k2
    clear hw hR0 hm hbW k0 k1 k2
    clear hb
    go_enter Try.func85, Try.ntmps85
    go_wp2_with (fail)
    rw [← hW]
    clear hW
    refine (hw_h.out).mono ?_
    rintro e w' ⟨rfl, rfl⟩
    go_wp2_with (fail)
    go_loopw [25] (fun iv wr => ∃ (k : Nat) (st : List Tr) (A0 A1 A2 : Option Addr) (c0 c1 c2 : Nat), k ≤ m ∧ iv = .int .i64 k ∧ LbR w.heap.size w A m c l k st A0 A1 A2 c0 c1 c2 wr) (fun iv _ => m - (intOf iv).toNat)
    case atStart => exact ⟨0, [], none, none, none, 0, 0, 0, Nat.zero_le _, rfl, hR0_h.out⟩
    case round =>
      obtain ⟨k, st, A0, A1, A2, c0, c1, c2, hk, rfl, hR⟩ := hrel
      clear hR0_h hw_h hbW_h k0_h k1_h k2_h d0 d1 d2 g0 g1 g2 e0
      by_cases hlt : k < m
      · obtain ⟨ad, κ, v, s, rfl, hn, d0, d1, d2⟩ := (h.below hR.bel).at_ (j := k) (by rw [← hm_h.out]; exact hlt)
        have hkI : (k : Int) < (m : Int) := by omega
        have hR_h := Lib.hid hR
        have hn_h := Lib.hid hn
        clear hR hn
        clear h
        have hL := Lib.hid (fun W => tmLeaf_any κ v s W)
        have hAr := Lib.hid (fun W => tmArity_any κ v s W)
        go_wp2_with (fail)
        refine (hL.out _).mono ?_
        rintro e w1 ⟨b, rfl, hb, hB1⟩
        have hB1' := (below_alloc wr (.cells #[.int .i64 κ, .int .i64 v, .string s] 69)).trans (hB1.mono (by simp))
        have hR1 := hR_h.out.below hB1'
        have kn : w1.heap[wr.heap.size]? = some (.cells #[.int .i64 κ, .int .i64 v, .string s] 69) := box_below (heap_alloc_new wr _) hB1
        obtain ⟨⟨d0, d1, d2⟩, g0, g1, g2⟩ := box3 kn
        cases b
        · have hR1' := hR1
          have hx := hR1.kr
          have hxl := box_lt hx
          have hxx := hR1.th.box
          obtain ⟨s1, s2⟩ := set3 (a := .slice A0 k c0) (b := .slice A1 k c1) (c := .slice A2 k c2) hx
          have hB2 := below_keeps hR1.bel s2 (by omega) (fun k hk => by omega)
          obtain ⟨⟨x0, x1, x2⟩, y0, y1, y2⟩ := box3 hxx
          obtain ⟨⟨r0, r1, r2⟩, q0, q1, q2⟩ := box3 hx
          by_cases h17 : κ = 17
          · have hb17 : (κ == 17) = true := by simp [h17]
            have hnj : ¬ isJoin (κ, v, s) := by unfold isJoin; simp only; omega
            have hN := parse_none hR1.par hn_h.out (by rw [step_leaf hnj, ← hb]; rfl)
            clear s1 s2 hB2 hx hxl hxx x0 x1 x2 y0 y1 y2 r0 r1 r2 q0 q1 q2
            have hb_h := Lib.hid hb
            have h17_h := Lib.hid h17
            have hnj_h := Lib.hid hnj
            have hN_h := Lib.hid hN
            have hR1_h := Lib.hid hR1
            have hR1'_h := Lib.hid hR1'
            have kn_h := Lib.hid kn
            have hB1_h := Lib.hid hB1
            have hB1'_h := Lib.hid hB1'
            clear hb h17 hnj hN hR1 hR1' kn hB1 hB1'
            go_wp2_with (fail)
            refine (hAr.out _).mono ?_
            rintro e w2 ⟨rfl, hB2⟩
            have hR2 := hR1_h.out.below hB2
            obtain ⟨⟨d0, d1, d2⟩, g0, g1, g2⟩ := box3 (box_below kn_h.out hB2)
            have hx := hR2.kr
            have hxl := box_lt hx
            have hxx := hR2.th.box
            obtain ⟨s1, s2⟩ := set3 (a := .slice A0 k c0) (b := .slice A1 k c1) (c := .slice A2 k c2) hx
            have hB2 := below_keeps hR2.bel s2 (by omega) (fun k hk => by omega)
            obtain ⟨⟨x0, x1, x2⟩, y0, y1, y2⟩ := box3 hxx
            obtain ⟨⟨r0, r1, r2⟩, q0, q1, q2⟩ := box3 hx
            have hR2_h := Lib.hid hR2
            have hx_h := Lib.hid hx
            have hxx_h := Lib.hid hxx
            have s1_h := Lib.hid s1
            have s2_h := Lib.hid s2
            have hB2_h := Lib.hid hB2
            clear hR2 hx hxx s1 s2 hB2
            clear hL hAr
            go_wp2_with (fail)
            refine (lbFind_nil _ _).mono ?_
            rintro e w' ⟨rfl, rfl⟩
            go_wp2_with (fail)
            refine bodyPost_ret (results_cell_tmp rfl _ _ (w.heap.size + 1) _ _ (0, 0) _ rfl s1_h.out Try.underlying73 rfl (by kernel_rfl)) rfl ?_
            exact LbA.no hN_h.out hB2_h.out
          · have hb17 : (κ == 17) = false := by simp [h17]
            by_cases hj : κ = 15 ∨ κ = 16
            · obtain ⟨p0, p, hpp, hp⟩ : ∃ p0 p, p = p0 ∧ κ = kd p0 := by
                rcases hj with h | h
                · exact ⟨false, false, rfl, h⟩
                · exact ⟨true, true, rfl, h⟩
              have e15 : (κ != 15) = p := by rw [hp, hpp]; cases p0 <;> rfl
              have e16 : (κ != 16) = !p := by rw [hp, hpp]; cases p0 <;> rfl
              have f15 : (κ == 15) = !p := by rw [hp, hpp]; cases p0 <;> rfl
              have hji : isJoin (κ, v, s) := hj
              have hNo := fun hh => parse_none hR1.par hn_h.out (step_none (st := st) hji hh)
              have hln := flats_len hR1.par (by rw [← hm_h.out]; omega)
              have hb_h := Lib.hid hb
              have h17_h := Lib.hid h17
              have hj_h := Lib.hid hj
              have hji_h := Lib.hid hji
              have hp_h := Lib.hid hp
              have hpp_h := Lib.hid hpp
              have hNo_h := Lib.hid hNo
              have hx_h := Lib.hid hx
              have hxx_h := Lib.hid hxx
              have s1_h := Lib.hid s1
              have s2_h := Lib.hid s2
              have hB2_h := Lib.hid hB2
              have hR1_h := Lib.hid hR1
              have hR1'_h := Lib.hid hR1'
              have kn_h := Lib.hid kn
              have hB1_h := Lib.hid hB1
              have hB1'_h := Lib.hid hB1'
              have hln_h := Lib.hid hln
              clear hb h17 hj hji hp hpp hNo hx hxx s1 s2 hB2 hR1 hR1' kn hB1 hB1' hln
              clear hL hAr
              by_cases hs : s = noName
              · have he : (!s.toList.isEmpty) = false := by rw [hs, ByteArray.toList_eq]; rfl
                have he2 : s.toList = [] := by rw [hs, ByteArray.toList_eq]; rfl
                have hs_h := Lib.hid hs
                clear hs
                by_cases hv : v = 0
                · have hvb : (v != 0) = false := by simp [hv]
                  have hv_h := Lib.hid hv
                  clear hv
                  by_cases hk2 : k < 2
                  · have hkI2 : (k : Int) < 2 := by omega
                    have hN := hNo_h.out (.inr (.inr (by
                      have h1 := hln_h.out
                      match st with
                      | [] => simp
                      | [_] => simp
                      | b :: a :: r =>
                        have p1 := sz_pos b
                        have p2 := sz_pos a
                        simp only [flats, List.length_append] at h1
                        unfold sz at p1 p2
                        omega)))
                    have hN_h := Lib.hid hN
                    clear hN
                    cases p
                    · simp only [Bool.not_false] at e16 f15
                      go_wp2_with (fail)
                      refine bodyPost_ret (results_cell_tmp rfl _ _ (w.heap.size + 1) _ _ (0, 0) _ rfl s1_h.out Try.underlying73 rfl (by kernel_rfl)) rfl ?_
                      exact LbA.no hN_h.out hB2_h.out
                    · simp only [Bool.not_true] at e16 f15
                      go_wp2_with (fail)
                      refine bodyPost_ret (results_cell_tmp rfl _ _ (w.heap.size + 1) _ _ (0, 0) _ rfl s1_h.out Try.underlying73 rfl (by kernel_rfl)) rfl ?_
                      exact LbA.no hN_h.out hB2_h.out
                  · obtain ⟨k1, rfl⟩ : ∃ k1, k = k1 + 1 := ⟨k - 1, by omega⟩
                    have hln' := hln_h.out
                    obtain ⟨t, r, rfl⟩ : ∃ t r, st = t :: r := by
                      match st, hln' with
                      | [], h => simp [flats] at h
                      | t :: r, _ => exact ⟨t, r, rfl⟩
                    obtain ⟨i0, i1, i2⟩ := infos_at t r hln'
                    rw [Nat.add_sub_cancel] at i0 i1 i2
                    obtain ⟨f, hf⟩ : ∃ f, f = (flats r).length := ⟨_, rfl⟩
                    rw [← hf] at i0
                    have hfk : f ≤ k1 := by
                      have := sz_pos t
                      simp only [flats, List.length_append] at hln'
                      unfold sz at this
                      omega
                    obtain ⟨ad0, hA0, _, cf, _⟩ := Sl.cell hR1_h.out.th.f (ints_get i0)
                    obtain ⟨ad1, hA1, _, ci, _⟩ := Sl.cell hR1_h.out.th.i (ints_get i1)
                    obtain ⟨ad2, hA2, _, co, _⟩ := Sl.cell hR1_h.out.th.o (ints_get i2)
                    subst hA0 hA1 hA2
                    have hkb : ¬ ((k1 : Int) + 1 < 2) := by omega
                    have hkc : (k1 : Int) < (k1 : Int) + 1 := by omega
                    have hk0 : (0 : Int) ≤ (k1 : Int) := by omega
                    by_cases hf1 : f < 1
                    · have hfI : (f : Int) < 1 := by omega
                      have hN := hNo_h.out (.inr (.inr (by
                        match r with
                        | [] => simp
                        | a :: r' =>
                          have := sz_pos a
                          simp only [flats, List.length_append] at hf
                          unfold sz at this
                          omega)))
                      have hN_h := Lib.hid hN
                      have i0_h := Lib.hid i0
                      have i1_h := Lib.hid i1
                      have i2_h := Lib.hid i2
                      have hf_h := Lib.hid hf
                      have hln'_h := Lib.hid hln'
                      clear hN i0 i1 i2 hf hln'
                      cases p
                      · simp only [Bool.not_false] at e16 f15
                        go_wp2_with (fail)
                        refine bodyPost_ret (results_cell_tmp rfl _ _ (w.heap.size + 1) _ _ (0, 0) _ rfl s1_h.out Try.underlying73 rfl (by kernel_rfl)) rfl ?_
                        exact LbA.no hN_h.out hB2_h.out
                      · simp only [Bool.not_true] at e16 f15
                        go_wp2_with (fail)
                        refine bodyPost_ret (results_cell_tmp rfl _ _ (w.heap.size + 1) _ _ (0, 0) _ rfl s1_h.out Try.underlying73 rfl (by kernel_rfl)) rfl ?_
                        exact LbA.no hN_h.out hB2_h.out
                    · obtain ⟨f1, rfl⟩ : ∃ f1, f = f1 + 1 := ⟨f - 1, by omega⟩
                      have hfI : ¬ ((f1 : Int) + 1 < 1) := by omega
                      obtain ⟨a, r', rfl⟩ : ∃ a r', r = a :: r' := by
                        match r, hf with
                        | [], h => simp [flats] at h
                        | a :: r', _ => exact ⟨a, r', rfl⟩
                      obtain ⟨j0, j1, j2⟩ := infos_at2 t a r' hf.symm
                      rw [Nat.add_sub_cancel] at j0 j1 j2
                      obtain ⟨ad0', hA0', _, dg, _⟩ := Sl.cell hR1_h.out.th.f (ints_get j0)
                      obtain ⟨ad1', hA1', _, di, _⟩ := Sl.cell hR1_h.out.th.i (ints_get j1)
                      obtain ⟨ad2', hA2', _, do2, _⟩ := Sl.cell hR1_h.out.th.o (ints_get j2)
                      obtain rfl := Option.some.inj hA0'
                      obtain rfl := Option.some.inj hA1'
                      obtain rfl := Option.some.inj hA2'
                      clear hA0' hA1' hA2'
                      obtain ⟨⟨hwt, hwa, hwr⟩, -⟩ := parse_spec _ hR1_h.out.par trivial
                      have fa := wt_fit hwa
                      have ft := wt_fit hwt
                      clear hwt hwa hwr
                      obtain ⟨l0, l1, l2⟩ := lists_node p0 a t r'
                      have hjn : (κ, v, s) = joinNd p0 := by rw [hp_h.out, hv_h.out, hs_h.out]; rfl
                      obtain ⟨ai, hai⟩ : ∃ x, x = (ty a).1 := ⟨_, rfl⟩
                      obtain ⟨ao, hao⟩ : ∃ x, x = (ty a).2 := ⟨_, rfl⟩
                      obtain ⟨bi, hbi⟩ : ∃ x, x = (ty t).1 := ⟨_, rfl⟩
                      obtain ⟨bo, hbo⟩ : ∃ x, x = (ty t).2 := ⟨_, rfl⟩
                      obtain ⟨g, hg⟩ : ∃ g, g = (flats r').length := ⟨_, rfl⟩
                      have hst : stepT (t :: a :: r') (κ, v, s) = if joinB p0 (ai, ao) (bi, bo) = true then some (.node p0 a t :: r') else none := by rw [hjn, step_join, hai, hao, hbi, hbo]
                      have hja : joinTy p0 (ty a) (ty t) = joinTy p0 (ai, ao) (bi, bo) := by rw [hai, hao, hbi, hbo]
                      rw [← hg] at dg j0 l0
                      rw [hja] at l1 l2
                      rw [← hai] at di fa
                      rw [← hao] at do2 fa
                      rw [← hbi] at ci ft
                      rw [← hbo] at co ft
                      have hfc : (f1 : Int) < (k1 : Int) + 1 := by omega
                      have hf0 : (0 : Int) ≤ (f1 : Int) := by omega
                      have hwi : IntKind.i64.wrap (ai + bi) = ai + bi := IntWalk.i64_in _ (by omega)
                      have hwo : IntKind.i64.wrap (ao + bo) = ao + bo := IntWalk.i64_in _ (by omega)
                      obtain ⟨fa1, fa2, fa3, fa4⟩ := fa
                      obtain ⟨ft1, ft2, ft3, ft4⟩ := ft
                      have i0_h := Lib.hid i0
                      have i1_h := Lib.hid i1
                      have i2_h := Lib.hid i2
                      have j0_h := Lib.hid j0
                      have j1_h := Lib.hid j1
                      have j2_h := Lib.hid j2
                      have hf_h := Lib.hid hf
                      have hln'_h := Lib.hid hln'
                      have l0_h := Lib.hid l0
                      have l1_h := Lib.hid l1
                      have l2_h := Lib.hid l2
                      have hjn_h := Lib.hid hjn
                      have hai_h := Lib.hid hai
                      have hao_h := Lib.hid hao
                      have hbi_h := Lib.hid hbi
                      have hbo_h := Lib.hid hbo
                      have hg_h := Lib.hid hg
                      have hst_h := Lib.hid hst
                      have hja_h := Lib.hid hja
                      clear i0 i1 i2 j0 j1 j2 hf hln' l0 l1 l2 hjn hai hao hbi hbo hg hst hja
                      cases p
                      · obtain rfl : p0 = false := hpp_h.out.symm
                        simp only [Bool.not_false] at e16 f15
                        have hfit : joinB false (ai, ao) (bi, bo) = decide (ao = bi) := by simp [joinB]
                        by_cases ho : ao = bi
                        · have hob : (ao != bi) = false := by simp [ho]
                          have h12 : ¬ 12 < ai := by omega
                          have h12' : ¬ 12 < bo := by omega
                          have hpm := parse_more hR1_h.out.par hn_h.out (by rw [hst_h.out, hfit, decide_eq_true ho]; rfl)
                          have hpm_h := Lib.hid hpm
                          have ho_h := Lib.hid ho
                          have hfit_h := Lib.hid hfit
                          clear hpm ho hfit
                          go_wp2_with (fail)
                          go_quiet (fail)
                          go_wp2_with (fail)
                          go_quiet (fail)
                          go_wp2_with (fail)
                          go_quiet (fail)
                          go_wp2_with (fail)
                          refine beginZw 10 (fun w' => w'.heap[w.heap.size + 1 + 1]? = some (.cells #[.slice (some ad0) (k1 + 1) c0, .slice (some ad1) (k1 + 1) c1, .slice (some ad2) (k1 + 1) c2] tInfo) ∧ w'.cell? (ad0.add f1) = some (.int .i64 (g : Int))) (by kernel_rfl) (fun W1 hW1 => ?_)
                          have hR3 : LbR w.heap.size w (some ad) m c l (k1 + 1) (t :: a :: r') (some ad0) (some ad1) (some ad2) c0 c1 c2 W1 := by rw [hW1]; exact hR1_h.out.below (below_drew (below_drewN (Below.refl _ _) _))
                          have hdg : W1.cell? (ad0.add f1) = some (.int .i64 (g : Int)) := by rw [hW1]; exact dg
                          have hF := And.intro hR3.th.box hdg
                          have hR4 := hR3.below (below_alloc W1 (.cells #[.int .i64 (g : Int)] tInt))
                          have hF4 : (W1.alloc (.cells #[.int .i64 (g : Int)] tInt)).heap[w.heap.size + 1 + 1]? = some (.cells #[.slice (some ad0) (k1 + 1) c0, .slice (some ad1) (k1 + 1) c1, .slice (some ad2) (k1 + 1) c2] tInfo) ∧ (W1.alloc (.cells #[.int .i64 (g : Int)] tInt)).cell? (ad0.add f1) = some (.int .i64 (g : Int)) :=
                            ⟨hR4.th.box, ((below_alloc W1 _).cell (World.block_lt_of_cell? W1 _ hdg)).trans hdg⟩
                          clear hW1 x0 x1 x2 y0 y1 y2 r0 r1 r2 q0 q1 q2 d0 d1 d2 g0 g1 g2 cf ci co dg di do2 hwi hwo s1_h s2_h hB2_h hNo_h
                          have hR3_h := Lib.hid hR3
                          have hdg_h := Lib.hid hdg
                          have hF_h := Lib.hid hF
                          have hR4_h := Lib.hid hR4
                          have hF4_h := Lib.hid hF4
                          clear hR3 hdg hF hR4 hF4
                          refine takeZ 0 (v := ?_) rfl (by kernel_rfl) (by kernel_rfl) (by kernel_rfl) (by kernel_rfl) (by kernel_rfl) (fun _ _ _ h => h) hF_h.out (by rfl) (fun W' hW' => ?_) ?_; rotate_left; · (obtain ⟨⟨x0, x1, x2⟩, y0, y1, y2⟩ := box3 hW'.1; have e1 := hW'.2; clear hW'; go_simp; first | done | with_reducible rfl)
                          simp only [Act.put, List.setIfInBounds_toArray, List.set_cons_zero, List.set_cons_succ]
                          refine takeZ 1 (v := ?_) rfl (by kernel_rfl) (by kernel_rfl) (by kernel_rfl) (by kernel_rfl) (by kernel_rfl) (fun _ _ _ h => h) hF_h.out (by rfl) (fun W' hW' => ?_) ?_; rotate_left; · (obtain ⟨⟨x0, x1, x2⟩, y0, y1, y2⟩ := box3 hW'.1; have e1 := hW'.2; clear hW'; go_simp; first | done | with_reducible rfl)
                          simp only [Act.put, List.setIfInBounds_toArray, List.set_cons_zero, List.set_cons_succ]
                          refine takeZ 2 (v := ?_) rfl (by kernel_rfl) (by kernel_rfl) (by kernel_rfl) (by kernel_rfl) (by kernel_rfl) (fun _ _ _ h => h) hF_h.out (by rfl) (fun W' hW' => ?_) ?_; rotate_left; · (obtain ⟨⟨x0, x1, x2⟩, y0, y1, y2⟩ := box3 hW'.1; have e1 := hW'.2; clear hW'; go_simp; first | done | with_reducible rfl)
                          simp only [Act.put, List.setIfInBounds_toArray, List.set_cons_zero, List.set_cons_succ]
                          refine takeZ 3 (v := ?_) rfl (by kernel_rfl) (by kernel_rfl) (by kernel_rfl) (by kernel_rfl) (by kernel_rfl) (fun _ _ _ h => h) hF_h.out (by rfl) (fun W' hW' => ?_) ?_; rotate_left; · (obtain ⟨⟨x0, x1, x2⟩, y0, y1, y2⟩ := box3 hW'.1; have e1 := hW'.2; clear hW'; go_simp; first | done | with_reducible rfl)
                          simp only [Act.put, List.setIfInBounds_toArray, List.set_cons_zero, List.set_cons_succ]
                          refine takeZ 4 (v := ?_) rfl (by kernel_rfl) (by kernel_rfl) (by kernel_rfl) (by kernel_rfl) (by kernel_rfl) (fun _ _ _ h => h) hF_h.out (by rfl) (fun W' hW' => ?_) ?_; rotate_left; · (obtain ⟨⟨x0, x1, x2⟩, y0, y1, y2⟩ := box3 hW'.1; have e1 := hW'.2; clear hW'; go_simp; first | done | with_reducible rfl)
                          simp only [Act.put, List.setIfInBounds_toArray, List.set_cons_zero, List.set_cons_succ]
                          refine takeZ 5 (v := ?_) rfl (by kernel_rfl) (by kernel_rfl) (by kernel_rfl) (by kernel_rfl) (by kernel_rfl) (fun _ _ _ h => h) hF_h.out (by rfl) (fun W' hW' => ?_) ?_; rotate_left; · (obtain ⟨⟨x0, x1, x2⟩, y0, y1, y2⟩ := box3 hW'.1; have e1 := hW'.2; clear hW'; go_simp; first | done | with_reducible rfl)
                          simp only [Act.put, List.setIfInBounds_toArray, List.set_cons_zero, List.set_cons_succ]
                          refine takeZ 6 (v := ?_) rfl (by kernel_rfl) (by kernel_rfl) (by kernel_rfl) (by kernel_rfl) (by kernel_rfl) (fun _ _ _ h => h) hF_h.out (by rfl) (fun W' hW' => ?_) ?_; rotate_left; · (obtain ⟨⟨x0, x1, x2⟩, y0, y1, y2⟩ := box3 hW'.1; have e1 := hW'.2; clear hW'; go_simp; first | done | with_reducible rfl)
                          simp only [Act.put, List.setIfInBounds_toArray, List.set_cons_zero, List.set_cons_succ]
                          refine oneZ 7 rfl (by kernel_rfl) (by rfl) (fun K hK => ?_)
                          go_simp
                          refine hK _ _ (fun _ => hF4_h.out) ?_
                          clear hK K
                          refine appZ 8 rfl (by kernel_rfl) (by rfl) _ _ _ rfl tInt Try.underlying34 info_int rfl (by omega) rfl hR4_h.out.th.f rfl (m := 1) rfl (Sl.rdc (Sl.laid W1 tInt 1 1 #[.int .i64 (g : Int)] (by unfold maxLen; omega) rfl)) (by simp [Value.oneCell']) (by unfold maxLen; omega) (by omega) ?_
                          intro A0' c0' w3 hs0 hA0 hk0 hrd0
                          have ht0 := hR4_h.out.th.app0 hs0 hA0 hk0
                          have hc3 : w3.cell? (ad0.add f1) = some (.int .i64 (g : Int)) := by
                            obtain ⟨ad', h1, h2⟩ := hrd0 _ _ (ints_get j0_h.out)
                            obtain rfl := Option.some.inj h1
                            exact h2
                          have hF5 := And.intro ht0.2.1 hc3
                          refine ⟨fun _ => hF5, ?_⟩
                          obtain ⟨⟨x0, x1, x2⟩, y0, y1, y2⟩ := box3 ht0.2.1
                          have ht0_h := Lib.hid ht0
                          have hF5_h := Lib.hid hF5
                          have hc3_h := Lib.hid hc3
                          clear ht0 hF5 hc3
                          clear hs0 hA0 hk0 hrd0
                          simp only [Act.put, List.setIfInBounds_toArray, List.set_cons_zero, List.set_cons_succ]
                          refine takeZ 9 (v := ?_) rfl (by kernel_rfl) (by kernel_rfl) (by kernel_rfl) (by kernel_rfl) (by kernel_rfl) (fun _ _ _ h => h) hF5_h.out (by rfl) (fun W' hW' => ?_) ?_; rotate_left; · (skip; clear hW'; go_simp; first | done | with_reducible rfl)
                          simp only [Act.put, List.setIfInBounds_toArray, List.set_cons_zero, List.set_cons_succ]
                          refine oneZ 10 rfl (by kernel_rfl) (by rfl) (fun K hK => ?_)
                          go_simp
                          refine hK _ _ (fun h => by cases h) ?_
                          clear hK K
                          refine doneZ (by kernel_rfl) ?_
                          have hT1 := ht0_h.out.1
                          have hb1 := ht0_h.out.2.2 _ (Nat.le_refl _)
                          clear ht0_h x0 x1 x2 y0 y1 y2 hF5_h hc3_h
                          generalize w3.setCell ⟨w.heap.size + 1 + 1, 0, none⟩ (.slice A0' (k1 + 1 + 1) c0') = w4 at hT1 hb1 ⊢
                          obtain ⟨⟨x0, x1, x2⟩, y0, y1, y2⟩ := box3 hT1.box
                          have hT1_h := Lib.hid hT1
                          have hb1_h := Lib.hid hb1
                          clear hT1 hb1
                          go_upto_region 30 with (at_builtin; refine wpList_append1 rfl _ _ _ rfl tInt Try.underlying34 info_int rfl (by omega) rfl hT1_h.out.i rfl rfl rfl (by simp [Value.oneCell']) (by omega) (by omega) ?_; intro A1' c1' w5 hs0 hA0 hk0; have ht0 := hT1_h.out.app1 hs0 hA0 hk0; clear hs0 hA0 hk0 x0 x1 x2 y0 y1 y2; obtain ⟨⟨x0, x1, x2⟩, y0, y1, y2⟩ := box3 ht0.2.1; have ht0_h := Lib.hid ht0; clear ht0)
                          have hT2 := ht0_h.out.1
                          have hb2 := ht0_h.out.2.2 _ (Nat.le_refl _)
                          clear ht0_h x0 x1 x2 y0 y1 y2
                          generalize w5.setCell ⟨w.heap.size + 1 + 1, 1, none⟩ (.slice A1' (k1 + 1 + 1) c1') = w6 at hT2 hb2 ⊢
                          obtain ⟨⟨x0, x1, x2⟩, y0, y1, y2⟩ := box3 hT2.box
                          have hT2_h := Lib.hid hT2
                          have hb2_h := Lib.hid hb2
                          clear hT2 hb2
                          go_wp2_with (at_builtin; refine wpList_append1 rfl _ _ _ rfl tInt Try.underlying34 info_int rfl (by omega) rfl hT2_h.out.o rfl rfl rfl (by simp [Value.oneCell']) (by omega) (by omega) ?_; intro A2' c2' w7 hs0 hA0 hk0; have ht0 := hT2_h.out.app2 hs0 hA0 hk0; clear hs0 hA0 hk0 x0 x1 x2 y0 y1 y2; obtain ⟨⟨x0, x1, x2⟩, y0, y1, y2⟩ := box3 ht0.2.1; have ht0_h := Lib.hid ht0; clear ht0)
                          have hT3 := ht0_h.out.1
                          have hb3 := ht0_h.out.2.2 _ (Nat.le_refl _)
                          clear ht0_h x0 x1 x2 y0 y1 y2
                          go_roundw
                          case rel => exact ⟨k1 + 1 + 1, .node false a t :: r', A0', A1', A2', c0', c1', c2', by omega, by go_num, hR4_h.out.step hpm_h.out hT3 l0_h.out.symm l1_h.out.symm l2_h.out.symm ((hb1_h.out.trans hb2_h.out).trans hb3)⟩
                          case measure => simp [intOf]; omega
                        · have hob : (ao != bi) = true := by simp [ho]
                          have hN := parse_none hR1_h.out.par hn_h.out (by rw [hst_h.out, hfit, decide_eq_false ho]; rfl)
                          have HN := Lib.hid hN
                          clear hN
                          have ho_h := Lib.hid ho
                          have hfit_h := Lib.hid hfit
                          clear ho hfit
                          go_wp2_with (fail)
                          go_quiet (fail)
                          go_wp2_with (fail)
                          go_quiet (fail)
                          go_wp2_with (fail)
                          refine bodyPost_ret (results_cell_tmp rfl _ _ (w.heap.size + 1) _ _ (0, 0) _ rfl s1_h.out Try.underlying73 rfl (by kernel_rfl)) rfl ?_
                          exact LbA.no HN.out (below_drewN hB2_h.out _)
                      · obtain rfl : p0 = true := hpp_h.out.symm
                        simp only [Bool.not_true] at e16 f15
                        have hfit : joinB true (ai, ao) (bi, bo) = decide (ai + bi ≤ 12 ∧ ao + bo ≤ 12) := by simp [joinB]
                        by_cases ho : ai + bi ≤ 12
                        · have h12 : ¬ 12 < ai + bi := by omega
                          by_cases ho2 : ao + bo ≤ 12
                          · have h12' : ¬ 12 < ao + bo := by omega
                            have hpm := parse_more hR1_h.out.par hn_h.out (by rw [hst_h.out, hfit, decide_eq_true ⟨ho, ho2⟩]; rfl)
                            have hpm_h := Lib.hid hpm
                            have hfit_h := Lib.hid hfit
                            clear hpm hfit
                            go_wp2_with (fail)
                            go_quiet (fail)
                            go_wp2_with (fail)
                            refine beginZw 10 (fun w' => w'.heap[w.heap.size + 1 + 1]? = some (.cells #[.slice (some ad0) (k1 + 1) c0, .slice (some ad1) (k1 + 1) c1, .slice (some ad2) (k1 + 1) c2] tInfo) ∧ w'.cell? (ad0.add f1) = some (.int .i64 (g : Int))) (by kernel_rfl) (fun W1 hW1 => ?_)
                            have hR3 : LbR w.heap.size w (some ad) m c l (k1 + 1) (t :: a :: r') (some ad0) (some ad1) (some ad2) c0 c1 c2 W1 := by rw [hW1]; exact hR1_h.out.below (below_drew (below_drewN (Below.refl _ _) _))
                            have hdg : W1.cell? (ad0.add f1) = some (.int .i64 (g : Int)) := by rw [hW1]; exact dg
                            have hF := And.intro hR3.th.box hdg
                            have hR4 := hR3.below (below_alloc W1 (.cells #[.int .i64 (g : Int)] tInt))
                            have hF4 : (W1.alloc (.cells #[.int .i64 (g : Int)] tInt)).heap[w.heap.size + 1 + 1]? = some (.cells #[.slice (some ad0) (k1 + 1) c0, .slice (some ad1) (k1 + 1) c1, .slice (some ad2) (k1 + 1) c2] tInfo) ∧ (W1.alloc (.cells #[.int .i64 (g : Int)] tInt)).cell? (ad0.add f1) = some (.int .i64 (g : Int)) :=
                              ⟨hR4.th.box, ((below_alloc W1 _).cell (World.block_lt_of_cell? W1 _ hdg)).trans hdg⟩
                            clear hW1 x0 x1 x2 y0 y1 y2 r0 r1 r2 q0 q1 q2 d0 d1 d2 g0 g1 g2 cf ci co dg di do2 hwi hwo s1_h s2_h hB2_h hNo_h
                            have hR3_h := Lib.hid hR3
                            have hdg_h := Lib.hid hdg
                            have hF_h := Lib.hid hF
                            have hR4_h := Lib.hid hR4
                            have hF4_h := Lib.hid hF4
                            clear hR3 hdg hF hR4 hF4
                            refine takeZ 0 (v := ?_) rfl (by kernel_rfl) (by kernel_rfl) (by kernel_rfl) (by kernel_rfl) (by kernel_rfl) (fun _ _ _ h => h) hF_h.out (by rfl) (fun W' hW' => ?_) ?_; rotate_left; · (obtain ⟨⟨x0, x1, x2⟩, y0, y1, y2⟩ := box3 hW'.1; have e1 := hW'.2; clear hW'; go_simp; first | done | with_reducible rfl)
                            simp only [Act.put, List.setIfInBounds_toArray, List.set_cons_zero, List.set_cons_succ]
                            refine takeZ 1 (v := ?_) rfl (by kernel_rfl) (by kernel_rfl) (by kernel_rfl) (by kernel_rfl) (by kernel_rfl) (fun _ _ _ h => h) hF_h.out (by rfl) (fun W' hW' => ?_) ?_; rotate_left; · (obtain ⟨⟨x0, x1, x2⟩, y0, y1, y2⟩ := box3 hW'.1; have e1 := hW'.2; clear hW'; go_simp; first | done | with_reducible rfl)
                            simp only [Act.put, List.setIfInBounds_toArray, List.set_cons_zero, List.set_cons_succ]
                            refine takeZ 2 (v := ?_) rfl (by kernel_rfl) (by kernel_rfl) (by kernel_rfl) (by kernel_rfl) (by kernel_rfl) (fun _ _ _ h => h) hF_h.out (by rfl) (fun W' hW' => ?_) ?_; rotate_left; · (obtain ⟨⟨x0, x1, x2⟩, y0, y1, y2⟩ := box3 hW'.1; have e1 := hW'.2; clear hW'; go_simp; first | done | with_reducible rfl)
                            simp only [Act.put, List.setIfInBounds_toArray, List.set_cons_zero, List.set_cons_succ]
                            refine takeZ 3 (v := ?_) rfl (by kernel_rfl) (by kernel_rfl) (by kernel_rfl) (by kernel_rfl) (by kernel_rfl) (fun _ _ _ h => h) hF_h.out (by rfl) (fun W' hW' => ?_) ?_; rotate_left; · (obtain ⟨⟨x0, x1, x2⟩, y0, y1, y2⟩ := box3 hW'.1; have e1 := hW'.2; clear hW'; go_simp; first | done | with_reducible rfl)
                            simp only [Act.put, List.setIfInBounds_toArray, List.set_cons_zero, List.set_cons_succ]
                            refine takeZ 4 (v := ?_) rfl (by kernel_rfl) (by kernel_rfl) (by kernel_rfl) (by kernel_rfl) (by kernel_rfl) (fun _ _ _ h => h) hF_h.out (by rfl) (fun W' hW' => ?_) ?_; rotate_left; · (obtain ⟨⟨x0, x1, x2⟩, y0, y1, y2⟩ := box3 hW'.1; have e1 := hW'.2; clear hW'; go_simp; first | done | with_reducible rfl)
                            simp only [Act.put, List.setIfInBounds_toArray, List.set_cons_zero, List.set_cons_succ]
                            refine takeZ 5 (v := ?_) rfl (by kernel_rfl) (by kernel_rfl) (by kernel_rfl) (by kernel_rfl) (by kernel_rfl) (fun _ _ _ h => h) hF_h.out (by rfl) (fun W' hW' => ?_) ?_; rotate_left; · (obtain ⟨⟨x0, x1, x2⟩, y0, y1, y2⟩ := box3 hW'.1; have e1 := hW'.2; clear hW'; go_simp; first | done | with_reducible rfl)
                            simp only [Act.put, List.setIfInBounds_toArray, List.set_cons_zero, List.set_cons_succ]
                            refine takeZ 6 (v := ?_) rfl (by kernel_rfl) (by kernel_rfl) (by kernel_rfl) (by kernel_rfl) (by kernel_rfl) (fun _ _ _ h => h) hF_h.out (by rfl) (fun W' hW' => ?_) ?_; rotate_left; · (obtain ⟨⟨x0, x1, x2⟩, y0, y1, y2⟩ := box3 hW'.1; have e1 := hW'.2; clear hW'; go_simp; first | done | with_reducible rfl)
                            simp only [Act.put, List.setIfInBounds_toArray, List.set_cons_zero, List.set_cons_succ]
                            refine oneZ 7 rfl (by kernel_rfl) (by rfl) (fun K hK => ?_)
                            go_simp
                            refine hK _ _ (fun _ => hF4_h.out) ?_
                            clear hK K
                            refine appZ 8 rfl (by kernel_rfl) (by rfl) _ _ _ rfl tInt Try.underlying34 info_int rfl (by omega) rfl hR4_h.out.th.f rfl (m := 1) rfl (Sl.rdc (Sl.laid W1 tInt 1 1 #[.int .i64 (g : Int)] (by unfold maxLen; omega) rfl)) (by simp [Value.oneCell']) (by unfold maxLen; omega) (by omega) ?_
                            intro A0' c0' w3 hs0 hA0 hk0 hrd0
                            have ht0 := hR4_h.out.th.app0 hs0 hA0 hk0
                            have hc3 : w3.cell? (ad0.add f1) = some (.int .i64 (g : Int)) := by
                              obtain ⟨ad', h1, h2⟩ := hrd0 _ _ (ints_get j0_h.out)
                              obtain rfl := Option.some.inj h1
                              exact h2
                            have hF5 := And.intro ht0.2.1 hc3
                            refine ⟨fun _ => hF5, ?_⟩
                            obtain ⟨⟨x0, x1, x2⟩, y0, y1, y2⟩ := box3 ht0.2.1
                            have ht0_h := Lib.hid ht0
                            have hF5_h := Lib.hid hF5
                            have hc3_h := Lib.hid hc3
                            clear ht0 hF5 hc3
                            clear hs0 hA0 hk0 hrd0
                            simp only [Act.put, List.setIfInBounds_toArray, List.set_cons_zero, List.set_cons_succ]
                            refine takeZ 9 (v := ?_) rfl (by kernel_rfl) (by kernel_rfl) (by kernel_rfl) (by kernel_rfl) (by kernel_rfl) (fun _ _ _ h => h) hF5_h.out (by rfl) (fun W' hW' => ?_) ?_; rotate_left; · (skip; clear hW'; go_simp; first | done | with_reducible rfl)
                            simp only [Act.put, List.setIfInBounds_toArray, List.set_cons_zero, List.set_cons_succ]
                            refine oneZ 10 rfl (by kernel_rfl) (by rfl) (fun K hK => ?_)
                            go_simp
                            refine hK _ _ (fun h => by cases h) ?_
                            clear hK K
                            refine doneZ (by kernel_rfl) ?_
                            have hT1 := ht0_h.out.1
                            have hb1 := ht0_h.out.2.2 _ (Nat.le_refl _)
                            clear ht0_h x0 x1 x2 y0 y1 y2 hF5_h hc3_h
                            generalize w3.setCell ⟨w.heap.size + 1 + 1, 0, none⟩ (.slice A0' (k1 + 1 + 1) c0') = w4 at hT1 hb1 ⊢
                            obtain ⟨⟨x0, x1, x2⟩, y0, y1, y2⟩ := box3 hT1.box
                            have hT1_h := Lib.hid hT1
                            have hb1_h := Lib.hid hb1
                            clear hT1 hb1
                            go_upto_region 30 with (at_builtin; refine wpList_append1 rfl _ _ _ rfl tInt Try.underlying34 info_int rfl (by omega) rfl hT1_h.out.i rfl rfl rfl (by simp [Value.oneCell']) (by omega) (by omega) ?_; intro A1' c1' w5 hs0 hA0 hk0; have ht0 := hT1_h.out.app1 hs0 hA0 hk0; clear hs0 hA0 hk0 x0 x1 x2 y0 y1 y2; obtain ⟨⟨x0, x1, x2⟩, y0, y1, y2⟩ := box3 ht0.2.1; have ht0_h := Lib.hid ht0; clear ht0)
                            have hT2 := ht0_h.out.1
                            have hb2 := ht0_h.out.2.2 _ (Nat.le_refl _)
                            clear ht0_h x0 x1 x2 y0 y1 y2
                            generalize w5.setCell ⟨w.heap.size + 1 + 1, 1, none⟩ (.slice A1' (k1 + 1 + 1) c1') = w6 at hT2 hb2 ⊢
                            obtain ⟨⟨x0, x1, x2⟩, y0, y1, y2⟩ := box3 hT2.box
                            have hT2_h := Lib.hid hT2
                            have hb2_h := Lib.hid hb2
                            clear hT2 hb2
                            go_wp2_with (at_builtin; refine wpList_append1 rfl _ _ _ rfl tInt Try.underlying34 info_int rfl (by omega) rfl hT2_h.out.o rfl rfl rfl (by simp [Value.oneCell']) (by omega) (by omega) ?_; intro A2' c2' w7 hs0 hA0 hk0; have ht0 := hT2_h.out.app2 hs0 hA0 hk0; clear hs0 hA0 hk0 x0 x1 x2 y0 y1 y2; obtain ⟨⟨x0, x1, x2⟩, y0, y1, y2⟩ := box3 ht0.2.1; have ht0_h := Lib.hid ht0; clear ht0)
                            have hT3 := ht0_h.out.1
                            have hb3 := ht0_h.out.2.2 _ (Nat.le_refl _)
                            clear ht0_h x0 x1 x2 y0 y1 y2
                            go_roundw
                            case rel => exact ⟨k1 + 1 + 1, .node true a t :: r', A0', A1', A2', c0', c1', c2', by omega, by go_num, hR4_h.out.step hpm_h.out hT3 l0_h.out.symm l1_h.out.symm l2_h.out.symm ((hb1_h.out.trans hb2_h.out).trans hb3)⟩
                            case measure => simp [intOf]; omega
                          · have h12' : 12 < ao + bo := by omega
                            have hN := parse_none hR1_h.out.par hn_h.out (by rw [hst_h.out, hfit, decide_eq_false (fun h => ho2 h.2)]; rfl)
                            have HN := Lib.hid hN
                            clear hN
                            have hfit_h := Lib.hid hfit
                            clear hfit
                            go_wp2_with (fail)
                            go_quiet (fail)
                            go_wp2_with (fail)
                            refine bodyPost_ret (results_cell_tmp rfl _ _ (w.heap.size + 1) _ _ (0, 0) _ rfl s1_h.out Try.underlying73 rfl (by kernel_rfl)) rfl ?_
                            exact LbA.no HN.out (below_drewN hB2_h.out _)
                        · have h12 : 12 < ai + bi := by omega
                          have hN := parse_none hR1_h.out.par hn_h.out (by rw [hst_h.out, hfit, decide_eq_false (fun h => ho h.1)]; rfl)
                          have HN := Lib.hid hN
                          clear hN
                          have hfit_h := Lib.hid hfit
                          clear hfit
                          go_wp2_with (fail)
                          go_quiet (fail)
                          go_wp2_with (fail)
                          refine bodyPost_ret (results_cell_tmp rfl _ _ (w.heap.size + 1) _ _ (0, 0) _ rfl s1_h.out Try.underlying73 rfl (by kernel_rfl)) rfl ?_
                          exact LbA.no HN.out (below_drewN hB2_h.out _)
                · have hvb : (v != 0) = true := by simp [hv]
                  have hN := hNo_h.out (.inl hv)
                  have hv_h := Lib.hid hv
                  have hN_h := Lib.hid hN
                  clear hv hN
                  cases p
                  · simp only [Bool.not_false] at e16 f15
                    go_wp2_with (fail)
                    refine bodyPost_ret (results_cell_tmp rfl _ _ (w.heap.size + 1) _ _ (0, 0) _ rfl s1_h.out Try.underlying73 rfl (by kernel_rfl)) rfl ?_
                    exact LbA.no hN_h.out hB2_h.out
                  · simp only [Bool.not_true] at e16 f15
                    go_wp2_with (fail)
                    refine bodyPost_ret (results_cell_tmp rfl _ _ (w.heap.size + 1) _ _ (0, 0) _ rfl s1_h.out Try.underlying73 rfl (by kernel_rfl)) rfl ?_
                    exact LbA.no hN_h.out hB2_h.out
              · have he : (!s.toList.isEmpty) = true := by
                  simp only [Bool.not_eq_true', List.isEmpty_eq_false_iff]
                  exact fun h => hs (name_eq h)
                have hN := hNo_h.out (.inr (.inl hs))
                have hs_h := Lib.hid hs
                have hN_h := Lib.hid hN
                clear hs hN
                cases p
                · simp only [Bool.not_false] at e16 f15
                  go_wp2_with (fail)
                  refine bodyPost_ret (results_cell_tmp rfl _ _ (w.heap.size + 1) _ _ (0, 0) _ rfl s1_h.out Try.underlying73 rfl (by kernel_rfl)) rfl ?_
                  exact LbA.no hN_h.out hB2_h.out
                · simp only [Bool.not_true] at e16 f15
                  go_wp2_with (fail)
                  refine bodyPost_ret (results_cell_tmp rfl _ _ (w.heap.size + 1) _ _ (0, 0) _ rfl s1_h.out Try.underlying73 rfl (by kernel_rfl)) rfl ?_
                  exact LbA.no hN_h.out hB2_h.out
            · have hnj : ¬ isJoin (κ, v, s) := hj
              have hN := parse_none hR1.par hn_h.out (by rw [step_leaf hnj, ← hb]; rfl)
              have e15 : (κ != 15) = true := by simp; omega
              have e16 : (κ != 16) = true := by simp; omega
              have hb_h := Lib.hid hb
              have h17_h := Lib.hid h17
              have hj_h := Lib.hid hj
              have hnj_h := Lib.hid hnj
              have hN_h := Lib.hid hN
              have hx_h := Lib.hid hx
              have hxx_h := Lib.hid hxx
              have s1_h := Lib.hid s1
              have s2_h := Lib.hid s2
              have hB2_h := Lib.hid hB2
              have hR1_h := Lib.hid hR1
              have hR1'_h := Lib.hid hR1'
              have kn_h := Lib.hid kn
              have hB1_h := Lib.hid hB1
              have hB1'_h := Lib.hid hB1'
              clear hb h17 hj hnj hN hx hxx s1 s2 hB2 hR1 hR1' kn hB1 hB1'
              clear hL hAr
              go_wp2_with (fail)
              refine bodyPost_ret (results_cell_tmp rfl _ _ (w.heap.size + 1) _ _ (0, 0) _ rfl s1_h.out Try.underlying73 rfl (by kernel_rfl)) rfl ?_
              exact LbA.no hN_h.out hB2_h.out
        · have hκ : ¬ κ = 17 ∧ ¬ isJoin (κ, v, s) := by
            have := leafB_kind hb.symm
            refine ⟨?_, this⟩
            have hb' := hb
            simp only [leafB] at hb'
            have := of_decide_eq_true hb'.symm
            omega
          have h17 : (κ == 17) = false := by simp [hκ.1]
          have hpm := parse_more hR1.par hn_h.out (by rw [step_leaf hκ.2, ← hb]; rfl)
          have hln := flats_len hR1.par (by rw [← hm_h.out]; omega)
          obtain ⟨l0, l1, l2⟩ := lists_leaf (κ, v, s) st
          rw [hln] at l0
          have hb_h := Lib.hid hb
          have hκ_h := Lib.hid hκ
          have hpm_h := Lib.hid hpm
          have hln_h := Lib.hid hln
          have l0_h := Lib.hid l0
          have l1_h := Lib.hid l1
          have l2_h := Lib.hid l2
          have hR1_h := Lib.hid hR1
          have kn_h := Lib.hid kn
          have hB1_h := Lib.hid hB1
          have hB1'_h := Lib.hid hB1'
          clear hb hκ hpm hln l0 l1 l2 hR1 kn hB1 hB1'
          go_wp2_with (fail)
          refine (hAr.out _).mono ?_
          rintro e w2 ⟨rfl, hB2⟩
          have hR2 := hR1_h.out.below hB2
          obtain ⟨⟨x0, x1, x2⟩, y0, y1, y2⟩ := box3 hR2.th.box
          have kn2 := box_below kn_h.out hB2
          obtain ⟨⟨d0, d1, d2⟩, g0, g1, g2⟩ := box3 kn2
          have hR2_h := Lib.hid hR2
          have kn2_h := Lib.hid kn2
          have hB2_h := Lib.hid hB2
          clear hR2 kn2 hB2
          clear hL hAr
          go_upto_region 15 with (at_builtin; refine wpList_append1 rfl _ _ _ rfl tInt Try.underlying34 info_int rfl (by omega) rfl hR2_h.out.th.f rfl rfl rfl (by simp [Value.oneCell']) (by omega) (by omega) ?_; intro A0' c0' w3 hs0 hA0 hk0; have ht0 := hR2_h.out.th.app0 hs0 hA0 hk0; clear hs0 hA0 hk0 x0 x1 x2 y0 y1 y2; obtain ⟨⟨x0, x1, x2⟩, y0, y1, y2⟩ := box3 ht0.2.1; have ht0_h := Lib.hid ht0; clear ht0)
          have hT1 := ht0_h.out.1
          have hb1 := ht0_h.out.2.2 _ (Nat.le_refl _)
          clear ht0_h x0 x1 x2 y0 y1 y2 d0 d1 d2 g0 g1 g2
          generalize w3.setCell ⟨w.heap.size + 1 + 1, 0, none⟩ (.slice A0' (k + 1) c0') = w4 at hT1 hb1 ⊢
          obtain ⟨⟨x0, x1, x2⟩, y0, y1, y2⟩ := box3 hT1.box
          have hT1_h := Lib.hid hT1
          have hb1_h := Lib.hid hb1
          clear hT1 hb1
          go_upto_region 16 with (at_builtin; refine wpList_append1 rfl _ _ _ rfl tInt Try.underlying34 info_int rfl (by omega) rfl hT1_h.out.i rfl rfl rfl (by simp [Value.oneCell']) (by omega) (by omega) ?_; intro A1' c1' w5 hs0 hA0 hk0; have ht0 := hT1_h.out.app1 hs0 hA0 hk0; clear hs0 hA0 hk0 x0 x1 x2 y0 y1 y2; obtain ⟨⟨x0, x1, x2⟩, y0, y1, y2⟩ := box3 ht0.2.1; have ht0_h := Lib.hid ht0; clear ht0)
          have hT2 := ht0_h.out.1
          have hb2 := ht0_h.out.2.2 _ (Nat.le_refl _)
          clear ht0_h x0 x1 x2 y0 y1 y2
          generalize w5.setCell ⟨w.heap.size + 1 + 1, 1, none⟩ (.slice A1' (k + 1) c1') = w6 at hT2 hb2 ⊢
          obtain ⟨⟨x0, x1, x2⟩, y0, y1, y2⟩ := box3 hT2.box
          have hT2_h := Lib.hid hT2
          have hb2_h := Lib.hid hb2
          clear hT2 hb2
          go_wp2_with (at_builtin; refine wpList_append1 rfl _ _ _ rfl tInt Try.underlying34 info_int rfl (by omega) rfl hT2_h.out.o rfl rfl rfl (by simp [Value.oneCell']) (by omega) (by omega) ?_; intro A2' c2' w7 hs0 hA0 hk0; have ht0 := hT2_h.out.app2 hs0 hA0 hk0; clear hs0 hA0 hk0 x0 x1 x2 y0 y1 y2; obtain ⟨⟨x0, x1, x2⟩, y0, y1, y2⟩ := box3 ht0.2.1; have ht0_h := Lib.hid ht0; clear ht0)
          have hT3 := ht0_h.out.1
          have hb3 := ht0_h.out.2.2 _ (Nat.le_refl _)
          clear ht0_h x0 x1 x2 y0 y1 y2
          go_roundw
          case rel => exact ⟨k + 1, .leaf (κ, v, s) :: st, A0', A1', A2', c0', c1', c2', by omega, by go_num, hR2_h.out.step hpm_h.out hT3 l0_h.out.symm l1_h.out.symm l2_h.out.symm ((hb1_h.out.trans hb2_h.out).trans hb3)⟩
          case measure => simp [intOf]; omega
      · obtain rfl : k = m := by omega
        have hpar := hR.par
        rw [List.take_of_length_le (by rw [hm_h.out]; omega)] at hpar
        have hln := flats_len hR.par (by rw [← hm_h.out]; omega)
        obtain ⟨kq, rfl⟩ : ∃ kq, k = kq + 1 := ⟨k - 1, by omega⟩
        obtain ⟨t, r, rfl⟩ : ∃ t r, st = t :: r := by
          match st, hln with
          | [], h => simp [flats] at h
          | t :: r, _ => exact ⟨t, r, rfl⟩
        obtain ⟨i0, -, -⟩ := infos_at t r hln
        rw [Nat.add_sub_cancel] at i0
        obtain ⟨f, hf⟩ : ∃ f, f = (flats r).length := ⟨_, rfl⟩
        rw [← hf] at i0
        obtain ⟨ad0, hA0, hlt0, cf, _⟩ := Sl.cell hR.th.f (ints_get i0)
        subst hA0
        have hres : treeM l = oneOf (t :: r) := treeM_of ⟨by rw [← hm_h.out]; omega, by rw [← hm_h.out]; omega⟩ hpar
        have hone : ((f : Int) == 0) = (oneOf (t :: r)).isSome := by
          match r, hf with
          | [], h => subst h; rfl
          | a :: r', h =>
            have := sz_pos a
            unfold sz at this
            have hb : ((f : Int) == 0) = false := by
              simp only [beq_eq_false_iff_ne]
              simp only [flats, List.length_append] at h
              omega
            rw [hb]; rfl
        have hkc : (kq : Int) < (kq : Int) + 1 := by omega
        have hk0 : (0 : Int) ≤ (kq : Int) := by omega
        have i0_h := Lib.hid i0
        have hf_h := Lib.hid hf
        have hres_h := Lib.hid hres
        have hone_h := Lib.hid hone
        have hpar_h := Lib.hid hpar
        have hln_h := Lib.hid hln
        clear i0 hf hres hone hpar hln
        clear h
        go_wp2_with (fail)
        refine beginZw 11 (fun w' => w'.heap[w.heap.size + 1 + 1]? = some (.cells #[.slice (some ad0) (kq + 1) c0, .slice A1 (kq + 1) c1, .slice A2 (kq + 1) c2] tInfo) ∧ w'.heap[w.heap.size]? = some (.cells #[.slice A (kq + 1) c] tTerm) ∧ w'.cell? (ad0.add kq) = some (.int .i64 (f : Int))) (by kernel_rfl) (fun W1 hW1 => ?_)
        have hR3 : LbR w.heap.size w A (kq + 1) c l (kq + 1) (t :: r) (some ad0) A1 A2 c0 c1 c2 W1 := by rw [hW1]; exact hR.below (below_drew (Below.refl _ _))
        have cf1 : W1.cell? (ad0.add kq) = some (.int .i64 (f : Int)) := by rw [hW1]; exact cf
        have hF := And.intro hR3.th.box (And.intro hR3.kb cf1)
        clear hW1
        have hx := hR3.kr
        have hxl := box_lt hx
        obtain ⟨s1, s2⟩ := set3 (a := .slice (some ad0) (kq + 1) c0) (b := .slice A1 (kq + 1) c1) (c := .slice A2 (kq + 1) c2) hx
        have hFs := And.intro (box_keeps hR3.th.box s2 (by omega)) (And.intro (box_keeps hR3.kb s2 (by omega)) ((World.cell?_of_block (a := ad0.add kq) (s2.block _ (by rw [block_of_add]; exact hR3.th.f.lt _ (by simp)) (fun e => by rw [block_of_add] at e; have := hR3.th.fr ad0.block (.inl (by simp)); omega))).trans cf1))
        have hB2 := below_keeps hR3.bel s2 (by omega) (fun k hk => by omega)
        obtain ⟨⟨r0, r1, r2⟩, q0, q1, q2⟩ := box3 hx
        have hrd : ∀ t', treeM l = some t' → kq + 1 = sz t' ∧ kq + 1 = sz t' ∧ kq + 1 = sz t' ∧ RdC (((W1.setCell ⟨w.heap.size + 1, 0, none⟩ (.slice (some ad0) (kq + 1) c0)).setCell ⟨w.heap.size + 1, 1, none⟩ (.slice A1 (kq + 1) c1)).setCell ⟨w.heap.size + 1, 2, none⟩ (.slice A2 (kq + 1) c2)) (some ad0) (ints (frL [t'])) ∧ RdC (((W1.setCell ⟨w.heap.size + 1, 0, none⟩ (.slice (some ad0) (kq + 1) c0)).setCell ⟨w.heap.size + 1, 1, none⟩ (.slice A1 (kq + 1) c1)).setCell ⟨w.heap.size + 1, 2, none⟩ (.slice A2 (kq + 1) c2)) A1 (ints (inL [t'])) ∧ RdC (((W1.setCell ⟨w.heap.size + 1, 0, none⟩ (.slice (some ad0) (kq + 1) c0)).setCell ⟨w.heap.size + 1, 1, none⟩ (.slice A1 (kq + 1) c1)).setCell ⟨w.heap.size + 1, 2, none⟩ (.slice A2 (kq + 1) c2)) A2 (ints (ouL [t'])) ∧ ∀ b, b ∈ fpA (some ad0) ∨ b ∈ fpA A1 ∨ b ∈ fpA A2 → w.heap.size ≤ b := by
          intro t' ht'
          rw [hres_h.out] at ht'
          have e := oneOf_some ht'
          rw [e] at hR3 hln_h
          have hlen : kq + 1 = sz t' := by have := hln_h.out; simpa [flats, sz] using this.symm
          have ff := fun b hb e => (show ¬ b = w.heap.size + 1 from fun e => by have := hR3.th.fr b hb; omega) e
          exact ⟨hlen, hlen, hlen, (hR3.th.f.keeps s2 (fun b hb => ff b (.inl hb))).rdc, (hR3.th.i.keeps s2 (fun b hb => ff b (.inr (.inl hb)))).rdc, (hR3.th.o.keeps s2 (fun b hb => ff b (.inr (.inr hb)))).rdc, fun b hb => by have := hR3.th.fr b hb; omega⟩
        have hR3_h := Lib.hid hR3
        have cf1_h := Lib.hid cf1
        have hF_h := Lib.hid hF
        have hFs_h := Lib.hid hFs
        have hx_h := Lib.hid hx
        have s1_h := Lib.hid s1
        have s2_h := Lib.hid s2
        have hB2_h := Lib.hid hB2
        have hR_h := Lib.hid hR
        have cf_h := Lib.hid cf
        have hrd_h := Lib.hid hrd
        clear hR3 cf1 hF hFs hx s1 s2 hB2 hR cf hrd
        refine takeZ 0 (v := ?_) rfl (by kernel_rfl) (by kernel_rfl) (by kernel_rfl) (by kernel_rfl) (by kernel_rfl) (fun _ _ _ h => h) hF_h.out (by rfl) (fun W' hW' => ?_) ?_; rotate_left; · (obtain ⟨⟨x0, x1, x2⟩, y0, y1, y2⟩ := box3 hW'.1; have z0 : W'.cell? ⟨w.heap.size, 0, none⟩ = some (.slice A (kq + 1) c) := (by simp [World.cell?, hW'.2.1]); have e1 := hW'.2.2; have r0 : IntKind.i64.wrap (kq : Int) = (kq : Int) := IntWalk.i64_in _ (by omega); clear hW'; go_simp; first | done | with_reducible rfl)
        simp only [Act.put, List.setIfInBounds_toArray, List.set_cons_zero, List.set_cons_succ]
        refine takeZ 1 (v := ?_) rfl (by kernel_rfl) (by kernel_rfl) (by kernel_rfl) (by kernel_rfl) (by kernel_rfl) (fun _ _ _ h => h) hF_h.out (by rfl) (fun W' hW' => ?_) ?_; rotate_left; · (obtain ⟨⟨x0, x1, x2⟩, y0, y1, y2⟩ := box3 hW'.1; have z0 : W'.cell? ⟨w.heap.size, 0, none⟩ = some (.slice A (kq + 1) c) := (by simp [World.cell?, hW'.2.1]); have e1 := hW'.2.2; have r0 : IntKind.i64.wrap (kq : Int) = (kq : Int) := IntWalk.i64_in _ (by omega); clear hW'; go_simp; first | done | with_reducible rfl)
        simp only [Act.put, List.setIfInBounds_toArray, List.set_cons_zero, List.set_cons_succ]
        refine takeZ 2 (v := ?_) rfl (by kernel_rfl) (by kernel_rfl) (by kernel_rfl) (by kernel_rfl) (by kernel_rfl) (fun _ _ _ h => h) hF_h.out (by rfl) (fun W' hW' => ?_) ?_; rotate_left; · (obtain ⟨⟨x0, x1, x2⟩, y0, y1, y2⟩ := box3 hW'.1; have z0 : W'.cell? ⟨w.heap.size, 0, none⟩ = some (.slice A (kq + 1) c) := (by simp [World.cell?, hW'.2.1]); have e1 := hW'.2.2; have r0 : IntKind.i64.wrap (kq : Int) = (kq : Int) := IntWalk.i64_in _ (by omega); clear hW'; go_simp; first | done | with_reducible rfl)
        simp only [Act.put, List.setIfInBounds_toArray, List.set_cons_zero, List.set_cons_succ]
        refine takeZ 3 (v := ?_) rfl (by kernel_rfl) (by kernel_rfl) (by kernel_rfl) (by kernel_rfl) (by kernel_rfl) (fun _ _ _ h => h) hF_h.out (by rfl) (fun W' hW' => ?_) ?_; rotate_left; · (obtain ⟨⟨x0, x1, x2⟩, y0, y1, y2⟩ := box3 hW'.1; have z0 : W'.cell? ⟨w.heap.size, 0, none⟩ = some (.slice A (kq + 1) c) := (by simp [World.cell?, hW'.2.1]); have e1 := hW'.2.2; have r0 : IntKind.i64.wrap (kq : Int) = (kq : Int) := IntWalk.i64_in _ (by omega); clear hW'; go_simp; first | done | with_reducible rfl)
        simp only [Act.put, List.setIfInBounds_toArray, List.set_cons_zero, List.set_cons_succ]
        refine takeZ 4 (v := ?_) rfl (by kernel_rfl) (by kernel_rfl) (by kernel_rfl) (by kernel_rfl) (by kernel_rfl) (fun _ _ _ h => h) hF_h.out (by rfl) (fun W' hW' => ?_) ?_; rotate_left; · (obtain ⟨⟨x0, x1, x2⟩, y0, y1, y2⟩ := box3 hW'.1; have z0 : W'.cell? ⟨w.heap.size, 0, none⟩ = some (.slice A (kq + 1) c) := (by simp [World.cell?, hW'.2.1]); have e1 := hW'.2.2; have r0 : IntKind.i64.wrap (kq : Int) = (kq : Int) := IntWalk.i64_in _ (by omega); clear hW'; go_simp; first | done | with_reducible rfl)
        simp only [Act.put, List.setIfInBounds_toArray, List.set_cons_zero, List.set_cons_succ]
        refine takeZ 5 (v := ?_) rfl (by kernel_rfl) (by kernel_rfl) (by kernel_rfl) (by kernel_rfl) (by kernel_rfl) (fun _ _ _ h => h) hF_h.out (by rfl) (fun W' hW' => ?_) ?_; rotate_left; · (obtain ⟨⟨x0, x1, x2⟩, y0, y1, y2⟩ := box3 hW'.1; have z0 : W'.cell? ⟨w.heap.size, 0, none⟩ = some (.slice A (kq + 1) c) := (by simp [World.cell?, hW'.2.1]); have e1 := hW'.2.2; have r0 : IntKind.i64.wrap (kq : Int) = (kq : Int) := IntWalk.i64_in _ (by omega); clear hW'; go_simp; first | done | with_reducible rfl)
        simp only [Act.put, List.setIfInBounds_toArray, List.set_cons_zero, List.set_cons_succ]
        refine takeZ 6 (v := ?_) rfl (by kernel_rfl) (by kernel_rfl) (by kernel_rfl) (by kernel_rfl) (by kernel_rfl) (fun _ _ _ h => h) hF_h.out (by rfl) (fun W' hW' => ?_) ?_; rotate_left; · (obtain ⟨⟨x0, x1, x2⟩, y0, y1, y2⟩ := box3 hW'.1; have z0 : W'.cell? ⟨w.heap.size, 0, none⟩ = some (.slice A (kq + 1) c) := (by simp [World.cell?, hW'.2.1]); have e1 := hW'.2.2; have r0 : IntKind.i64.wrap (kq : Int) = (kq : Int) := IntWalk.i64_in _ (by omega); clear hW'; go_simp; first | done | with_reducible rfl)
        simp only [Act.put, List.setIfInBounds_toArray, List.set_cons_zero, List.set_cons_succ]
        refine takeZ 7 (v := ?_) rfl (by kernel_rfl) (by kernel_rfl) (by kernel_rfl) (by kernel_rfl) (by kernel_rfl) (fun _ _ _ h => h) hF_h.out (by rfl) (fun W' hW' => ?_) ?_; rotate_left; · (obtain ⟨⟨x0, x1, x2⟩, y0, y1, y2⟩ := box3 hW'.1; have z0 : W'.cell? ⟨w.heap.size, 0, none⟩ = some (.slice A (kq + 1) c) := (by simp [World.cell?, hW'.2.1]); have e1 := hW'.2.2; have r0 : IntKind.i64.wrap (kq : Int) = (kq : Int) := IntWalk.i64_in _ (by omega); clear hW'; go_simp; first | done | with_reducible rfl)
        simp only [Act.put, List.setIfInBounds_toArray, List.set_cons_zero, List.set_cons_succ]
        refine takeZ 8 (v := ?_) rfl (by kernel_rfl) (by kernel_rfl) (by kernel_rfl) (by kernel_rfl) (by kernel_rfl) (fun _ _ _ h => h) hF_h.out (by rfl) (fun W' hW' => ?_) ?_; rotate_left; · (obtain ⟨⟨x0, x1, x2⟩, y0, y1, y2⟩ := box3 hW'.1; have z0 : W'.cell? ⟨w.heap.size, 0, none⟩ = some (.slice A (kq + 1) c) := (by simp [World.cell?, hW'.2.1]); have e1 := hW'.2.2; have r0 : IntKind.i64.wrap (kq : Int) = (kq : Int) := IntWalk.i64_in _ (by omega); clear hW'; go_simp; first | done | with_reducible rfl)
        simp only [Act.put, List.setIfInBounds_toArray, List.set_cons_zero, List.set_cons_succ]
        refine takeZ 9 (v := ?_) rfl (by kernel_rfl) (by kernel_rfl) (by kernel_rfl) (by kernel_rfl) (by kernel_rfl) (fun _ _ _ h => h) hF_h.out (by rfl) (fun W' hW' => ?_) ?_; rotate_left; · (obtain ⟨⟨x0, x1, x2⟩, y0, y1, y2⟩ := box3 hW'.1; have z0 : W'.cell? ⟨w.heap.size, 0, none⟩ = some (.slice A (kq + 1) c) := (by simp [World.cell?, hW'.2.1]); have e1 := hW'.2.2; have r0 : IntKind.i64.wrap (kq : Int) = (kq : Int) := IntWalk.i64_in _ (by omega); clear hW'; go_simp; first | done | with_reducible rfl)
        simp only [Act.put, List.setIfInBounds_toArray, List.set_cons_zero, List.set_cons_succ]
        refine oneZ 10 rfl (by kernel_rfl) (by rfl) (fun K hK => ?_)
        go_simp
        refine hK _ _ (fun _ => hFs_h.out) ?_
        clear hK K
        refine oneZ 11 rfl (by kernel_rfl) (by rfl) (fun K hK => ?_)
        go_simp
        refine hK _ _ (fun h => by cases h) ?_
        clear hK K
        refine doneZ (by kernel_rfl) ?_
        go_wp2_with (fail)
        refine bodyPost_ret (results_cell_tmp rfl _ _ (w.heap.size + 1) _ _ (0, 0) _ rfl s1_h.out Try.underlying73 rfl (by kernel_rfl)) rfl ?_
        exact ⟨some ad0, A1, A2, c0, c1, c2, kq + 1, kq + 1, kq + 1, ((f : Int) == 0), rfl, by rw [hone_h.out, hres_h.out], hrd_h.out, hB2_h.out⟩
end Go.Proofs.Ytlmnmdahphahfaa
