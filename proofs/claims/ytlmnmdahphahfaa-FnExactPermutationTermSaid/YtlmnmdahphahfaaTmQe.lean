/-
  THE WALK: tmLayer of the reference.
-/
import Derived.Test.YtlmnmdahphahfaaTmMj
import Derived.Test.YtlmnmdahphahfaaTmQd
namespace Go.Proofs.Ytlmnmdahphahfaa
open Go.RowKit

set_option maxRecDepth 8000 in
set_option maxHeartbeats 1000000 in
theorem tmId_1 (x : Int) (w : World) : Calls Try.prog 93 #[.int .i64 x] w (RetTm w [(1, x, noName)]) := by
  have hO := fun W => tmOne_any 1 x W
  obtain ⟨W, hW⟩ : ∃ W, W = w.alloc (.cells #[.slice none 0 0] tTerm) := ⟨_, rfl⟩
  have b0 := below_alloc w (.cells #[.slice none 0 0] tTerm)
  have k0 := heap_alloc_new w (.cells #[.slice none 0 0] tTerm)
  rw [← hW] at b0 k0
  have hz := box_lt k0
  have b0_h := Lib.hid b0
  have k0_h := Lib.hid k0
  have hO_h := Lib.hid hO
  clear b0 k0 hO
  go_enter Try.func93, Try.ntmps93
  go_wp2_with (fail)
  rw [← hW]
  clear hW
  refine (hO_h.out _).mono ?_
  rintro e w1 ⟨v1, fp1, rfl, ⟨A1, c1, rfl, hN, rfl⟩, hF, hb1⟩
  replace k0_h := Lib.hid (box_below k0_h.out hb1)
  have hB1 := below_trans b0_h.out hb1 b0_h.out.size
  obtain ⟨s1, s2⟩ := set1 k0_h.out (.slice A1 1 c1)
  have hB2 := below_keeps hB1 s2 hB1.size (fun k hk => by omega)
  have hN2 := NS.keeps hN s2 (fun b hb e => by have := hF b hb; omega)
  have hF2 : FreshL w.heap.size (fpA A1) := fun b hb => by have := hF b hb; omega
  obtain ⟨k0_c, k0_f⟩ := bx1 k0_h.out
  have hN_h := Lib.hid hN
  have hF_h := Lib.hid hF
  have hb1_h := Lib.hid hb1
  have hB1_h := Lib.hid hB1
  have s1_h := Lib.hid s1
  have s2_h := Lib.hid s2
  have hB2_h := Lib.hid hB2
  have hN2_h := Lib.hid hN2
  have hF2_h := Lib.hid hF2
  clear hN hF hb1 hB1 s1 s2 hB2 hN2 hF2
  go_wp2_with (fail)
  refine bodyPost_ret (results_cell_row rfl _ _ w.heap.size _ _ (0, 0) _ rfl s1_h.out Try.underlying30 rfl (by kernel_rfl)) rfl ?_
  exact ⟨_, _, rfl, ⟨A1, c1, rfl, hN2_h.out, rfl⟩, hF2_h.out, hB2_h.out⟩

/-- What stands at the ifs of tmLayer. -/
structure TlR (w : World) (A : Option Addr) (O : List Nd) (wr : World) : Prop where
  box : ∃ A4 c4 n4, n4 = O.length ∧ wr.heap[w.heap.size]? = some (.cells #[.slice A4 n4 c4] tTerm) ∧ NS wr A4 c4 O ∧ (∀ b, b ∈ fpA A4 → b ∈ fpA A ∨ w.heap.size + 2 ≤ b)
  res : wr.heap[w.heap.size + 1]? = some (.cells #[.slice none 0 0] tTerm)
  bel : Below w.heap.size w wr
def layF (f : Nat) : List Nd := if 0 < f then (1, (f : Int), noName) :: ((2, 0, noName) :: [joinNd true]) else [(2, 0, noName)]
def layX (f b : Nat) : List Nd := if 0 < b then layF f ++ [(1, (b : Int), noName), joinNd true] else layF f
theorem layX_eq (n i : Nat) : layX i (n - 2 - i) = layerN n i := rfl
theorem layF_le (f : Nat) : (layF f).length ≤ 3 := by unfold layF; split <;> simp
set_option maxRecDepth 8000 in
set_option maxHeartbeats 4000000 in
theorem tmLayer_any (f b : Nat) (A : Option Addr) (c : Nat) (w : World) (h : NS w A c [(2, 0, noName)]) (_hf : f ≤ 1000) (_hb : b ≤ 1000) :
    Calls Try.prog 94 #[.int .i64 f, .agg #[.slice A 1 c], .int .i64 b] w (fun e w' => ∃ A' c' n', e = .returned (.agg #[.slice A' n' c']) ∧ n' = (layX f b).length ∧ NS w' A' c' (layX f b) ∧ (∀ x, x ∈ fpA A' → x ∈ fpA A ∨ w.heap.size ≤ x) ∧ Below w.heap.size w w') := by
  obtain ⟨W, hW⟩ : ∃ W, W = (w.alloc (.cells #[.slice A 1 c] tTerm)).alloc (.cells #[.slice none 0 0] tTerm) := ⟨_, rfl⟩
  obtain ⟨b0, k0, k1, hz⟩ := two_boxes w (.cells #[.slice A 1 c] tTerm) (.cells #[.slice none 0 0] tTerm)
  rw [← hW] at b0 k0 k1 hz
  have hlt : ∀ x, x ∈ fpA A → x < w.heap.size := h.lt
  have hN := h.below b0
  have hR0 : TlR w A [(2, 0, noName)] W := ⟨⟨A, c, 1, rfl, k0, hN, fun b hb => .inl hb⟩, k1, b0⟩
  clear k0 k1 b0 hN hz h
  obtain ⟨X, hX⟩ : ∃ X, X = layX f b := ⟨_, rfl⟩
  rw [← hX]
  have hR0_h := Lib.hid hR0
  have hX_h := Lib.hid hX
  have hlt_h := Lib.hid hlt
  clear hR0 hX hlt
  go_enter Try.func94, Try.ntmps94
  go_upto_if 8 with (fail)
  rw [← hW]
  clear hW
  go_cut [] (fun wx => TlR w A (layF f) wx)
  case first =>
    obtain ⟨wx, hwx⟩ : ∃ wx, wx = W := ⟨_, rfl⟩
    rw [← hwx] at hR0_h ⊢
    clear hwx
    obtain ⟨O, hO⟩ : ∃ O : List Nd, O = [(2, 0, noName)] := ⟨_, rfl⟩
    have hR := hR0_h.out
    rw [← hO] at hR
    clear hR0_h
    by_cases h0 : 0 < f
    · have h0I : (0 : Int) < (f : Int) := by omega
      obtain ⟨A4, c4, n4, hn4, hbox, hN4, hF4⟩ := hR.box
      have hxN : O.length ≤ 3 := by rw [hO]; simp
      have hO_h := Lib.hid hO
      clear hO
      have hBw := hR.bel
      have k0 := hbox
      have k1 := hR.res
      have hkk := box_lt k1
      clear hR hbox
      have hn4_h := Lib.hid hn4
      have hN4_h := Lib.hid hN4
      have hF4_h := Lib.hid hF4
      have hBw_h := Lib.hid hBw
      have k0_h := Lib.hid k0
      have k1_h := Lib.hid k1
      have hxN_h := Lib.hid hxN
      clear hn4 hN4 hF4 hBw k0 k1 hxN
      go_wp2_with (fail)
      refine beginZw 4 (fun w' => w'.heap[w.heap.size]? = some (.cells #[.slice A4 n4 c4] tTerm)) (by kernel_rfl) (fun W3 hW3 => ?_)
      have hbd : Below wx.heap.size wx W3 := by rw [hW3]; exact below_drew (Below.refl _ _)
      clear hW3
      replace k0_h := Lib.hid (box_below k0_h.out hbd)
      replace k1_h := Lib.hid (box_below k1_h.out hbd)
      have hB3 := below_trans hBw_h.out hbd hBw_h.out.size
      have hN3 := hN4_h.out.below hbd
      have hbd_h := Lib.hid hbd
      have hB3_h := Lib.hid hB3
      have hN3_h := Lib.hid hN3
      clear hbd hB3 hN3
      refine takeU 0 (v := ?_) rfl (by kernel_rfl) (by kernel_rfl) (by kernel_rfl) (by kernel_rfl) (fun _ _ _ h => h) k0_h.out (by rfl) (fun W' => ?_) ?_; rotate_left; · (skip; go_simp; first | done | with_reducible rfl)
      simp only [Act.put, List.setIfInBounds_toArray, List.set_cons_zero, List.set_cons_succ]
      refine takeC 2 (v := ?_) rfl (by kernel_rfl) (by kernel_rfl) (by kernel_rfl) (by kernel_rfl) (fun _ _ _ h => h) k0_h.out (by rfl) (fun W' hW' => ?_) ?_; rotate_left; · (obtain ⟨y0, y1⟩ := bx1 hW'; clear hW'; go_simp; first | done | with_reducible rfl)
      simp only [Act.put, List.setIfInBounds_toArray, List.set_cons_zero, List.set_cons_succ]
      refine callZ 1 (f := ?f1) (args := ?args1) rfl (by kernel_rfl) (by rfl) ?hrun1 ?hcall1
      case hrun1 => (go_simp; first | done | with_reducible rfl | (constructor <;> with_reducible rfl))
      refine (tmId_1 f _).mono ?_
      rintro e w5 ⟨v5, fp5, rfl, ⟨A5, c5, rfl, hN5, rfl⟩, hF5, hb5⟩
      replace k0_h := Lib.hid (box_below k0_h.out hb5)
      replace k1_h := Lib.hid (box_below k1_h.out hb5)
      have hB5 := below_trans hB3_h.out hb5 hB3_h.out.size
      have hN3b := hN3_h.out.below hb5
      have hr4 : RdTm w5 (.agg #[.slice A4 n4 c4]) O := ⟨A4, c4, by rw [hn4_h.out], Sl.rdc hN3b⟩
      have hr5 : RdTm w5 (.agg #[.slice A5 1 c5]) [(1, (f : Int), noName)] := ⟨A5, c5, rfl, Sl.rdc hN5⟩
      have hOl : O.length ≤ 3 := hxN_h.out
      refine ⟨_, rfl, fun _ => k0_h.out, ?_⟩
      have hN5_h := Lib.hid hN5
      have hF5_h := Lib.hid hF5
      have hb5_h := Lib.hid hb5
      have hB5_h := Lib.hid hB5
      have hN3b_h := Lib.hid hN3b
      have hr4_h := Lib.hid hr4
      have hr5_h := Lib.hid hr5
      have hOl_h := Lib.hid hOl
      clear hN5 hF5 hb5 hB5 hN3b hr4 hr5 hOl
      simp only [Act.put, List.setIfInBounds_toArray, List.set_cons_zero, List.set_cons_succ]
      refine callZ 3 (f := ?f2) (args := ?args2) rfl (by kernel_rfl) (by rfl) ?hrun2 ?hcall2
      case hrun2 => (go_simp; first | done | with_reducible rfl | (constructor <;> with_reducible rfl))
      refine (tmPar_any hr5_h.out hr4_h.out (by have := hOl_h.out; first | omega | simp) (by have := hOl_h.out; first | omega | simp)).mono ?_
      rintro e w6 ⟨v6, fp6, rfl, ⟨A6, c6, rfl, hN6, rfl⟩, hF6, hb6⟩
      replace k0_h := Lib.hid (box_below k0_h.out hb6)
      replace k1_h := Lib.hid (box_below k1_h.out hb6)
      have hB6 := below_trans hB5_h.out hb6 hB5_h.out.size
      obtain ⟨O6, hO6⟩ : ∃ O6, O6 = joinOf 16 [(1, (f : Int), noName)] O := ⟨_, rfl⟩
      rw [← hO6] at hN6 ⊢
      obtain ⟨n6, hn6⟩ : ∃ n6, n6 = O6.length := ⟨_, rfl⟩
      have hz5 := hb5_h.out.size
      have hzd := hbd_h.out.size
      obtain ⟨q1, q2⟩ := set1 k0_h.out (.slice A6 n6 c6)
      have k1b := box_keeps k1_h.out q2 (by omega)
      have hBn := below_keeps hB6 q2 hB6.size (fun k hk => by omega)
      have hNn := NS.keeps hN6 q2 (fun b hb e => by have := hF6 b hb; omega)
      have hFn : ∀ b, b ∈ fpA A6 → b ∈ fpA A ∨ w.heap.size + 2 ≤ b := fun b hb => .inr (by have := hF6 b hb; omega)
      have hOn : O6 = (1, (f : Int), noName) :: (O ++ [joinNd true]) := by rw [hO6]; rfl
      rw [← hn6]
      obtain ⟨k0_c, k0_f⟩ := bx1 k0_h.out
      refine ⟨_, rfl, fun _ => k0_h.out, ?_⟩
      have hN6_h := Lib.hid hN6
      have hF6_h := Lib.hid hF6
      have hb6_h := Lib.hid hb6
      have hB6_h := Lib.hid hB6
      have hO6_h := Lib.hid hO6
      have hn6_h := Lib.hid hn6
      have q1_h := Lib.hid q1
      have q2_h := Lib.hid q2
      have k1b_h := Lib.hid k1b
      have hBn_h := Lib.hid hBn
      have hNn_h := Lib.hid hNn
      have hFn_h := Lib.hid hFn
      have hOn_h := Lib.hid hOn
      clear hN6 hF6 hb6 hB6 hO6 hn6 q1 q2 k1b hBn hNn hFn hOn
      simp only [Act.put, List.setIfInBounds_toArray, List.set_cons_zero, List.set_cons_succ]
      refine oneZ 4 rfl (by kernel_rfl) (by rfl) (fun K hK => ?_)
      go_simp
      refine hK _ _ (fun h => by cases h) ?_
      clear hK K
      refine doneZ (by kernel_rfl) ?_
      have hfin : TlR w A O6 (w6.setCell ⟨w.heap.size, 0, none⟩ (.slice A6 n6 c6)) := ⟨⟨A6, c6, n6, hn6_h.out, q1_h.out, hNn_h.out, hFn_h.out⟩, k1b_h.out, hBn_h.out⟩
      have hfin_h := Lib.hid hfin
      clear hfin
      go_wp2_with (fail)
      go_meet
      have e : O6 = layF f := by rw [hOn_h.out, hO_h.out]; unfold layF; rw [if_pos h0]; rfl
      rw [← e]; exact hfin_h.out
    · have h0I : ¬ (0 : Int) < (f : Int) := by omega
      have hR_h := Lib.hid hR
      have hO_h := Lib.hid hO
      clear hR hO
      go_wp2_with (fail)
      go_meet
      have e : O = layF f := by rw [hO_h.out]; unfold layF; rw [if_neg h0]
      rw [← e]; exact hR_h.out
  case rest =>
  have hR1 := hcut
  clear hcut
  obtain ⟨wx, hwx⟩ : ∃ wx, wx = wc := ⟨_, rfl⟩
  rw [← hwx] at hR1 ⊢
  clear hwx
  have hR1_h := Lib.hid hR1
  clear hR1
  go_upto_if 14 with (fail)
  go_cut [] (fun wx => TlR w A X wx)
  case first =>
    have hR := hR1_h.out
    clear hR1_h
    obtain ⟨O, hO⟩ : ∃ O : List Nd, O = layF f := ⟨_, rfl⟩
    rw [← hO] at hR
    by_cases h0 : 0 < b
    · have h0I : (0 : Int) < (b : Int) := by omega
      obtain ⟨A4, c4, n4, hn4, hbox, hN4, hF4⟩ := hR.box
      have hxN : O.length ≤ 3 := by rw [hO]; exact layF_le f
      have hO_h := Lib.hid hO
      clear hO
      have hBw := hR.bel
      have k0 := hbox
      have k1 := hR.res
      have hkk := box_lt k1
      clear hR hbox
      have hn4_h := Lib.hid hn4
      have hN4_h := Lib.hid hN4
      have hF4_h := Lib.hid hF4
      have hBw_h := Lib.hid hBw
      have k0_h := Lib.hid k0
      have k1_h := Lib.hid k1
      have hxN_h := Lib.hid hxN
      clear hn4 hN4 hF4 hBw k0 k1 hxN
      go_wp2_with (fail)
      refine beginZw 4 (fun w' => w'.heap[w.heap.size]? = some (.cells #[.slice A4 n4 c4] tTerm)) (by kernel_rfl) (fun W3 hW3 => ?_)
      have hbd : Below wx.heap.size wx W3 := by rw [hW3]; exact below_drew (Below.refl _ _)
      clear hW3
      replace k0_h := Lib.hid (box_below k0_h.out hbd)
      replace k1_h := Lib.hid (box_below k1_h.out hbd)
      have hB3 := below_trans hBw_h.out hbd hBw_h.out.size
      have hN3 := hN4_h.out.below hbd
      have hbd_h := Lib.hid hbd
      have hB3_h := Lib.hid hB3
      have hN3_h := Lib.hid hN3
      clear hbd hB3 hN3
      refine takeU 1 (v := ?_) rfl (by kernel_rfl) (by kernel_rfl) (by kernel_rfl) (by kernel_rfl) (fun _ _ _ h => h) k0_h.out (by rfl) (fun W' => ?_) ?_; rotate_left; · (skip; go_simp; first | done | with_reducible rfl)
      simp only [Act.put, List.setIfInBounds_toArray, List.set_cons_zero, List.set_cons_succ]
      refine takeC 0 (v := ?_) rfl (by kernel_rfl) (by kernel_rfl) (by kernel_rfl) (by kernel_rfl) (fun _ _ _ h => h) k0_h.out (by rfl) (fun W' hW' => ?_) ?_; rotate_left; · (obtain ⟨y0, y1⟩ := bx1 hW'; clear hW'; go_simp; first | done | with_reducible rfl)
      simp only [Act.put, List.setIfInBounds_toArray, List.set_cons_zero, List.set_cons_succ]
      refine callZ 2 (f := ?f3) (args := ?args3) rfl (by kernel_rfl) (by rfl) ?hrun3 ?hcall3
      case hrun3 => (go_simp; first | done | with_reducible rfl | (constructor <;> with_reducible rfl))
      refine (tmId_1 b _).mono ?_
      rintro e w5 ⟨v5, fp5, rfl, ⟨A5, c5, rfl, hN5, rfl⟩, hF5, hb5⟩
      replace k0_h := Lib.hid (box_below k0_h.out hb5)
      replace k1_h := Lib.hid (box_below k1_h.out hb5)
      have hB5 := below_trans hB3_h.out hb5 hB3_h.out.size
      have hN3b := hN3_h.out.below hb5
      have hr4 : RdTm w5 (.agg #[.slice A4 n4 c4]) O := ⟨A4, c4, by rw [hn4_h.out], Sl.rdc hN3b⟩
      have hr5 : RdTm w5 (.agg #[.slice A5 1 c5]) [(1, (b : Int), noName)] := ⟨A5, c5, rfl, Sl.rdc hN5⟩
      have hOl : O.length ≤ 3 := hxN_h.out
      refine ⟨_, rfl, fun _ => k0_h.out, ?_⟩
      have hN5_h := Lib.hid hN5
      have hF5_h := Lib.hid hF5
      have hb5_h := Lib.hid hb5
      have hB5_h := Lib.hid hB5
      have hN3b_h := Lib.hid hN3b
      have hr4_h := Lib.hid hr4
      have hr5_h := Lib.hid hr5
      have hOl_h := Lib.hid hOl
      clear hN5 hF5 hb5 hB5 hN3b hr4 hr5 hOl
      simp only [Act.put, List.setIfInBounds_toArray, List.set_cons_zero, List.set_cons_succ]
      refine callZ 3 (f := ?f4) (args := ?args4) rfl (by kernel_rfl) (by rfl) ?hrun4 ?hcall4
      case hrun4 => (go_simp; first | done | with_reducible rfl | (constructor <;> with_reducible rfl))
      refine (tmPar_any hr4_h.out hr5_h.out (by have := hOl_h.out; first | omega | simp) (by have := hOl_h.out; first | omega | simp)).mono ?_
      rintro e w6 ⟨v6, fp6, rfl, ⟨A6, c6, rfl, hN6, rfl⟩, hF6, hb6⟩
      replace k0_h := Lib.hid (box_below k0_h.out hb6)
      replace k1_h := Lib.hid (box_below k1_h.out hb6)
      have hB6 := below_trans hB5_h.out hb6 hB5_h.out.size
      obtain ⟨O6, hO6⟩ : ∃ O6, O6 = joinOf 16 O [(1, (b : Int), noName)] := ⟨_, rfl⟩
      rw [← hO6] at hN6 ⊢
      obtain ⟨n6, hn6⟩ : ∃ n6, n6 = O6.length := ⟨_, rfl⟩
      have hz5 := hb5_h.out.size
      have hzd := hbd_h.out.size
      obtain ⟨q1, q2⟩ := set1 k0_h.out (.slice A6 n6 c6)
      have k1b := box_keeps k1_h.out q2 (by omega)
      have hBn := below_keeps hB6 q2 hB6.size (fun k hk => by omega)
      have hNn := NS.keeps hN6 q2 (fun b hb e => by have := hF6 b hb; omega)
      have hFn : ∀ b, b ∈ fpA A6 → b ∈ fpA A ∨ w.heap.size + 2 ≤ b := fun b hb => .inr (by have := hF6 b hb; omega)
      have hOn : O6 = O ++ [(1, (b : Int), noName), joinNd true] := by rw [hO6]; unfold joinOf; rw [List.append_assoc]; rfl
      rw [← hn6]
      obtain ⟨k0_c, k0_f⟩ := bx1 k0_h.out
      refine ⟨_, rfl, fun _ => k0_h.out, ?_⟩
      have hN6_h := Lib.hid hN6
      have hF6_h := Lib.hid hF6
      have hb6_h := Lib.hid hb6
      have hB6_h := Lib.hid hB6
      have hO6_h := Lib.hid hO6
      have hn6_h := Lib.hid hn6
      have q1_h := Lib.hid q1
      have q2_h := Lib.hid q2
      have k1b_h := Lib.hid k1b
      have hBn_h := Lib.hid hBn
      have hNn_h := Lib.hid hNn
      have hFn_h := Lib.hid hFn
      have hOn_h := Lib.hid hOn
      clear hN6 hF6 hb6 hB6 hO6 hn6 q1 q2 k1b hBn hNn hFn hOn
      simp only [Act.put, List.setIfInBounds_toArray, List.set_cons_zero, List.set_cons_succ]
      refine oneZ 4 rfl (by kernel_rfl) (by rfl) (fun K hK => ?_)
      go_simp
      refine hK _ _ (fun h => by cases h) ?_
      clear hK K
      refine doneZ (by kernel_rfl) ?_
      have hfin : TlR w A O6 (w6.setCell ⟨w.heap.size, 0, none⟩ (.slice A6 n6 c6)) := ⟨⟨A6, c6, n6, hn6_h.out, q1_h.out, hNn_h.out, hFn_h.out⟩, k1b_h.out, hBn_h.out⟩
      have hfin_h := Lib.hid hfin
      clear hfin
      go_wp2_with (fail)
      go_meet
      have e : O6 = X := by rw [hOn_h.out, hX_h.out, hO_h.out]; unfold layX; rw [if_pos h0]
      rw [← e]; exact hfin_h.out
    · have h0I : ¬ (0 : Int) < (b : Int) := by omega
      have hR_h := Lib.hid hR
      have hO_h := Lib.hid hO
      clear hR hO
      go_wp2_with (fail)
      go_meet
      have e : O = X := by rw [hO_h.out, hX_h.out]; unfold layX; rw [if_neg h0]
      rw [← e]; exact hR_h.out
  case rest =>
  have hR2 := hcut
  clear hcut hR1_h
  obtain ⟨wy, hwy⟩ : ∃ wy, wy = wc := ⟨_, rfl⟩
  rw [← hwy] at hR2 ⊢
  clear hwy
  obtain ⟨A4, c4, n4, hn4, k0, hN4, hF4⟩ := hR2.box
  have k1 := hR2.res
  have hBw := hR2.bel
  clear hR2
  obtain ⟨s1, s2⟩ := set1 k1 (.slice A4 n4 c4)
  have hkk := box_lt k1
  have hN5 := NS.keeps hN4 s2 (fun x hx e => (hF4 x hx).elim (fun h => by have := hlt_h.out x h; omega) (fun h => by omega))
  have hBn := below_keeps hBw s2 hBw.size (fun k hk => by omega)
  have hn4_h := Lib.hid hn4
  have k0_h := Lib.hid k0
  have hN4_h := Lib.hid hN4
  have hF4_h := Lib.hid hF4
  have k1_h := Lib.hid k1
  have hBw_h := Lib.hid hBw
  have s1_h := Lib.hid s1
  have s2_h := Lib.hid s2
  have hN5_h := Lib.hid hN5
  have hBn_h := Lib.hid hBn
  clear hn4 k0 hN4 hF4 k1 hBw s1 s2 hN5 hBn
  obtain ⟨k0_c, k0_f⟩ := bx1 k0_h.out
  obtain ⟨k1_c, k1_f⟩ := bx1 k1_h.out
  go_wp2_with (fail)
  refine bodyPost_ret (results_cell_row rfl _ _ (w.heap.size + 1) _ _ (0, 0) _ rfl s1_h.out Try.underlying30 rfl (by kernel_rfl)) rfl ?_
  exact ⟨A4, c4, n4, rfl, hn4_h.out, hN5_h.out, fun x hx => (hF4_h.out x hx).elim .inl (fun h => .inr (by omega)), hBn_h.out⟩
end Go.Proofs.Ytlmnmdahphahfaa
