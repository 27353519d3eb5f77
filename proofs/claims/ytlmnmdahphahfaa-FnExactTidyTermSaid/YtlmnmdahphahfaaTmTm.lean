/-
  THE WALKS: tmIsId, tmId, tmChain of the reference.
-/
import Derived.Test.YtlmnmdahphahfaaTmTl
import Derived.Test.YtlmnmdahphahfaaTmTk
namespace Go.Proofs.Ytlmnmdahphahfaa
open Go.RowKit

theorem flat_len2 (p : Bool) (a b : Tr) : ¬ (flat (.node p a b)).length = 1 := by
  have h := sz_node p a b
  have := sz_pos a
  have := sz_pos b
  unfold sz at *
  omega
set_option maxRecDepth 8000 in
set_option maxHeartbeats 1000000 in
theorem tmIsId_any {v : Value} {t : Tr} {w : World} (h : RdTm w v (flat t)) :
    Calls Try.prog 98 #[v] w fun e w' => e = .returned (.bool (isIdT t)) ∧ Below w.heap.size w w' := by
  obtain ⟨A, c, rfl, h⟩ := h
  cases t with
  | node p a b =>
    have hne := flat_len2 p a b
    obtain ⟨n, hn⟩ : ∃ n, n = (flat (.node p a b)).length := ⟨_, rfl⟩
    rw [← hn] at hne ⊢
    have e : isIdT (.node p a b) = false := rfl
    rw [e]
    have b0 := below_alloc w (.cells #[.slice A n c] tTerm)
    have k0 := heap_alloc_new w (.cells #[.slice A n c] tTerm)
    obtain ⟨c0, c1⟩ := bx1 k0
    have hb : ((n : Int) == 1) = false := by simp; omega
    clear h k0 hne
    have b0_h := Lib.hid b0
    have hn_h := Lib.hid hn
    have e_h := Lib.hid e
    clear b0 hn e
    go_enter Try.func98, Try.ntmps98
    go_wp2_with (fail)
    go_ret
    exact ⟨rfl, b0_h.out⟩
  | leaf nd =>
    obtain ⟨k, x, s⟩ := nd
    have e2 : (flat (.leaf (k, x, s))).length = 1 := rfl
    rw [e2]
    have b0 := below_alloc w (.cells #[.slice A 1 c] tTerm)
    have k0 := heap_alloc_new w (.cells #[.slice A 1 c] tTerm)
    obtain ⟨c0, c1⟩ := bx1 k0
    obtain ⟨ad, k', x', s', rfl, hl, d0, -, -⟩ := (h.below b0).at_ (j := 0) (by simp [flat])
    obtain ⟨rfl, rfl, rfl⟩ : k' = k ∧ x' = x ∧ s' = s := by simpa [flat, eq_comm] using hl
    rw [Nat.zero_mul, add0] at d0
    clear h k0 hl e2
    by_cases hk : k' = 1
    · have e : isIdT (.leaf (k', x', s')) = true := decide_eq_true hk
      have hb : (k' == 1) = true := by simp [hk]
      rw [e]
      have b0_h := Lib.hid b0
      have hk_h := Lib.hid hk
      have e_h := Lib.hid e
      clear b0 hk e
      go_enter Try.func98, Try.ntmps98
      go_wp2_with (fail)
      go_ret
      exact ⟨rfl, b0_h.out⟩
    · have e : isIdT (.leaf (k', x', s')) = false := decide_eq_false hk
      have hb : (k' == 1) = false := by simp [hk]
      rw [e]
      have b0_h := Lib.hid b0
      have hk_h := Lib.hid hk
      have e_h := Lib.hid e
      clear b0 hk e
      go_enter Try.func98, Try.ntmps98
      go_wp2_with (fail)
      go_ret
      exact ⟨rfl, b0_h.out⟩
set_option maxRecDepth 8000 in
set_option maxHeartbeats 1000000 in
theorem tmId_any (x : Int) (w : World) : Calls Try.prog 93 #[.int .i64 x] w (RetTm w (flat (idT x))) := by
  have e : flat (idT x) = [(1, x, noName)] := rfl
  have hO := fun W => tmOne_any 1 x W
  rw [e]
  obtain ⟨W, hW⟩ : ∃ W, W = w.alloc (.cells #[.slice none 0 0] tTerm) := ⟨_, rfl⟩
  have b0 := below_alloc w (.cells #[.slice none 0 0] tTerm)
  have k0 := heap_alloc_new w (.cells #[.slice none 0 0] tTerm)
  rw [← hW] at b0 k0
  have hz := box_lt k0
  clear e
  have b0_h := Lib.hid b0
  have k0_h := Lib.hid k0
  have hO_h := Lib.hid hO
  clear b0 k0 hO
  go_enter Try.func93, Try.ntmps93
  go_wp2_with (fail)
  rw [← hW]
  clear hW
  refine (hO_h.out _).mono ?_
  rintro e w1 ⟨v1, fp1, rfl, ⟨A1, c1, rfl, hN, rfl⟩, hF, hb1⟩
  replace k0_h := Lib.hid (box_below k0_h.out hb1)
  have hB1 := below_trans b0_h.out hb1 b0_h.out.size
  obtain ⟨s1, s2⟩ := set1 k0_h.out (.slice A1 1 c1)
  have hB2 := below_keeps hB1 s2 hB1.size (fun k hk => by omega)
  have hN2 := NS.keeps hN s2 (fun b hb e => by have := hF b hb; omega)
  have hF2 : FreshL w.heap.size (fpA A1) := fun b hb => by have := hF b hb; omega
  obtain ⟨k0_c, k0_f⟩ := bx1 k0_h.out
  have hN_h := Lib.hid hN
  have hF_h := Lib.hid hF
  have hb1_h := Lib.hid hb1
  have hB1_h := Lib.hid hB1
  have s1_h := Lib.hid s1
  have s2_h := Lib.hid s2
  have hB2_h := Lib.hid hB2
  have hN2_h := Lib.hid hN2
  have hF2_h := Lib.hid hF2
  clear hN hF hb1 hB1 s1 s2 hB2 hN2 hF2
  go_wp2_with (fail)
  refine bodyPost_ret (results_cell_row rfl _ _ w.heap.size _ _ (0, 0) _ rfl s1_h.out Try.underlying30 rfl (by kernel_rfl)) rfl ?_
  exact ⟨_, _, rfl, ⟨A1, c1, rfl, hN2_h.out, rfl⟩, hF2_h.out, hB2_h.out⟩

theorem szL_take : ∀ (l : List Tr) (k : Nat), szL (l.take k) ≤ szL l
  | [], k => by simp
  | a :: r, 0 => by simp [szL]
  | a :: r, k + 1 => by
    have := szL_take r k
    simp only [List.take_succ_cons, szL]; omega
/-- What tmChain leaves: a new term, or the first of the list. -/
def ChA (p : Bool) (ts : List Tr) (vs : List Value) (w : World) (e : Ending) (w' : World) : Prop :=
  ∃ A n c, e = .returned (.agg #[.slice A n c]) ∧ n = (flat (chain p ts)).length ∧ NS w' A c (flat (chain p ts)) ∧ (∀ b, b ∈ fpA A → w.heap.size ≤ b ∨ ∃ u, vs[0]? = some u ∧ b ∈ fpV u) ∧ Below w.heap.size w w'
set_option maxRecDepth 8000 in
set_option maxHeartbeats 4000000 in
theorem tmChain_any (p : Bool) (A : Option Addr) (m c : Nat) (vs : List Value) (ts : List Tr) (w : World) (hS : Sl w tTerm 1 A m c vs) (hm : m = ts.length) (hT : OwTs w vs ts) (h1 : 1 ≤ m) (hsz : szL ts + ts.length ≤ 1000) :
    Calls Try.prog 99 #[.slice A m c, .int .i64 (kd p)] w (ChA p ts vs w) := by
  obtain ⟨q, rfl⟩ : ∃ q, m = q + 1 := ⟨m - 1, by omega⟩
  have hq4 : q ≤ 1000 := by omega
  obtain ⟨t0, ht0⟩ : ∃ t0, ts[0]? = some t0 := ⟨_, List.getElem?_eq_getElem (by omega)⟩
  obtain ⟨A0, c0, hv0, hN0⟩ := hT.at_ 0 t0 ht0
  have hch0 : chain p (ts.take (0 + 1)) = t0 := by rw [List.take_add_one, ht0]; rfl
  obtain ⟨n0, hn0⟩ : ∃ n0, n0 = (flat t0).length := ⟨_, rfl⟩
  rw [← hn0] at hv0
  obtain ⟨W, hW⟩ : ∃ W, W = (w.alloc (.cells #[.slice none 0 0] tTerm)).alloc (.cells #[.slice A0 n0 c0] tTerm) := ⟨_, rfl⟩
  obtain ⟨b0, k0, k1, hz⟩ := two_boxes w (.cells #[.slice none 0 0] tTerm) (.cells #[.slice A0 n0 c0] tTerm)
  rw [← hW] at b0 k0 k1 hz
  obtain ⟨ad, rfl, -, y0, -⟩ := Sl.cell (hS.alloc (.cells #[.slice none 0 0] tTerm)) hv0
  rw [add0] at y0
  have hSW := hS.below b0
  have hTW := hT.below b0
  have hNW := hN0.below b0
  have hlt0 : ∀ b, b ∈ fpA A0 → b < w.heap.size := hN0.lt
  have hltT : ∀ b, (∃ u ∈ vs, b ∈ fpV u) → b < w.heap.size := fun b ⟨u, hu, hb⟩ => by
    obtain ⟨t, A', c', -, rfl, h2⟩ := hT.mem hu
    exact h2.lt b hb
  have hadl : ad.block < w.heap.size := hS.lt _ (by simp)
  have hcc := hS.2.1
  obtain ⟨K, hK⟩ : ∃ K, K = kd p := ⟨_, rfl⟩
  rw [← hK]
  have hJ := fun (v v' : Value) (a b : List Nd) (W : World) (h : RdTm W v a) (h' : RdTm W v' b) (ha : a.length ≤ 1048576) (hb : b.length ≤ 1048576) => tmJoin_any K h h' ha hb
  clear hS hT hN0
  have hm_h := Lib.hid hm
  have ht0_h := Lib.hid ht0
  have hv0_h := Lib.hid hv0
  have hch0_h := Lib.hid hch0
  have hn0_h := Lib.hid hn0
  have b0_h := Lib.hid b0
  have k0_h := Lib.hid k0
  have k1_h := Lib.hid k1
  have hz_h := Lib.hid hz
  have hSW_h := Lib.hid hSW
  have hTW_h := Lib.hid hTW
  have hNW_h := Lib.hid hNW
  have hlt0_h := Lib.hid hlt0
  have hltT_h := Lib.hid hltT
  have hK_h := Lib.hid hK
  have hJ_h := Lib.hid hJ
  clear hm ht0 hv0 hch0 hn0 b0 k0 k1 hz hSW hTW hNW hlt0 hltT hK hJ
  go_enter Try.func99, Try.ntmps99
  go_upto_region 2 with (fail)
  rw [← hW]
  clear hW y0
  by_cases hc1 : c = 1
  case pos =>
    obtain rfl : q = 0 := by omega
    subst hc1
    go_wp2_with (fail)
    go_loopw [14] (fun iv wr => iv = .int .i64 0 ∧ wr = W) (fun _ _ => 0)
    case atStart => exact ⟨rfl, rfl⟩
    case round =>
      obtain ⟨rfl, rfl⟩ := hrel
      obtain ⟨k0_c, k0_f⟩ := bx1 k0_h.out
      obtain ⟨k1_c, k1_f⟩ := bx1 k1_h.out
      obtain ⟨s1, s2⟩ := set1 k0_h.out (.slice A0 n0 c0)
      have hz0 := hz_h.out
      have hB2 := below_keeps b0_h.out s2 b0_h.out.size (fun k hk => by omega)
      have hN2 := NS.keeps hNW_h.out s2 (fun b hb e => by have := hlt0_h.out b hb; omega)
      have hce : chain p ts = t0 := by rw [← hch0_h.out, List.take_of_length_le (by rw [← hm_h.out]; exact Nat.le_refl _)]
      have s1_h := Lib.hid s1
      have s2_h := Lib.hid s2
      have hB2_h := Lib.hid hB2
      have hN2_h := Lib.hid hN2
      have hce_h := Lib.hid hce
      clear s1 s2 hB2 hN2 hce
      go_wp2_with (fail)
      refine bodyPost_ret (results_cell_row rfl _ _ w.heap.size _ _ (0, 0) _ rfl s1_h.out Try.underlying30 rfl (by kernel_rfl)) rfl ?_
      exact ⟨A0, n0, c0, rfl, by rw [hce_h.out, hn0_h.out], by rw [hce_h.out]; exact hN2_h.out, fun b hb => .inr ⟨_, hv0_h.out, hb⟩, hB2_h.out⟩
  case neg =>
  go_wp2_with (fail)
  go_loopw [14] (fun iv wr => ∃ (k n c' : Nat) (Ao : Option Addr), k ≤ q ∧ iv = .int .i64 k ∧ wr.heap[w.heap.size + 1]? = some (.cells #[.slice Ao n c'] tTerm) ∧ n = (flat (chain p (ts.take (k + 1)))).length ∧ NS wr Ao c' (flat (chain p (ts.take (k + 1)))) ∧ ((∀ b, b ∈ fpA Ao → W.heap.size ≤ b) ∨ (k = 0 ∧ Ao = A0)) ∧ Below w.heap.size w wr ∧ Keeps (· = w.heap.size + 1) W wr) (fun iv _ => q - (intOf iv).toNat)
  case atStart => exact ⟨0, n0, c0, A0, Nat.zero_le _, rfl, k1_h.out, by rw [hch0_h.out, hn0_h.out], by rw [hch0_h.out]; exact hNW_h.out, .inr ⟨rfl, rfl⟩, b0_h.out, Keeps.refl _ _⟩
  case round =>
    obtain ⟨k, n, c', Ao, hk, rfl, hbx, hn, hNo, hfo, hB, hKe⟩ := hrel
    have hz0 := hz_h.out
    have hzr := hKe.size
    have hres := box_keeps k0_h.out hKe (by omega)
    by_cases hlt : k < q
    · obtain ⟨t1, ht1⟩ : ∃ t1, ts[k + 1]? = some t1 := ⟨_, List.getElem?_eq_getElem (by rw [← hm_h.out]; omega)⟩
      obtain ⟨A1, c1, hv1, hN1⟩ := hTW_h.out.at_ _ _ ht1
      have hlt1 : ∀ b, b ∈ fpA A1 → b < w.heap.size := fun b hb => hltT_h.out b ⟨_, List.mem_of_getElem? hv1, hb⟩
      have hN1r := hN1.keeps hKe (fun b hb e => by have := hlt1 b hb; omega)
      have hSr := hSW_h.out.keeps hKe (fun b hb e => by simp at hb; omega)
      obtain ⟨ad', e', -, y1, -⟩ := Sl.cell hSr hv1
      obtain rfl := Option.some.inj e'
      rw [add_suc, show ad.off + (k + 1) = ad.off + 1 + k by omega] at y1
      obtain ⟨n1, hn1⟩ : ∃ n1, n1 = (flat t1).length := ⟨_, rfl⟩
      rw [← hn1] at y1
      have hkI : (k : Int) < (q : Int) := by omega
      have hba := below_alloc wr (.cells #[.slice A1 n1 c1] tTerm)
      have kx := heap_alloc_new wr (.cells #[.slice A1 n1 c1] tTerm)
      obtain ⟨Wl, hWl⟩ : ∃ Wl, Wl = wr.alloc (.cells #[.slice A1 n1 c1] tTerm) := ⟨_, rfl⟩
      rw [← hWl] at hba kx
      have hbx2 := box_below hbx hba
      have hres2 := box_below hres hba
      have hN1l := hN1r.below hba
      have hNol := hNo.below hba
      have hB2 := below_trans hB hba hB.size
      have hKe2 : Keeps (· = w.heap.size + 1) W Wl := hKe.trans (Keeps.of_below hba _)
      have hsz1 : (flat (chain p (ts.take (k + 1)))).length ≤ 1000 := by
        have := chain_sz p (l := ts.take (k + 1)) (fun e => by have := congrArg List.length e; rw [List.length_take, ← hm_h.out] at this; simp at this)
        have := szL_take ts (k + 1)
        have h5 : (ts.take (k + 1)).length ≤ ts.length := by rw [List.length_take]; omega
        show sz _ ≤ 1000
        omega
      have hnx := chain_next (p := p) ht1
      have hsz2 : (flat (chain p (ts.take (k + 1 + 1)))).length ≤ 1000 := by
        have := chain_sz p (l := ts.take (k + 1 + 1)) (fun e => by have := congrArg List.length e; rw [List.length_take, ← hm_h.out] at this; simp at this)
        have := szL_take ts (k + 1 + 1)
        have h5 : (ts.take (k + 1 + 1)).length ≤ ts.length := by rw [List.length_take]; omega
        show sz _ ≤ 1000
        omega
      have hsz3 : (flat t1).length ≤ 1000 := by
        rw [hnx, flat_join] at hsz2
        simp only [joinOf, List.length_append] at hsz2
        omega
      obtain ⟨Lo, hLo⟩ : ∃ L, L = flat (chain p (ts.take (k + 1))) := ⟨_, rfl⟩
      obtain ⟨L1, hL1⟩ : ∃ L, L = flat t1 := ⟨_, rfl⟩
      obtain ⟨L2, hL2⟩ : ∃ L, L = joinOf K Lo L1 := ⟨_, rfl⟩
      have hL2e : flat (chain p (ts.take (k + 1 + 1))) = L2 := by rw [hnx, flat_join, hL2, hK_h.out, hLo, hL1]
      rw [← hLo] at hn hNol hsz1
      rw [← hL1] at hn1 hN1l hsz3
      have hC := hJ_h.out (.agg #[.slice Ao n c']) (.agg #[.slice A1 n1 c1]) Lo L1 Wl ⟨Ao, c', by rw [hn], hNol.rd⟩ ⟨A1, c1, by rw [hn1], hN1l.rd⟩ (by omega) (by omega)
      rw [← hL2] at hC
      obtain ⟨x0, x1⟩ := bx1 hbx2
      obtain ⟨z0, z1⟩ := bx1 kx
      have hzl := hba.size
      clear hsz1 hsz2 hsz3 hN1 hN1r hSr
      have hbx_h := Lib.hid hbx
      have hn_h := Lib.hid hn
      have hNo_h := Lib.hid hNo
      have hfo_h := Lib.hid hfo
      have hB_h := Lib.hid hB
      have hKe_h := Lib.hid hKe
      have hres_h := Lib.hid hres
      have ht1_h := Lib.hid ht1
      have hv1_h := Lib.hid hv1
      have hlt1_h := Lib.hid hlt1
      have hn1_h := Lib.hid hn1
      have hba_h := Lib.hid hba
      have kx_h := Lib.hid kx
      have hbx2_h := Lib.hid hbx2
      have hres2_h := Lib.hid hres2
      have hN1l_h := Lib.hid hN1l
      have hNol_h := Lib.hid hNol
      have hB2_h := Lib.hid hB2
      have hKe2_h := Lib.hid hKe2
      have hnx_h := Lib.hid hnx
      have hLo_h := Lib.hid hLo
      have hL1_h := Lib.hid hL1
      have hL2_h := Lib.hid hL2
      have hL2e_h := Lib.hid hL2e
      have hC_h := Lib.hid hC
      clear hbx hn hNo hfo hB hKe hres ht1 hv1 hlt1 hn1 hba kx hbx2 hres2 hN1l hNol hB2 hKe2 hnx hLo hL1 hL2 hL2e hC
      go_upto_region 5 with (fail)
      rw [← hWl]
      clear hWl
      go_wp2_with (fail)
      refine (hC_h.out).mono ?_
      rintro e w5 ⟨v5, fp5, rfl, ⟨A5, c5, rfl, hN5, rfl⟩, hF5, hb5⟩
      clear x0 x1 z0 z1
      replace hbx2_h := Lib.hid (box_below hbx2_h.out hb5)
      replace hres2_h := Lib.hid (box_below hres2_h.out hb5)
      obtain ⟨s1, s2⟩ := set1 hbx2_h.out (.slice A5 L2.length c5)
      have hB5 := below_trans hB2_h.out hb5 hB2_h.out.size
      have hB6 := below_keeps hB5 s2 hB5.size (fun k hk => by omega)
      have hKe5 : Keeps (· = w.heap.size + 1) W w5 := hKe2_h.out.trans (Keeps.of_below hb5 _)
      have hKe6 := hKe5.trans s2
      have hN6 := NS.keeps hN5 s2 (fun b hb e => by have := hF5 b hb; omega)
      have hF6 : ∀ b, b ∈ fpA A5 → W.heap.size ≤ b := fun b hb => by have := hF5 b hb; omega
      obtain ⟨hbx2_c, hbx2_f⟩ := bx1 hbx2_h.out
      have hN5_h := Lib.hid hN5
      have hF5_h := Lib.hid hF5
      have hb5_h := Lib.hid hb5
      have s1_h := Lib.hid s1
      have s2_h := Lib.hid s2
      have hB5_h := Lib.hid hB5
      have hB6_h := Lib.hid hB6
      have hKe5_h := Lib.hid hKe5
      have hKe6_h := Lib.hid hKe6
      have hN6_h := Lib.hid hN6
      have hF6_h := Lib.hid hF6
      clear hN5 hF5 hb5 s1 s2 hB5 hB6 hKe5 hKe6 hN6 hF6
      go_wp2_with (fail)
      go_roundw
      case rel => exact ⟨k + 1, L2.length, c5, A5, by omega, by go_num, s1_h.out, by rw [hL2e_h.out], by rw [hL2e_h.out]; exact hN6_h.out, .inl hF6_h.out, hB6_h.out, hKe6_h.out⟩
      case measure => simp [intOf]; omega
    · obtain rfl : k = q := by omega
      have hce : ts.take (k + 1) = ts := List.take_of_length_le (by rw [← hm_h.out]; exact Nat.le_refl _)
      rw [hce] at hn hNo
      obtain ⟨s1, s2⟩ := set1 hres (.slice Ao n c')
      have hB2 := below_keeps hB s2 hB.size (fun k hk => by omega)
      have hN2 := NS.keeps hNo s2 (fun b hb e => by
        rcases hfo with h | ⟨-, rfl⟩
        · have := h b hb; omega
        · have := hlt0_h.out b hb; omega)
      have hfin : ∀ b, b ∈ fpA Ao → w.heap.size ≤ b ∨ ∃ u, vs[0]? = some u ∧ b ∈ fpV u := fun b hb => by
        rcases hfo with h | ⟨-, rfl⟩
        · left; have := h b hb; omega
        · exact .inr ⟨_, hv0_h.out, hb⟩
      obtain ⟨x0, x1⟩ := bx1 hbx
      obtain ⟨z0, z1⟩ := bx1 hres
      have hbx_h := Lib.hid hbx
      have hn_h := Lib.hid hn
      have hNo_h := Lib.hid hNo
      have hfo_h := Lib.hid hfo
      have hB_h := Lib.hid hB
      have hKe_h := Lib.hid hKe
      have hres_h := Lib.hid hres
      have s1_h := Lib.hid s1
      have s2_h := Lib.hid s2
      have hB2_h := Lib.hid hB2
      have hN2_h := Lib.hid hN2
      have hfin_h := Lib.hid hfin
      have hce_h := Lib.hid hce
      clear hbx hn hNo hfo hB hKe hres s1 s2 hB2 hN2 hfin hce
      go_wp2_with (fail)
      refine bodyPost_ret (results_cell_row rfl _ _ w.heap.size _ _ (0, 0) _ rfl s1_h.out Try.underlying30 rfl (by kernel_rfl)) rfl ?_
      exact ⟨Ao, n, c', rfl, hn_h.out, hN2_h.out, hfin_h.out, hB2_h.out⟩
end Go.Proofs.Ytlmnmdahphahfaa
