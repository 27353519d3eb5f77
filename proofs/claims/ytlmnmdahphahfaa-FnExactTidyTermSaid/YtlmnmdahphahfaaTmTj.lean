/-
  THE WALKS: the tidy form, the program's side.
-/
import Derived.Test.YtlmnmdahphahfaaTmTi
import Derived.Deep.DeepCutAuto
namespace Go.Proofs.Ytlmnmdahphahfaa
open Go.RowKit

theorem tvL_get {l : List Tr} {j : Nat} {t : Tr} (h : l[j]? = some t) : (tvL l)[j]? = some (trV t) := by simp [tvL, h]
theorem tvL_cell {w : World} {A : Option Addr} {ad : Addr} {n c : Nat} {l : List Tr} (hs : Sl w tTree 1 A n c (tvL l)) {j : Nat} {t : Tr} (h : l[j]? = some t) (hA : A = some ad := by rfl) : w.cell? (ad.add j) = some (trV t) := by
  obtain ⟨ad', e, -, hc, -⟩ := Sl.cell hs (tvL_get h)
  rw [hA] at e
  obtain rfl := Option.some.inj e
  exact hc
theorem chain_next {p : Bool} {l : List Tr} {k : Nat} {t : Tr} (h : l[k + 1]? = some t) : chain p (l.take (k + 1 + 1)) = .node p (chain p (l.take (k + 1))) t := by
  rw [List.take_add_one (i := k + 1), h]
  cases l with
  | nil => simp at h
  | cons a r => simp [chain, List.foldl_append]
theorem RdC.tail_ {w : World} {ad : Addr} {l : List Tr} (h : RdC w (some ad) (tvL l)) (a : Tr) (r : List Tr) (hl : l = a :: r) : RdC w (some ⟨ad.block, ad.off + 1, none⟩) (tvL r) := fun j u hj => by
  subst hl
  obtain ⟨ad', e, hc⟩ := h (j + 1) u (by simpa [tvL] using hj)
  obtain rfl := Option.some.inj e
  refine ⟨_, rfl, ?_⟩
  rw [show (⟨ad.block, ad.off + 1, none⟩ : Addr) = ad.add 1 from (add_suc ad 0).symm, add_of_add, Nat.add_comm]
  exact hc
def idA (t : Tr) (w : World) (e : Ending) (w' : World) : Prop := e = .returned (.tuple #[.int .i64 (valT t), .bool (isIdT t)]) ∧ Below w.heap.size w w'
set_option maxRecDepth 8000 in
set_option maxHeartbeats 4000000 in
theorem tidySeq_any (a b : Tr) (w : World) (hsa : sz a ≤ 400) (hsb : sz b ≤ 400) : Calls Try.prog 101 #[trV a, trV b] w (TrA (tidyS a b) w) := by
  have hIa := fun W => identityOf_any a W
  have hIb := fun W => identityOf_any b W
  have hFa := fun W => seqFactors_any a hsa W
  have hFb := fun W => seqFactors_any b hsb W
  have hla := factors_sz false a
  have hlb := factors_sz false b
  have hna := factors_ne false a
  have hnb := factors_ne false b
  obtain ⟨Va, hVa⟩ : ∃ V, V = trV a := ⟨_, rfl⟩
  obtain ⟨Vb, hVb⟩ : ∃ V, V = trV b := ⟨_, rfl⟩
  rw [← hVa] at hIa hFa ⊢
  rw [← hVb] at hIb hFb ⊢
  obtain ⟨V, hV0⟩ : ∃ V, V = trV (tidyS a b) := ⟨_, rfl⟩
  unfold TrA
  rw [← hV0]
  unfold RetTs at hFa hFb
  obtain ⟨Fa, hFae⟩ : ∃ F, F = factors false a := ⟨_, rfl⟩
  obtain ⟨Fb, hFbe⟩ : ∃ F, F = factors false b := ⟨_, rfl⟩
  rw [← hFae] at hFa hla hna
  rw [← hFbe] at hFb hlb hnb
  have ha1 : 1 ≤ Fa.length := by cases Fa with | nil => exact absurd rfl hna | cons _ _ => simp
  have hb1 : 1 ≤ Fb.length := by cases Fb with | nil => exact absurd rfl hnb | cons _ _ => simp
  have ha4 : Fa.length ≤ 401 := by omega
  have hb4 : Fb.length ≤ 401 := by omega
  unfold tidyS at hV0
  rw [← hFae, ← hFbe] at hV0
  obtain ⟨ia, hia⟩ : ∃ i, i = isIdT a := ⟨_, rfl⟩
  obtain ⟨ib, hib⟩ : ∃ i, i = isIdT b := ⟨_, rfl⟩
  obtain ⟨na, hna'⟩ : ∃ i, i = valT a := ⟨_, rfl⟩
  obtain ⟨nb, hnb'⟩ : ∃ i, i = valT b := ⟨_, rfl⟩
  rw [← hia, ← hna'] at hIa
  rw [← hib, ← hnb'] at hIb
  rw [← hia, ← hib] at hV0
  clear hla hlb hna hnb
  have hIa_h := Lib.hid hIa
  have hIb_h := Lib.hid hIb
  have hFa_h := Lib.hid hFa
  have hFb_h := Lib.hid hFb
  have hVa_h := Lib.hid hVa
  have hVb_h := Lib.hid hVb
  have hFae_h := Lib.hid hFae
  have hFbe_h := Lib.hid hFbe
  have hia_h := Lib.hid hia
  have hib_h := Lib.hid hib
  have hna'_h := Lib.hid hna'
  have hnb'_h := Lib.hid hnb'
  clear hIa hIb hFa hFb hVa hVb hFae hFbe hia hib hna' hnb'
  cases ia
  case true =>
    rw [if_pos rfl, ← hVb_h.out] at hV0
    have hV0_h := Lib.hid hV0
    clear hV0
    go_enter Try.func101, Try.ntmps101
    go_wp2_with (fail)
    refine (hIa_h.out _).mono ?_
    rintro e w1 ⟨rfl, hb1'⟩
    have hb1'_h := Lib.hid hb1'
    clear hb1'
    go_wp2_with (fail)
    go_ret
    exact ⟨by rw [hV0_h.out]; rfl, hb1'_h.out⟩
  case false =>
  rw [if_neg (by simp)] at hV0
  cases ib
  case true =>
    rw [if_pos rfl, ← hVa_h.out] at hV0
    have hV0_h := Lib.hid hV0
    clear hV0
    go_enter Try.func101, Try.ntmps101
    go_wp2_with (fail)
    refine (hIa_h.out _).mono ?_
    rintro e w1 ⟨rfl, hb1'⟩
    have hb1'_h := Lib.hid hb1'
    clear hb1'
    go_wp2_with (fail)
    refine (hIb_h.out _).mono ?_
    rintro e w2 ⟨rfl, hb2⟩
    have hB2 := below_trans hb1'_h.out hb2 hb1'_h.out.size
    have hb2_h := Lib.hid hb2
    have hB2_h := Lib.hid hB2
    clear hb2 hB2
    go_wp2_with (fail)
    go_ret
    exact ⟨by rw [hV0_h.out]; rfl, hB2_h.out⟩
  case false =>
  rw [if_neg (by simp)] at hV0
  obtain ⟨L, hL⟩ : ∃ L, L = Fa ++ Fb := ⟨_, rfl⟩
  rw [← hL] at hV0
  obtain ⟨q, hq⟩ : ∃ q, Fa.length + Fb.length = q + 1 := ⟨Fa.length + Fb.length - 1, by omega⟩
  have hLq : L.length = q + 1 := by rw [hL, List.length_append, hq]
  have hq2 : q ≤ 801 := by omega
  have hV0_h := Lib.hid hV0
  have hL_h := Lib.hid hL
  have hLq_h := Lib.hid hLq
  clear hV0 hL hLq
  go_enter Try.func101, Try.ntmps101
  go_wp2_with (fail)
  refine (hIa_h.out _).mono ?_
  rintro e w1 ⟨rfl, hb1'⟩
  have hb1'_h := Lib.hid hb1'
  clear hb1'
  go_wp2_with (fail)
  refine (hIb_h.out _).mono ?_
  rintro e w2 ⟨rfl, hb2⟩
  have hB2 := below_trans hb1'_h.out hb2 hb1'_h.out.size
  have hb2_h := Lib.hid hb2
  have hB2_h := Lib.hid hB2
  clear hb2 hB2
  go_wp2_with (fail)
  refine (hFa_h.out _).mono ?_
  rintro e w3 ⟨A1, c1, m1, rfl, hm1, hN1, hF1, hb3⟩
  have hB3 := below_trans hB2_h.out hb3 hB2_h.out.size
  have hb3_h := Lib.hid hb3
  have hB3_h := Lib.hid hB3
  have hm1_h := Lib.hid hm1
  have hN1_h := Lib.hid hN1
  have hF1_h := Lib.hid hF1
  clear hb3 hB3 hm1 hN1 hF1
  go_wp2_with (fail)
  refine (hFb_h.out _).mono ?_
  rintro e w4 ⟨A2, c2, m2, rfl, hm2, hN2, -, hb4'⟩
  have hB4 := below_trans hB3_h.out hb4' hB3_h.out.size
  have hN3 := hN1_h.out.below hb4'
  have hl1 : m1 ≤ 401 := by rw [hm1_h.out]; exact ha4
  have hl2 : m2 ≤ 401 := by rw [hm2]; exact hb4
  have hnl : (tvL Fb).length = m2 * 1 := by rw [tvL_length, hm2]; omega
  have hmq : m1 + m2 = q + 1 := by rw [hm1_h.out, hm2, hq]
  have hF1b : ∀ k, k ∈ fpA A1 → w.heap.size ≤ k := fun k hk => Nat.le_trans hB2_h.out.size (hF1_h.out k hk)
  clear hq
  have hb4'_h := Lib.hid hb4'
  have hB4_h := Lib.hid hB4
  have hm2_h := Lib.hid hm2
  have hN2_h := Lib.hid hN2
  have hN3_h := Lib.hid hN3
  have hnl_h := Lib.hid hnl
  have hmq_h := Lib.hid hmq
  have hF1b_h := Lib.hid hF1b
  clear hb4' hB4 hm2 hN2 hN3 hnl hmq hF1b
  go_upto_region 8 with (at_builtin; refine wpList_append_Sl _ rfl _ _ _ rfl tTree Try.underlying105 info_tree rfl (by omega) rfl hN3_h.out rfl hnl_h.out (Sl.rdc hN2_h.out) (tvL_one Fb) (by unfold maxLen; omega) (by omega) ?_; intro A3 c3 w5 hs5 hA5 hk5)
  rw [← tvL_append, ← hL_h.out, hmq_h.out] at hs5
  rw [hmq_h.out]
  have hB5 := below_keeps hB4_h.out hk5 hB4_h.out.size (fun k hk => hF1b_h.out k hk)
  clear hB4_h
  have hsL := hs5
  have hB4 := hB5
  clear hs5 hA5 hk5 hB5
  have hsL_h := Lib.hid hsL
  have hB4_h := Lib.hid hB4
  clear hsL hB4
  obtain ⟨t0, ht0⟩ : ∃ t0, L[0]? = some t0 := ⟨_, List.getElem?_eq_getElem (by rw [hLq_h.out]; omega)⟩
  obtain ⟨x0, p0, hv0⟩ := trV_iface t0
  obtain ⟨ad, rfl, -, y0, -⟩ := Sl.cell hsL_h.out (tvL_get ht0)
  rw [add0, hv0] at y0
  have hcell := fun (j : Nat) (t : Tr) (h : L[j]? = some t) => tvL_cell hsL_h.out h
  have hch0 : chain false (L.take (0 + 1)) = t0 := by
    rw [List.take_add_one, ht0]; rfl
  have hcell_h := Lib.hid hcell
  have hch0_h := Lib.hid hch0
  have hv0_h := Lib.hid hv0
  have ht0_h := Lib.hid ht0
  clear hcell hch0 hv0 ht0
  by_cases hc1 : c3 = 1
  · obtain rfl : q = 0 := by have := hsL_h.out.2.1; omega
    subst hc1
    have hV : V = .iface x0 p0 := by rw [hV0_h.out, ← hv0_h.out, ← hch0_h.out, ← hLq_h.out, List.take_length]
    have hV_h := Lib.hid hV
    clear hV
    go_wp2_with (fail)
    go_loop [10, 38] (fun ov iv => iv = .int .i64 0 ∧ ov = .iface x0 p0) (fun _ iv => 0)
    case atStart => exact ⟨rfl, rfl⟩
    case round =>
      obtain ⟨rfl, rfl⟩ := hrel
      go_wp2_with (fail)
      go_ret
      exact ⟨by rw [hV_h.out]; rfl, hB4_h.out⟩
  go_wp2_with (fail)
  go_loop [10, 38] (fun ov iv => ∃ (k : Nat) (x : TypeId) (pp : Value), k ≤ q ∧ iv = .int .i64 k ∧ ov = .iface x pp ∧ trV (chain false (L.take (k + 1))) = .iface x pp) (fun _ iv => q - (intOf iv).toNat)
  case atStart => exact ⟨0, x0, p0, Nat.zero_le _, rfl, rfl, by rw [hch0_h.out]; exact hv0_h.out⟩
  case round =>
    obtain ⟨k, x, pp, hk, rfl, rfl, hch⟩ := hrel
    by_cases hlt : k < q
    · obtain ⟨t1, ht1⟩ : ∃ t1, L[k + 1]? = some t1 := ⟨_, List.getElem?_eq_getElem (by rw [hLq_h.out]; omega)⟩
      obtain ⟨x1, p1, hv1⟩ := trV_iface t1
      have z0 := hcell_h.out _ _ ht1
      rw [hv1] at z0
      rw [add_suc, show ad.off + (k + 1) = ad.off + 1 + k by omega] at z0
      have hkI : (k : Int) < (q : Int) := by omega
      have hn := chain_next (p := false) ht1
      have hnv : trV (chain false (L.take (k + 1 + 1))) = .iface tSeqT (.agg #[.iface x pp, .iface x1 p1]) := by rw [hn]; show Value.iface tSeqT (.agg #[trV (chain false (L.take (k + 1))), trV t1]) = _; rw [hch, hv1]
      have hch_h := Lib.hid hch
      have hv1_h := Lib.hid hv1
      have ht1_h := Lib.hid ht1
      have hn_h := Lib.hid hn
      have hnv_h := Lib.hid hnv
      clear hch hv1 ht1 hn hnv
      go_wp2_with (fail)
      go_round
      case rel => exact ⟨k + 1, tSeqT, _, by omega, by go_num, rfl, hnv_h.out⟩
      case measure => simp [intOf]; omega
    · obtain rfl : k = q := by omega
      have hV : V = .iface x pp := by rw [hV0_h.out, ← hch, ← hLq_h.out, List.take_length]
      have hch_h := Lib.hid hch
      have hV_h := Lib.hid hV
      clear hch hV
      go_wp2_with (fail)
      go_ret
      exact ⟨by rw [hV_h.out]; rfl, hB4_h.out⟩

theorem leafB_val {n : Nd} (h : leafB n = true) : 0 ≤ n.2.1 ∧ n.2.1 ≤ 96 := by
  simp only [leafB, decide_eq_true_eq] at h
  omega
theorem wt_val {t : Tr} (h : wt t) : 0 ≤ valT t ∧ valT t ≤ 96 := by
  cases t with
  | leaf n => exact leafB_val h
  | node p a b => exact ⟨Int.le_refl _, by show (0 : Int) ≤ 96; omega⟩
theorem allW_mem : ∀ {l : List Tr}, allW l → ∀ t, t ∈ l → wt t
  | x :: r, h, t, ht => by
    rcases List.mem_cons.1 ht with rfl | ht
    · exact h.1
    · exact allW_mem h.2 t ht
theorem lastL_get {f : List Tr} {q : Nat} (h : f.length = q + 1) : f[q]? = some (lastL f) := by
  have hne : f ≠ [] := fun e => by rw [e] at h; cases h
  have h1 := last_split hne
  have h2 : f.dropLast.length = q := by rw [List.length_dropLast, h]; rfl
  rw [h1, List.getElem?_append_right (by omega), h2, Nat.sub_self, ← h1]
  rfl
theorem headL_get {f : List Tr} {q : Nat} (h : f.length = q + 1) : f[0]? = some (headL f) := by
  cases f with
  | nil => cases h
  | cons a r => rfl
theorem set_last {f : List Tr} {q : Nat} (h : f.length = q + 1) (t : Tr) : f.set q t = f.dropLast ++ [t] := by
  have hne : f ≠ [] := fun e => by rw [e] at h; cases h
  have h1 := last_split hne
  have h2 : f.dropLast.length = q := by rw [List.length_dropLast, h]; rfl
  conv => lhs; rw [h1]
  rw [List.set_append_right _ _ (by omega), h2, Nat.sub_self]
  rfl
theorem tvL_set (l : List Tr) (j : Nat) (t : Tr) : (tvL l).set j (trV t) = tvL (l.set j t) := by simp [tvL, List.map_set]
set_option maxHeartbeats 1000000 in
theorem leafOf_any (k x : Int) (w : World) : Calls Try.prog 97 #[.int .i64 k, .int .i64 x] w fun e w' => e = .returned (.agg #[.int .i64 k, .int .i64 x, .string noName]) ∧ Below w.heap.size w w' := by
  go_enter Try.func97, Try.ntmps97
  go_wp2_with (fail)
  refine bodyPost_ret (results_cell_row rfl _ _ w.heap.size _ _ (0, 0) _ rfl (heap_alloc_new w _) Try.underlying69 rfl (by kernel_rfl)) rfl ?_
  exact ⟨rfl, below_alloc _ _⟩
set_option maxRecDepth 8000 in
set_option maxHeartbeats 8000000 in
theorem tidyPar_any (a b : Tr) (w : World) (hsa : sz a ≤ 400) (hsb : sz b ≤ 400) (hwa : wt a) (hwb : wt b) : Calls Try.prog 102 #[trV a, trV b] w (TrA (tidyP a b) w) := by
  have hIt := fun W t => identityOf_any t W
  have hIa := fun W => identityOf_any a W
  have hIb := fun W => identityOf_any b W
  have hFa := fun W => parFactors_any a hsa W
  have hFb := fun W => parFactors_any b hsb W
  have hla := factors_sz true a
  have hlb := factors_sz true b
  have hna := factors_ne true a
  have hnb := factors_ne true b
  have hwta := (factors_par hwa).1
  have hwtb := (factors_par hwb).1
  obtain ⟨Va, hVa⟩ : ∃ V, V = trV a := ⟨_, rfl⟩
  obtain ⟨Vb, hVb⟩ : ∃ V, V = trV b := ⟨_, rfl⟩
  rw [← hVa] at hIa hFa ⊢
  rw [← hVb] at hIb hFb ⊢
  obtain ⟨V, hV0⟩ : ∃ V, V = trV (tidyP a b) := ⟨_, rfl⟩
  unfold TrA
  rw [← hV0]
  unfold RetTs at hFa hFb
  obtain ⟨Fa, hFae⟩ : ∃ F, F = factors true a := ⟨_, rfl⟩
  obtain ⟨Fb, hFbe⟩ : ∃ F, F = factors true b := ⟨_, rfl⟩
  rw [← hFae] at hFa hla hna hwta
  rw [← hFbe] at hFb hlb hnb hwtb
  obtain ⟨qa, hqa⟩ : ∃ q, Fa.length = q + 1 := ⟨Fa.length - 1, by cases Fa with | nil => exact absurd rfl hna | cons _ _ => simp⟩
  obtain ⟨qb, hqb⟩ : ∃ q, Fb.length = q + 1 := ⟨Fb.length - 1, by cases Fb with | nil => exact absurd rfl hnb | cons _ _ => simp⟩
  have ha4 : qa ≤ 401 := by omega
  have hb4 : qb ≤ 401 := by omega
  unfold tidyP at hV0
  rw [← hFae, ← hFbe] at hV0
  obtain ⟨ia, hia⟩ : ∃ i, i = isIdT a := ⟨_, rfl⟩
  obtain ⟨ib, hib⟩ : ∃ i, i = isIdT b := ⟨_, rfl⟩
  obtain ⟨na, hna'⟩ : ∃ i, i = valT a := ⟨_, rfl⟩
  obtain ⟨nb, hnb'⟩ : ∃ i, i = valT b := ⟨_, rfl⟩
  rw [← hia, ← hna'] at hIa
  rw [← hib, ← hnb'] at hIb
  rw [← hia, ← hib, ← hna', ← hnb'] at hV0
  obtain ⟨ca, hca⟩ : ∃ c, c = (ia && decide (na = 0)) := ⟨_, rfl⟩
  obtain ⟨cb, hcb⟩ : ∃ c, c = (ib && decide (nb = 0)) := ⟨_, rfl⟩
  rw [← hca, ← hcb] at hV0
  have hgl := lastL_get hqa
  have hgh := headL_get hqb
  obtain ⟨tl, htl⟩ : ∃ t, t = lastL Fa := ⟨_, rfl⟩
  obtain ⟨th, hth⟩ : ∃ t, t = headL Fb := ⟨_, rfl⟩
  have hIl := fun W => hIt W tl
  have hIh := fun W => hIt W th
  have bl := wt_val (allW_mem hwta tl (by rw [htl]; exact List.mem_of_getElem? hgl))
  have bh := wt_val (allW_mem hwtb th (by rw [hth]; exact List.mem_of_getElem? hgh))
  obtain ⟨M, hM⟩ : ∃ M, M = midL Fa Fb := ⟨_, rfl⟩
  rw [← hM] at hV0
  unfold midL at hM
  rw [← htl, ← hth] at hM
  rw [← htl] at hgl
  rw [← hth] at hgh
  obtain ⟨Vl, hVl⟩ : ∃ V, V = trV tl := ⟨_, rfl⟩
  obtain ⟨Vh, hVh⟩ : ∃ V, V = trV th := ⟨_, rfl⟩
  obtain ⟨il, hil⟩ : ∃ i, i = isIdT tl := ⟨_, rfl⟩
  obtain ⟨ih, hih⟩ : ∃ i, i = isIdT th := ⟨_, rfl⟩
  obtain ⟨nl, hnl'⟩ : ∃ i, i = valT tl := ⟨_, rfl⟩
  obtain ⟨nh, hnh'⟩ : ∃ i, i = valT th := ⟨_, rfl⟩
  rw [← hVl, ← hil, ← hnl'] at hIl
  rw [← hVh, ← hih, ← hnh'] at hIh
  rw [← hil, ← hih, ← hnl', ← hnh'] at hM
  rw [← hnl'] at bl
  rw [← hnh'] at bh
  obtain ⟨co, hco⟩ : ∃ c, c = (il && ih) := ⟨_, rfl⟩
  rw [← hco] at hM
  clear hla hlb hna hnb hwta hwtb hIt
  have hIa_h := Lib.hid hIa
  have hIb_h := Lib.hid hIb
  have hFa_h := Lib.hid hFa
  have hFb_h := Lib.hid hFb
  have hVa_h := Lib.hid hVa
  have hVb_h := Lib.hid hVb
  have hFae_h := Lib.hid hFae
  have hFbe_h := Lib.hid hFbe
  have hia_h := Lib.hid hia
  have hib_h := Lib.hid hib
  have hna'_h := Lib.hid hna'
  have hnb'_h := Lib.hid hnb'
  have hV0_h := Lib.hid hV0
  have hca_h := Lib.hid hca
  have hcb_h := Lib.hid hcb
  have hgl_h := Lib.hid hgl
  have hgh_h := Lib.hid hgh
  have htl_h := Lib.hid htl
  have hth_h := Lib.hid hth
  have hIl_h := Lib.hid hIl
  have hIh_h := Lib.hid hIh
  have hM_h := Lib.hid hM
  have hVl_h := Lib.hid hVl
  have hVh_h := Lib.hid hVh
  have hil_h := Lib.hid hil
  have hih_h := Lib.hid hih
  have hnl'_h := Lib.hid hnl'
  have hnh'_h := Lib.hid hnh'
  have hco_h := Lib.hid hco
  have hqa_h := Lib.hid hqa
  have hqb_h := Lib.hid hqb
  clear hIa hIb hFa hFb hVa hVb hFae hFbe hia hib hna' hnb' hV0 hca hcb hgl hgh htl hth hIl hIh hM hVl hVh hil hih hnl' hnh' hco hqa hqb
  go_enter Try.func102, Try.ntmps102
  go_wp2_with (fail)
  refine (hIa_h.out _).mono ?_
  rintro e w1 ⟨rfl, hb1⟩
  have hb1_h := Lib.hid hb1
  clear hb1
  go_upto_region 2 with (fail)
  go_cut [29] (fun s wx => s = .bool ca ∧ wx = w1)
  case first =>
    cases ia
    · obtain rfl : ca = false := by rw [hca_h.out]; rfl
      go_wp2_with (fail)
      go_meet
      exact ⟨rfl, rfl⟩
    · by_cases hz : na = 0
      · have hz2 : (na == 0) = true := by simp [hz]
        obtain rfl : ca = true := by rw [hca_h.out]; simp [hz]
        have hz_h := Lib.hid hz
        clear hz
        go_wp2_with (fail)
        go_meet
        exact ⟨rfl, rfl⟩
      · have hz2 : (na == 0) = false := by simp [hz]
        obtain rfl : ca = false := by rw [hca_h.out]; simp [hz]
        have hz_h := Lib.hid hz
        clear hz
        go_wp2_with (fail)
        go_meet
        exact ⟨rfl, rfl⟩
  case rest =>
  obtain ⟨rfl, rfl⟩ := hcut
  cases ca
  case true =>
    have hV := hV0_h.out
    rw [if_pos rfl, ← hVb_h.out] at hV
    have hV_h := Lib.hid hV
    clear hV
    go_wp2_with (fail)
    go_ret
    exact ⟨by rw [hV_h.out]; rfl, hb1_h.out⟩
  case false =>
  go_wp2_with (fail)
  refine (hIb_h.out _).mono ?_
  rintro e w2 ⟨rfl, hb2⟩
  have hB2 := below_trans hb1_h.out hb2 hb1_h.out.size
  have hb2_h := Lib.hid hb2
  have hB2_h := Lib.hid hB2
  clear hb2 hB2
  go_upto_region 5 with (fail)
  go_cut [40] (fun s wx => s = .bool cb ∧ wx = w2)
  case first =>
    cases ib
    · obtain rfl : cb = false := by rw [hcb_h.out]; rfl
      go_wp2_with (fail)
      go_meet
      exact ⟨rfl, rfl⟩
    · by_cases hz : nb = 0
      · have hz2 : (nb == 0) = true := by simp [hz]
        obtain rfl : cb = true := by rw [hcb_h.out]; simp [hz]
        have hz_h := Lib.hid hz
        clear hz
        go_wp2_with (fail)
        go_meet
        exact ⟨rfl, rfl⟩
      · have hz2 : (nb == 0) = false := by simp [hz]
        obtain rfl : cb = false := by rw [hcb_h.out]; simp [hz]
        have hz_h := Lib.hid hz
        clear hz
        go_wp2_with (fail)
        go_meet
        exact ⟨rfl, rfl⟩
  case rest =>
  obtain ⟨rfl, rfl⟩ := hcut
  cases cb
  case true =>
    have hV := hV0_h.out
    rw [if_neg (by simp), if_pos rfl, ← hVa_h.out] at hV
    have hV_h := Lib.hid hV
    clear hV
    go_wp2_with (fail)
    go_ret
    exact ⟨by rw [hV_h.out]; rfl, hB2_h.out⟩
  case false =>
  have hV0 := hV0_h.out
  rw [if_neg (by simp), if_neg (by simp)] at hV0
  clear hV0_h
  have hV0_h := Lib.hid hV0
  clear hV0
  go_wp2_with (fail)
  refine (hFa_h.out _).mono ?_
  rintro e w3 ⟨A1, c1, m1, rfl, hm1, hN1, hF1, hb3⟩
  have hB3 := below_trans hB2_h.out hb3 hB2_h.out.size
  have hb3_h := Lib.hid hb3
  have hB3_h := Lib.hid hB3
  have hm1_h := Lib.hid hm1
  have hN1_h := Lib.hid hN1
  have hF1_h := Lib.hid hF1
  clear hb3 hB3 hm1 hN1 hF1
  go_wp2_with (fail)
  refine (hFb_h.out _).mono ?_
  rintro e w4 ⟨A2, c2, m2, rfl, hm2, hN2, hF2, hb4'⟩
  have hB4 := below_trans hB3_h.out hb4' hB3_h.out.size
  have hN3 := hN1_h.out.below hb4'
  obtain rfl : m1 = qa + 1 := by rw [hm1_h.out, hqa_h.out]
  obtain rfl : m2 = qb + 1 := by rw [hm2, hqb_h.out]
  have hF1b : ∀ k, k ∈ fpA A1 → w.heap.size ≤ k := fun k hk => Nat.le_trans hB2_h.out.size (hF1_h.out k hk)
  have hA12 : ∀ k, k ∈ fpA A1 → ¬ k ∈ fpA A2 := fun k hk hk' => by have := hN1_h.out.lt k hk; have := hF2 k hk'; omega
  obtain ⟨ad1, rfl, -, y1, f1⟩ := Sl.cell hN3 (tvL_get hgl_h.out)
  obtain ⟨ad2, rfl, -, y2, -⟩ := Sl.cell hN2 (tvL_get hgh_h.out)
  rw [← hVl_h.out] at y1
  rw [← hVh_h.out, add0] at y2
  have hqaI : ((qa + 1 : Nat) : Int) - 1 = (qa : Int) := by omega
  have hb4'_h := Lib.hid hb4'
  have hB4_h := Lib.hid hB4
  have hm2_h := Lib.hid hm2
  have hN2_h := Lib.hid hN2
  have hN3_h := Lib.hid hN3
  have hF1b_h := Lib.hid hF1b
  have hF2_h := Lib.hid hF2
  have hA12_h := Lib.hid hA12
  have y2_h := Lib.hid y2
  clear hb4' hB4 hm2 hN2 hN3 hF1b hF2 hA12 y2
  go_wp2_with (fail)
  refine (hIl_h.out _).mono ?_
  rintro e w5 ⟨rfl, hb5⟩
  clear y1 f1
  have y2 := (hb5.cell (World.block_lt_of_cell? w4 _ y2_h.out)).trans y2_h.out
  have hB5 := below_trans hB4_h.out hb5 hB4_h.out.size
  have hb5_h := Lib.hid hb5
  have hB5_h := Lib.hid hB5
  clear hb5 hB5
  go_wp2_with (fail)
  refine (hIh_h.out _).mono ?_
  rintro e w6 ⟨rfl, hb6⟩
  clear y2
  have hB6 := below_trans hB5_h.out hb6 hB5_h.out.size
  have hN4 := (hN3_h.out.below hb5_h.out).below hb6
  have hN5 := (hN2_h.out.below hb5_h.out).below hb6
  have hb6_h := Lib.hid hb6
  have hB6_h := Lib.hid hB6
  have hN4_h := Lib.hid hN4
  have hN5_h := Lib.hid hN5
  clear hb6 hB6 hN4 hN5
  go_upto_region 11 with (fail)
  go_cut [67] (fun s wx => s = .bool co ∧ wx = w6)
  case first =>
    cases il
    · obtain rfl : co = false := by rw [hco_h.out]; rfl
      go_wp2_with (fail)
      go_meet
      exact ⟨rfl, rfl⟩
    · obtain rfl : co = ih := by rw [hco_h.out]; rfl
      go_wp2_with (fail)
      go_meet
      exact ⟨rfl, rfl⟩
  case rest =>
  obtain ⟨rfl, rfl⟩ := hcut
  go_upto_if 67 with (fail)
  go_cut [10] (fun s wx => ∃ (F S : List Tr) (B2 : Option Addr) (k2 d2 : Nat), s = .slice B2 k2 d2 ∧ k2 = S.length ∧ k2 ≤ qb + 1 ∧ F.length = qa + 1 ∧ Sl wx tTree 1 (some ad1) (qa + 1) c1 (tvL F) ∧ RdC wx B2 (tvL S) ∧ F ++ S = M ∧ Below w.heap.size w wx)
  case first =>
    cases co
    · have hMe := hM_h.out
      rw [if_neg (by simp)] at hMe
      have hMe_h := Lib.hid hMe
      clear hMe
      go_wp2_with (fail)
      go_meet
      exact ⟨Fa, Fb, _, _, _, rfl, hqb_h.out.symm, Nat.le_refl _, hqa_h.out, hN4_h.out, Sl.rdc hN5_h.out, hMe_h.out.symm, hB6_h.out⟩
    · have hMe := hM_h.out
      rw [if_pos rfl] at hMe
      have ws : IntKind.i64.wrap (nl + nh) = nl + nh := IntWalk.i64_in _ (by omega)
      have hC := leafOf_any 1 (nl + nh)
      have hMe_h := Lib.hid hMe
      have hC_h := Lib.hid hC
      clear hMe hC
      go_wp2_with (fail)
      refine (hC_h.out _).mono ?_
      rintro e w7 ⟨rfl, hb7⟩
      have hB7 := below_trans hB6_h.out hb7 hB6_h.out.size
      have hN6 := hN4_h.out.below hb7
      have hN7 := (Sl.rdc hN5_h.out).below hb7
      obtain ⟨ad', e', -, y1, f1⟩ := Sl.cell hN6 (tvL_get hgl_h.out)
      obtain rfl := Option.some.inj e'
      have hset := Sl.set hN6 rfl qa (.iface tLeafT (.agg #[.int .i64 1, .int .i64 (nl + nh), .string noName])) (by rw [tvL_length, hqa_h.out]; omega)
      have hks : Keeps (fun x => x = ad1.block) w7 (w7.setCell (ad1.add qa) (.iface tLeafT (.agg #[.int .i64 1, .int .i64 (nl + nh), .string noName]))) := Keeps.setCell (S := fun x => x = ad1.block) (Keeps.refl _ w7) (p := ad1.add qa) (by rw [block_of_add]) _
      rw [show (Value.iface tLeafT (.agg #[.int .i64 1, .int .i64 (nl + nh), .string noName])) = trV (idT (nl + nh)) from rfl, tvL_set, set_last hqa_h.out] at hset
      have hN8 := hN7.keeps hks (fun x hx e => hA12_h.out ad1.block (by simp) (by rw [← e]; exact hx))
      have hB8 := below_keeps hB7 hks hB7.size (fun x hx => by rw [hx]; exact hF1b_h.out _ (by simp))
      have hlen : (Fa.dropLast ++ [idT (nl + nh)]).length = qa + 1 := by rw [List.length_append, List.length_dropLast, hqa_h.out]; rfl
      have hle2 : Fb.tail.length = qb := by rw [List.length_tail, hqb_h.out]; rfl
      have hap : (Fa.dropLast ++ [idT (nl + nh)]) ++ Fb.tail = M := by rw [hMe_h.out]; simp
      have hcc := hN5_h.out.2.1
      have htl := RdC.tail_ hN8 (headL Fb) Fb.tail (by rw [← head_split]; intro e; rw [e] at hqb_h; cases hqb_h.out)
      have hb7_h := Lib.hid hb7
      have hB7_h := Lib.hid hB7
      have hN6_h := Lib.hid hN6
      have hN7_h := Lib.hid hN7
      have hset_h := Lib.hid hset
      have hks_h := Lib.hid hks
      have hN8_h := Lib.hid hN8
      have hB8_h := Lib.hid hB8
      have hlen_h := Lib.hid hlen
      have hle2_h := Lib.hid hle2
      have hap_h := Lib.hid hap
      have htl_h := Lib.hid htl
      clear hb7 hB7 hN6 hN7 hset hks hN8 hB8 hlen hle2 hap htl
      clear hqaI
      by_cases hc2 : c2 = 1
      · obtain rfl : qb = 0 := by omega
        subst hc2
        go_wp2_with (fail)
        go_meet
        refine ⟨_, Fb.tail, _, _, _, rfl, hle2_h.out.symm, by omega, hlen_h.out, hset_h.out, ?_, hap_h.out, hB8_h.out⟩
        have e0 : tvL Fb.tail = [] := by
          have := List.eq_nil_of_length_eq_zero hle2_h.out
          rw [this]; rfl
        rw [e0]; exact RdC.nil _ _
      · go_wp2_with (fail)
        go_meet
        exact ⟨_, Fb.tail, _, _, _, rfl, hle2_h.out.symm, by omega, hlen_h.out, hset_h.out, htl_h.out, hap_h.out, hB8_h.out⟩
  case rest =>
  obtain ⟨F, S, B2, k2, d2, rfl, hk2, hk2b, hFl, hN9, hr9, hap, hB9⟩ := hcut
  obtain ⟨q, hq⟩ : ∃ q, qa + 1 + k2 = q + 1 := ⟨qa + k2, by omega⟩
  obtain ⟨L, hL⟩ : ∃ L, L = F ++ S := ⟨_, rfl⟩
  have hV1 := hV0_h.out
  rw [← hap, ← hL] at hV1
  clear hV0_h
  have hV0 := hV1
  have hLq : L.length = q + 1 := by rw [hL, List.length_append, ← hk2, hFl, hq]
  have hq2 : q ≤ 803 := by omega
  have hnl : (tvL S).length = k2 * 1 := by rw [tvL_length, hk2]; omega
  have hmq := hq
  clear hq hV1 hqaI
  have hV0_h := Lib.hid hV0
  have hL_h := Lib.hid hL
  have hLq_h := Lib.hid hLq
  have hk2_h := Lib.hid hk2
  have hFl_h := Lib.hid hFl
  have hN9_h := Lib.hid hN9
  have hr9_h := Lib.hid hr9
  have hap_h := Lib.hid hap
  have hB9_h := Lib.hid hB9
  have hnl_h := Lib.hid hnl
  have hmq_h := Lib.hid hmq
  clear hV0 hL hLq hk2 hFl hN9 hr9 hap hB9 hnl hmq
  go_upto_region 15 with (at_builtin; refine wpList_append_Sl _ rfl _ _ _ rfl tTree Try.underlying105 info_tree rfl (by omega) rfl hN9_h.out rfl hnl_h.out hr9_h.out (tvL_one S) (by unfold maxLen; omega) (by omega) ?_; intro A3 c3 w5 hs5 hA5 hk5)
  rw [← tvL_append, ← hL_h.out, hmq_h.out] at hs5
  rw [hmq_h.out]
  have hB5' := below_keeps hB9_h.out hk5 hB9_h.out.size (fun k hk => hF1b_h.out k hk)
  clear hB4_h
  have hsL := hs5
  have hB4 := hB5'
  clear hs5 hA5 hk5 hB5'
  have hsL_h := Lib.hid hsL
  have hB4_h := Lib.hid hB4
  clear hsL hB4
  obtain ⟨t0, ht0⟩ : ∃ t0, L[0]? = some t0 := ⟨_, List.getElem?_eq_getElem (by rw [hLq_h.out]; omega)⟩
  obtain ⟨x0, p0, hv0⟩ := trV_iface t0
  obtain ⟨ad, rfl, -, y0, -⟩ := Sl.cell hsL_h.out (tvL_get ht0)
  rw [add0, hv0] at y0
  have hcell := fun (j : Nat) (t : Tr) (h : L[j]? = some t) => tvL_cell hsL_h.out h
  have hch0 : chain true (L.take (0 + 1)) = t0 := by
    rw [List.take_add_one, ht0]; rfl
  have hcell_h := Lib.hid hcell
  have hch0_h := Lib.hid hch0
  have hv0_h := Lib.hid hv0
  have ht0_h := Lib.hid ht0
  clear hcell hch0 hv0 ht0
  by_cases hc1 : c3 = 1
  · obtain rfl : q = 0 := by have := hsL_h.out.2.1; omega
    subst hc1
    have hV : V = .iface x0 p0 := by rw [hV0_h.out, ← hv0_h.out, ← hch0_h.out, ← hLq_h.out, List.take_length]
    have hV_h := Lib.hid hV
    clear hV
    go_wp2_with (fail)
    go_loop [17, 88] (fun ov iv => iv = .int .i64 0 ∧ ov = .iface x0 p0) (fun _ iv => 0)
    case atStart => exact ⟨rfl, rfl⟩
    case round =>
      obtain ⟨rfl, rfl⟩ := hrel
      go_wp2_with (fail)
      go_ret
      exact ⟨by rw [hV_h.out]; rfl, hB4_h.out⟩
  go_wp2_with (fail)
  go_loop [17, 88] (fun ov iv => ∃ (k : Nat) (x : TypeId) (pp : Value), k ≤ q ∧ iv = .int .i64 k ∧ ov = .iface x pp ∧ trV (chain true (L.take (k + 1))) = .iface x pp) (fun _ iv => q - (intOf iv).toNat)
  case atStart => exact ⟨0, x0, p0, Nat.zero_le _, rfl, rfl, by rw [hch0_h.out]; exact hv0_h.out⟩
  case round =>
    obtain ⟨k, x, pp, hk, rfl, rfl, hch⟩ := hrel
    by_cases hlt : k < q
    · obtain ⟨t1, ht1⟩ : ∃ t1, L[k + 1]? = some t1 := ⟨_, List.getElem?_eq_getElem (by rw [hLq_h.out]; omega)⟩
      obtain ⟨x1, p1, hv1⟩ := trV_iface t1
      have z0 := hcell_h.out _ _ ht1
      rw [hv1] at z0
      rw [add_suc, show ad.off + (k + 1) = ad.off + 1 + k by omega] at z0
      have hkI : (k : Int) < (q : Int) := by omega
      have hn := chain_next (p := true) ht1
      have hnv : trV (chain true (L.take (k + 1 + 1))) = .iface tParT (.agg #[.iface x pp, .iface x1 p1]) := by rw [hn]; show Value.iface tParT (.agg #[trV (chain true (L.take (k + 1))), trV t1]) = _; rw [hch, hv1]
      have hch_h := Lib.hid hch
      have hv1_h := Lib.hid hv1
      have ht1_h := Lib.hid ht1
      have hn_h := Lib.hid hn
      have hnv_h := Lib.hid hnv
      clear hch hv1 ht1 hn hnv
      go_wp2_with (fail)
      go_round
      case rel => exact ⟨k + 1, tParT, _, by omega, by go_num, rfl, hnv_h.out⟩
      case measure => simp [intOf]; omega
    · obtain rfl : k = q := by omega
      have hV : V = .iface x pp := by rw [hV0_h.out, ← hch, ← hLq_h.out, List.take_length]
      have hch_h := Lib.hid hch
      have hV_h := Lib.hid hV
      clear hch hV
      go_wp2_with (fail)
      go_ret
      exact ⟨by rw [hV_h.out]; rfl, hB4_h.out⟩
end Go.Proofs.Ytlmnmdahphahfaa
