/-
  THE WALKS: the two parts of a term (the reference's tmParts).
-/
import Derived.Test.YtlmnmdahphahfaaTmPa
namespace Go.Proofs.Ytlmnmdahphahfaa
open Go.RowKit

/-- Two terms that may be read. -/
def RetPP (w : World) (la lb : List Nd) (e : Ending) (w' : World) : Prop :=
  ∃ v1 v2 fp1 fp2, e = .returned (.tuple #[v1, v2]) ∧ OwTm w' v1 la fp1 ∧ OwTm w' v2 lb fp2 ∧ FreshL w.heap.size fp1 ∧ FreshL w.heap.size fp2 ∧ (∀ b, b ∈ fp1 → ¬ b ∈ fp2) ∧ Below w.heap.size w w'
theorem results_cell_cell {P : Program} {fn : Func} {p u : Tmp} {ty : TypeId} (h : fn.results = #[.cell p ty, .cell u ty]) (tmps : Array Value) (w : World) (g g' : Nat) (t t' : TypeId) (cs cs' : Array Value) (fr fr' : Nat × Nat) (d : TypeDesc)
    (hp : tmps.getD p undef = .pointer (some ⟨g, 0, none⟩)) (hq : tmps.getD u undef = .pointer (some ⟨g', 0, none⟩)) (hg : w.heap[g]? = some (.cells cs t fr)) (hg' : w.heap[g']? = some (.cells cs' t' fr'))
    (hu : P.underlying ty = some d) (hd : (match d with | .struct _ | .array _ _ => true | _ => false) = true) (hi : (P.info? ty).map (·.size) = some cs.size) (hi' : cs'.size = cs.size) :
    (results fn tmps).run P w = .ok (.tuple #[.agg cs, .agg cs']) w := by
  have hp' : tmps[p]?.getD undef = .pointer (some ⟨g, 0, none⟩) := by simpa using hp
  have hq' : tmps[u]?.getD undef = .pointer (some ⟨g', 0, none⟩) := by simpa using hq
  simp [results, h, hp', hq', asAddr, run_loadVar_row w g t ty cs fr d hg hu hd hi, run_loadVar_row w g' t' ty cs' fr' d hg' hu hd (by rw [hi, hi'])]
theorem RdN.front {w : World} {ad : Addr} {l : List Nd} (h : RdN w (some ad) l) (b : Nat) : RdN w (some ad) (l.take b) := by
  have := h.cut 0 b
  rwa [Nat.zero_mul, show ad.add 0 = ad by unfold Addr.add; simp, List.drop_zero] at this
theorem node_parts (p : Bool) (a b : Tr) : (flat (.node p a b)).take (sz a) = flat a ∧ ((flat (.node p a b)).take (sz a + sz b)).drop (sz a) = flat b := by
  have h1 : (flat a).length = sz a := rfl
  have h2 : (flat b).length = sz b := rfl
  constructor
  · simp only [flat]; rw [List.take_append_of_le_length (by omega), List.take_of_length_le (by omega)]
  · simp only [flat]
    rw [List.take_append, h1, List.take_of_length_le (by omega), Nat.add_sub_cancel_left, List.take_append_of_le_length (by omega), List.take_of_length_le (by omega), List.drop_append, h1, List.drop_of_length_le (by omega), Nat.sub_self]; rfl
theorem from_at (p : Bool) (a b : Tr) : (frL [.node p a b])[sz a + sz b - 1]? = some (sz a : Int) := by
  have hb := sz_pos b
  obtain ⟨q, e, hl⟩ := info_last b (sz a)
  have : (infos [.node p a b])[sz a + sz b - 1]? = some (sz a, ty b) := by
    simp only [infos, info, flats, List.nil_append, List.length_nil, Nat.zero_add]
    rw [List.getElem?_append_right (by rw [info_length]; omega), info_length, e, List.append_assoc, List.getElem?_append_right (by omega)]
    have : sz a + sz b - 1 - sz a - q.length = 0 := by omega
    rw [this]; rfl
  simp [frL, this]

set_option maxRecDepth 8000 in
set_option maxHeartbeats 2000000 in
theorem tmParts_any {v : Value} {p : Bool} {a b : Tr} {fp : List Nat} {w : World} (hw : wt (.node p a b)) (hs : sz (.node p a b) ≤ 400) (h : OwTm w v (flat (.node p a b)) fp) :
    Calls Try.prog 83 #[v] w (RetPP w (flat a) (flat b)) := by
  obtain ⟨A, c, rfl, hN, -⟩ := h
  have hT := treeM_flat hw hs
  obtain ⟨hp1, hp2⟩ := node_parts p a b
  have hfr := from_at p a b
  have hsz := sz_node p a b
  have ha0 := sz_pos a
  have hb0 := sz_pos b
  obtain ⟨k, hk⟩ : ∃ k, k = sz a := ⟨_, rfl⟩
  obtain ⟨q, hq⟩ : ∃ q, k + sz b = q + 1 := ⟨k + sz b - 1, by omega⟩
  rw [← hk] at hp1 hp2 hfr hsz ha0
  rw [hq] at hp2 hfr hsz
  rw [Nat.add_sub_cancel] at hfr
  have hkq : k ≤ q := by omega
  have hq4 : q + 2 ≤ 400 := by omega
  obtain ⟨l, hl⟩ : ∃ l, l = flat (.node p a b) := ⟨_, rfl⟩
  have hll : l.length = q + 2 := by rw [hl]; exact hsz
  rw [← hl] at hT hp1 hp2 hN ⊢
  obtain ⟨La, hLa⟩ : ∃ La, La = flat a := ⟨_, rfl⟩
  obtain ⟨Lb, hLb⟩ : ∃ Lb, Lb = flat b := ⟨_, rfl⟩
  rw [← hLa] at hp1 ⊢
  rw [← hLb] at hp2 ⊢
  obtain ⟨W, hW⟩ : ∃ W, W = ((w.alloc (.cells #[.slice A l.length c] tTerm)).alloc (.cells #[.slice none 0 0] tTerm)).alloc (.cells #[.slice none 0 0] tTerm) := ⟨_, rfl⟩
  obtain ⟨b0, k0, k1, k2, hz⟩ := three_boxes w (.cells #[.slice A l.length c] tTerm) (.cells #[.slice none 0 0] tTerm) (.cells #[.slice none 0 0] tTerm)
  rw [← hW] at b0 k0 k1 k2 hz
  have hr := hN.rd.below b0
  have hc := hN.2.1
  have hC := tmScan_any (v := .agg #[.slice A l.length c]) (l := l) (w := W) ⟨A, c, rfl, hr⟩
  obtain ⟨ad, -, -, -, rfl, -, -⟩ := hr.at_ (j := 0) (by omega)
  rw [hll] at hC hW k0 ⊢
  rw [hll] at hc
  clear hN
  clear ha0 hb0
  have b0_h := Lib.hid b0
  have k0_h := Lib.hid k0
  have k1_h := Lib.hid k1
  have k2_h := Lib.hid k2
  have hz_h := Lib.hid hz
  have hr_h := Lib.hid hr
  have hC_h := Lib.hid hC
  have hT_h := Lib.hid hT
  have hp1_h := Lib.hid hp1
  have hp2_h := Lib.hid hp2
  have hfr_h := Lib.hid hfr
  have hsz_h := Lib.hid hsz
  have hk_h := Lib.hid hk
  have hq_h := Lib.hid hq
  have hl_h := Lib.hid hl
  have hll_h := Lib.hid hll
  have hLa_h := Lib.hid hLa
  have hLb_h := Lib.hid hLb
  clear b0 k0 k1 k2 hz hr hC hT hp1 hp2 hfr hsz hk hq hl hll hLa hLb
  go_enter Try.func83, Try.ntmps83
  go_wp2_with (fail)
  rw [← hW]
  clear hW
  refine (hC_h.out).mono ?_
  rintro e w1 ⟨A0, A1, A2, d0, d1, d2, n0, n1, n2, t, rfl, ht, hi, hb1⟩
  obtain rfl : t = true := by rw [ht, hT_h.out]; rfl
  obtain ⟨i1, -, -, i4, -, -, -⟩ := hi _ hT_h.out
  obtain ⟨ad0, rfl, x0⟩ := i4 _ _ (ints_get hfr_h.out)
  obtain rfl : n0 = q + 2 := by rw [i1, hsz_h.out]
  obtain ⟨W2, hW2⟩ : ∃ W2, W2 = w1.alloc (.cells #[.slice (some ad0) (q + 2) d0, .slice A1 n1 d1, .slice A2 n2 d2] tInfo) := ⟨_, rfl⟩
  have hb2 : Below w1.heap.size w1 W2 := by rw [hW2]; exact below_alloc _ _
  have k3 : W2.heap[w1.heap.size]? = some (.cells #[.slice (some ad0) (q + 2) d0, .slice A1 n1 d1, .slice A2 n2 d2] tInfo) := by rw [hW2]; exact heap_alloc_new _ _
  have hB := below_trans (below_trans b0_h.out hb1 b0_h.out.size) hb2 (Nat.le_trans b0_h.out.size hb1.size)
  replace k0_h := Lib.hid (box_below k0_h.out hb1)
  replace k1_h := Lib.hid (box_below k1_h.out hb1)
  replace k2_h := Lib.hid (box_below k2_h.out hb1)
  replace k0_h := Lib.hid (box_below k0_h.out hb2)
  replace k1_h := Lib.hid (box_below k1_h.out hb2)
  replace k2_h := Lib.hid (box_below k2_h.out hb2)
  have hr2 : RdN W2 (some ad) l := (hr_h.out.below hb1).below hb2
  have hx2 : W2.cell? (ad0.add q) = some (.int .i64 (k : Int)) := (hb2.cell (World.block_lt_of_cell? w1 _ x0)).trans x0
  have hS : W2.heap[w.heap.size]? = some (.cells #[.slice (some ad) (q + 2) c] tTerm) := k0_h.out
  obtain ⟨y0, y1⟩ := bx1 k0_h.out
  obtain ⟨⟨z0, -, -⟩, z3, -, -⟩ := box3 k3
  have e1 : ((q + 2 : Nat) : Int) - 1 = (q : Int) + 1 := by omega
  have e2 : (q : Int) + 1 - 1 = (q : Int) := by omega
  have hb1_h := Lib.hid hb1
  have hb2_h := Lib.hid hb2
  have hB_h := Lib.hid hB
  have hr2_h := Lib.hid hr2
  have hS_h := Lib.hid hS
  have i1_h := Lib.hid i1
  have i4_h := Lib.hid i4
  have hi_h := Lib.hid hi
  have ht_h := Lib.hid ht
  have x0_h := Lib.hid x0
  have k3_h := Lib.hid k3
  clear hb1 hb2 hB hr2 hS i1 i4 hi ht x0 k3
  go_upto_region 2 with (fail)
  rw [← hW2]
  clear hW2
  go_wp2_with (fail)
  refine beginH (fun w' => w'.heap[w.heap.size]? = some (.cells #[.slice (some ad) (q + 2) c] tTerm)) (by kernel_rfl) ?_
  have hk0 : (0 : Int) ≤ (k : Int) := by omega
  have hkc : (k : Int) ≤ (c : Int) := by omega
  have f1 : (1 : Int) ≤ (q : Int) + 2 := by omega
  have f2 : (q : Int) + 2 - 1 ≤ (c : Int) := by omega
  have f3 : ((q : Int) + 2).toNat - 1 = q + 1 := by omega
  have f4 : k ≤ q + 1 := by omega
  have hck : ¬ c = k := by omega
  refine takeH 0 (v := ?_) rfl (by kernel_rfl) (by kernel_rfl) (by kernel_rfl) (fun _ _ _ h => h) hS_h.out (by rfl) (fun W' hW' => ?_) ?_; rotate_left; · (obtain ⟨y0, y1⟩ := bx1 hW'; clear hW'; go_simp; first | done | with_reducible rfl)
  simp only [Act.put, List.setIfInBounds_toArray, List.set_cons_zero, List.set_cons_succ]
  refine takeH 1 (v := ?_) rfl (by kernel_rfl) (by kernel_rfl) (by kernel_rfl) (fun _ _ _ h => h) hS_h.out (by rfl) (fun W' hW' => ?_) ?_; rotate_left; · (obtain ⟨y0, y1⟩ := bx1 hW'; clear hW'; go_simp; first | done | with_reducible rfl)
  simp only [Act.put, List.setIfInBounds_toArray, List.set_cons_zero, List.set_cons_succ]
  refine takeH 2 (v := ?_) rfl (by kernel_rfl) (by kernel_rfl) (by kernel_rfl) (fun _ _ _ h => h) hS_h.out (by rfl) (fun W' hW' => ?_) ?_; rotate_left; · (obtain ⟨y0, y1⟩ := bx1 hW'; clear hW'; go_simp; first | done | with_reducible rfl)
  simp only [Act.put, List.setIfInBounds_toArray, List.set_cons_zero, List.set_cons_succ]
  refine takeH 3 (v := ?_) rfl (by kernel_rfl) (by kernel_rfl) (by kernel_rfl) (fun _ _ _ h => h) hS_h.out (by rfl) (fun W' hW' => ?_) ?_; rotate_left; · (obtain ⟨y0, y1⟩ := bx1 hW'; clear hW'; go_simp; first | done | with_reducible rfl)
  simp only [Act.put, List.setIfInBounds_toArray, List.set_cons_zero, List.set_cons_succ]
  refine takeH 5 (v := ?_) rfl (by kernel_rfl) (by kernel_rfl) (by kernel_rfl) (fun _ _ _ h => h) hS_h.out (by rfl) (fun W' hW' => ?_) ?_; rotate_left; · (obtain ⟨y0, y1⟩ := bx1 hW'; clear hW'; go_simp; first | done | with_reducible rfl)
  simp only [Act.put, List.setIfInBounds_toArray, List.set_cons_zero, List.set_cons_succ]
  refine takeH 6 (v := ?_) rfl (by kernel_rfl) (by kernel_rfl) (by kernel_rfl) (fun _ _ _ h => h) hS_h.out (by rfl) (fun W' hW' => ?_) ?_; rotate_left; · (obtain ⟨y0, y1⟩ := bx1 hW'; clear hW'; go_simp; first | done | with_reducible rfl)
  simp only [Act.put, List.setIfInBounds_toArray, List.set_cons_zero, List.set_cons_succ]
  refine takeH 7 (v := ?_) rfl (by kernel_rfl) (by kernel_rfl) (by kernel_rfl) (fun _ _ _ h => h) hS_h.out (by rfl) (fun W' hW' => ?_) ?_; rotate_left; · (obtain ⟨y0, y1⟩ := bx1 hW'; clear hW'; go_simp; first | done | with_reducible rfl)
  simp only [Act.put, List.setIfInBounds_toArray, List.set_cons_zero, List.set_cons_succ]
  refine takeH 8 (v := ?_) rfl (by kernel_rfl) (by kernel_rfl) (by kernel_rfl) (fun _ _ _ h => h) hS_h.out (by rfl) (fun W' hW' => ?_) ?_; rotate_left; · (obtain ⟨y0, y1⟩ := bx1 hW'; clear hW'; go_simp; first | done | with_reducible rfl)
  simp only [Act.put, List.setIfInBounds_toArray, List.set_cons_zero, List.set_cons_succ]
  refine takeH 9 (v := ?_) rfl (by kernel_rfl) (by kernel_rfl) (by kernel_rfl) (fun _ _ _ h => h) hS_h.out (by rfl) (fun W' hW' => ?_) ?_; rotate_left; · (obtain ⟨y0, y1⟩ := bx1 hW'; clear hW'; go_simp; first | done | with_reducible rfl)
  simp only [Act.put, List.setIfInBounds_toArray, List.set_cons_zero, List.set_cons_succ]
  refine' callH 4 (f := _) (args := _) rfl (by kernel_rfl) (by rfl) ?_ ?_; rotate_left 2; · (go_simp; first | done | with_reducible rfl | (constructor <;> with_reducible rfl))
  have hn1 : k = La.length := by rw [hLa_h.out, hk_h.out]; rfl
  have hn2 : q + 1 - k = Lb.length := by rw [hLb_h.out, ← hq_h.out, Nat.add_sub_cancel_left]; rfl
  have hl4 : l.length ≤ 400 := by rw [hll_h.out]; exact hq4
  have hn1_h := Lib.hid hn1
  have hn2_h := Lib.hid hn2
  clear hn1 hn2
  clear f1 f2 f3 f4 hck hk0 hkc
  have hwd : W2.heap.size = W2.drew.heap.size := rfl
  refine (tmOwn_any (some ad) k c La W2.drew (by rw [← hp1_h.out]; exact hr2_h.out.front k) hn1_h.out (by rw [← hn1_h.out]; omega)).mono ?_
  rintro e w3 ⟨v3, fp3, rfl, ⟨A3, c3, rfl, hN3, rfl⟩, hF3, hb3⟩
  have hr3 : RdN w3 (some (ad.add (k * 3))) Lb := by rw [← hp2_h.out]; exact (RdN.below (w := W2.drew) hr2_h.out hb3).cut k (q + 1)
  have hB3 : Below w.heap.size w w3 := below_trans (below_drew hB_h.out) hb3 hB_h.out.size
  have hz3 := hb3.size
  have s0 := box_below (w := W2.drew) k0_h.out hb3
  have s1 := box_below (w := W2.drew) k1_h.out hb3
  have s2 := box_below (w := W2.drew) k2_h.out hb3
  refine ⟨_, rfl, s0, ?_⟩
  have hr3_h := Lib.hid hr3
  have hB3_h := Lib.hid hB3
  have s0_h := Lib.hid s0
  have s1_h := Lib.hid s1
  have s2_h := Lib.hid s2
  have hN3_h := Lib.hid hN3
  have hF3_h := Lib.hid hF3
  have hb3_h := Lib.hid hb3
  clear hr3 hB3 s0 s1 s2 hN3 hF3 hb3
  simp only [Act.put, List.setIfInBounds_toArray, List.set_cons_zero, List.set_cons_succ]
  refine' callH 10 (f := _) (args := _) rfl (by kernel_rfl) (by rfl) ?_ ?_; rotate_left 2; · (go_simp; first | done | with_reducible rfl | (constructor <;> with_reducible rfl))
  refine (tmOwn_any (some (ad.add (k * 3))) (q + 1 - k) (c - k) Lb w3 hr3_h.out hn2_h.out (by rw [← hn2_h.out]; omega)).mono ?_
  rintro e w4 ⟨v4, fp4, rfl, ⟨A4, c4, rfl, hN4, rfl⟩, hF4, hb4⟩
  replace s0_h := Lib.hid (box_below s0_h.out hb4)
  replace s1_h := Lib.hid (box_below s1_h.out hb4)
  replace s2_h := Lib.hid (box_below s2_h.out hb4)
  have hB4 : Below w.heap.size w w4 := below_trans hB3_h.out hb4 hB3_h.out.size
  have hz4 := hb4.size
  have hzb := hB_h.out.size
  have hN3' := NS.below hN3_h.out hb4
  have h2lt := box_lt s2_h.out
  obtain ⟨t1, t2⟩ := set1 s1_h.out (.slice A3 La.length c3)
  have t3 := box_keeps s2_h.out t2 (by omega)
  obtain ⟨t4, t5⟩ := set1 t3 (.slice A4 Lb.length c4)
  have t6 := box_keeps t1 t5 (by omega)
  have t7 := box_keeps s0_h.out t2 (by omega)
  have t8 := box_keeps t7 t5 (by omega)
  have hB5 := below_keeps hB4 t2 hB4.size (fun k hk => by omega)
  have hB6 := below_keeps hB5 t5 hB5.size (fun k hk => by omega)
  have hlt3 := hN3_h.out.lt
  have hz0 := hz_h.out
  have hzW := hb1_h.out.size
  have hzW2 := hb2_h.out.size
  have hzd : W2.drew.heap.size = W2.heap.size := rfl
  have hF3' := hF3_h.out
  have hM3 := (NS.keeps hN3' t2 (fun b hb e => by have := hF3' b hb; omega)).keeps t5 (fun b hb e => by have := hF3' b hb; omega)
  have hM4 := (NS.keeps hN4 t2 (fun b hb e => by have := hF4 b hb; omega)).keeps t5 (fun b hb e => by have := hF4 b hb; omega)
  have g3 : FreshL w.heap.size (fpA A3) := fun b hb => by have := hF3' b hb; omega
  have g4 : FreshL w.heap.size (fpA A4) := fun b hb => by have := hF4 b hb; omega
  have g5 : ∀ b, b ∈ fpA A3 → ¬ b ∈ fpA A4 := fun b hb hb' => by have := hF4 b hb'; have := hlt3 b hb; omega
  obtain ⟨y2, y3⟩ := bx1 s1_h.out
  obtain ⟨y4, y5⟩ := bx1 t3
  refine ⟨_, rfl, s0_h.out, ?_⟩
  have t1_h := Lib.hid t1
  have t2_h := Lib.hid t2
  have t3_h := Lib.hid t3
  have t4_h := Lib.hid t4
  have t5_h := Lib.hid t5
  have t6_h := Lib.hid t6
  have t7_h := Lib.hid t7
  have t8_h := Lib.hid t8
  have hB4_h := Lib.hid hB4
  have hB5_h := Lib.hid hB5
  have hB6_h := Lib.hid hB6
  have hN3'_h := Lib.hid hN3'
  have hlt3_h := Lib.hid hlt3
  have hM3_h := Lib.hid hM3
  have hM4_h := Lib.hid hM4
  have g3_h := Lib.hid g3
  have g4_h := Lib.hid g4
  have g5_h := Lib.hid g5
  have hN4_h := Lib.hid hN4
  have hF4_h := Lib.hid hF4
  have hb4_h := Lib.hid hb4
  have hz0_h := Lib.hid hz0
  have hzd_h := Lib.hid hzd
  have hwd_h := Lib.hid hwd
  clear t1 t2 t3 t4 t5 t6 t7 t8 hB4 hB5 hB6 hN3' hlt3 hM3 hM4 g3 g4 g5 hN4 hF4 hb4 hz0 hzd hwd
  clear hF3'
  simp only [Act.put, List.setIfInBounds_toArray, List.set_cons_zero, List.set_cons_succ]
  refine oneH 11 rfl (by kernel_rfl) (by rfl) (fun K hK => ?_)
  go_simp
  refine hK _ _ t7_h.out ?_
  clear hK K
  refine oneH 12 rfl (by kernel_rfl) (by rfl) (fun K hK => ?_)
  go_simp
  refine hK _ _ t8_h.out ?_
  clear hK K
  refine doneH (by kernel_rfl) ?_
  go_wp2_with (fail)
  refine bodyPost_ret (results_cell_cell rfl _ _ (w.heap.size + 1) (w.heap.size + 2) _ _ _ _ (0, 0) (0, 0) _ rfl rfl t6_h.out t4_h.out Try.underlying30 rfl (by kernel_rfl) rfl) rfl ?_
  exact ⟨_, _, fpA A3, fpA A4, rfl, ⟨A3, c3, rfl, hM3_h.out, rfl⟩, ⟨A4, c4, rfl, hM4_h.out, rfl⟩, g3_h.out, g4_h.out, g5_h.out, hB6_h.out⟩
end Go.Proofs.Ytlmnmdahphahfaa
