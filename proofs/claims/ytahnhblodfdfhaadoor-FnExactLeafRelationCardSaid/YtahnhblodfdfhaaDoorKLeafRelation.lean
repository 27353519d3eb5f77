/-
  The program's LeafRelation returns what the reference's returns, for all arguments (laws.FnExactLeafRelation answers true): the tied card.
-/
import Derived.Test.YtahnhblodfdfhaaDoorKLeafRelation4
import Derived.LoopN
import Derived.Deep.QuietTactic
import Derived.BigQuiet
import Derived.Laws.IdiomStrings
import Derived.Test.YtahnhblodfdfhaaDoorCards
import Derived.Test.YtahnhblodfdfhaaDoorTie
import Derived.ProofKit
import Derived.OpenShut
import Derived.Deep.DeepHandedRow
import Derived.Lib.LaidTab
namespace Go.Proofs.YtahnhblodfdfhaaDoor
open Go.RowKit
theorem OwLs.app1 {w w1 w2 : World} {ls : List Hd} (h : OwLs w [] ls) {i : Nat} {A : Option Addr} {c : Nat} {l : List Int} (hi : ls[i]? = some (A, c, l)) (hb : Below w.heap.size w w1) {A' : Option Addr} {c' : Nat} {l' : List Int} (hx : IS w2 A' c' l') (hA' : ∀ b, b ∈ fpA A' → b ∈ fpA A ∨ w1.heap.size ≤ b) (hk : Keeps (· ∈ fpA A) w1 w2) : OwLs w2 [] (ls.set i (A', c', l')) := by
  have hil := (List.getElem?_eq_some_iff.1 hi).1
  have hap : ∀ (k : Nat) (x : Hd), ls[k]? = some x → k ≠ i → ∀ b, b ∈ fpA x.1 → ¬ b ∈ fpA A := by
    intro k x hk hne b hb1 hb2
    have hp := List.pairwise_iff_getElem.1 h.apart
    have hkl := (List.getElem?_eq_some_iff.1 hk).1
    have ek : ls[k] = x := (List.getElem?_eq_some_iff.1 hk).2
    have ei : ls[i] = (A, c, l) := (List.getElem?_eq_some_iff.1 hi).2
    rcases Nat.lt_or_gt_of_ne hne with h1 | h1
    · exact hp k i hkl hil h1 b (by rw [ek]; exact hb1) (by rw [ei]; exact hb2)
    · exact hp i k hil hkl h1 b (by rw [ei]; exact hb2) (by rw [ek]; exact hb1)
  have hget : ∀ (k : Nat) (x : Hd), (ls.set i (A', c', l'))[k]? = some x → (k = i ∧ x = (A', c', l')) ∨ (k ≠ i ∧ ls[k]? = some x) := by
    intro k x hx
    rw [List.getElem?_set] at hx
    split at hx
    · rename_i hk; subst hk
      simp at hx
      exact .inl ⟨rfl, hx.symm⟩
    · rename_i hk; exact .inr ⟨fun e => hk e.symm, hx⟩
  have hbs := hb.size
  refine ⟨fun x hx' => ?_, ?_, fun x _ b _ hb' => by cases hb'⟩
  · obtain ⟨k, hk', rfl⟩ := List.getElem_of_mem hx'
    rcases hget k _ (List.getElem?_eq_getElem hk') with ⟨_, e⟩ | ⟨hne, e⟩
    · rw [e]; exact hx
    · exact ((h.rows _ (List.mem_of_getElem? e)).below hb).keeps hk (hap k _ e hne)
  · refine List.pairwise_iff_getElem.2 fun a b ha hb' hab q h1 h2 => ?_
    rcases hget a _ (List.getElem?_eq_getElem ha) with ⟨ea, e1⟩ | ⟨ea, e1⟩ <;> rcases hget b _ (List.getElem?_eq_getElem hb') with ⟨eb, e2⟩ | ⟨eb, e2⟩
    · omega
    · rw [e1] at h1
      have h3 := (h.rows _ (List.mem_of_getElem? e2)).lt q h2
      rcases hA' q h1 with h4 | h4
      · exact hap b _ e2 eb q h2 h4
      · omega
    · rw [e2] at h2
      have h3 := (h.rows _ (List.mem_of_getElem? e1)).lt q h1
      rcases hA' q h2 with h4 | h4
      · exact hap a _ e1 ea q h1 h4
      · omega
    · have hp := List.pairwise_iff_getElem.1 h.apart
      obtain ⟨hal, ea'⟩ := List.getElem?_eq_some_iff.1 e1
      obtain ⟨hbl, eb'⟩ := List.getElem?_eq_some_iff.1 e2
      exact hp a b hal hbl hab q (by rw [ea']; exact h1) (by rw [eb']; exact h2)
theorem is_laidH (w : World) (l : List Int) (hl : l.length ≤ maxLen) : IS (w.alloc (.cells (ints l).toArray 3)) (some ⟨w.heap.size, 0, none⟩) l.length l := by
  have h := Sl.laid w 3 1 l.length (ints l).toArray hl (by simp)
  unfold IS
  simpa using h
def lfI (n k : Nat) : List Int := (rangeI k).take n
def lfO (n k : Nat) : List Int := (rangeI k).drop n
@[simp] theorem lfI_length (n k : Nat) : (lfI n k).length = min n k := by simp [lfI]
@[simp] theorem lfO_length (n k : Nat) : (lfO n k).length = k - n := by simp [lfO]
theorem lf_lt {n k : Nat} (h : k < n) : lfI n (k + 1) = lfI n k ++ [(k : Int)] ∧ lfO n (k + 1) = lfO n k := by
  unfold lfI lfO
  rw [rangeI_succ]
  refine ⟨?_, ?_⟩
  · rw [List.take_of_length_le (by simp; omega), List.take_of_length_le (by simp; omega)]
  · rw [List.drop_of_length_le (by simp; omega), List.drop_of_length_le (by simp; omega)]
theorem lf_ge {n k : Nat} (h : n ≤ k) : lfI n (k + 1) = lfI n k ∧ lfO n (k + 1) = lfO n k ++ [(k : Int)] := by
  unfold lfI lfO
  rw [rangeI_succ]
  exact ⟨by rw [List.take_append_of_le_length (by simp; omega)], by rw [List.drop_append_of_le_length (by simp; omega)]⟩
theorem is_nilI (n : Nat) (w : World) : IS w none 0 (lfI n 0) := by
  have e : lfI n 0 = [] := by simp [lfI, rangeI]
  rw [e]; exact Sl.nil _ _ _
theorem is_nilO (n : Nat) (w : World) : IS w none 0 (lfO n 0) := by
  have e : lfO n 0 = [] := by simp [lfO, rangeI]
  rw [e]; exact Sl.nil _ _ _
def leafG (k v : Int) : Gr :=
  if k = 1 then (v, [], rangeI v.toNat, rangeI v.toNat) else if k = 2 then (2, [], [0, 1], [1, 0])
  else ((kdN k : Int), [(k, v, lfI (kindTy k).1.toNat (kdN k), lfO (kindTy k).1.toNat (kdN k))], lfI (kindTy k).1.toNat (kdN k), lfO (kindTy k).1.toNat (kdN k))
set_option maxRecDepth 100000 in
set_option maxHeartbeats 4000000 in
theorem hgLeaf_any (k v : Int) (s : ByteArray) (w : World) (hl : leafB (k, v, s) = true) :
    Calls Tryd.prog 148 #[.agg #[.int .i64 k, .int .i64 v, .string s]] w fun e w' => ∃ v', e = .returned v' ∧ RdGr w' v' (leafG k v) ∧ Below w.heap.size w w' := by
  obtain ⟨W, hW, bW, k0, k1⟩ := alloc2 w (.cells #[.int .i64 k, .int .i64 v, .string s] 69) (.cells #[.int .i64 0, .slice none 0 0, .slice none 0 0, .slice none 0 0] tGr)
  have hWs : W.heap.size = w.heap.size + 1 + 1 := by rw [hW]; simp
  obtain ⟨G, hG⟩ : ∃ G, G = leafG k v := ⟨_, rfl⟩
  rw [← hG]
  unfold leafG at hG
  have hl1 := hl
  unfold leafB at hl1
  simp only [decide_eq_true_eq] at hl1
  obtain ⟨⟨c0, c1, c2⟩, f0, f1, f2⟩ := box3 k0
  by_cases h1 : k = 1
  · rw [if_pos h1] at hG
    obtain ⟨n, rfl⟩ : ∃ n : Nat, v = (n : Int) := ⟨v.toNat, by omega⟩
    have hC := hgId_any n W (by omega)
    have hb1 : (k == 1) = true := by rw [h1]; rfl
    rw [Int.toNat_natCast] at hG
    subst hG
    clear hl hl1 h1; have k0_h := Lib.hid k0; have k1_h := Lib.hid k1; have bW_h := Lib.hid bW; have hC_h := Lib.hid hC; clear k0 k1 bW hC
    go_enter Tryd.func148, Tryd.ntmps148
    go_upto_region 1 with (fail)
    rw [← hW]
    clear hW
    go_wp2_with (fail)
    refine (hC_h.out).mono ?_
    rintro e w2 ⟨Ai, Ao, ci, co, rfl, hI2, hO2, hb2⟩
    have k1r := box_below k1_h.out hb2
    have hz2 := hb2.size
    obtain ⟨⟨y0, y1, y2, y3⟩, y4, y5, y6, y7⟩ := box4 k1r
    obtain ⟨s1, s2⟩ := set4 (a := .int .i64 (n : Int)) (b := .slice none 0 0) (c := .slice Ai n ci) (d := .slice Ao n co) k1r
    have hB2 := below_trans bW_h.out hb2 bW_h.out.size
    have hB3 := below_keeps hB2 s2 hB2.size (fun q e => by omega)
    have hI3 := hI2.keeps s2 (fun b hb e => IS.ne_gr hI2 k1r b hb e)
    have hO3 := hO2.keeps s2 (fun b hb e => IS.ne_gr hO2 k1r b hb e)
    clear k1r s2 hI2 hO2 hb2 hB2; have s1_h := Lib.hid s1; have hB3_h := Lib.hid hB3; have hI3_h := Lib.hid hI3; have hO3_h := Lib.hid hO3; clear s1 hB3 hI3 hO3
    go_wp2_with (fail)
    refine bodyPost_ret (results_cell_row rfl _ _ (w.heap.size + 1) _ _ (0, 0) _ rfl s1_h.out Tryd.underlying57 rfl (by kernel_rfl)) rfl ?_
    exact ⟨_, rfl, ⟨none, 0, [], (Ai, ci, rangeI n), (Ao, co, rangeI n), by simp, rfl, rfl, rfl, RdE.nil _ _, hI3_h.out.rd, hO3_h.out.rd⟩, hB3_h.out⟩
  · rw [if_neg h1] at hG
    have hb1 : (k == 1) = false := by rw [beq_eq_false_iff_ne]; exact h1
    by_cases h2 : k = 2
    · rw [if_pos h2] at hG
      have hb2 : (k == 2) = true := by rw [h2]; rfl
      have r0 := is_laidH W [0, 1] (by unfold maxLen; simp)
      have b0 := below_alloc W (.cells (ints [0, 1]).toArray 3)
      have r1 := is_laidH (W.alloc (.cells (ints [0, 1]).toArray 3)) [1, 0] (by unfold maxLen; simp)
      have b1 := below_alloc (W.alloc (.cells (ints [0, 1]).toArray 3)) (.cells (ints [1, 0]).toArray 3)
      simp only [World.size_alloc] at r1
      have r0' := r0.below b1
      have b2 := below_trans b0 b1 b0.size
      have k1r := box_below k1 b2
      obtain ⟨W3, hW3⟩ : ∃ W3, W3 = (W.alloc (.cells (ints [0, 1]).toArray 3)).alloc (.cells (ints [1, 0]).toArray 3) := ⟨_, rfl⟩
      rw [← hW3] at r1 r0' b2 k1r
      have hz3 := b2.size
      obtain ⟨⟨y0, y1, y2, y3⟩, y4, y5, y6, y7⟩ := box4 k1r
      obtain ⟨s1, s2⟩ := set4 (a := .int .i64 2) (b := .slice none 0 0) (c := .slice (some ⟨W.heap.size, 0, none⟩) 2 2) (d := .slice (some ⟨W.heap.size + 1, 0, none⟩) 2 2) k1r
      have hB2 := below_trans bW b2 bW.size
      have hB3 := below_keeps hB2 s2 hB2.size (fun q e => by omega)
      have r0s := r0'.keeps s2 (fun b hb e => IS.ne_gr r0' k1r b hb e)
      have r1s := r1.keeps s2 (fun b hb e => IS.ne_gr r1 k1r b hb e)
      clear hl hl1 h1 h2 r0 r1 b0 b1 r0' b2 k1r s2 hB2 c0 c1 c2 f0 f1 f2
      obtain ⟨⟨c0, c1, c2⟩, f0, f1, f2⟩ := box3 k0
      subst hG
      have k0_h := Lib.hid k0; have k1_h := Lib.hid k1; have bW_h := Lib.hid bW; have s1_h := Lib.hid s1; have hB3_h := Lib.hid hB3; have r0s_h := Lib.hid r0s; have r1s_h := Lib.hid r1s; have hWs_h := Lib.hid hWs; clear k0 k1 bW s1 hB3 r0s r1s hWs
      go_enter Tryd.func148, Tryd.ntmps148
      go_upto_region 1 with (fail)
      rw [← hW]
      clear hW
      have hW3' : W3 = (W.alloc (.cells #[.int .i64 0, .int .i64 1] 3)).alloc (.cells #[.int .i64 1, .int .i64 0] 3) := hW3
      rw [hW3'] at y0 y1 y2 y3 y4 y5 y6 y7
      clear hW3
      go_wp2_with (fail)
      rw [← hW3']
      refine bodyPost_ret (results_cell_row rfl _ _ (w.heap.size + 1) _ _ (0, 0) _ rfl s1_h.out Tryd.underlying57 rfl (by kernel_rfl)) rfl ?_
      exact ⟨_, rfl, ⟨none, 0, [], (_, 2, [0, 1]), (_, 2, [1, 0]), by simp, rfl, rfl, rfl, RdE.nil _ _, r0s_h.out.rd, r1s_h.out.rd⟩, hB3_h.out⟩
    · rw [if_neg h2] at hG
      have hb2 : (k == 2) = false := by rw [beq_eq_false_iff_ne]; exact h2
      have hk : 3 ≤ k ∧ k ≤ 14 := by omega
      obtain ⟨n, hn⟩ : ∃ n, n = (kindTy k).1.toNat := ⟨_, rfl⟩
      obtain ⟨m, hm⟩ : ∃ n, n = (kindTy k).2.toNat := ⟨_, rfl⟩
      obtain ⟨N, hN⟩ : ∃ n, n = kdN k := ⟨_, rfl⟩
      obtain ⟨x1, x2, x3, x4⟩ := kindTy_nn k
      have hkt : kindTy k = ((n : Int), (m : Int)) := Prod.ext (by omega) (by omega)
      have hNm : (n : Int) + (m : Int) = (N : Int) := by rw [hN, ← x3]; omega
      have hN4 : N ≤ 4 := by omega
      have hC := fun W' => tmKind_any k W'
      simp only [hkt] at hC
      rw [← hn, ← hN] at hG
      subst hG
      obtain ⟨W2, hW2⟩ : ∃ W2, W2 = (W.alloc (.cells #[.int .i64 (N : Int), .slice none 0 0, .slice none 0 0, .slice none 0 0] tGr)).alloc (.cells #[.int .i64 k, .int .i64 v, .slice none 0 0, .slice none 0 0] tEd) := ⟨_, rfl⟩
      have kx0 : W2.heap[W.heap.size]? = some (.cells #[.int .i64 (N : Int), .slice none 0 0, .slice none 0 0, .slice none 0 0] tGr) := by rw [hW2]; exact box_below (heap_alloc_new W _) (below_alloc _ _)
      have ex0 : W2.heap[W.heap.size + 1]? = some (.cells #[.int .i64 k, .int .i64 v, .slice none 0 0, .slice none 0 0] tEd) := by
        rw [hW2]
        have := heap_alloc_new (W.alloc (.cells #[.int .i64 (N : Int), .slice none 0 0, .slice none 0 0, .slice none 0 0] tGr)) (.cells #[.int .i64 k, .int .i64 v, .slice none 0 0, .slice none 0 0] tEd)
        rwa [World.size_alloc] at this
      have hb2W : Below W.heap.size W W2 := by rw [hW2]; exact below_trans (below_alloc _ _) (below_alloc _ _) (by simp)
      have nx0 := box_below k0 hb2W
      have rx0 := box_below k1 hb2W
      have hL0 : OwLs W2 [] [(none, 0, lfI n 0), (none, 0, lfO n 0), (none, 0, lfI n 0), (none, 0, lfO n 0)] := ⟨fun x hx => by
        simp only [List.mem_cons, List.not_mem_nil, or_false] at hx
        rcases hx with rfl | rfl | rfl | rfl
        · exact is_nilI n W2
        · exact is_nilO n W2
        · exact is_nilI n W2
        · exact is_nilO n W2, by simp, fun x _ b _ hb => by cases hb⟩
      have hn4 : n ≤ 4 := by omega
      have hm4 : m ≤ 4 := by omega
      have hWl : w.heap.size + 1 < W.heap.size := by omega
      obtain ⟨W1, hW1⟩ : ∃ W1, W1 = W.alloc (.cells #[.int .i64 (N : Int), .slice none 0 0, .slice none 0 0, .slice none 0 0] tGr) := ⟨_, rfl⟩
      have nx1 : W1.heap[w.heap.size]? = some (.cells #[.int .i64 k, .int .i64 v, .string s] 69) := by rw [hW1]; exact box_below k0 (below_alloc _ _)
      have hW1s : W1.heap.size = W.heap.size + 1 := by rw [hW1]; simp
      have hW2' : W2 = W1.alloc (.cells #[.int .i64 k, .int .i64 v, .slice none 0 0, .slice none 0 0] tEd) := by rw [hW2, hW1]
      obtain ⟨⟨d0, d1, d2⟩, d3, d4, d5⟩ := box3 nx1
      have hNw : IntKind.i64.wrap ((n : Int) + (m : Int)) = (N : Int) := by rw [hNm]; exact IntWalk.i64_in _ (by omega)
      clear hl hl1 h1 h2 hn hm hN x1 x2 x3 x4 hkt nx1 hW2 hNm; have k0_h := Lib.hid k0; have k1_h := Lib.hid k1; have bW_h := Lib.hid bW; have hC_h := Lib.hid hC; have kx0_h := Lib.hid kx0; have ex0_h := Lib.hid ex0; have hb2W_h := Lib.hid hb2W; have nx0_h := Lib.hid nx0; have rx0_h := Lib.hid rx0; have hL0_h := Lib.hid hL0; have hWs_h := Lib.hid hWs; have hW1s_h := Lib.hid hW1s; have hNw_h := Lib.hid hNw; have hW2'_h := Lib.hid hW2'; clear k0 k1 bW hC kx0 ex0 hb2W nx0 rx0 hL0 hWs hW1s hNw hW2'
      go_enter Tryd.func148, Tryd.ntmps148
      go_upto_region 1 with (fail)
      rw [← hW]
      clear hW
      go_wp2_with (fail)
      refine (hC_h.out _).mono ?_
      rintro e w' ⟨rfl, hw'⟩
      subst hw'
      obtain ⟨W, rfl⟩ : ∃ x, x = w' := ⟨_, rfl⟩
      have hNw := hNw_h.out
      go_upto_region 8 with (fail)
      rw [← hW1]
      clear hW1
      go_upto_region 9 with (fail)
      rw [hW1s_h.out, ← hW2'_h.out]
      clear d0 d1 d2 d3 d4 d5 c0 c1 c2 f0 f1 f2 hW2'_h
      go_wp2_with (fail)
      go_loopw [7] (fun i wr => ∃ (j q1 q2 : Nat) (A1 A2 A3 A4 : Option Addr) (c1 c2 c3 c4 : Nat), j ≤ N ∧ i = .int .i64 (j : Int) ∧ q1 = min n j ∧ q2 = j - n ∧ wr.heap[W.heap.size]? = some (.cells #[.int .i64 (N : Int), .slice none 0 0, .slice A1 q1 c1, .slice A2 q2 c2] tGr) ∧ wr.heap[W.heap.size + 1]? = some (.cells #[.int .i64 k, .int .i64 v, .slice A3 q1 c3, .slice A4 q2 c4] tEd) ∧ wr.heap[w.heap.size]? = some (.cells #[.int .i64 k, .int .i64 v, .string s] 69) ∧ wr.heap[w.heap.size + 1]? = some (.cells #[.int .i64 0, .slice none 0 0, .slice none 0 0, .slice none 0 0] tGr) ∧ OwLs wr [] [(A1, c1, lfI n j), (A2, c2, lfO n j), (A3, c3, lfI n j), (A4, c4, lfO n j)] ∧ (∀ x, x ∈ ([(A1, c1, lfI n j), (A2, c2, lfO n j), (A3, c3, lfI n j), (A4, c4, lfO n j)] : List Hd) → ∀ b, b ∈ fpA x.1 → W.heap.size ≤ b) ∧ Below W.heap.size W wr) (fun i _ => N - (intOf i).toNat)
      case atStart => exact ⟨0, 0, 0, none, none, none, none, 0, 0, 0, 0, Nat.zero_le _, rfl, by omega, by omega, kx0_h.out, ex0_h.out, nx0_h.out, rx0_h.out, hL0_h.out, fun x hx b hb => by
        simp only [List.mem_cons, List.not_mem_nil, or_false] at hx
        rcases hx with rfl | rfl | rfl | rfl <;> simp at hb, hb2W_h.out⟩
      case round =>
        clear kx0_h ex0_h hb2W_h nx0_h rx0_h hL0_h
        obtain ⟨j, q1, q2, A1, A2, A3, A4, c1, c2, c3, c4, hj, rfl, hq1, hq2, kx, ex, nx, rx, hL, hfr, hbr⟩ := hrel
        obtain ⟨wo, rfl⟩ : ∃ x, x = wr := ⟨_, rfl⟩
        have hq1l : q1 ≤ 4 := by omega
        have hq2l : q2 ≤ 4 := by omega
        by_cases hlt : j < N
        · have hjN : (j : Int) < (N : Int) := by omega
          by_cases hjn : j < n
          · have hjI : (j : Int) < (n : Int) := by omega
            have hgr := (lf_lt hjn).1
            have hsame := (lf_lt hjn).2
            have hal := below_alloc wo (.cells #[.int .i64 (j : Int)] 3)
            have hrow := hL.rows (A1, c1, lfI n j) (by simp)
            have hsl : Sl (wo.alloc (.cells #[.int .i64 (j : Int)] 3)) 3 1 A1 q1 c1 (ints (lfI n j)) := by
              have := hrow.below hal
              unfold IS at this
              rw [lfI_length, ← hq1] at this
              exact this
            have kx1 := box_below kx hal
            have ex1 := box_below ex hal
            have nx1 := box_below nx hal
            have rx1 := box_below rx hal
            have hb1 := below_trans hbr hal hbr.size
            have hr1 := hrow.below hal
            obtain ⟨⟨x0, x1, x2, x3⟩, x4, x5, x6, x7⟩ := box4 kx
            have hsl_h := Lib.hid hsl; have hal_h := Lib.hid hal; have kx1_h := Lib.hid kx1; have ex1_h := Lib.hid ex1; have nx1_h := Lib.hid nx1; have rx1_h := Lib.hid rx1; have hb1_h := Lib.hid hb1; have hr1_h := Lib.hid hr1; have hL_h := Lib.hid hL; have kx_h := Lib.hid kx; have ex_h := Lib.hid ex; have nx_h := Lib.hid nx; have rx_h := Lib.hid rx; have hfr_h := Lib.hid hfr; have hq1_h := Lib.hid hq1; clear hsl hal kx1 ex1 nx1 rx1 hb1 hr1 hL kx ex nx rx hfr hq1; clear hrow
            go_upto_region 14 with (at_builtin; refine wpList_append_Sl _ rfl _ _ _ rfl 3 Tryd.underlying33 info_int rfl (by omega) rfl hsl_h.out rfl (news := [.int .i64 (j : Int)]) rfl (Sl.rdc (Sl.laid wo 3 1 1 #[.int .i64 (j : Int)] (by unfold maxLen; omega) rfl)) (by intro u hu; simp at hu; subst hu; rfl) (by unfold maxLen; omega) (by omega) ?_; intro A5 c5 w3 hs3 hA3 hk3; have kx3 := box_keeps kx1_h.out hk3 (fun hb => IS.ne_gr hr1_h.out kx1_h.out _ hb rfl); obtain ⟨⟨y0, y1, y2, y3⟩, y4, y5, y6, y7⟩ := box4 kx3)
            have hi3 : IS w3 A5 c5 (lfI n (j + 1)) := by rw [hgr]; exact IS.app1 (by rw [lfI_length, ← hq1_h.out]) hs3
            have hL3 := hL_h.out.app1 (i := 0) rfl hal_h.out hi3 hA3 hk3
            have ex3 := box_keeps ex1_h.out hk3 (fun hb => IS.ne_ed hr1_h.out ex1_h.out _ hb rfl)
            have hfA : ∀ b, b ∈ fpA A1 → W.heap.size ≤ b := fun b hb => hfr_h.out (A1, c1, lfI n j) (by simp) b hb
            have nx3 := box_keeps nx1_h.out hk3 (fun hb => by have := hfA _ hb; omega)
            have rx3 := box_keeps rx1_h.out hk3 (fun hb => by have := hfA _ hb; omega)
            have hb3 := below_keeps hb1_h.out hk3 hb1_h.out.size hfA
            have hf5 : ∀ b, b ∈ fpA A5 → W.heap.size ≤ b := fun b hb => by
              rcases hA3 b hb with h | h
              · exact hfA b h
              · have := hb1_h.out.size; omega
            obtain ⟨s1, s2⟩ := set4_2 (b := .slice A5 (q1 + 1) c5) kx3
            have hL5 := hL3.keeps s2 (fun b hb e => by
              obtain ⟨y, hy, hb⟩ := mem_fpR.1 hb
              exact IS.ne_gr (hL3.rows y hy) kx3 b hb e)
            have hr5 := hL5.rows
            have ex5 := box_keeps ex3 s2 (by omega)
            have nx5 := box_keeps nx3 s2 (by omega)
            have rx5 := box_keeps rx3 s2 (by omega)
            have hb5 := below_keeps hb3 s2 hb3.size (fun q e => by omega)
            obtain ⟨W5, hW5⟩ : ∃ W5, W5 = w3.setCell ⟨W.heap.size, 2, none⟩ (.slice A5 (q1 + 1) c5) := ⟨_, rfl⟩
            rw [← hW5] at s1 hL5 ex5 nx5 rx5 hb5 ⊢
            clear hW5 s2 hi3 hL3 ex3 nx3 rx3 hb3 kx3 hs3 hA3 hk3 x0 x1 x2 x3 x4 x5 x6 x7 hsl_h hal_h kx1_h ex1_h nx1_h rx1_h hb1_h hr1_h hL_h kx_h ex_h nx_h rx_h y0 y1 y2 y3 y4 y5 y6 y7 hfA hr5
            have hL5 : OwLs W5 [] [(A5, c5, lfI n (j + 1)), (A2, c2, lfO n j), (A3, c3, lfI n j), (A4, c4, lfO n j)] := hL5
            have hal := below_alloc W5 (.cells #[.int .i64 (j : Int)] 3)
            have hrow := hL5.rows (A3, c3, lfI n j) (by simp)
            have hsl : Sl (W5.alloc (.cells #[.int .i64 (j : Int)] 3)) 3 1 A3 q1 c3 (ints (lfI n j)) := by
              have := hrow.below hal
              unfold IS at this
              rw [lfI_length, ← hq1_h.out] at this
              exact this
            have kx1 := box_below s1 hal
            have ex1 := box_below ex5 hal
            have nx1 := box_below nx5 hal
            have rx1 := box_below rx5 hal
            have hb1 := below_trans hb5 hal hb5.size
            have hr1 := hrow.below hal
            obtain ⟨⟨x0, x1, x2, x3⟩, x4, x5, x6, x7⟩ := box4 ex5
            have kx := s1
            have ex := ex5
            have hsl_h := Lib.hid hsl; have hal_h := Lib.hid hal; have kx1_h := Lib.hid kx1; have ex1_h := Lib.hid ex1; have nx1_h := Lib.hid nx1; have rx1_h := Lib.hid rx1; have hb1_h := Lib.hid hb1; have hr1_h := Lib.hid hr1; have hL5_h := Lib.hid hL5; have kx_h := Lib.hid kx; have ex_h := Lib.hid ex; have s1_h := Lib.hid s1; have ex5_h := Lib.hid ex5; have nx5_h := Lib.hid nx5; have rx5_h := Lib.hid rx5; have hb5_h := Lib.hid hb5; have hf5_h := Lib.hid hf5; clear hsl hal kx1 ex1 nx1 rx1 hb1 hr1 hL5 kx ex s1 ex5 nx5 rx5 hb5 hf5; clear hrow
            go_upto_region 11 with (at_builtin; refine wpList_append_Sl _ rfl _ _ _ rfl 3 Tryd.underlying33 info_int rfl (by omega) rfl hsl_h.out rfl (news := [.int .i64 (j : Int)]) rfl (Sl.rdc (Sl.laid W5 3 1 1 #[.int .i64 (j : Int)] (by unfold maxLen; omega) rfl)) (by intro u hu; simp at hu; subst hu; rfl) (by unfold maxLen; omega) (by omega) ?_; intro A6 c6 w6 hs6 hA6 hk6; have ex6 := box_keeps ex1_h.out hk6 (fun hb => IS.ne_ed hr1_h.out ex1_h.out _ hb rfl); obtain ⟨⟨y0, y1, y2, y3⟩, y4, y5, y6, y7⟩ := box4 ex6)
            have hi6 : IS w6 A6 c6 (lfI n (j + 1)) := by rw [hgr]; exact IS.app1 (by rw [lfI_length, ← hq1_h.out]) hs6
            have hL6 := hL5_h.out.app1 (i := 2) rfl hal_h.out hi6 hA6 hk6
            have kx6 := box_keeps kx1_h.out hk6 (fun hb => IS.ne_gr hr1_h.out kx1_h.out _ hb rfl)
            have hfA : ∀ b, b ∈ fpA A3 → W.heap.size ≤ b := fun b hb => hfr_h.out (A3, c3, lfI n j) (by simp) b hb
            have nx6 := box_keeps nx1_h.out hk6 (fun hb => by have := hfA _ hb; omega)
            have rx6 := box_keeps rx1_h.out hk6 (fun hb => by have := hfA _ hb; omega)
            have hb6 := below_keeps hb1_h.out hk6 hb1_h.out.size hfA
            have hf6 : ∀ b, b ∈ fpA A6 → W.heap.size ≤ b := fun b hb => by
              rcases hA6 b hb with h | h
              · exact hfA b h
              · have := hb1_h.out.size; omega
            obtain ⟨s1, s2⟩ := set4_2 (b := .slice A6 (q1 + 1) c6) ex6
            have hL7 := hL6.keeps s2 (fun b hb e => by
              obtain ⟨y, hy, hb⟩ := mem_fpR.1 hb
              exact IS.ne_ed (hL6.rows y hy) ex6 b hb e)
            have kx7 := box_keeps kx6 s2 (by omega)
            have nx7 := box_keeps nx6 s2 (by omega)
            have rx7 := box_keeps rx6 s2 (by omega)
            have hb7 := below_keeps hb6 s2 hb6.size (fun q e => by omega)
            obtain ⟨W7, hW7⟩ : ∃ W7, W7 = w6.setCell ⟨W.heap.size + 1, 2, none⟩ (.slice A6 (q1 + 1) c6) := ⟨_, rfl⟩
            rw [← hW7] at s1 hL7 kx7 nx7 rx7 hb7 ⊢
            have hL7 : OwLs W7 [] [(A5, c5, lfI n (j + 1)), (A2, c2, lfO n j), (A6, c6, lfI n (j + 1)), (A4, c4, lfO n j)] := hL7
            have hL8 : OwLs W7 [] [(A5, c5, lfI n (j + 1)), (A2, c2, lfO n (j + 1)), (A6, c6, lfI n (j + 1)), (A4, c4, lfO n (j + 1))] := by rw [hsame]; exact hL7
            have hfr7 : ∀ x, x ∈ ([(A5, c5, lfI n (j + 1)), (A2, c2, lfO n (j + 1)), (A6, c6, lfI n (j + 1)), (A4, c4, lfO n (j + 1))] : List Hd) → ∀ b, b ∈ fpA x.1 → W.heap.size ≤ b := fun x hx => by
              simp only [List.mem_cons, List.not_mem_nil, or_false] at hx
              have h1 := hfr_h.out (A1, c1, lfI n j) (by simp)
              have h2 := hfr_h.out (A2, c2, lfO n j) (by simp)
              have h3 := hfr_h.out (A3, c3, lfI n j) (by simp)
              have h4 := hfr_h.out (A4, c4, lfO n j) (by simp)
              rcases hx with rfl | rfl | rfl | rfl
              · exact hf5_h.out
              · exact h2
              · exact hf6
              · exact h4
            clear hW7 s2 hi6 hL6 kx6 nx6 rx6 hb6 ex6 hs6 hA6 hk6 x0 x1 x2 x3 x4 x5 x6 x7 hL7 hfA; have s1_h := Lib.hid s1; have kx7_h := Lib.hid kx7; have nx7_h := Lib.hid nx7; have rx7_h := Lib.hid rx7; have hb7_h := Lib.hid hb7; have hL8_h := Lib.hid hL8; have hfr7_h := Lib.hid hfr7; clear s1 kx7 nx7 rx7 hb7 hL8 hfr7
            go_wp2_with (fail)
            go_roundw
            case rel => exact ⟨j + 1, q1 + 1, q2, A5, A2, A6, A4, c5, c2, c6, c4, by omega, by go_num, by have := hq1_h.out; omega, by omega, kx7_h.out, s1_h.out, nx7_h.out, rx7_h.out, hL8_h.out, hfr7_h.out, hb7_h.out⟩
            case measure => simp [intOf]; omega
          · have hjI : ¬ (j : Int) < (n : Int) := by omega
            have hgr := (lf_ge (Nat.le_of_not_lt hjn)).2
            have hsame := (lf_ge (Nat.le_of_not_lt hjn)).1
            have hal := below_alloc wo (.cells #[.int .i64 (j : Int)] 3)
            have hrow := hL.rows (A2, c2, lfO n j) (by simp)
            have hsl : Sl (wo.alloc (.cells #[.int .i64 (j : Int)] 3)) 3 1 A2 q2 c2 (ints (lfO n j)) := by
              have := hrow.below hal
              unfold IS at this
              rw [lfO_length, ← hq2] at this
              exact this
            have kx1 := box_below kx hal
            have ex1 := box_below ex hal
            have nx1 := box_below nx hal
            have rx1 := box_below rx hal
            have hb1 := below_trans hbr hal hbr.size
            have hr1 := hrow.below hal
            obtain ⟨⟨x0, x1, x2, x3⟩, x4, x5, x6, x7⟩ := box4 kx
            have hsl_h := Lib.hid hsl; have hal_h := Lib.hid hal; have kx1_h := Lib.hid kx1; have ex1_h := Lib.hid ex1; have nx1_h := Lib.hid nx1; have rx1_h := Lib.hid rx1; have hb1_h := Lib.hid hb1; have hr1_h := Lib.hid hr1; have hL_h := Lib.hid hL; have kx_h := Lib.hid kx; have ex_h := Lib.hid ex; have nx_h := Lib.hid nx; have rx_h := Lib.hid rx; have hfr_h := Lib.hid hfr; have hq2_h := Lib.hid hq2; clear hsl hal kx1 ex1 nx1 rx1 hb1 hr1 hL kx ex nx rx hfr hq2; clear hrow
            go_upto_region 16 with (at_builtin; refine wpList_append_Sl _ rfl _ _ _ rfl 3 Tryd.underlying33 info_int rfl (by omega) rfl hsl_h.out rfl (news := [.int .i64 (j : Int)]) rfl (Sl.rdc (Sl.laid wo 3 1 1 #[.int .i64 (j : Int)] (by unfold maxLen; omega) rfl)) (by intro u hu; simp at hu; subst hu; rfl) (by unfold maxLen; omega) (by omega) ?_; intro A5 c5 w3 hs3 hA3 hk3; have kx3 := box_keeps kx1_h.out hk3 (fun hb => IS.ne_gr hr1_h.out kx1_h.out _ hb rfl); obtain ⟨⟨y0, y1, y2, y3⟩, y4, y5, y6, y7⟩ := box4 kx3)
            have hi3 : IS w3 A5 c5 (lfO n (j + 1)) := by rw [hgr]; exact IS.app1 (by rw [lfO_length, ← hq2_h.out]) hs3
            have hL3 := hL_h.out.app1 (i := 1) rfl hal_h.out hi3 hA3 hk3
            have ex3 := box_keeps ex1_h.out hk3 (fun hb => IS.ne_ed hr1_h.out ex1_h.out _ hb rfl)
            have hfA : ∀ b, b ∈ fpA A2 → W.heap.size ≤ b := fun b hb => hfr_h.out (A2, c2, lfO n j) (by simp) b hb
            have nx3 := box_keeps nx1_h.out hk3 (fun hb => by have := hfA _ hb; omega)
            have rx3 := box_keeps rx1_h.out hk3 (fun hb => by have := hfA _ hb; omega)
            have hb3 := below_keeps hb1_h.out hk3 hb1_h.out.size hfA
            have hf5 : ∀ b, b ∈ fpA A5 → W.heap.size ≤ b := fun b hb => by
              rcases hA3 b hb with h | h
              · exact hfA b h
              · have := hb1_h.out.size; omega
            obtain ⟨s1, s2⟩ := set4_3 (b := .slice A5 (q2 + 1) c5) kx3
            have hL5 := hL3.keeps s2 (fun b hb e => by
              obtain ⟨y, hy, hb⟩ := mem_fpR.1 hb
              exact IS.ne_gr (hL3.rows y hy) kx3 b hb e)
            have hr5 := hL5.rows
            have ex5 := box_keeps ex3 s2 (by omega)
            have nx5 := box_keeps nx3 s2 (by omega)
            have rx5 := box_keeps rx3 s2 (by omega)
            have hb5 := below_keeps hb3 s2 hb3.size (fun q e => by omega)
            obtain ⟨W5, hW5⟩ : ∃ W5, W5 = w3.setCell ⟨W.heap.size, 3, none⟩ (.slice A5 (q2 + 1) c5) := ⟨_, rfl⟩
            rw [← hW5] at s1 hL5 ex5 nx5 rx5 hb5 ⊢
            clear hW5 s2 hi3 hL3 ex3 nx3 rx3 hb3 kx3 hs3 hA3 hk3 x0 x1 x2 x3 x4 x5 x6 x7 hsl_h hal_h kx1_h ex1_h nx1_h rx1_h hb1_h hr1_h hL_h kx_h ex_h nx_h rx_h y0 y1 y2 y3 y4 y5 y6 y7 hfA hr5
            have hL5 : OwLs W5 [] [(A1, c1, lfI n j), (A5, c5, lfO n (j + 1)), (A3, c3, lfI n j), (A4, c4, lfO n j)] := hL5
            have hal := below_alloc W5 (.cells #[.int .i64 (j : Int)] 3)
            have hrow := hL5.rows (A4, c4, lfO n j) (by simp)
            have hsl : Sl (W5.alloc (.cells #[.int .i64 (j : Int)] 3)) 3 1 A4 q2 c4 (ints (lfO n j)) := by
              have := hrow.below hal
              unfold IS at this
              rw [lfO_length, ← hq2_h.out] at this
              exact this
            have kx1 := box_below s1 hal
            have ex1 := box_below ex5 hal
            have nx1 := box_below nx5 hal
            have rx1 := box_below rx5 hal
            have hb1 := below_trans hb5 hal hb5.size
            have hr1 := hrow.below hal
            obtain ⟨⟨x0, x1, x2, x3⟩, x4, x5, x6, x7⟩ := box4 ex5
            have kx := s1
            have ex := ex5
            have hsl_h := Lib.hid hsl; have hal_h := Lib.hid hal; have kx1_h := Lib.hid kx1; have ex1_h := Lib.hid ex1; have nx1_h := Lib.hid nx1; have rx1_h := Lib.hid rx1; have hb1_h := Lib.hid hb1; have hr1_h := Lib.hid hr1; have hL5_h := Lib.hid hL5; have kx_h := Lib.hid kx; have ex_h := Lib.hid ex; have s1_h := Lib.hid s1; have ex5_h := Lib.hid ex5; have nx5_h := Lib.hid nx5; have rx5_h := Lib.hid rx5; have hb5_h := Lib.hid hb5; have hf5_h := Lib.hid hf5; clear hsl hal kx1 ex1 nx1 rx1 hb1 hr1 hL5 kx ex s1 ex5 nx5 rx5 hb5 hf5; clear hrow
            go_upto_region 11 with (at_builtin; refine wpList_append_Sl _ rfl _ _ _ rfl 3 Tryd.underlying33 info_int rfl (by omega) rfl hsl_h.out rfl (news := [.int .i64 (j : Int)]) rfl (Sl.rdc (Sl.laid W5 3 1 1 #[.int .i64 (j : Int)] (by unfold maxLen; omega) rfl)) (by intro u hu; simp at hu; subst hu; rfl) (by unfold maxLen; omega) (by omega) ?_; intro A6 c6 w6 hs6 hA6 hk6; have ex6 := box_keeps ex1_h.out hk6 (fun hb => IS.ne_ed hr1_h.out ex1_h.out _ hb rfl); obtain ⟨⟨y0, y1, y2, y3⟩, y4, y5, y6, y7⟩ := box4 ex6)
            have hi6 : IS w6 A6 c6 (lfO n (j + 1)) := by rw [hgr]; exact IS.app1 (by rw [lfO_length, ← hq2_h.out]) hs6
            have hL6 := hL5_h.out.app1 (i := 3) rfl hal_h.out hi6 hA6 hk6
            have kx6 := box_keeps kx1_h.out hk6 (fun hb => IS.ne_gr hr1_h.out kx1_h.out _ hb rfl)
            have hfA : ∀ b, b ∈ fpA A4 → W.heap.size ≤ b := fun b hb => hfr_h.out (A4, c4, lfO n j) (by simp) b hb
            have nx6 := box_keeps nx1_h.out hk6 (fun hb => by have := hfA _ hb; omega)
            have rx6 := box_keeps rx1_h.out hk6 (fun hb => by have := hfA _ hb; omega)
            have hb6 := below_keeps hb1_h.out hk6 hb1_h.out.size hfA
            have hf6 : ∀ b, b ∈ fpA A6 → W.heap.size ≤ b := fun b hb => by
              rcases hA6 b hb with h | h
              · exact hfA b h
              · have := hb1_h.out.size; omega
            obtain ⟨s1, s2⟩ := set4_3 (b := .slice A6 (q2 + 1) c6) ex6
            have hL7 := hL6.keeps s2 (fun b hb e => by
              obtain ⟨y, hy, hb⟩ := mem_fpR.1 hb
              exact IS.ne_ed (hL6.rows y hy) ex6 b hb e)
            have kx7 := box_keeps kx6 s2 (by omega)
            have nx7 := box_keeps nx6 s2 (by omega)
            have rx7 := box_keeps rx6 s2 (by omega)
            have hb7 := below_keeps hb6 s2 hb6.size (fun q e => by omega)
            obtain ⟨W7, hW7⟩ : ∃ W7, W7 = w6.setCell ⟨W.heap.size + 1, 3, none⟩ (.slice A6 (q2 + 1) c6) := ⟨_, rfl⟩
            rw [← hW7] at s1 hL7 kx7 nx7 rx7 hb7 ⊢
            have hL7 : OwLs W7 [] [(A1, c1, lfI n j), (A5, c5, lfO n (j + 1)), (A3, c3, lfI n j), (A6, c6, lfO n (j + 1))] := hL7
            have hL8 : OwLs W7 [] [(A1, c1, lfI n (j + 1)), (A5, c5, lfO n (j + 1)), (A3, c3, lfI n (j + 1)), (A6, c6, lfO n (j + 1))] := by rw [hsame]; exact hL7
            have hfr7 : ∀ x, x ∈ ([(A1, c1, lfI n (j + 1)), (A5, c5, lfO n (j + 1)), (A3, c3, lfI n (j + 1)), (A6, c6, lfO n (j + 1))] : List Hd) → ∀ b, b ∈ fpA x.1 → W.heap.size ≤ b := fun x hx => by
              simp only [List.mem_cons, List.not_mem_nil, or_false] at hx
              have h1 := hfr_h.out (A1, c1, lfI n j) (by simp)
              have h2 := hfr_h.out (A2, c2, lfO n j) (by simp)
              have h3 := hfr_h.out (A3, c3, lfI n j) (by simp)
              have h4 := hfr_h.out (A4, c4, lfO n j) (by simp)
              rcases hx with rfl | rfl | rfl | rfl
              · exact h1
              · exact hf5_h.out
              · exact h3
              · exact hf6
            clear hW7 s2 hi6 hL6 kx6 nx6 rx6 hb6 ex6 hs6 hA6 hk6 x0 x1 x2 x3 x4 x5 x6 x7 hL7 hfA; have s1_h := Lib.hid s1; have kx7_h := Lib.hid kx7; have nx7_h := Lib.hid nx7; have rx7_h := Lib.hid rx7; have hb7_h := Lib.hid hb7; have hL8_h := Lib.hid hL8; have hfr7_h := Lib.hid hfr7; clear s1 kx7 nx7 rx7 hb7 hL8 hfr7
            go_wp2_with (fail)
            go_roundw
            case rel => exact ⟨j + 1, q1, q2 + 1, A1, A5, A3, A6, c1, c5, c3, c6, by omega, by go_num, by omega, by have := hq2_h.out; omega, kx7_h.out, s1_h.out, nx7_h.out, rx7_h.out, hL8_h.out, hfr7_h.out, hb7_h.out⟩
            case measure => simp [intOf]; omega
        · obtain rfl : N = j := by omega
          have hjN : ¬ (N : Int) < (N : Int) := by omega
          have hsz := box_lt kx
          obtain ⟨⟨x0, x1, x2, x3⟩, x4, x5, x6, x7⟩ := box4 ex
          have hal := below_alloc wo (.cells #[.int .i64 k, .int .i64 v, .slice A3 q1 c3, .slice A4 q2 c4] tEd)
          have kx1 := box_below kx hal
          have rx1 := box_below rx hal
          have hb1 := below_trans hbr hal hbr.size
          have hL1 := hL.below hal
          have hE := Sl.laid wo tEd 4 1 #[.int .i64 k, .int .i64 v, .slice A3 q1 c3, .slice A4 q2 c4] (by unfold maxLen; omega) rfl
          have hws := World.size_alloc wo (.cells #[.int .i64 k, .int .i64 v, .slice A3 q1 c3, .slice A4 q2 c4] tEd)
          obtain ⟨W5, hW5⟩ : ∃ W5, W5 = wo.alloc (.cells #[.int .i64 k, .int .i64 v, .slice A3 q1 c3, .slice A4 q2 c4] tEd) := ⟨_, rfl⟩
          rw [← hW5] at kx1 rx1 hb1 hL1 hE hws
          obtain ⟨⟨y0, y1, y2, y3⟩, y4, y5, y6, y7⟩ := box4 kx1
          obtain ⟨s1, s2⟩ := set4_1 (b := .slice (some ⟨wo.heap.size, 0, none⟩) 1 1) kx1
          have rx2 := box_keeps rx1 s2 (by omega)
          have hb2 := below_keeps hb1 s2 hb1.size (fun q e => by omega)
          have hL2 := hL1.keeps s2 (fun b hb e => by
            obtain ⟨y, hy, hb⟩ := mem_fpR.1 hb
            exact IS.ne_gr (hL1.rows y hy) kx1 b hb e)
          have hE2 := hE.keeps s2 (fun b hb e => by simp at hb; omega)
          obtain ⟨W6, hW6⟩ : ∃ W6, W6 = W5.setCell ⟨W.heap.size, 1, none⟩ (.slice (some ⟨wo.heap.size, 0, none⟩) 1 1) := ⟨_, rfl⟩
          rw [← hW6] at s1 rx2 hb2 hL2 hE2
          obtain ⟨⟨z0, z1, z2, z3⟩, z4, z5, z6, z7⟩ := box4 s1
          obtain ⟨⟨u0, u1, u2, u3⟩, u4, u5, u6, u7⟩ := box4 rx2
          obtain ⟨t1, t2⟩ := set4 (a := .int .i64 (N : Int)) (b := .slice (some ⟨wo.heap.size, 0, none⟩) 1 1) (c := .slice A1 q1 c1) (d := .slice A2 q2 c2) rx2
          have hbW := below_trans bW_h.out hb2 (by omega)
          have hb3 := below_keeps hbW t2 hbW.size (fun q e => by omega)
          have hL3 := hL2.keeps t2 (fun b hb e => by
            obtain ⟨y, hy, hb⟩ := mem_fpR.1 hb
            exact IS.ne_gr (hL2.rows y hy) rx2 b hb e)
          have hE3 := hE2.keeps t2 (fun b hb e => by simp at hb; omega)
          have g1 := hL3.rows (A1, c1, lfI n N) (by simp)
          have g2 := hL3.rows (A2, c2, lfO n N) (by simp)
          have g3 := hL3.rows (A3, c3, lfI n N) (by simp)
          have g4 := hL3.rows (A4, c4, lfO n N) (by simp)
          clear kx ex nx rx hL hfr hbr s1 s2 kx1 rx1 hb1 hL1 hE rx2 hb2 hL2 hE2 t2 hbW hL3 hal; have t1_h := Lib.hid t1; have hb3_h := Lib.hid hb3; have hE3_h := Lib.hid hE3; have g1_h := Lib.hid g1; have g2_h := Lib.hid g2; have g3_h := Lib.hid g3; have g4_h := Lib.hid g4; have hq1_h := Lib.hid hq1; have hq2_h := Lib.hid hq2; have hws_h := Lib.hid hws; have hsz_h := Lib.hid hsz; have hWs_h_h := Lib.hid hWs_h; clear t1 hb3 hE3 g1 g2 g3 g4 hq1 hq2 hws hsz hWs_h; clear hWs_h_h
          rw [hW5] at y0 y1 y2 y3 y4 y5 y6 y7
          go_upto_region 18 with (fail)
          rw [← hW5, ← hW6]
          clear hW6 y0 y1 y2 y3 y4 y5 y6 y7 hW5
          go_wp2_with (fail)
          refine bodyPost_ret (results_cell_row rfl _ _ (w.heap.size + 1) _ _ (0, 0) _ rfl t1_h.out Tryd.underlying57 rfl (by kernel_rfl)) rfl ?_
          have hq1 := hq1_h.out
          have hq2 := hq2_h.out
          exact ⟨_, rfl, ⟨some ⟨wo.heap.size, 0, none⟩, 1, [(k, v, (A3, c3, lfI n N), (A4, c4, lfO n N))], (A1, c1, lfI n N), (A2, c2, lfO n N), by simp [hq1, hq2], rfl, rfl, rfl, ⟨by
            have := Sl.rdc hE3_h.out
            simpa [ecs, ec, Hd.val, hq1, hq2] using this, fun x hx => by
            simp only [List.mem_cons, List.not_mem_nil, or_false] at hx
            subst hx
            exact ⟨g3_h.out.rd, g4_h.out.rd⟩⟩, g1_h.out.rd, g2_h.out.rd⟩, hb3_h.out⟩
end Go.Proofs.YtahnhblodfdfhaaDoor
namespace Go.Proofs.YtahnhblodfdfhaaDoor
open Go.RowKit
theorem idM_red {p : Int} (hp : 1 < p) (n : Nat) : RedL p n (idM n) := by
  have hm := idM_mat hp n
  have hl : (idM n).length = n := by simp [idM]
  refine ⟨by rw [hl]; exact hm, id, ?_⟩
  rw [hl]
  refine ⟨fun i hi => hi, fun i hi => ?_, fun i k hi hk hne => ?_, fun i j hi hj => ?_, fun i k h _ => h, fun i j hi hj => ?_⟩
  · show en (idM n) i i = 1
    rw [idM_en hi hi, if_pos rfl]
  · show en (idM n) k i = 0
    rw [idM_en hk hi, if_neg (fun e => hne e.symm)]
  · have hj' : j < i := hj
    rw [idM_en hi (by omega), if_neg (by omega)]
  · rw [idM_en hi hj]; split <;> omega
theorem unitV_eq {n j : Nat} : (List.replicate n (0 : Int)).set j 1 = unitV n j := by
  apply List.ext_getElem (by simp)
  intro i h1 h2
  simp only [List.getElem_set, List.getElem_replicate, unitV, List.getElem_map, List.getElem_range]
  by_cases h : j = i
  · rw [if_pos h, if_pos h.symm]
  · rw [if_neg h, if_neg (fun e => h e.symm)]
theorem nullM_nil {p : Int} (hp : fieldB p = true) (n : Nat) : nullM p n [] = idM n := by
  have hpb := fieldB_bounds hp
  have hr := redM_spec hp (n := n) (L := []) ⟨rfl, fun u hu => by cases hu⟩
  have e : redM p n [] = [] := List.eq_nil_of_length_eq_zero (Nat.le_zero.1 hr.2.2)
  have e2 : nvecs p n [] = idM n := by
    unfold nvecs freeCols idM
    have ef : ((List.range n).filter fun j => ([] : List (List Int)).all fun v => leadV v != j) = List.range n := List.filter_eq_self.2 (fun j _ => rfl)
    rw [ef]
    exact List.map_congr_left fun j _ => unitV_eq
  unfold nullM
  rw [e, e2]
  exact redM_self hp (idM_red (by omega) n)
theorem mapL_all {v : List Int} {n : Nat} (h : v.length = n) : mapL v (rangeI n) = v := by
  subst h
  apply List.ext_getElem (by simp [rangeI])
  intro i h1 h2
  simp [mapL, rangeI, List.getD, h2]
theorem mapL_app (v l m : List Int) : mapL v (l ++ m) = mapL v l ++ mapL v m := by simp [mapL]
theorem lf_all (n k : Nat) : lfI n k ++ lfO n k = rangeI k := List.take_append_drop n (rangeI k)
theorem id_gr : ∀ n : Nat, n < 13 → grB ((n : Int), [], rangeI n, rangeI n) = true := by decide
theorem dnV_id {p : Int} (hf : fieldB p = true) (n : Nat) : dnV p ((n : Int), [], rangeI n, rangeI n) = ((n : Int), (n : Int), idRows n) := by
  have hpb := fieldB_bounds hf
  unfold dnV dnEqs
  simp only [List.flatMap_nil, Int.toNat_natCast, rangeI_length', nullM_nil hf]
  have e : (idM n).map (fun v => mapL v (rangeI n ++ rangeI n)) = idRows n := by
    unfold idM idRows
    rw [List.map_map]
    refine List.map_congr_left fun j _ => ?_
    show mapL (unitV n j) (rangeI n ++ rangeI n) = _
    rw [mapL_app, mapL_all (unitV_length n j)]
  rw [e, redM_self hf (idRows_red (by omega) n)]
theorem dnV_swap {p : Int} (hf : fieldB p = true) : dnV p (2, [], [0, 1], [1, 0]) = (2, 2, redM p 4 swapRows) := by
  unfold dnV dnEqs
  simp only [List.flatMap_nil]
  show ((2 : Int), (2 : Int), redM p 4 ((nullM p 2 []).map fun v => mapL v [0, 1, 1, 0])) = _
  rw [nullM_nil hf]
  rfl
theorem em1 {p : Int} (hp : 2 ≤ p) : (0 + (p - 1)) % p = p - 1 ∧ (0 + 1) % p = 1 ∧ (1 : Int) % p = 1 ∧ (p - 1) % p = p - 1 ∧ (0 : Int) % p = 0 := by
  refine ⟨?_, ?_, ?_, ?_, ?_⟩ <;> (try rw [Int.zero_add]) <;> (try exact Int.emod_eq_of_lt (by omega) (by omega))
theorem leaf_rows {p k v : Int} (hp : 2 ≤ p) (hk : genB k) : dnRowsM p (kdN k) (k, v, lfI (kindTy k).1.toNat (kdN k), lfO (kindTy k).1.toNat (kdN k)) = leafEq p k v := by
  obtain ⟨z1, z2, z3, z4, z5⟩ := em1 hp
  have z6 : (-v % p) % p = -v % p := Int.emod_emod_of_dvd _ (Int.dvd_refl p)
  rcases hk with rfl | rfl | rfl | rfl | rfl | rfl | rfl | rfl | rfl | rfl
  all_goals
    simp (decide := true) [dnRowsM, efK, efI, efO, kdN, kindTy, lfI, lfO, rangeI, List.range, List.range.loop, leafEq, sprV, sprTo, List.replicate, List.getD, z3, z4, z6]
theorem leaf_gr {k v : Int} (hk : genB k) (hv : gvB k v = true) : grB ((kdN k : Int), [(k, v, lfI (kindTy k).1.toNat (kdN k), lfO (kindTy k).1.toNat (kdN k))], lfI (kindTy k).1.toNat (kdN k), lfO (kindTy k).1.toNat (kdN k)) = true := by
  unfold grB
  have he : egB (k, v, lfI (kindTy k).1.toNat (kdN k), lfO (kindTy k).1.toNat (kdN k)) = true := by
    unfold egB
    simp only [hv, Bool.true_and]
    rcases hk with rfl | rfl | rfl | rfl | rfl | rfl | rfl | rfl | rfl | rfl <;> rfl
  simp only [List.all_cons, List.all_nil, he, Bool.true_and, Bool.and_true, t_allW, edW]
  rcases hk with rfl | rfl | rfl | rfl | rfl | rfl | rfl | rfl | rfl | rfl <;> rfl
theorem dnGM_leaf {p : Int} (hf : fieldB p = true) {n : Nd} (ok : okLf p n) : dnGM p (leafG n.1 n.2.1) = (leafV p n, true) := by
  have hpb := fieldB_bounds hf
  have hl := ok.1
  obtain ⟨k, v, s⟩ := n
  have hl' := hl
  unfold leafB at hl'
  simp only [decide_eq_true_eq] at hl'
  unfold dnGM leafG leafV
  show (if dnAskB p _ = true then _ else _) = _
  by_cases h1 : k = 1
  · subst h1
    obtain ⟨n, rfl⟩ : ∃ n : Nat, v = (n : Int) := ⟨v.toNat, by omega⟩
    simp only [if_true, Int.toNat_natCast]
    have e : dnAskB p ((n : Int), [], rangeI n, rangeI n) = true := by
      unfold dnAskB gOverB
      rw [hf, id_gr n (by omega)]
      rfl
    rw [if_pos e, dnV_id hf]
  · simp only [if_neg h1]
    by_cases h2 : k = 2
    · subst h2
      simp only [if_true]
      have e : dnAskB p (2, [], [0, 1], [1, 0]) = true := by
        unfold dnAskB gOverB
        rw [hf]
        rfl
      rw [if_pos e, dnV_swap hf]
    · simp only [if_neg h2]
      have hk : genB k := gen_of_leaf hl h1 h2 ok.2.1 ok.2.2.1
      have hv : 0 ≤ v ∧ v < p := ok.val (by omega) h1
      have hgv : gvB k v = true := by
        unfold gvB hvB t_inB
        by_cases h7 : k = 7 ∨ k = 13
        · simp only [h7, decide_true, if_true]; exact decide_eq_true (by omega)
        · simp only [h7, decide_false]; exact decide_eq_true (by omega)
      have hnd : noDl k = true := by
        unfold noDl
        have a := ok.2.1
        have b := ok.2.2.1
        simp only [decide_eq_true_eq, Bool.and_eq_true]
        exact ⟨a, b⟩
      have e : dnAskB p ((kdN k : Int), [(k, v, lfI (kindTy k).1.toNat (kdN k), lfO (kindTy k).1.toNat (kdN k))], lfI (kindTy k).1.toNat (kdN k), lfO (kindTy k).1.toNat (kdN k)) = true := by
        unfold dnAskB gOverB
        rw [hf, leaf_gr hk hgv]
        simp [hv.2, hnd]
      rw [if_pos e]
      unfold dnV dnEqs
      obtain ⟨x1, x2, x3, x4⟩ := kindTy_nn k
      have hN : kdN k = (kindTy k).1.toNat + (kindTy k).2.toNat := rfl
      have ei : (lfI (kindTy k).1.toNat (kdN k)).length = (kindTy k).1.toNat := by rw [lfI_length]; omega
      have eo : (lfO (kindTy k).1.toNat (kdN k)).length = (kindTy k).2.toNat := by rw [lfO_length]; omega
      simp only [List.flatMap_cons, List.flatMap_nil, List.append_nil, Int.toNat_natCast, ei, eo, lf_all, leaf_rows (by omega : 2 ≤ p) hk, ← hN]
      have em : (nullM p (kdN k) (leafEq p k v)).map (fun u => mapL u (rangeI (kdN k))) = nullM p (kdN k) (leafEq p k v) := by
        have hm := (nullM_red hf (kdN k) (leafEq p k v)).1
        conv => rhs; rw [← List.map_id (nullM p (kdN k) (leafEq p k v))]
        refine List.map_congr_left fun u hu => ?_
        exact mapL_all (hm.2 u hu).1
      rw [em, redM_self hf (nullM_red hf _ _)]
      refine Prod.ext (Prod.ext ?_ (Prod.ext ?_ rfl)) rfl
      · show (((kindTy k).1.toNat : Nat) : Int) = (kindTy k).1; omega
      · show (((kindTy k).2.toNat : Nat) : Int) = (kindTy k).2; omega
end Go.Proofs.YtahnhblodfdfhaaDoor
namespace Go.Proofs.YtahnhblodfdfhaaDoor
open Go.RowKit
theorem okG_leaf {n : Nd} (h : leafB n = true) : OkG (leafG n.1 n.2.1) := by
  obtain ⟨k, v, s⟩ := n
  unfold leafB at h
  simp only [decide_eq_true_eq] at h
  unfold leafG
  show OkG (if k = 1 then _ else _)
  by_cases h1 : k = 1
  · rw [if_pos h1]
    unfold OkG cntG
    simp [rangeI, cntE]
    omega
  · rw [if_neg h1]
    by_cases h2 : k = 2
    · rw [if_pos h2]
      unfold OkG cntG
      simp [cntE]
    · rw [if_neg h2]
      obtain ⟨x1, x2, x3, x4⟩ := kindTy_nn k
      unfold OkG cntG
      simp [cntE]
      omega
set_option maxRecDepth 100000 in
set_option maxHeartbeats 4000000 in
theorem dnLeaf_any {p : Int} {k v : Int} {s : ByteArray} (w : World) (hf : fieldB p = true) (ok : okLf p (k, v, s)) :
    Calls Tryd.prog 87 #[.int .i64 p, .agg #[.int .i64 k, .int .i64 v, .string s]] w fun e w' => ∃ v' fp, e = .returned v' ∧ OwSys w' v' (leafV p (k, v, s)) fp ∧ FreshL w.heap.size fp ∧ Below w.heap.size w w' := by
  obtain ⟨W, hW, bW, k0, k1⟩ := alloc2 w (.cells #[.int .i64 k, .int .i64 v, .string s] 69) (.cells #[.int .i64 0, .int .i64 0, .slice none 0 0] 43)
  have hWs : W.heap.size = w.heap.size + 1 + 1 := by rw [hW]; simp
  have hWl : w.heap.size + 1 < W.heap.size := by omega
  have hG := hgLeaf_any k v s W ok.1
  have oG := okG_leaf ok.1
  have hD := dnGM_leaf hf ok
  simp only at oG hD
  obtain ⟨R, hR⟩ : ∃ R, R = leafV p (k, v, s) := ⟨_, rfl⟩
  rw [← hR] at hD
  rw [← hR]
  obtain ⟨G, hGG⟩ : ∃ G, G = leafG k v := ⟨_, rfl⟩
  rw [← hGG] at oG hD hG
  obtain ⟨⟨c0, c1, c2⟩, f0, f1, f2⟩ := box3 k0
  clear hR hGG ok hWs; have k0_h := Lib.hid k0; have k1_h := Lib.hid k1; have bW_h := Lib.hid bW; have hG_h := Lib.hid hG; have oG_h := Lib.hid oG; have hD_h := Lib.hid hD; clear k0 k1 bW hG oG hD
  go_enter Tryd.func87, Tryd.ntmps87
  go_upto_region 1 with (fail)
  rw [← hW]
  clear hW
  go_wp2_with (fail)
  refine (hG_h.out).mono ?_
  rintro e w2 ⟨v2, rfl, hR2, hb2⟩
  have hC := dnGraph_any p w2 hR2 oG_h.out
  rw [hD_h.out] at hC
  have k1r := box_below k1_h.out hb2
  have hB2 := below_trans bW_h.out hb2 bW_h.out.size
  clear hR2 c0 c1 c2 f0 f1 f2; have hC_h := Lib.hid hC; have k1r_h := Lib.hid k1r; have hB2_h := Lib.hid hB2; have hb2_h := Lib.hid hb2; clear hC k1r hB2 hb2
  go_wp2_with (fail)
  refine (hC_h.out).mono ?_
  rintro e w3 ⟨v3, fp, rfl, hO3, hf3, hb3⟩
  obtain ⟨A, n', c', rfl⟩ := hO3.shape
  have k1r := box_below k1r_h.out hb3
  have hz := hb3.size
  have hz2 := hb2_h.out.size
  have hz3 := hB2_h.out.size
  have hB3 := below_trans hB2_h.out hb3 hz3
  have hal := below_alloc w3 (.cells #[.int .i64 R.1, .int .i64 R.2.1, .slice A n' c'] 43)
  have bx := heap_alloc_new w3 (.cells #[.int .i64 R.1, .int .i64 R.2.1, .slice A n' c'] 43)
  have k1s := box_below k1r hal
  have hO4 := hO3.below hal
  have hB4 := below_trans hB3 hal hB3.size
  have hlt := hO3.lt
  obtain ⟨W4, hW4⟩ : ∃ W4, W4 = w3.alloc (.cells #[.int .i64 R.1, .int .i64 R.2.1, .slice A n' c'] 43) := ⟨_, rfl⟩
  rw [← hW4] at bx k1s hO4 hB4
  obtain ⟨⟨x0, x1, x2⟩, x3, x4, x5⟩ := box3 bx
  obtain ⟨⟨y0, y1, y2⟩, y3, y4, y5⟩ := box3 k1s
  obtain ⟨s1, s2⟩ := set3 (a := .int .i64 R.1) (b := .int .i64 R.2.1) (c := .slice A n' c') k1s
  have hB5 := below_keeps hB4 s2 hB4.size (fun q e => by omega)
  have hO5 := hO4.keeps s2 (fun q hq e => by have := hf3 q hq; omega)
  have hf5 := hf3.mono (by omega : w.heap.size ≤ w2.heap.size)
  clear k1r hb3 hB3 hal bx k1s hO4 hB4 hlt s2 hO3 hf3; have s1_h := Lib.hid s1; have hB5_h := Lib.hid hB5; have hO5_h := Lib.hid hO5; have hf5_h := Lib.hid hf5; clear s1 hB5 hO5 hf5
  go_upto_region 2 with (fail)
  rw [← hW4]
  clear hW4
  go_wp2_with (fail)
  refine bodyPost_ret (results_cell_row rfl _ _ (w.heap.size + 1) _ _ (0, 0) _ rfl s1_h.out Tryd.underlying43 rfl (by kernel_rfl)) rfl ?_
  exact ⟨_, fp, rfl, hO5_h.out, hf5_h.out, hB5_h.out⟩
end Go.Proofs.YtahnhblodfdfhaaDoor
namespace Go.Proofs.YtahnhblodfdfhaaDoor
open Go.RowKit
def LbA (l : List Nd) (w : World) (e : Ending) (w' : World) : Prop :=
  ∃ (A0 A1 A2 : Option Addr) (c0 c1 c2 n0 n1 n2 : Nat) (b : Bool), e = .returned (.tuple #[.agg #[.slice A0 n0 c0, .slice A1 n1 c1, .slice A2 n2 c2], .bool b]) ∧ b = (treeM l).isSome ∧
    (∀ t, treeM l = some t → n0 = sz t ∧ n1 = sz t ∧ n2 = sz t ∧ RdC w' A0 (ints (frL [t])) ∧ RdC w' A1 (ints (inL [t])) ∧ RdC w' A2 (ints (ouL [t])) ∧ ∀ b, b ∈ fpA A0 ∨ b ∈ fpA A1 ∨ b ∈ fpA A2 → w.heap.size ≤ b) ∧ Below w.heap.size w w'
theorem LbA.no {l : List Nd} {w w' : World} {A0 A1 A2 : Option Addr} {c0 c1 c2 n0 n1 n2 : Nat} (hN : treeM l = none) (hb : Below w.heap.size w w') : LbA l w (.returned (.tuple #[.agg #[.slice A0 n0 c0, .slice A1 n1 c1, .slice A2 n2 c2], .bool false])) w' :=
  ⟨A0, A1, A2, c0, c1, c2, n0, n1, n2, false, rfl, by rw [hN]; rfl, fun t ht => (by rw [hN] at ht; cases ht), hb⟩
structure LbR (B : Nat) (w : World) (A : Option Addr) (m c : Nat) (l : List Nd) (k : Nat) (st : List Tr) (A0 A1 A2 : Option Addr) (c0 c1 c2 : Nat) (wr : World) : Prop where
  par : parse [] (l.take k) = some st
  th : Th wr (B + 1 + 1) A0 A1 A2 c0 c1 c2 k k k (frL st) (inL st) (ouL st)
  kb : wr.heap[B]? = some (.cells #[.slice A m c] tTerm)
  kr : wr.heap[B + 1]? = some (.cells #[.slice none 0 0, .slice none 0 0, .slice none 0 0] tInfo)
  bel : Below B w wr
section
variable {B : Nat} {w wr w1 : World} {A : Option Addr} {m c : Nat} {l : List Nd} {k : Nat} {st : List Tr} {A0 A1 A2 : Option Addr} {c0 c1 c2 : Nat}
theorem LbR.below (h : LbR B w A m c l k st A0 A1 A2 c0 c1 c2 wr) (hb : Below wr.heap.size wr w1) : LbR B w A m c l k st A0 A1 A2 c0 c1 c2 w1 :=
  ⟨h.par, h.th.below hb, t_box_below h.kb hb, t_box_below h.kr hb, below_trans h.bel hb (Nat.le_of_lt (t_box_lt h.kb))⟩
theorem LbR.step {k' : Nat} {w' : World} {st' : List Tr} {A0' A1' A2' : Option Addr} {c0' c1' c2' : Nat} {F I O : List Int} (h : LbR B w A m c l k st A0 A1 A2 c0 c1 c2 wr) (hp : parse [] (l.take k') = some st')
    (ht : Th w' (B + 1 + 1) A0' A1' A2' c0' c1' c2' k' k' k' F I O) (hF : F = frL st') (hI : I = inL st') (hO : O = ouL st') (hb : Below (B + 1 + 1) wr w') : LbR B w A m c l k' st' A0' A1' A2' c0' c1' c2' w' := by
  subst hF hI hO
  exact ⟨hp, ht, (hb.block _ (by omega)).trans h.kb, (hb.block _ (by omega)).trans h.kr, h.bel.trans (hb.mono (by omega))⟩
end
theorem lists_leaf (n : Nd) (st : List Tr) : frL (.leaf n :: st) = frL st ++ [((flats st).length : Int)] ∧ inL (.leaf n :: st) = inL st ++ [(leafTy n).1] ∧ ouL (.leaf n :: st) = ouL st ++ [(leafTy n).2] := by
  simp [frL, inL, ouL, infos_leaf]
theorem lists_node (p : Bool) (a b : Tr) (r : List Tr) : frL (.node p a b :: r) = frL (b :: a :: r) ++ [((flats r).length : Int)] ∧ inL (.node p a b :: r) = inL (b :: a :: r) ++ [(joinTy p (ty a) (ty b)).1] ∧ ouL (.node p a b :: r) = ouL (b :: a :: r) ++ [(joinTy p (ty a) (ty b)).2] := by
  simp [frL, inL, ouL, infos_node]
theorem flats_len {l : List Nd} {k : Nat} {st : List Tr} (h : parse [] (l.take k) = some st) (hk : k ≤ l.length) : (flats st).length = k := by
  obtain ⟨_, hf⟩ := parse_spec _ h trivial
  rw [hf]
  simp [flats, Nat.min_eq_left hk]
theorem infos_at (t : Tr) (r : List Tr) {k : Nat} (h : (flats (t :: r)).length = k) : (frL (t :: r))[k - 1]? = some ((flats r).length : Int) ∧ (inL (t :: r))[k - 1]? = some (ty t).1 ∧ (ouL (t :: r))[k - 1]? = some (ty t).2 := by
  have := infos_last t r
  rw [h] at this
  simp [frL, inL, ouL, this]
theorem infos_at2 (b a : Tr) (r : List Tr) {k : Nat} (h : (flats (a :: r)).length = k) : (frL (b :: a :: r))[k - 1]? = some ((flats r).length : Int) ∧ (inL (b :: a :: r))[k - 1]? = some (ty a).1 ∧ (ouL (b :: a :: r))[k - 1]? = some (ty a).2 := by
  have := infos_last2 b a r
  rw [h] at this
  simp [frL, inL, ouL, this]
theorem lbFind_nil (s : ByteArray) (w : World) : Calls Tryd.prog 192 #[.slice none 0 0, .string s] w fun e w' => e = .returned (.int .i64 (-1)) ∧ w' = w := by
  go_enter Tryd.func192, Tryd.ntmps192
  go_wp2_with (fail)
  refine wp_loop_rounds 1 ?_
  rw [rounds_succ]
  go_wp2_with (fail)
  go_ret
  exact ⟨rfl, rfl⟩
set_option maxRecDepth 8000 in
set_option maxHeartbeats 8000000 in
theorem lbScan_any (A : Option Addr) (c : Nat) (l : List Nd) (w : World) (h : RdN w A l) :
    Calls Tryd.prog 173 #[.slice none 0 0, .agg #[.slice A l.length c]] w (LbA l w) := by
  obtain ⟨m, hm⟩ : ∃ m, m = l.length := ⟨_, rfl⟩
  rw [← hm]
  obtain ⟨W, hW⟩ : ∃ W, W = ((w.alloc (.cells #[.slice A m c] tTerm)).alloc (.cells #[.slice none 0 0, .slice none 0 0, .slice none 0 0] tInfo)).alloc (.cells #[.slice none 0 0, .slice none 0 0, .slice none 0 0] tInfo) := ⟨_, rfl⟩
  obtain ⟨b0, k0, k1, hz⟩ := two_boxes w (.cells #[.slice A m c] tTerm) (.cells #[.slice none 0 0, .slice none 0 0, .slice none 0 0] tInfo)
  have hbW := b0.alloc (by omega) (.cells #[.slice none 0 0, .slice none 0 0, .slice none 0 0] tInfo)
  have k2 := heap_alloc_new ((w.alloc (.cells #[.slice A m c] tTerm)).alloc (.cells #[.slice none 0 0, .slice none 0 0, .slice none 0 0] tInfo)) (.cells #[.slice none 0 0, .slice none 0 0, .slice none 0 0] tInfo)
  rw [hz, show w.heap.size + 2 = w.heap.size + 1 + 1 from rfl] at k2
  have k0 := t_box_below k0 (t_below_alloc _ (.cells #[.slice none 0 0, .slice none 0 0, .slice none 0 0] tInfo))
  have k1 := t_box_below k1 (t_below_alloc _ (.cells #[.slice none 0 0, .slice none 0 0, .slice none 0 0] tInfo))
  rw [← hW] at hbW k0 k1 k2
  clear b0 hz
  by_cases hl : 1 ≤ m ∧ m ≤ 400
  case neg =>
    have hb : t_inB (m : Int) 1 400 = false := by simp [t_inB]; omega
    have hw := t_l1In_any (m : Int) 1 400 W
    rw [hb] at hw
    have hN : treeM l = none := by unfold treeM; rw [if_neg (by rw [← hm]; exact hl)]
    obtain ⟨s1, s2⟩ := t_set3 (a := .slice none 0 0) (b := .slice none 0 0) (c := .slice none 0 0) k1
    have hw_h := Lib.hid hw; have hN_h := Lib.hid hN; have hbW_h := Lib.hid hbW; have k0_h := Lib.hid k0; have k1_h := Lib.hid k1; have k2_h := Lib.hid k2; have hm_h := Lib.hid hm; have s1_h := Lib.hid s1; have s2_h := Lib.hid s2; clear hw hN hbW k0 k1 k2 hm s1 s2; clear hb hl h
    go_enter Tryd.func173, Tryd.ntmps173
    go_wp2_with (fail)
    rw [← hW]
    refine (hw_h.out).mono ?_
    rintro e w' ⟨rfl, rfl⟩
    rw [hW]
    go_wp2_with (fail)
    refine bodyPost_ret (v := .tuple #[.agg #[.slice none 0 0, .slice none 0 0, .slice none 0 0], .bool false]) (by simp [results, Tryd.results173, go_sem]) rfl (LbA.no hN_h.out (by rw [← hW]; exact hbW_h.out))
  case pos =>
    have hb : t_inB (m : Int) 1 400 = true := by simp [t_inB]; omega
    have hw := t_l1In_any (m : Int) 1 400 W
    rw [hb] at hw
    have hR0 : LbR w.heap.size w A m c l 0 [] none none none 0 0 0 W := by
      refine ⟨by simp [parse], ⟨k2, Sl.nil _ _ _, Sl.nil _ _ _, Sl.nil _ _ _, ?_, ?_, ?_, ?_⟩, k0, k1, hbW⟩
      · rintro b (hb | hb | hb) <;> simp at hb
      all_goals (intro b hb; simp at hb)
    obtain ⟨⟨d0, d1, d2⟩, g0, g1, g2⟩ := t_box3 k2
    have e0 : W.cell? ⟨w.heap.size, 0, none⟩ = some (.slice A m c) := by simp [World.cell?, k0]
    have hw_h := Lib.hid hw; have hR0_h := Lib.hid hR0; have hm_h := Lib.hid hm; have hbW_h := Lib.hid hbW; have k0_h := Lib.hid k0; have k1_h := Lib.hid k1; have k2_h := Lib.hid k2; clear hw hR0 hm hbW k0 k1 k2; clear hb
    go_enter Tryd.func173, Tryd.ntmps173
    go_wp2_with (fail)
    rw [← hW]
    clear hW
    refine (hw_h.out).mono ?_
    rintro e w' ⟨rfl, rfl⟩
    go_wp2_with (fail)
    go_loopw [25] (fun iv wr => ∃ (k : Nat) (st : List Tr) (A0 A1 A2 : Option Addr) (c0 c1 c2 : Nat), k ≤ m ∧ iv = .int .i64 k ∧ LbR w.heap.size w A m c l k st A0 A1 A2 c0 c1 c2 wr) (fun iv _ => m - (intOf iv).toNat)
    case atStart => exact ⟨0, [], none, none, none, 0, 0, 0, Nat.zero_le _, rfl, hR0_h.out⟩
    case round =>
      obtain ⟨k, st, A0, A1, A2, c0, c1, c2, hk, rfl, hR⟩ := hrel
      clear hR0_h hw_h hbW_h k0_h k1_h k2_h d0 d1 d2 g0 g1 g2 e0
      by_cases hlt : k < m
      · obtain ⟨ad, κ, v, s, rfl, hn, d0, d1, d2⟩ := (h.below hR.bel).at_ (j := k) (by rw [← hm_h.out]; exact hlt)
        have hkI : (k : Int) < (m : Int) := by omega
        have hR_h := Lib.hid hR; have hn_h := Lib.hid hn; clear hR hn; clear h
        have hL := Lib.hid (fun W => tmLeaf_any κ v s W)
        have hAr := Lib.hid (fun W => tmArity_any κ v s W)
        go_wp2_with (fail)
        refine (hL.out _).mono ?_
        rintro e w1 ⟨b, rfl, hb, hB1⟩
        have hB1' := (t_below_alloc wr (.cells #[.int .i64 κ, .int .i64 v, .string s] 69)).trans (hB1.mono (by simp))
        have hR1 := hR_h.out.below hB1'
        have kn : w1.heap[wr.heap.size]? = some (.cells #[.int .i64 κ, .int .i64 v, .string s] 69) := t_box_below (heap_alloc_new wr _) hB1
        obtain ⟨⟨d0, d1, d2⟩, g0, g1, g2⟩ := t_box3 kn
        cases b
        · have hR1' := hR1
          have hx := hR1.kr
          have hxl := t_box_lt hx
          have hxx := hR1.th.box
          obtain ⟨s1, s2⟩ := t_set3 (a := .slice A0 k c0) (b := .slice A1 k c1) (c := .slice A2 k c2) hx
          have hB2 := below_keeps hR1.bel s2 (by omega) (fun k hk => by omega)
          obtain ⟨⟨x0, x1, x2⟩, y0, y1, y2⟩ := t_box3 hxx
          obtain ⟨⟨r0, r1, r2⟩, q0, q1, q2⟩ := t_box3 hx
          by_cases h17 : κ = 17
          · have hb17 : (κ == 17) = true := by simp [h17]
            have hnj : ¬ isJoin (κ, v, s) := by unfold isJoin; simp only; omega
            have hN := parse_none hR1.par hn_h.out (by rw [step_leaf hnj, ← hb]; rfl)
            clear s1 s2 hB2 hx hxl hxx x0 x1 x2 y0 y1 y2 r0 r1 r2 q0 q1 q2; have hb_h := Lib.hid hb; have h17_h := Lib.hid h17; have hnj_h := Lib.hid hnj; have hN_h := Lib.hid hN; have hR1_h := Lib.hid hR1; have hR1'_h := Lib.hid hR1'; have kn_h := Lib.hid kn; have hB1_h := Lib.hid hB1; have hB1'_h := Lib.hid hB1'; clear hb h17 hnj hN hR1 hR1' kn hB1 hB1'
            go_wp2_with (fail)
            refine (hAr.out _).mono ?_
            rintro e w2 ⟨rfl, hB2⟩
            have hR2 := hR1_h.out.below hB2
            obtain ⟨⟨d0, d1, d2⟩, g0, g1, g2⟩ := t_box3 (t_box_below kn_h.out hB2)
            have hx := hR2.kr
            have hxl := t_box_lt hx
            have hxx := hR2.th.box
            obtain ⟨s1, s2⟩ := t_set3 (a := .slice A0 k c0) (b := .slice A1 k c1) (c := .slice A2 k c2) hx
            have hB2 := below_keeps hR2.bel s2 (by omega) (fun k hk => by omega)
            obtain ⟨⟨x0, x1, x2⟩, y0, y1, y2⟩ := t_box3 hxx
            obtain ⟨⟨r0, r1, r2⟩, q0, q1, q2⟩ := t_box3 hx
            have hR2_h := Lib.hid hR2; have hx_h := Lib.hid hx; have hxx_h := Lib.hid hxx; have s1_h := Lib.hid s1; have s2_h := Lib.hid s2; have hB2_h := Lib.hid hB2; clear hR2 hx hxx s1 s2 hB2; clear hL hAr
            go_wp2_with (fail)
            refine (lbFind_nil _ _).mono ?_
            rintro e w' ⟨rfl, rfl⟩
            go_wp2_with (fail)
            refine bodyPost_ret (t_results_cell_tmp rfl _ _ (w.heap.size + 1) _ _ (0, 0) _ rfl s1_h.out Tryd.underlying160 rfl (by kernel_rfl)) rfl ?_
            exact LbA.no hN_h.out hB2_h.out
          · have hb17 : (κ == 17) = false := by simp [h17]
            by_cases hj : κ = 15 ∨ κ = 16
            · obtain ⟨p0, p, hpp, hp⟩ : ∃ p0 p, p = p0 ∧ κ = kd p0 := by
                rcases hj with h | h
                · exact ⟨false, false, rfl, h⟩
                · exact ⟨true, true, rfl, h⟩
              have e15 : (κ != 15) = p := by rw [hp, hpp]; cases p0 <;> rfl
              have e16 : (κ != 16) = !p := by rw [hp, hpp]; cases p0 <;> rfl
              have f15 : (κ == 15) = !p := by rw [hp, hpp]; cases p0 <;> rfl
              have hji : isJoin (κ, v, s) := hj
              have hNo := fun hh => parse_none hR1.par hn_h.out (step_none (st := st) hji hh)
              have hln := flats_len hR1.par (by rw [← hm_h.out]; omega)
              have hb_h := Lib.hid hb; have h17_h := Lib.hid h17; have hj_h := Lib.hid hj; have hji_h := Lib.hid hji; have hp_h := Lib.hid hp; have hpp_h := Lib.hid hpp; have hNo_h := Lib.hid hNo; have hx_h := Lib.hid hx; have hxx_h := Lib.hid hxx; have s1_h := Lib.hid s1; have s2_h := Lib.hid s2; have hB2_h := Lib.hid hB2; have hR1_h := Lib.hid hR1; have hR1'_h := Lib.hid hR1'; have kn_h := Lib.hid kn; have hB1_h := Lib.hid hB1; have hB1'_h := Lib.hid hB1'; have hln_h := Lib.hid hln; clear hb h17 hj hji hp hpp hNo hx hxx s1 s2 hB2 hR1 hR1' kn hB1 hB1' hln; clear hL hAr
              by_cases hs : s = noName
              · have he : (!s.toList.isEmpty) = false := by rw [hs, ByteArray.toList_eq]; rfl
                have he2 : s.toList = [] := by rw [hs, ByteArray.toList_eq]; rfl
                have hs_h := Lib.hid hs; clear hs
                by_cases hv : v = 0
                · have hvb : (v != 0) = false := by simp [hv]
                  have hv_h := Lib.hid hv; clear hv
                  by_cases hk2 : k < 2
                  · have hkI2 : (k : Int) < 2 := by omega
                    have hN := hNo_h.out (.inr (.inr (by
                      have h1 := hln_h.out
                      match st with
                      | [] => simp
                      | [_] => simp
                      | b :: a :: r =>
                        have p1 := sz_pos b
                        have p2 := sz_pos a
                        simp only [flats, List.length_append] at h1
                        unfold sz at p1 p2
                        omega)))
                    have hN_h := Lib.hid hN; clear hN
                    cases p
                    · simp only [Bool.not_false] at e16 f15
                      go_wp2_with (fail)
                      refine bodyPost_ret (t_results_cell_tmp rfl _ _ (w.heap.size + 1) _ _ (0, 0) _ rfl s1_h.out Tryd.underlying160 rfl (by kernel_rfl)) rfl ?_
                      exact LbA.no hN_h.out hB2_h.out
                    · simp only [Bool.not_true] at e16 f15
                      go_wp2_with (fail)
                      refine bodyPost_ret (t_results_cell_tmp rfl _ _ (w.heap.size + 1) _ _ (0, 0) _ rfl s1_h.out Tryd.underlying160 rfl (by kernel_rfl)) rfl ?_
                      exact LbA.no hN_h.out hB2_h.out
                  · obtain ⟨k1, rfl⟩ : ∃ k1, k = k1 + 1 := ⟨k - 1, by omega⟩
                    have hln' := hln_h.out
                    obtain ⟨t, r, rfl⟩ : ∃ t r, st = t :: r := by
                      match st, hln' with
                      | [], h => simp [flats] at h
                      | t :: r, _ => exact ⟨t, r, rfl⟩
                    obtain ⟨i0, i1, i2⟩ := infos_at t r hln'
                    rw [Nat.add_sub_cancel] at i0 i1 i2
                    obtain ⟨f, hf⟩ : ∃ f, f = (flats r).length := ⟨_, rfl⟩
                    rw [← hf] at i0
                    have hfk : f ≤ k1 := by
                      have := sz_pos t
                      simp only [flats, List.length_append] at hln'
                      unfold sz at this
                      omega
                    obtain ⟨ad0, hA0, _, cf, _⟩ := Sl.cell hR1_h.out.th.f (ints_get i0)
                    obtain ⟨ad1, hA1, _, ci, _⟩ := Sl.cell hR1_h.out.th.i (ints_get i1)
                    obtain ⟨ad2, hA2, _, co, _⟩ := Sl.cell hR1_h.out.th.o (ints_get i2)
                    subst hA0 hA1 hA2
                    have hkb : ¬ ((k1 : Int) + 1 < 2) := by omega
                    have hkc : (k1 : Int) < (k1 : Int) + 1 := by omega
                    have hk0 : (0 : Int) ≤ (k1 : Int) := by omega
                    by_cases hf1 : f < 1
                    · have hfI : (f : Int) < 1 := by omega
                      have hN := hNo_h.out (.inr (.inr (by
                        match r with
                        | [] => simp
                        | a :: r' =>
                          have := sz_pos a
                          simp only [flats, List.length_append] at hf
                          unfold sz at this
                          omega)))
                      have hN_h := Lib.hid hN; have i0_h := Lib.hid i0; have i1_h := Lib.hid i1; have i2_h := Lib.hid i2; have hf_h := Lib.hid hf; have hln'_h := Lib.hid hln'; clear hN i0 i1 i2 hf hln'
                      cases p
                      · simp only [Bool.not_false] at e16 f15
                        go_wp2_with (fail)
                        refine bodyPost_ret (t_results_cell_tmp rfl _ _ (w.heap.size + 1) _ _ (0, 0) _ rfl s1_h.out Tryd.underlying160 rfl (by kernel_rfl)) rfl ?_
                        exact LbA.no hN_h.out hB2_h.out
                      · simp only [Bool.not_true] at e16 f15
                        go_wp2_with (fail)
                        refine bodyPost_ret (t_results_cell_tmp rfl _ _ (w.heap.size + 1) _ _ (0, 0) _ rfl s1_h.out Tryd.underlying160 rfl (by kernel_rfl)) rfl ?_
                        exact LbA.no hN_h.out hB2_h.out
                    · obtain ⟨f1, rfl⟩ : ∃ f1, f = f1 + 1 := ⟨f - 1, by omega⟩
                      have hfI : ¬ ((f1 : Int) + 1 < 1) := by omega
                      obtain ⟨a, r', rfl⟩ : ∃ a r', r = a :: r' := by
                        match r, hf with
                        | [], h => simp [flats] at h
                        | a :: r', _ => exact ⟨a, r', rfl⟩
                      obtain ⟨j0, j1, j2⟩ := infos_at2 t a r' hf.symm
                      rw [Nat.add_sub_cancel] at j0 j1 j2
                      obtain ⟨ad0', hA0', _, dg, _⟩ := Sl.cell hR1_h.out.th.f (ints_get j0)
                      obtain ⟨ad1', hA1', _, di, _⟩ := Sl.cell hR1_h.out.th.i (ints_get j1)
                      obtain ⟨ad2', hA2', _, do2, _⟩ := Sl.cell hR1_h.out.th.o (ints_get j2)
                      obtain rfl := Option.some.inj hA0'
                      obtain rfl := Option.some.inj hA1'
                      obtain rfl := Option.some.inj hA2'
                      clear hA0' hA1' hA2'
                      obtain ⟨⟨hwt, hwa, hwr⟩, -⟩ := parse_spec _ hR1_h.out.par trivial
                      have fa := wt_fit hwa
                      have ft := wt_fit hwt
                      clear hwt hwa hwr
                      obtain ⟨l0, l1, l2⟩ := lists_node p0 a t r'
                      have hjn : (κ, v, s) = joinNd p0 := by rw [hp_h.out, hv_h.out, hs_h.out]; rfl
                      obtain ⟨ai, hai⟩ : ∃ x, x = (ty a).1 := ⟨_, rfl⟩
                      obtain ⟨ao, hao⟩ : ∃ x, x = (ty a).2 := ⟨_, rfl⟩
                      obtain ⟨bi, hbi⟩ : ∃ x, x = (ty t).1 := ⟨_, rfl⟩
                      obtain ⟨bo, hbo⟩ : ∃ x, x = (ty t).2 := ⟨_, rfl⟩
                      obtain ⟨g, hg⟩ : ∃ g, g = (flats r').length := ⟨_, rfl⟩
                      have hst : stepT (t :: a :: r') (κ, v, s) = if joinB p0 (ai, ao) (bi, bo) = true then some (.node p0 a t :: r') else none := by rw [hjn, step_join, hai, hao, hbi, hbo]
                      have hja : joinTy p0 (ty a) (ty t) = joinTy p0 (ai, ao) (bi, bo) := by rw [hai, hao, hbi, hbo]
                      rw [← hg] at dg j0 l0
                      rw [hja] at l1 l2
                      rw [← hai] at di fa
                      rw [← hao] at do2 fa
                      rw [← hbi] at ci ft
                      rw [← hbo] at co ft
                      have hfc : (f1 : Int) < (k1 : Int) + 1 := by omega
                      have hf0 : (0 : Int) ≤ (f1 : Int) := by omega
                      have hwi : IntKind.i64.wrap (ai + bi) = ai + bi := IntWalk.i64_in _ (by omega)
                      have hwo : IntKind.i64.wrap (ao + bo) = ao + bo := IntWalk.i64_in _ (by omega)
                      obtain ⟨fa1, fa2, fa3, fa4⟩ := fa
                      obtain ⟨ft1, ft2, ft3, ft4⟩ := ft
                      have i0_h := Lib.hid i0; have i1_h := Lib.hid i1; have i2_h := Lib.hid i2; have j0_h := Lib.hid j0; have j1_h := Lib.hid j1; have j2_h := Lib.hid j2; have hf_h := Lib.hid hf; have hln'_h := Lib.hid hln'; have l0_h := Lib.hid l0; have l1_h := Lib.hid l1; have l2_h := Lib.hid l2; have hjn_h := Lib.hid hjn; have hai_h := Lib.hid hai; have hao_h := Lib.hid hao; have hbi_h := Lib.hid hbi; have hbo_h := Lib.hid hbo; have hg_h := Lib.hid hg; have hst_h := Lib.hid hst; have hja_h := Lib.hid hja; clear i0 i1 i2 j0 j1 j2 hf hln' l0 l1 l2 hjn hai hao hbi hbo hg hst hja
                      cases p
                      · obtain rfl : p0 = false := hpp_h.out.symm
                        simp only [Bool.not_false] at e16 f15
                        have hfit : joinB false (ai, ao) (bi, bo) = decide (ao = bi) := by simp [joinB]
                        by_cases ho : ao = bi
                        · have hob : (ao != bi) = false := by simp [ho]
                          have h12 : ¬ 12 < ai := by omega
                          have h12' : ¬ 12 < bo := by omega
                          have hpm := parse_more hR1_h.out.par hn_h.out (by rw [hst_h.out, hfit, decide_eq_true ho]; rfl)
                          have hpm_h := Lib.hid hpm; have ho_h := Lib.hid ho; have hfit_h := Lib.hid hfit; clear hpm ho hfit
                          go_wp2_with (fail)
                          go_quiet (fail)
                          go_wp2_with (fail)
                          go_quiet (fail)
                          go_wp2_with (fail)
                          go_quiet (fail)
                          go_wp2_with (fail)
                          refine beginZw 10 (fun w' => w'.heap[w.heap.size + 1 + 1]? = some (.cells #[.slice (some ad0) (k1 + 1) c0, .slice (some ad1) (k1 + 1) c1, .slice (some ad2) (k1 + 1) c2] tInfo) ∧ w'.cell? (ad0.add f1) = some (.int .i64 (g : Int))) (by kernel_rfl) (fun W1 hW1 => ?_)
                          have hR3 : LbR w.heap.size w (some ad) m c l (k1 + 1) (t :: a :: r') (some ad0) (some ad1) (some ad2) c0 c1 c2 W1 := by rw [hW1]; exact hR1_h.out.below (below_drew (below_drewN (Below.refl _ _) _))
                          have hdg : W1.cell? (ad0.add f1) = some (.int .i64 (g : Int)) := by rw [hW1]; exact dg
                          have hF := And.intro hR3.th.box hdg
                          have hR4 := hR3.below (t_below_alloc W1 (.cells #[.int .i64 (g : Int)] tInt))
                          have hF4 : (W1.alloc (.cells #[.int .i64 (g : Int)] tInt)).heap[w.heap.size + 1 + 1]? = some (.cells #[.slice (some ad0) (k1 + 1) c0, .slice (some ad1) (k1 + 1) c1, .slice (some ad2) (k1 + 1) c2] tInfo) ∧ (W1.alloc (.cells #[.int .i64 (g : Int)] tInt)).cell? (ad0.add f1) = some (.int .i64 (g : Int)) :=
                            ⟨hR4.th.box, ((t_below_alloc W1 _).cell (World.block_lt_of_cell? W1 _ hdg)).trans hdg⟩
                          clear hW1 x0 x1 x2 y0 y1 y2 r0 r1 r2 q0 q1 q2 d0 d1 d2 g0 g1 g2 cf ci co dg di do2 hwi hwo s1_h s2_h hB2_h hNo_h; have hR3_h := Lib.hid hR3; have hdg_h := Lib.hid hdg; have hF_h := Lib.hid hF; have hR4_h := Lib.hid hR4; have hF4_h := Lib.hid hF4; clear hR3 hdg hF hR4 hF4
                          refine takeZ 0 (v := ?_) rfl (by kernel_rfl) (by kernel_rfl) (by kernel_rfl) (by kernel_rfl) (by kernel_rfl) (fun _ _ _ h => h) hF_h.out (by rfl) (fun W' hW' => ?_) ?_; rotate_left; · (obtain ⟨⟨x0, x1, x2⟩, y0, y1, y2⟩ := t_box3 hW'.1; have e1 := hW'.2; clear hW'; go_simp; first | done | with_reducible rfl)
                          simp only [Act.put, nS1, nS2, nS3]
                          refine takeZ 1 (v := ?_) rfl (by kernel_rfl) (by kernel_rfl) (by kernel_rfl) (by kernel_rfl) (by kernel_rfl) (fun _ _ _ h => h) hF_h.out (by rfl) (fun W' hW' => ?_) ?_; rotate_left; · (obtain ⟨⟨x0, x1, x2⟩, y0, y1, y2⟩ := t_box3 hW'.1; have e1 := hW'.2; clear hW'; go_simp; first | done | with_reducible rfl)
                          simp only [Act.put, nS1, nS2, nS3]
                          refine takeZ 2 (v := ?_) rfl (by kernel_rfl) (by kernel_rfl) (by kernel_rfl) (by kernel_rfl) (by kernel_rfl) (fun _ _ _ h => h) hF_h.out (by rfl) (fun W' hW' => ?_) ?_; rotate_left; · (obtain ⟨⟨x0, x1, x2⟩, y0, y1, y2⟩ := t_box3 hW'.1; have e1 := hW'.2; clear hW'; go_simp; first | done | with_reducible rfl)
                          simp only [Act.put, nS1, nS2, nS3]
                          refine takeZ 3 (v := ?_) rfl (by kernel_rfl) (by kernel_rfl) (by kernel_rfl) (by kernel_rfl) (by kernel_rfl) (fun _ _ _ h => h) hF_h.out (by rfl) (fun W' hW' => ?_) ?_; rotate_left; · (obtain ⟨⟨x0, x1, x2⟩, y0, y1, y2⟩ := t_box3 hW'.1; have e1 := hW'.2; clear hW'; go_simp; first | done | with_reducible rfl)
                          simp only [Act.put, nS1, nS2, nS3]
                          refine takeZ 4 (v := ?_) rfl (by kernel_rfl) (by kernel_rfl) (by kernel_rfl) (by kernel_rfl) (by kernel_rfl) (fun _ _ _ h => h) hF_h.out (by rfl) (fun W' hW' => ?_) ?_; rotate_left; · (obtain ⟨⟨x0, x1, x2⟩, y0, y1, y2⟩ := t_box3 hW'.1; have e1 := hW'.2; clear hW'; go_simp; first | done | with_reducible rfl)
                          simp only [Act.put, nS1, nS2, nS3]
                          refine takeZ 5 (v := ?_) rfl (by kernel_rfl) (by kernel_rfl) (by kernel_rfl) (by kernel_rfl) (by kernel_rfl) (fun _ _ _ h => h) hF_h.out (by rfl) (fun W' hW' => ?_) ?_; rotate_left; · (obtain ⟨⟨x0, x1, x2⟩, y0, y1, y2⟩ := t_box3 hW'.1; have e1 := hW'.2; clear hW'; go_simp; first | done | with_reducible rfl)
                          simp only [Act.put, nS1, nS2, nS3]
                          refine takeZ 6 (v := ?_) rfl (by kernel_rfl) (by kernel_rfl) (by kernel_rfl) (by kernel_rfl) (by kernel_rfl) (fun _ _ _ h => h) hF_h.out (by rfl) (fun W' hW' => ?_) ?_; rotate_left; · (obtain ⟨⟨x0, x1, x2⟩, y0, y1, y2⟩ := t_box3 hW'.1; have e1 := hW'.2; clear hW'; go_simp; first | done | with_reducible rfl)
                          simp only [Act.put, nS1, nS2, nS3]
                          refine oneZ 7 rfl (by kernel_rfl) (by rfl) (fun K hK => ?_)
                          go_simp
                          refine hK _ _ (fun _ => hF4_h.out) ?_
                          clear hK K
                          refine appZ 8 rfl (by kernel_rfl) (by rfl) _ _ _ rfl tInt Tryd.underlying33 info_int rfl (by omega) rfl hR4_h.out.th.f rfl (m := 1) rfl (Sl.rdc (Sl.laid W1 tInt 1 1 #[.int .i64 (g : Int)] (by unfold maxLen; omega) rfl)) (by simp [Value.oneCell']) (by unfold maxLen; omega) (by omega) ?_
                          intro A0' c0' w3 hs0 hA0 hk0 hrd0
                          have ht0 := hR4_h.out.th.app0 hs0 hA0 hk0
                          have hc3 : w3.cell? (ad0.add f1) = some (.int .i64 (g : Int)) := by
                            obtain ⟨ad', h1, h2⟩ := hrd0 _ _ (ints_get j0_h.out)
                            obtain rfl := Option.some.inj h1
                            exact h2
                          have hF5 := And.intro ht0.2.1 hc3
                          refine ⟨fun _ => hF5, ?_⟩
                          obtain ⟨⟨x0, x1, x2⟩, y0, y1, y2⟩ := t_box3 ht0.2.1
                          have ht0_h := Lib.hid ht0; have hF5_h := Lib.hid hF5; have hc3_h := Lib.hid hc3; clear ht0 hF5 hc3; clear hs0 hA0 hk0 hrd0
                          simp only [Act.put, nS1, nS2, nS3]
                          refine takeZ 9 (v := ?_) rfl (by kernel_rfl) (by kernel_rfl) (by kernel_rfl) (by kernel_rfl) (by kernel_rfl) (fun _ _ _ h => h) hF5_h.out (by rfl) (fun W' hW' => ?_) ?_; rotate_left; · (skip; clear hW'; go_simp; first | done | with_reducible rfl)
                          simp only [Act.put, nS1, nS2, nS3]
                          refine oneZ 10 rfl (by kernel_rfl) (by rfl) (fun K hK => ?_)
                          go_simp
                          refine hK _ _ (fun h => by cases h) ?_
                          clear hK K
                          refine doneZ (by kernel_rfl) ?_
                          have hT1 := ht0_h.out.1
                          have hb1 := ht0_h.out.2.2 _ (Nat.le_refl _)
                          clear ht0_h x0 x1 x2 y0 y1 y2 hF5_h hc3_h
                          generalize w3.setCell ⟨w.heap.size + 1 + 1, 0, none⟩ (.slice A0' (k1 + 1 + 1) c0') = w4 at hT1 hb1 ⊢
                          obtain ⟨⟨x0, x1, x2⟩, y0, y1, y2⟩ := t_box3 hT1.box
                          have hT1_h := Lib.hid hT1; have hb1_h := Lib.hid hb1; clear hT1 hb1
                          go_upto_region 30 with (at_builtin; refine wpList_append1 rfl _ _ _ rfl tInt Tryd.underlying33 info_int rfl (by omega) rfl hT1_h.out.i rfl rfl rfl (by simp [Value.oneCell']) (by omega) (by omega) ?_; intro A1' c1' w5 hs0 hA0 hk0; have ht0 := hT1_h.out.app1 hs0 hA0 hk0; clear hs0 hA0 hk0 x0 x1 x2 y0 y1 y2; obtain ⟨⟨x0, x1, x2⟩, y0, y1, y2⟩ := t_box3 ht0.2.1; have ht0_h := Lib.hid ht0; clear ht0)
                          have hT2 := ht0_h.out.1
                          have hb2 := ht0_h.out.2.2 _ (Nat.le_refl _)
                          clear ht0_h x0 x1 x2 y0 y1 y2
                          generalize w5.setCell ⟨w.heap.size + 1 + 1, 1, none⟩ (.slice A1' (k1 + 1 + 1) c1') = w6 at hT2 hb2 ⊢
                          obtain ⟨⟨x0, x1, x2⟩, y0, y1, y2⟩ := t_box3 hT2.box
                          have hT2_h := Lib.hid hT2; have hb2_h := Lib.hid hb2; clear hT2 hb2
                          go_wp2_with (at_builtin; refine wpList_append1 rfl _ _ _ rfl tInt Tryd.underlying33 info_int rfl (by omega) rfl hT2_h.out.o rfl rfl rfl (by simp [Value.oneCell']) (by omega) (by omega) ?_; intro A2' c2' w7 hs0 hA0 hk0; have ht0 := hT2_h.out.app2 hs0 hA0 hk0; clear hs0 hA0 hk0 x0 x1 x2 y0 y1 y2; obtain ⟨⟨x0, x1, x2⟩, y0, y1, y2⟩ := t_box3 ht0.2.1; have ht0_h := Lib.hid ht0; clear ht0)
                          have hT3 := ht0_h.out.1
                          have hb3 := ht0_h.out.2.2 _ (Nat.le_refl _)
                          clear ht0_h x0 x1 x2 y0 y1 y2
                          go_roundw
                          case rel => exact ⟨k1 + 1 + 1, .node false a t :: r', A0', A1', A2', c0', c1', c2', by omega, by go_num, hR4_h.out.step hpm_h.out hT3 l0_h.out.symm l1_h.out.symm l2_h.out.symm ((hb1_h.out.trans hb2_h.out).trans hb3)⟩
                          case measure => simp [intOf]; omega
                        · have hob : (ao != bi) = true := by simp [ho]
                          have hN := parse_none hR1_h.out.par hn_h.out (by rw [hst_h.out, hfit, decide_eq_false ho]; rfl)
                          have HN := Lib.hid hN; clear hN; have ho_h := Lib.hid ho; have hfit_h := Lib.hid hfit; clear ho hfit
                          go_wp2_with (fail)
                          go_quiet (fail)
                          go_wp2_with (fail)
                          go_quiet (fail)
                          go_wp2_with (fail)
                          refine bodyPost_ret (t_results_cell_tmp rfl _ _ (w.heap.size + 1) _ _ (0, 0) _ rfl s1_h.out Tryd.underlying160 rfl (by kernel_rfl)) rfl ?_
                          exact LbA.no HN.out (below_drewN hB2_h.out _)
                      · obtain rfl : p0 = true := hpp_h.out.symm
                        simp only [Bool.not_true] at e16 f15
                        have hfit : joinB true (ai, ao) (bi, bo) = decide (ai + bi ≤ 12 ∧ ao + bo ≤ 12) := by simp [joinB]
                        by_cases ho : ai + bi ≤ 12
                        · have h12 : ¬ 12 < ai + bi := by omega
                          by_cases ho2 : ao + bo ≤ 12
                          · have h12' : ¬ 12 < ao + bo := by omega
                            have hpm := parse_more hR1_h.out.par hn_h.out (by rw [hst_h.out, hfit, decide_eq_true ⟨ho, ho2⟩]; rfl)
                            have hpm_h := Lib.hid hpm; have hfit_h := Lib.hid hfit; clear hpm hfit
                            go_wp2_with (fail)
                            go_quiet (fail)
                            go_wp2_with (fail)
                            refine beginZw 10 (fun w' => w'.heap[w.heap.size + 1 + 1]? = some (.cells #[.slice (some ad0) (k1 + 1) c0, .slice (some ad1) (k1 + 1) c1, .slice (some ad2) (k1 + 1) c2] tInfo) ∧ w'.cell? (ad0.add f1) = some (.int .i64 (g : Int))) (by kernel_rfl) (fun W1 hW1 => ?_)
                            have hR3 : LbR w.heap.size w (some ad) m c l (k1 + 1) (t :: a :: r') (some ad0) (some ad1) (some ad2) c0 c1 c2 W1 := by rw [hW1]; exact hR1_h.out.below (below_drew (below_drewN (Below.refl _ _) _))
                            have hdg : W1.cell? (ad0.add f1) = some (.int .i64 (g : Int)) := by rw [hW1]; exact dg
                            have hF := And.intro hR3.th.box hdg
                            have hR4 := hR3.below (t_below_alloc W1 (.cells #[.int .i64 (g : Int)] tInt))
                            have hF4 : (W1.alloc (.cells #[.int .i64 (g : Int)] tInt)).heap[w.heap.size + 1 + 1]? = some (.cells #[.slice (some ad0) (k1 + 1) c0, .slice (some ad1) (k1 + 1) c1, .slice (some ad2) (k1 + 1) c2] tInfo) ∧ (W1.alloc (.cells #[.int .i64 (g : Int)] tInt)).cell? (ad0.add f1) = some (.int .i64 (g : Int)) :=
                              ⟨hR4.th.box, ((t_below_alloc W1 _).cell (World.block_lt_of_cell? W1 _ hdg)).trans hdg⟩
                            clear hW1 x0 x1 x2 y0 y1 y2 r0 r1 r2 q0 q1 q2 d0 d1 d2 g0 g1 g2 cf ci co dg di do2 hwi hwo s1_h s2_h hB2_h hNo_h; have hR3_h := Lib.hid hR3; have hdg_h := Lib.hid hdg; have hF_h := Lib.hid hF; have hR4_h := Lib.hid hR4; have hF4_h := Lib.hid hF4; clear hR3 hdg hF hR4 hF4
                            refine takeZ 0 (v := ?_) rfl (by kernel_rfl) (by kernel_rfl) (by kernel_rfl) (by kernel_rfl) (by kernel_rfl) (fun _ _ _ h => h) hF_h.out (by rfl) (fun W' hW' => ?_) ?_; rotate_left; · (obtain ⟨⟨x0, x1, x2⟩, y0, y1, y2⟩ := t_box3 hW'.1; have e1 := hW'.2; clear hW'; go_simp; first | done | with_reducible rfl)
                            simp only [Act.put, nS1, nS2, nS3]
                            refine takeZ 1 (v := ?_) rfl (by kernel_rfl) (by kernel_rfl) (by kernel_rfl) (by kernel_rfl) (by kernel_rfl) (fun _ _ _ h => h) hF_h.out (by rfl) (fun W' hW' => ?_) ?_; rotate_left; · (obtain ⟨⟨x0, x1, x2⟩, y0, y1, y2⟩ := t_box3 hW'.1; have e1 := hW'.2; clear hW'; go_simp; first | done | with_reducible rfl)
                            simp only [Act.put, nS1, nS2, nS3]
                            refine takeZ 2 (v := ?_) rfl (by kernel_rfl) (by kernel_rfl) (by kernel_rfl) (by kernel_rfl) (by kernel_rfl) (fun _ _ _ h => h) hF_h.out (by rfl) (fun W' hW' => ?_) ?_; rotate_left; · (obtain ⟨⟨x0, x1, x2⟩, y0, y1, y2⟩ := t_box3 hW'.1; have e1 := hW'.2; clear hW'; go_simp; first | done | with_reducible rfl)
                            simp only [Act.put, nS1, nS2, nS3]
                            refine takeZ 3 (v := ?_) rfl (by kernel_rfl) (by kernel_rfl) (by kernel_rfl) (by kernel_rfl) (by kernel_rfl) (fun _ _ _ h => h) hF_h.out (by rfl) (fun W' hW' => ?_) ?_; rotate_left; · (obtain ⟨⟨x0, x1, x2⟩, y0, y1, y2⟩ := t_box3 hW'.1; have e1 := hW'.2; clear hW'; go_simp; first | done | with_reducible rfl)
                            simp only [Act.put, nS1, nS2, nS3]
                            refine takeZ 4 (v := ?_) rfl (by kernel_rfl) (by kernel_rfl) (by kernel_rfl) (by kernel_rfl) (by kernel_rfl) (fun _ _ _ h => h) hF_h.out (by rfl) (fun W' hW' => ?_) ?_; rotate_left; · (obtain ⟨⟨x0, x1, x2⟩, y0, y1, y2⟩ := t_box3 hW'.1; have e1 := hW'.2; clear hW'; go_simp; first | done | with_reducible rfl)
                            simp only [Act.put, nS1, nS2, nS3]
                            refine takeZ 5 (v := ?_) rfl (by kernel_rfl) (by kernel_rfl) (by kernel_rfl) (by kernel_rfl) (by kernel_rfl) (fun _ _ _ h => h) hF_h.out (by rfl) (fun W' hW' => ?_) ?_; rotate_left; · (obtain ⟨⟨x0, x1, x2⟩, y0, y1, y2⟩ := t_box3 hW'.1; have e1 := hW'.2; clear hW'; go_simp; first | done | with_reducible rfl)
                            simp only [Act.put, nS1, nS2, nS3]
                            refine takeZ 6 (v := ?_) rfl (by kernel_rfl) (by kernel_rfl) (by kernel_rfl) (by kernel_rfl) (by kernel_rfl) (fun _ _ _ h => h) hF_h.out (by rfl) (fun W' hW' => ?_) ?_; rotate_left; · (obtain ⟨⟨x0, x1, x2⟩, y0, y1, y2⟩ := t_box3 hW'.1; have e1 := hW'.2; clear hW'; go_simp; first | done | with_reducible rfl)
                            simp only [Act.put, nS1, nS2, nS3]
                            refine oneZ 7 rfl (by kernel_rfl) (by rfl) (fun K hK => ?_)
                            go_simp
                            refine hK _ _ (fun _ => hF4_h.out) ?_
                            clear hK K
                            refine appZ 8 rfl (by kernel_rfl) (by rfl) _ _ _ rfl tInt Tryd.underlying33 info_int rfl (by omega) rfl hR4_h.out.th.f rfl (m := 1) rfl (Sl.rdc (Sl.laid W1 tInt 1 1 #[.int .i64 (g : Int)] (by unfold maxLen; omega) rfl)) (by simp [Value.oneCell']) (by unfold maxLen; omega) (by omega) ?_
                            intro A0' c0' w3 hs0 hA0 hk0 hrd0
                            have ht0 := hR4_h.out.th.app0 hs0 hA0 hk0
                            have hc3 : w3.cell? (ad0.add f1) = some (.int .i64 (g : Int)) := by
                              obtain ⟨ad', h1, h2⟩ := hrd0 _ _ (ints_get j0_h.out)
                              obtain rfl := Option.some.inj h1
                              exact h2
                            have hF5 := And.intro ht0.2.1 hc3
                            refine ⟨fun _ => hF5, ?_⟩
                            obtain ⟨⟨x0, x1, x2⟩, y0, y1, y2⟩ := t_box3 ht0.2.1
                            have ht0_h := Lib.hid ht0; have hF5_h := Lib.hid hF5; have hc3_h := Lib.hid hc3; clear ht0 hF5 hc3; clear hs0 hA0 hk0 hrd0
                            simp only [Act.put, nS1, nS2, nS3]
                            refine takeZ 9 (v := ?_) rfl (by kernel_rfl) (by kernel_rfl) (by kernel_rfl) (by kernel_rfl) (by kernel_rfl) (fun _ _ _ h => h) hF5_h.out (by rfl) (fun W' hW' => ?_) ?_; rotate_left; · (skip; clear hW'; go_simp; first | done | with_reducible rfl)
                            simp only [Act.put, nS1, nS2, nS3]
                            refine oneZ 10 rfl (by kernel_rfl) (by rfl) (fun K hK => ?_)
                            go_simp
                            refine hK _ _ (fun h => by cases h) ?_
                            clear hK K
                            refine doneZ (by kernel_rfl) ?_
                            have hT1 := ht0_h.out.1
                            have hb1 := ht0_h.out.2.2 _ (Nat.le_refl _)
                            clear ht0_h x0 x1 x2 y0 y1 y2 hF5_h hc3_h
                            generalize w3.setCell ⟨w.heap.size + 1 + 1, 0, none⟩ (.slice A0' (k1 + 1 + 1) c0') = w4 at hT1 hb1 ⊢
                            obtain ⟨⟨x0, x1, x2⟩, y0, y1, y2⟩ := t_box3 hT1.box
                            have hT1_h := Lib.hid hT1; have hb1_h := Lib.hid hb1; clear hT1 hb1
                            go_upto_region 30 with (at_builtin; refine wpList_append1 rfl _ _ _ rfl tInt Tryd.underlying33 info_int rfl (by omega) rfl hT1_h.out.i rfl rfl rfl (by simp [Value.oneCell']) (by omega) (by omega) ?_; intro A1' c1' w5 hs0 hA0 hk0; have ht0 := hT1_h.out.app1 hs0 hA0 hk0; clear hs0 hA0 hk0 x0 x1 x2 y0 y1 y2; obtain ⟨⟨x0, x1, x2⟩, y0, y1, y2⟩ := t_box3 ht0.2.1; have ht0_h := Lib.hid ht0; clear ht0)
                            have hT2 := ht0_h.out.1
                            have hb2 := ht0_h.out.2.2 _ (Nat.le_refl _)
                            clear ht0_h x0 x1 x2 y0 y1 y2
                            generalize w5.setCell ⟨w.heap.size + 1 + 1, 1, none⟩ (.slice A1' (k1 + 1 + 1) c1') = w6 at hT2 hb2 ⊢
                            obtain ⟨⟨x0, x1, x2⟩, y0, y1, y2⟩ := t_box3 hT2.box
                            have hT2_h := Lib.hid hT2; have hb2_h := Lib.hid hb2; clear hT2 hb2
                            go_wp2_with (at_builtin; refine wpList_append1 rfl _ _ _ rfl tInt Tryd.underlying33 info_int rfl (by omega) rfl hT2_h.out.o rfl rfl rfl (by simp [Value.oneCell']) (by omega) (by omega) ?_; intro A2' c2' w7 hs0 hA0 hk0; have ht0 := hT2_h.out.app2 hs0 hA0 hk0; clear hs0 hA0 hk0 x0 x1 x2 y0 y1 y2; obtain ⟨⟨x0, x1, x2⟩, y0, y1, y2⟩ := t_box3 ht0.2.1; have ht0_h := Lib.hid ht0; clear ht0)
                            have hT3 := ht0_h.out.1
                            have hb3 := ht0_h.out.2.2 _ (Nat.le_refl _)
                            clear ht0_h x0 x1 x2 y0 y1 y2
                            go_roundw
                            case rel => exact ⟨k1 + 1 + 1, .node true a t :: r', A0', A1', A2', c0', c1', c2', by omega, by go_num, hR4_h.out.step hpm_h.out hT3 l0_h.out.symm l1_h.out.symm l2_h.out.symm ((hb1_h.out.trans hb2_h.out).trans hb3)⟩
                            case measure => simp [intOf]; omega
                          · have h12' : 12 < ao + bo := by omega
                            have hN := parse_none hR1_h.out.par hn_h.out (by rw [hst_h.out, hfit, decide_eq_false (fun h => ho2 h.2)]; rfl)
                            have HN := Lib.hid hN; clear hN; have hfit_h := Lib.hid hfit; clear hfit
                            go_wp2_with (fail)
                            go_quiet (fail)
                            go_wp2_with (fail)
                            refine bodyPost_ret (t_results_cell_tmp rfl _ _ (w.heap.size + 1) _ _ (0, 0) _ rfl s1_h.out Tryd.underlying160 rfl (by kernel_rfl)) rfl ?_
                            exact LbA.no HN.out (below_drewN hB2_h.out _)
                        · have h12 : 12 < ai + bi := by omega
                          have hN := parse_none hR1_h.out.par hn_h.out (by rw [hst_h.out, hfit, decide_eq_false (fun h => ho h.1)]; rfl)
                          have HN := Lib.hid hN; clear hN; have hfit_h := Lib.hid hfit; clear hfit
                          go_wp2_with (fail)
                          go_quiet (fail)
                          go_wp2_with (fail)
                          refine bodyPost_ret (t_results_cell_tmp rfl _ _ (w.heap.size + 1) _ _ (0, 0) _ rfl s1_h.out Tryd.underlying160 rfl (by kernel_rfl)) rfl ?_
                          exact LbA.no HN.out (below_drewN hB2_h.out _)
                · have hvb : (v != 0) = true := by simp [hv]
                  have hN := hNo_h.out (.inl hv)
                  have hv_h := Lib.hid hv; have hN_h := Lib.hid hN; clear hv hN
                  cases p
                  · simp only [Bool.not_false] at e16 f15
                    go_wp2_with (fail)
                    refine bodyPost_ret (t_results_cell_tmp rfl _ _ (w.heap.size + 1) _ _ (0, 0) _ rfl s1_h.out Tryd.underlying160 rfl (by kernel_rfl)) rfl ?_
                    exact LbA.no hN_h.out hB2_h.out
                  · simp only [Bool.not_true] at e16 f15
                    go_wp2_with (fail)
                    refine bodyPost_ret (t_results_cell_tmp rfl _ _ (w.heap.size + 1) _ _ (0, 0) _ rfl s1_h.out Tryd.underlying160 rfl (by kernel_rfl)) rfl ?_
                    exact LbA.no hN_h.out hB2_h.out
              · have he : (!s.toList.isEmpty) = true := by
                  simp only [Bool.not_eq_true', List.isEmpty_eq_false_iff]
                  exact fun h => hs (name_eq h)
                have hN := hNo_h.out (.inr (.inl hs))
                have hs_h := Lib.hid hs; have hN_h := Lib.hid hN; clear hs hN
                cases p
                · simp only [Bool.not_false] at e16 f15
                  go_wp2_with (fail)
                  refine bodyPost_ret (t_results_cell_tmp rfl _ _ (w.heap.size + 1) _ _ (0, 0) _ rfl s1_h.out Tryd.underlying160 rfl (by kernel_rfl)) rfl ?_
                  exact LbA.no hN_h.out hB2_h.out
                · simp only [Bool.not_true] at e16 f15
                  go_wp2_with (fail)
                  refine bodyPost_ret (t_results_cell_tmp rfl _ _ (w.heap.size + 1) _ _ (0, 0) _ rfl s1_h.out Tryd.underlying160 rfl (by kernel_rfl)) rfl ?_
                  exact LbA.no hN_h.out hB2_h.out
            · have hnj : ¬ isJoin (κ, v, s) := hj
              have hN := parse_none hR1.par hn_h.out (by rw [step_leaf hnj, ← hb]; rfl)
              have e15 : (κ != 15) = true := by simp; omega
              have e16 : (κ != 16) = true := by simp; omega
              have hb_h := Lib.hid hb; have h17_h := Lib.hid h17; have hj_h := Lib.hid hj; have hnj_h := Lib.hid hnj; have hN_h := Lib.hid hN; have hx_h := Lib.hid hx; have hxx_h := Lib.hid hxx; have s1_h := Lib.hid s1; have s2_h := Lib.hid s2; have hB2_h := Lib.hid hB2; have hR1_h := Lib.hid hR1; have hR1'_h := Lib.hid hR1'; have kn_h := Lib.hid kn; have hB1_h := Lib.hid hB1; have hB1'_h := Lib.hid hB1'; clear hb h17 hj hnj hN hx hxx s1 s2 hB2 hR1 hR1' kn hB1 hB1'; clear hL hAr
              go_wp2_with (fail)
              refine bodyPost_ret (t_results_cell_tmp rfl _ _ (w.heap.size + 1) _ _ (0, 0) _ rfl s1_h.out Tryd.underlying160 rfl (by kernel_rfl)) rfl ?_
              exact LbA.no hN_h.out hB2_h.out
        · have hκ : ¬ κ = 17 ∧ ¬ isJoin (κ, v, s) := by
            have := leafB_kind hb.symm
            refine ⟨?_, this⟩
            have hb' := hb
            simp only [leafB] at hb'
            have := of_decide_eq_true hb'.symm
            omega
          have h17 : (κ == 17) = false := by simp [hκ.1]
          have hpm := parse_more hR1.par hn_h.out (by rw [step_leaf hκ.2, ← hb]; rfl)
          have hln := flats_len hR1.par (by rw [← hm_h.out]; omega)
          obtain ⟨l0, l1, l2⟩ := lists_leaf (κ, v, s) st
          rw [hln] at l0
          have hb_h := Lib.hid hb; have hκ_h := Lib.hid hκ; have hpm_h := Lib.hid hpm; have hln_h := Lib.hid hln; have l0_h := Lib.hid l0; have l1_h := Lib.hid l1; have l2_h := Lib.hid l2; have hR1_h := Lib.hid hR1; have kn_h := Lib.hid kn; have hB1_h := Lib.hid hB1; have hB1'_h := Lib.hid hB1'; clear hb hκ hpm hln l0 l1 l2 hR1 kn hB1 hB1'
          go_wp2_with (fail)
          refine (hAr.out _).mono ?_
          rintro e w2 ⟨rfl, hB2⟩
          have hR2 := hR1_h.out.below hB2
          obtain ⟨⟨x0, x1, x2⟩, y0, y1, y2⟩ := t_box3 hR2.th.box
          have kn2 := t_box_below kn_h.out hB2
          obtain ⟨⟨d0, d1, d2⟩, g0, g1, g2⟩ := t_box3 kn2
          have hR2_h := Lib.hid hR2; have kn2_h := Lib.hid kn2; have hB2_h := Lib.hid hB2; clear hR2 kn2 hB2; clear hL hAr
          go_upto_region 15 with (at_builtin; refine wpList_append1 rfl _ _ _ rfl tInt Tryd.underlying33 info_int rfl (by omega) rfl hR2_h.out.th.f rfl rfl rfl (by simp [Value.oneCell']) (by omega) (by omega) ?_; intro A0' c0' w3 hs0 hA0 hk0; have ht0 := hR2_h.out.th.app0 hs0 hA0 hk0; clear hs0 hA0 hk0 x0 x1 x2 y0 y1 y2; obtain ⟨⟨x0, x1, x2⟩, y0, y1, y2⟩ := t_box3 ht0.2.1; have ht0_h := Lib.hid ht0; clear ht0)
          have hT1 := ht0_h.out.1
          have hb1 := ht0_h.out.2.2 _ (Nat.le_refl _)
          clear ht0_h x0 x1 x2 y0 y1 y2 d0 d1 d2 g0 g1 g2
          generalize w3.setCell ⟨w.heap.size + 1 + 1, 0, none⟩ (.slice A0' (k + 1) c0') = w4 at hT1 hb1 ⊢
          obtain ⟨⟨x0, x1, x2⟩, y0, y1, y2⟩ := t_box3 hT1.box
          have hT1_h := Lib.hid hT1; have hb1_h := Lib.hid hb1; clear hT1 hb1
          go_upto_region 16 with (at_builtin; refine wpList_append1 rfl _ _ _ rfl tInt Tryd.underlying33 info_int rfl (by omega) rfl hT1_h.out.i rfl rfl rfl (by simp [Value.oneCell']) (by omega) (by omega) ?_; intro A1' c1' w5 hs0 hA0 hk0; have ht0 := hT1_h.out.app1 hs0 hA0 hk0; clear hs0 hA0 hk0 x0 x1 x2 y0 y1 y2; obtain ⟨⟨x0, x1, x2⟩, y0, y1, y2⟩ := t_box3 ht0.2.1; have ht0_h := Lib.hid ht0; clear ht0)
          have hT2 := ht0_h.out.1
          have hb2 := ht0_h.out.2.2 _ (Nat.le_refl _)
          clear ht0_h x0 x1 x2 y0 y1 y2
          generalize w5.setCell ⟨w.heap.size + 1 + 1, 1, none⟩ (.slice A1' (k + 1) c1') = w6 at hT2 hb2 ⊢
          obtain ⟨⟨x0, x1, x2⟩, y0, y1, y2⟩ := t_box3 hT2.box
          have hT2_h := Lib.hid hT2; have hb2_h := Lib.hid hb2; clear hT2 hb2
          go_wp2_with (at_builtin; refine wpList_append1 rfl _ _ _ rfl tInt Tryd.underlying33 info_int rfl (by omega) rfl hT2_h.out.o rfl rfl rfl (by simp [Value.oneCell']) (by omega) (by omega) ?_; intro A2' c2' w7 hs0 hA0 hk0; have ht0 := hT2_h.out.app2 hs0 hA0 hk0; clear hs0 hA0 hk0 x0 x1 x2 y0 y1 y2; obtain ⟨⟨x0, x1, x2⟩, y0, y1, y2⟩ := t_box3 ht0.2.1; have ht0_h := Lib.hid ht0; clear ht0)
          have hT3 := ht0_h.out.1
          have hb3 := ht0_h.out.2.2 _ (Nat.le_refl _)
          clear ht0_h x0 x1 x2 y0 y1 y2
          go_roundw
          case rel => exact ⟨k + 1, .leaf (κ, v, s) :: st, A0', A1', A2', c0', c1', c2', by omega, by go_num, hR2_h.out.step hpm_h.out hT3 l0_h.out.symm l1_h.out.symm l2_h.out.symm ((hb1_h.out.trans hb2_h.out).trans hb3)⟩
          case measure => simp [intOf]; omega
      · obtain rfl : k = m := by omega
        have hpar := hR.par
        rw [List.take_of_length_le (by rw [hm_h.out]; omega)] at hpar
        have hln := flats_len hR.par (by rw [← hm_h.out]; omega)
        obtain ⟨kq, rfl⟩ : ∃ kq, k = kq + 1 := ⟨k - 1, by omega⟩
        obtain ⟨t, r, rfl⟩ : ∃ t r, st = t :: r := by
          match st, hln with
          | [], h => simp [flats] at h
          | t :: r, _ => exact ⟨t, r, rfl⟩
        obtain ⟨i0, -, -⟩ := infos_at t r hln
        rw [Nat.add_sub_cancel] at i0
        obtain ⟨f, hf⟩ : ∃ f, f = (flats r).length := ⟨_, rfl⟩
        rw [← hf] at i0
        obtain ⟨ad0, hA0, hlt0, cf, _⟩ := Sl.cell hR.th.f (ints_get i0)
        subst hA0
        have hres : treeM l = oneOf (t :: r) := treeM_of ⟨by rw [← hm_h.out]; omega, by rw [← hm_h.out]; omega⟩ hpar
        have hone : ((f : Int) == 0) = (oneOf (t :: r)).isSome := by
          match r, hf with
          | [], h => subst h; rfl
          | a :: r', h =>
            have := sz_pos a
            unfold sz at this
            have hb : ((f : Int) == 0) = false := by
              simp only [beq_eq_false_iff_ne]
              simp only [flats, List.length_append] at h
              omega
            rw [hb]; rfl
        have hkc : (kq : Int) < (kq : Int) + 1 := by omega
        have hk0 : (0 : Int) ≤ (kq : Int) := by omega
        have i0_h := Lib.hid i0; have hf_h := Lib.hid hf; have hres_h := Lib.hid hres; have hone_h := Lib.hid hone; have hpar_h := Lib.hid hpar; have hln_h := Lib.hid hln; clear i0 hf hres hone hpar hln; clear h
        go_wp2_with (fail)
        refine beginZw 11 (fun w' => w'.heap[w.heap.size + 1 + 1]? = some (.cells #[.slice (some ad0) (kq + 1) c0, .slice A1 (kq + 1) c1, .slice A2 (kq + 1) c2] tInfo) ∧ w'.heap[w.heap.size]? = some (.cells #[.slice A (kq + 1) c] tTerm) ∧ w'.cell? (ad0.add kq) = some (.int .i64 (f : Int))) (by kernel_rfl) (fun W1 hW1 => ?_)
        have hR3 : LbR w.heap.size w A (kq + 1) c l (kq + 1) (t :: r) (some ad0) A1 A2 c0 c1 c2 W1 := by rw [hW1]; exact hR.below (below_drew (Below.refl _ _))
        have cf1 : W1.cell? (ad0.add kq) = some (.int .i64 (f : Int)) := by rw [hW1]; exact cf
        have hF := And.intro hR3.th.box (And.intro hR3.kb cf1)
        clear hW1
        have hx := hR3.kr
        have hxl := t_box_lt hx
        obtain ⟨s1, s2⟩ := t_set3 (a := .slice (some ad0) (kq + 1) c0) (b := .slice A1 (kq + 1) c1) (c := .slice A2 (kq + 1) c2) hx
        have hFs := And.intro (t_box_keeps hR3.th.box s2 (by omega)) (And.intro (t_box_keeps hR3.kb s2 (by omega)) ((World.cell?_of_block (a := ad0.add kq) (s2.block _ (by rw [block_of_add]; exact hR3.th.f.lt _ (by simp)) (fun e => by rw [block_of_add] at e; have := hR3.th.fr ad0.block (.inl (by simp)); omega))).trans cf1))
        have hB2 := below_keeps hR3.bel s2 (by omega) (fun k hk => by omega)
        obtain ⟨⟨r0, r1, r2⟩, q0, q1, q2⟩ := t_box3 hx
        have hrd : ∀ t', treeM l = some t' → kq + 1 = sz t' ∧ kq + 1 = sz t' ∧ kq + 1 = sz t' ∧ RdC (((W1.setCell ⟨w.heap.size + 1, 0, none⟩ (.slice (some ad0) (kq + 1) c0)).setCell ⟨w.heap.size + 1, 1, none⟩ (.slice A1 (kq + 1) c1)).setCell ⟨w.heap.size + 1, 2, none⟩ (.slice A2 (kq + 1) c2)) (some ad0) (ints (frL [t'])) ∧ RdC (((W1.setCell ⟨w.heap.size + 1, 0, none⟩ (.slice (some ad0) (kq + 1) c0)).setCell ⟨w.heap.size + 1, 1, none⟩ (.slice A1 (kq + 1) c1)).setCell ⟨w.heap.size + 1, 2, none⟩ (.slice A2 (kq + 1) c2)) A1 (ints (inL [t'])) ∧ RdC (((W1.setCell ⟨w.heap.size + 1, 0, none⟩ (.slice (some ad0) (kq + 1) c0)).setCell ⟨w.heap.size + 1, 1, none⟩ (.slice A1 (kq + 1) c1)).setCell ⟨w.heap.size + 1, 2, none⟩ (.slice A2 (kq + 1) c2)) A2 (ints (ouL [t'])) ∧ ∀ b, b ∈ fpA (some ad0) ∨ b ∈ fpA A1 ∨ b ∈ fpA A2 → w.heap.size ≤ b := by
          intro t' ht'
          rw [hres_h.out] at ht'
          have e := oneOf_some ht'
          rw [e] at hR3 hln_h
          have hlen : kq + 1 = sz t' := by have := hln_h.out; simpa [flats, sz] using this.symm
          have ff := fun b hb e => (show ¬ b = w.heap.size + 1 from fun e => by have := hR3.th.fr b hb; omega) e
          exact ⟨hlen, hlen, hlen, (hR3.th.f.keeps s2 (fun b hb => ff b (.inl hb))).rdc, (hR3.th.i.keeps s2 (fun b hb => ff b (.inr (.inl hb)))).rdc, (hR3.th.o.keeps s2 (fun b hb => ff b (.inr (.inr hb)))).rdc, fun b hb => by have := hR3.th.fr b hb; omega⟩
        have hR3_h := Lib.hid hR3; have cf1_h := Lib.hid cf1; have hF_h := Lib.hid hF; have hFs_h := Lib.hid hFs; have hx_h := Lib.hid hx; have s1_h := Lib.hid s1; have s2_h := Lib.hid s2; have hB2_h := Lib.hid hB2; have hR_h := Lib.hid hR; have cf_h := Lib.hid cf; have hrd_h := Lib.hid hrd; clear hR3 cf1 hF hFs hx s1 s2 hB2 hR cf hrd
        refine takeZ 0 (v := ?_) rfl (by kernel_rfl) (by kernel_rfl) (by kernel_rfl) (by kernel_rfl) (by kernel_rfl) (fun _ _ _ h => h) hF_h.out (by rfl) (fun W' hW' => ?_) ?_; rotate_left; · (obtain ⟨⟨x0, x1, x2⟩, y0, y1, y2⟩ := t_box3 hW'.1; have z0 : W'.cell? ⟨w.heap.size, 0, none⟩ = some (.slice A (kq + 1) c) := (by simp [World.cell?, hW'.2.1]); have e1 := hW'.2.2; have r0 : IntKind.i64.wrap (kq : Int) = (kq : Int) := IntWalk.i64_in _ (by omega); clear hW'; go_simp; first | done | with_reducible rfl)
        simp only [Act.put, nS1, nS2, nS3]
        refine takeZ 1 (v := ?_) rfl (by kernel_rfl) (by kernel_rfl) (by kernel_rfl) (by kernel_rfl) (by kernel_rfl) (fun _ _ _ h => h) hF_h.out (by rfl) (fun W' hW' => ?_) ?_; rotate_left; · (obtain ⟨⟨x0, x1, x2⟩, y0, y1, y2⟩ := t_box3 hW'.1; have z0 : W'.cell? ⟨w.heap.size, 0, none⟩ = some (.slice A (kq + 1) c) := (by simp [World.cell?, hW'.2.1]); have e1 := hW'.2.2; have r0 : IntKind.i64.wrap (kq : Int) = (kq : Int) := IntWalk.i64_in _ (by omega); clear hW'; go_simp; first | done | with_reducible rfl)
        simp only [Act.put, nS1, nS2, nS3]
        refine takeZ 2 (v := ?_) rfl (by kernel_rfl) (by kernel_rfl) (by kernel_rfl) (by kernel_rfl) (by kernel_rfl) (fun _ _ _ h => h) hF_h.out (by rfl) (fun W' hW' => ?_) ?_; rotate_left; · (obtain ⟨⟨x0, x1, x2⟩, y0, y1, y2⟩ := t_box3 hW'.1; have z0 : W'.cell? ⟨w.heap.size, 0, none⟩ = some (.slice A (kq + 1) c) := (by simp [World.cell?, hW'.2.1]); have e1 := hW'.2.2; have r0 : IntKind.i64.wrap (kq : Int) = (kq : Int) := IntWalk.i64_in _ (by omega); clear hW'; go_simp; first | done | with_reducible rfl)
        simp only [Act.put, nS1, nS2, nS3]
        refine takeZ 3 (v := ?_) rfl (by kernel_rfl) (by kernel_rfl) (by kernel_rfl) (by kernel_rfl) (by kernel_rfl) (fun _ _ _ h => h) hF_h.out (by rfl) (fun W' hW' => ?_) ?_; rotate_left; · (obtain ⟨⟨x0, x1, x2⟩, y0, y1, y2⟩ := t_box3 hW'.1; have z0 : W'.cell? ⟨w.heap.size, 0, none⟩ = some (.slice A (kq + 1) c) := (by simp [World.cell?, hW'.2.1]); have e1 := hW'.2.2; have r0 : IntKind.i64.wrap (kq : Int) = (kq : Int) := IntWalk.i64_in _ (by omega); clear hW'; go_simp; first | done | with_reducible rfl)
        simp only [Act.put, nS1, nS2, nS3]
        refine takeZ 4 (v := ?_) rfl (by kernel_rfl) (by kernel_rfl) (by kernel_rfl) (by kernel_rfl) (by kernel_rfl) (fun _ _ _ h => h) hF_h.out (by rfl) (fun W' hW' => ?_) ?_; rotate_left; · (obtain ⟨⟨x0, x1, x2⟩, y0, y1, y2⟩ := t_box3 hW'.1; have z0 : W'.cell? ⟨w.heap.size, 0, none⟩ = some (.slice A (kq + 1) c) := (by simp [World.cell?, hW'.2.1]); have e1 := hW'.2.2; have r0 : IntKind.i64.wrap (kq : Int) = (kq : Int) := IntWalk.i64_in _ (by omega); clear hW'; go_simp; first | done | with_reducible rfl)
        simp only [Act.put, nS1, nS2, nS3]
        refine takeZ 5 (v := ?_) rfl (by kernel_rfl) (by kernel_rfl) (by kernel_rfl) (by kernel_rfl) (by kernel_rfl) (fun _ _ _ h => h) hF_h.out (by rfl) (fun W' hW' => ?_) ?_; rotate_left; · (obtain ⟨⟨x0, x1, x2⟩, y0, y1, y2⟩ := t_box3 hW'.1; have z0 : W'.cell? ⟨w.heap.size, 0, none⟩ = some (.slice A (kq + 1) c) := (by simp [World.cell?, hW'.2.1]); have e1 := hW'.2.2; have r0 : IntKind.i64.wrap (kq : Int) = (kq : Int) := IntWalk.i64_in _ (by omega); clear hW'; go_simp; first | done | with_reducible rfl)
        simp only [Act.put, nS1, nS2, nS3]
        refine takeZ 6 (v := ?_) rfl (by kernel_rfl) (by kernel_rfl) (by kernel_rfl) (by kernel_rfl) (by kernel_rfl) (fun _ _ _ h => h) hF_h.out (by rfl) (fun W' hW' => ?_) ?_; rotate_left; · (obtain ⟨⟨x0, x1, x2⟩, y0, y1, y2⟩ := t_box3 hW'.1; have z0 : W'.cell? ⟨w.heap.size, 0, none⟩ = some (.slice A (kq + 1) c) := (by simp [World.cell?, hW'.2.1]); have e1 := hW'.2.2; have r0 : IntKind.i64.wrap (kq : Int) = (kq : Int) := IntWalk.i64_in _ (by omega); clear hW'; go_simp; first | done | with_reducible rfl)
        simp only [Act.put, nS1, nS2, nS3]
        refine takeZ 7 (v := ?_) rfl (by kernel_rfl) (by kernel_rfl) (by kernel_rfl) (by kernel_rfl) (by kernel_rfl) (fun _ _ _ h => h) hF_h.out (by rfl) (fun W' hW' => ?_) ?_; rotate_left; · (obtain ⟨⟨x0, x1, x2⟩, y0, y1, y2⟩ := t_box3 hW'.1; have z0 : W'.cell? ⟨w.heap.size, 0, none⟩ = some (.slice A (kq + 1) c) := (by simp [World.cell?, hW'.2.1]); have e1 := hW'.2.2; have r0 : IntKind.i64.wrap (kq : Int) = (kq : Int) := IntWalk.i64_in _ (by omega); clear hW'; go_simp; first | done | with_reducible rfl)
        simp only [Act.put, nS1, nS2, nS3]
        refine takeZ 8 (v := ?_) rfl (by kernel_rfl) (by kernel_rfl) (by kernel_rfl) (by kernel_rfl) (by kernel_rfl) (fun _ _ _ h => h) hF_h.out (by rfl) (fun W' hW' => ?_) ?_; rotate_left; · (obtain ⟨⟨x0, x1, x2⟩, y0, y1, y2⟩ := t_box3 hW'.1; have z0 : W'.cell? ⟨w.heap.size, 0, none⟩ = some (.slice A (kq + 1) c) := (by simp [World.cell?, hW'.2.1]); have e1 := hW'.2.2; have r0 : IntKind.i64.wrap (kq : Int) = (kq : Int) := IntWalk.i64_in _ (by omega); clear hW'; go_simp; first | done | with_reducible rfl)
        simp only [Act.put, nS1, nS2, nS3]
        refine takeZ 9 (v := ?_) rfl (by kernel_rfl) (by kernel_rfl) (by kernel_rfl) (by kernel_rfl) (by kernel_rfl) (fun _ _ _ h => h) hF_h.out (by rfl) (fun W' hW' => ?_) ?_; rotate_left; · (obtain ⟨⟨x0, x1, x2⟩, y0, y1, y2⟩ := t_box3 hW'.1; have z0 : W'.cell? ⟨w.heap.size, 0, none⟩ = some (.slice A (kq + 1) c) := (by simp [World.cell?, hW'.2.1]); have e1 := hW'.2.2; have r0 : IntKind.i64.wrap (kq : Int) = (kq : Int) := IntWalk.i64_in _ (by omega); clear hW'; go_simp; first | done | with_reducible rfl)
        simp only [Act.put, nS1, nS2, nS3]
        refine oneZ 10 rfl (by kernel_rfl) (by rfl) (fun K hK => ?_)
        go_simp
        refine hK _ _ (fun _ => hFs_h.out) ?_
        clear hK K
        refine oneZ 11 rfl (by kernel_rfl) (by rfl) (fun K hK => ?_)
        go_simp
        refine hK _ _ (fun h => by cases h) ?_
        clear hK K
        refine doneZ (by kernel_rfl) ?_
        go_wp2_with (fail)
        refine bodyPost_ret (t_results_cell_tmp rfl _ _ (w.heap.size + 1) _ _ (0, 0) _ rfl s1_h.out Tryd.underlying160 rfl (by kernel_rfl)) rfl ?_
        exact ⟨some ad0, A1, A2, c0, c1, c2, kq + 1, kq + 1, kq + 1, ((f : Int) == 0), rfl, by rw [hone_h.out, hres_h.out], hrd_h.out, hB2_h.out⟩
end Go.Proofs.YtahnhblodfdfhaaDoor
namespace Go.Proofs.YtahnhblodfdfhaaDoor
open Go.RowKit
theorem RdC.keeps {w w' : World} {A : Option Addr} {xs : List Value} (h : RdC w A xs) {S : Nat → Prop} (hk : Keeps S w w') (hS : ∀ b, b ∈ fpA A → ¬ S b) : RdC w' A xs := fun j u hj => by
  obtain ⟨ad, hA, hc⟩ := h j u hj
  have hl := World.block_lt_of_cell? w _ hc
  rw [block_of_add] at hl
  exact ⟨ad, hA, (World.cell?_of_block (a := ad.add j) (by rw [block_of_add]; exact hk.block _ hl (hS _ (by simp [hA])))).trans hc⟩
set_option maxRecDepth 8000 in
set_option maxHeartbeats 1000000 in
theorem wires_any {v : Value} {l : List Nd} {w : World} (h : RdTm w v l) :
    Calls Tryd.prog 193 #[v] w (TyA l w) := by
  obtain ⟨A, c, rfl, h⟩ := h
  obtain ⟨W, hW⟩ : ∃ W, W = (w.alloc (.cells #[.slice A l.length c] tTerm)).alloc (.cells #[.int .i64 0, .int .i64 0] tWires) := ⟨_, rfl⟩
  obtain ⟨b0, k0, k1, -⟩ := two_boxes w (.cells #[.slice A l.length c] tTerm) (.cells #[.int .i64 0, .int .i64 0] tWires)
  rw [← hW] at b0 k0 k1
  have hC := typed_any A c l W (h.below b0)
  obtain ⟨m, hm⟩ : ∃ m, m = l.length := ⟨_, rfl⟩
  rw [← hm] at hC hW k0 ⊢
  have b0_h := Lib.hid b0; have k0_h := Lib.hid k0; have k1_h := Lib.hid k1; have hC_h := Lib.hid hC; have hm_h := Lib.hid hm; clear b0 k0 k1 hC hm; clear h
  go_enter Tryd.func193, Tryd.ntmps193
  go_wp2_with (fail)
  rw [← hW]
  clear hW
  refine (hC_h.out).mono ?_
  rintro e w1 ⟨i, o, b, rfl, hb, ht, hb1⟩
  have hx := t_box_below k1_h.out hb1
  have hxl := t_box_lt hx
  obtain ⟨⟨c0, c1⟩, f0, f1⟩ := t_box2 hx
  obtain ⟨s1, s2⟩ := t_set2 (a := .int .i64 i) (b := .int .i64 o) hx
  have hB2 := below_keeps (below_trans b0_h.out hb1 b0_h.out.size) s2 (by omega) (fun k hk => by omega)
  have hx_h := Lib.hid hx; have hb_h := Lib.hid hb; have ht_h := Lib.hid ht; have hb1_h := Lib.hid hb1; have s1_h := Lib.hid s1; have s2_h := Lib.hid s2; have hB2_h := Lib.hid hB2; clear hx hb ht hb1 s1 s2 hB2; clear k0_h k1_h b0_h hC_h
  go_wp2_with (fail)
  refine bodyPost_ret (t_results_cell_tmp rfl _ _ (w.heap.size + 1) _ _ (0, 0) _ rfl s1_h.out Tryd.underlying182 rfl (by kernel_rfl)) rfl ?_
  exact ⟨i, o, b, rfl, hb_h.out, ht_h.out, hB2_h.out⟩
theorem isValid_any {v : Value} {l : List Nd} {w : World} (h : RdTm w v l) :
    Calls Tryd.prog 178 #[v] w fun e w' => ∃ b, e = .returned (.bool b) ∧ b = (treeM l).isSome ∧ Below w.heap.size w w' := by
  obtain ⟨A, c, rfl, h⟩ := h
  have hb0 := t_below_alloc w (.cells #[.slice A l.length c] tTerm)
  have hC := wires_any (v := .agg #[.slice A l.length c]) (l := l) (w := w.alloc (.cells #[.slice A l.length c] tTerm)) ⟨A, c, rfl, h.below hb0⟩
  obtain ⟨m, hm⟩ : ∃ m, m = l.length := ⟨_, rfl⟩
  rw [← hm] at hC hb0 ⊢
  have hC_h := Lib.hid hC; have hm_h := Lib.hid hm; have hb0_h := Lib.hid hb0; clear hC hm hb0; clear h
  go_enter Tryd.func178, Tryd.ntmps178
  go_wp2_with (fail)
  refine (hC_h.out).mono ?_
  rintro e w1 ⟨i, o, b, rfl, hb, ht, hb1⟩
  have hb_h := Lib.hid hb; have ht_h := Lib.hid ht; have hb1_h := Lib.hid hb1; clear hb ht hb1
  go_wp2_with (fail)
  go_ret
  exact ⟨b, rfl, hb_h.out, below_trans (below_trans hb0_h.out hb1_h.out hb0_h.out.size) (t_below_alloc _ _) (Nat.le_trans hb0_h.out.size hb1_h.out.size)⟩
set_option maxRecDepth 8000 in
set_option maxHeartbeats 1000000 in
theorem tmScan_any {v : Value} {l : List Nd} {w : World} (h : RdTm w v l) :
    Calls Tryd.prog 146 #[v] w (LbA l w) := by
  obtain ⟨A, c, rfl, h⟩ := h
  obtain ⟨W, hW⟩ : ∃ W, W = (w.alloc (.cells #[.slice A l.length c] tTerm)).alloc (.cells #[.slice none 0 0, .slice none 0 0, .slice none 0 0] tInfo) := ⟨_, rfl⟩
  obtain ⟨b0, k0, k1, -⟩ := two_boxes w (.cells #[.slice A l.length c] tTerm) (.cells #[.slice none 0 0, .slice none 0 0, .slice none 0 0] tInfo)
  rw [← hW] at b0 k0 k1
  have hC := lbScan_any A c l W (h.below b0)
  obtain ⟨m, hm⟩ : ∃ m, m = l.length := ⟨_, rfl⟩
  rw [← hm] at hC hW k0 ⊢
  have b0_h := Lib.hid b0; have k0_h := Lib.hid k0; have k1_h := Lib.hid k1; have hC_h := Lib.hid hC; have hm_h := Lib.hid hm; clear b0 k0 k1 hC hm; clear h
  go_enter Tryd.func146, Tryd.ntmps146
  go_wp2_with (fail)
  rw [← hW]
  clear hW
  refine (hC_h.out).mono ?_
  rintro e w1 ⟨A0, A1, A2, c0, c1, c2, n0, n1, n2, b, rfl, hb, ht, hb1⟩
  have hx := t_box_below k1_h.out hb1
  have hxl := t_box_lt hx
  obtain ⟨⟨x0, x1, x2⟩, f0, f1, f2⟩ := t_box3 hx
  obtain ⟨s1, s2⟩ := t_set3 (a := .slice A0 n0 c0) (b := .slice A1 n1 c1) (c := .slice A2 n2 c2) hx
  have hB2 := below_keeps (below_trans b0_h.out hb1 b0_h.out.size) s2 (by omega) (fun k hk => by omega)
  have hrd : ∀ t, treeM l = some t → n0 = sz t ∧ n1 = sz t ∧ n2 = sz t ∧ RdC (((w1.setCell ⟨w.heap.size + 1, 0, none⟩ (.slice A0 n0 c0)).setCell ⟨w.heap.size + 1, 1, none⟩ (.slice A1 n1 c1)).setCell ⟨w.heap.size + 1, 2, none⟩ (.slice A2 n2 c2)) A0 (ints (frL [t])) ∧ RdC (((w1.setCell ⟨w.heap.size + 1, 0, none⟩ (.slice A0 n0 c0)).setCell ⟨w.heap.size + 1, 1, none⟩ (.slice A1 n1 c1)).setCell ⟨w.heap.size + 1, 2, none⟩ (.slice A2 n2 c2)) A1 (ints (inL [t])) ∧ RdC (((w1.setCell ⟨w.heap.size + 1, 0, none⟩ (.slice A0 n0 c0)).setCell ⟨w.heap.size + 1, 1, none⟩ (.slice A1 n1 c1)).setCell ⟨w.heap.size + 1, 2, none⟩ (.slice A2 n2 c2)) A2 (ints (ouL [t])) ∧ ∀ b, b ∈ fpA A0 ∨ b ∈ fpA A1 ∨ b ∈ fpA A2 → w.heap.size ≤ b := by
    intro t h
    obtain ⟨a1, a2, a3, a4, a5, a6, a7⟩ := ht t h
    have hW2 := t_box_lt k1_h.out
    exact ⟨a1, a2, a3, a4.keeps s2 (fun b hb e => by have := a7 b (.inl hb); omega), a5.keeps s2 (fun b hb e => by have := a7 b (.inr (.inl hb)); omega), a6.keeps s2 (fun b hb e => by have := a7 b (.inr (.inr hb)); omega), fun b hb => Nat.le_trans b0_h.out.size (a7 b hb)⟩
  have hx_h := Lib.hid hx; have hb_h := Lib.hid hb; have ht_h := Lib.hid ht; have hb1_h := Lib.hid hb1; have s1_h := Lib.hid s1; have s2_h := Lib.hid s2; have hB2_h := Lib.hid hB2; have hrd_h := Lib.hid hrd; clear hx hb ht hb1 s1 s2 hB2 hrd; clear k0_h k1_h b0_h hC_h
  go_wp2_with (fail)
  refine bodyPost_ret (t_results_cell_tmp rfl _ _ (w.heap.size + 1) _ _ (0, 0) _ rfl s1_h.out Tryd.underlying160 rfl (by kernel_rfl)) rfl ?_
  exact ⟨A0, A1, A2, c0, c1, c2, n0, n1, n2, b, rfl, hb_h.out, hrd_h.out, hB2_h.out⟩
end Go.Proofs.YtahnhblodfdfhaaDoor
namespace Go.Proofs.YtahnhblodfdfhaaDoor
open Go.RowKit
abbrev tNdL : TypeId := 66
set_option maxHeartbeats 400000 in
theorem szNode_any (k v : Int) (s : ByteArray) (left : Int) (w : World) (h0 : 0 ≤ left) (h1 : left ≤ 1048576) (hs : s.size ≤ maxLen) :
    Calls Tryd.prog 38 #[.agg #[.int .i64 k, .int .i64 v, .string s], .int .i64 left] w fun e w' => e = .returned (.int .i64 (if left - s.size < 0 then -1 else left - s.size)) ∧ Below w.heap.size w w' := by
  unfold maxLen at hs
  obtain ⟨z, hz⟩ : ∃ z, z = s.size := ⟨_, rfl⟩
  by_cases hl : left - s.size < 0
  · rw [if_pos hl]
    go_enter Tryd.func38, Tryd.ntmps38
    go_wp2_with (fail)
    go_ret
    exact ⟨rfl, t_below_alloc _ _⟩
  · rw [if_neg hl]
    go_enter Tryd.func38, Tryd.ntmps38
    go_wp2_with (fail)
    go_ret
    exact ⟨rfl, t_below_alloc _ _⟩
set_option maxHeartbeats 400000 in
theorem toNode_any (k v : Int) (s : ByteArray) (w : World) :
    Calls Tryd.prog 40 #[.agg #[.int .i64 k, .int .i64 v, .string s]] w fun e w' => e = .returned (.agg #[.int .i64 k, .int .i64 v, .string s]) ∧ Below w.heap.size w w' := by
  go_enter Tryd.func40, Tryd.ntmps40
  go_wp2_with (fail)
  refine bodyPost_ret (v := .agg #[.int .i64 k, .int .i64 v, .string s]) (by simp [results, Tryd.results40, go_sem]) rfl ⟨rfl, ?_⟩
  exact (((Below.refl _ _).alloc (Nat.le_refl _) _).alloc (by simp) _).alloc (by simp; omega) _
end Go.Proofs.YtahnhblodfdfhaaDoor
namespace Go.Proofs.YtahnhblodfdfhaaDoor
open Go.RowKit
theorem NS.set {w : World} {A : Option Addr} {cap : Nat} {l : List Nd} (h : NS w A cap l) {ad : Addr} (hA : A = some ad) {j : Nat} (k v : Int) (s : ByteArray) (hj : j < l.length) :
    NS (((w.setCell (ad.add (j * 3)) (.int .i64 k)).setCell ⟨(ad.add (j * 3)).block, (ad.add (j * 3)).off + 1, none⟩ (.int .i64 v)).setCell ⟨(ad.add (j * 3)).block, (ad.add (j * 3)).off + 2, none⟩ (.string s)) A cap (l.set j (k, v, s)) ∧
    Keeps (· ∈ fpA A) w (((w.setCell (ad.add (j * 3)) (.int .i64 k)).setCell ⟨(ad.add (j * 3)).block, (ad.add (j * 3)).off + 1, none⟩ (.int .i64 v)).setCell ⟨(ad.add (j * 3)).block, (ad.add (j * 3)).off + 2, none⟩ (.string s)) := by
  have hl : (ncs l).length = l.length * 3 := ncs_length l
  have s1 := Sl.set h hA (j * 3) (.int .i64 k) (by omega)
  have s2 := Sl.set s1 hA (j * 3 + 1) (.int .i64 v) (by rw [List.length_set]; omega)
  have s3 := Sl.set s2 hA (j * 3 + 2) (.string s) (by rw [List.length_set, List.length_set]; omega)
  have e := ncs_set (l := l) (j := j) (k, v, s) hj
  simp only at e
  rw [e, add_next ad (j * 3) 1 (by omega), add_next ad (j * 3) 2 (by omega)] at s3
  refine ⟨by unfold NS; rw [List.length_set]; exact s3, ?_⟩
  have hb : (ad.add (j * 3)).block ∈ fpA A := by rw [block_of_add, hA]; simp
  exact (((Keeps.refl _ w).setCell (p := ad.add (j * 3)) hb _).setCell (p := ⟨(ad.add (j * 3)).block, (ad.add (j * 3)).off + 1, none⟩) hb _).setCell (p := ⟨(ad.add (j * 3)).block, (ad.add (j * 3)).off + 2, none⟩) hb _
theorem NS.free {w : World} {A : Option Addr} {cap : Nat} {l : List Nd} (h : NS w A cap l) {j : Nat} (hj : j < l.length) : ∃ ad, A = some ad ∧ w.frozen? (ad.add (j * 3)) = false ∧ w.frozen? ⟨(ad.add (j * 3)).block, (ad.add (j * 3)).off + 1, none⟩ = false ∧ w.frozen? ⟨(ad.add (j * 3)).block, (ad.add (j * 3)).off + 2, none⟩ = false := by
  obtain ⟨ad, hA, _, hf⟩ := h.at_ hj
  refine ⟨ad, hA, hf _, ?_, ?_⟩
  · rw [← add_next ad (j * 3) 1 (by omega)]; exact hf _
  · rw [← add_next ad (j * 3) 2 (by omega)]; exact hf _
end Go.Proofs.YtahnhblodfdfhaaDoor
namespace Go.Proofs.YtahnhblodfdfhaaDoor
open Go.RowKit
theorem bx1 {w : World} {B : Nat} {x : Value} {t : TypeId} (h : w.heap[B]? = some (.cells #[x] t)) : w.cell? ⟨B, 0, none⟩ = some x ∧ w.frozen? ⟨B, 0, none⟩ = false := by simp [World.cell?, World.frozen?, h]
end Go.Proofs.YtahnhblodfdfhaaDoor
namespace Go.Proofs.YtahnhblodfdfhaaDoor
open Go.RowKit
def overB (p : Int) (n : Nd) : Bool := !(hvB n.1 && decide (p ≤ n.2.1))
def goodM (p : Int) (l : List Nd) : Bool := fieldB p && ((treeM l).isSome && l.all (overB p))
theorem goodM_nf {p : Int} {l : List Nd} (h : fieldB p = false) : goodM p l = false := by simp [goodM, h]
theorem goodM_nt {p : Int} {l : List Nd} (h : treeM l = none) : goodM p l = false := by simp [goodM, h]
theorem goodM_all {p : Int} {l : List Nd} {t : Tr} (h : fieldB p = true) (h' : treeM l = some t) : goodM p l = l.all (overB p) := by simp [goodM, h, h']
theorem all_no {p : Int} {l : List Nd} {k : Nat} {n : Nd} (h : l[k]? = some n) (hn : overB p n = false) : l.all (overB p) = false := by
  rw [List.all_eq_false]
  exact ⟨n, List.mem_of_getElem? h, by simp [hn]⟩
theorem all_yes {p : Int} {l : List Nd} (h : ∀ j n, l[j]? = some n → j < l.length → overB p n = true) : l.all (overB p) = true := by
  rw [List.all_eq_true]
  intro n hn
  obtain ⟨j, hj⟩ := List.mem_iff_getElem?.1 hn
  exact h j n hj (List.getElem?_eq_some_iff.1 hj).1
set_option maxRecDepth 8000 in
set_option maxHeartbeats 2000000 in
theorem isOver_any (p : Int) {v : Value} {l : List Nd} {w : World} (h : RdTm w v l) (hT : Tab w) :
    Calls Tryd.prog 150 #[v, .int .i64 p] w fun e w' => e = .returned (.bool (goodM p l)) ∧ Below w.heap.size w w' := by
  obtain ⟨A, c, rfl, h⟩ := h
  obtain ⟨m, hm⟩ : ∃ m, m = l.length := ⟨_, rfl⟩
  obtain ⟨W, hW⟩ : ∃ W, W = w.alloc (.cells #[.slice A m c] tTerm) := ⟨_, rfl⟩
  have b0 := t_below_alloc w (.cells #[.slice A m c] tTerm)
  have k0 := heap_alloc_new w (.cells #[.slice A m c] tTerm)
  rw [← hW] at b0 k0
  have hr := h.below b0
  have hI := isField_any p W (hT.below b0 hT.lt)
  have hC := isValid_any (v := .agg #[.slice A m c]) (l := l) (w := W) ⟨A, c, by rw [hm], hr⟩
  rw [← hm]
  obtain ⟨F, hF⟩ : ∃ F, F = fieldB p := ⟨_, rfl⟩
  obtain ⟨G, hG⟩ : ∃ G, G = goodM p l := ⟨_, rfl⟩
  rw [← hF] at hI
  rw [← hG]
  clear h; have b0_h := Lib.hid b0; have k0_h := Lib.hid k0; have hr_h := Lib.hid hr; have hI_h := Lib.hid hI; have hC_h := Lib.hid hC; have hF_h := Lib.hid hF; have hG_h := Lib.hid hG; have hm_h := Lib.hid hm; have hT_h := Lib.hid hT; clear b0 k0 hr hI hC hF hG hm hT
  obtain ⟨k0_c, k0_f⟩ := bx1 k0_h.out
  cases F
  case false =>
    obtain rfl : G = false := by rw [hG_h.out]; exact goodM_nf hF_h.out.symm
    go_enter Tryd.func150, Tryd.ntmps150
    go_wp2_with (fail)
    rw [← hW]
    clear hW
    refine (hI_h.out).mono ?_
    rintro e w' ⟨rfl, rfl⟩
    go_wp2_with (fail)
    go_ret
    exact ⟨rfl, b0_h.out⟩
  case true =>
  go_enter Tryd.func150, Tryd.ntmps150
  go_wp2_with (fail)
  rw [← hW]
  clear hW
  refine (hI_h.out).mono ?_
  rintro e w' ⟨rfl, rfl⟩
  go_wp2_with (fail)
  refine (hC_h.out).mono ?_
  rintro e w1 ⟨b, rfl, hb, hb1⟩
  clear k0_c k0_f
  have hB1 := below_trans b0_h.out hb1 b0_h.out.size
  replace k0_h := Lib.hid (t_box_below k0_h.out hb1)
  have hr1 := hr_h.out.below hb1
  cases b
  · have hN : treeM l = none := by cases h : treeM l with | none => rfl | some t => rw [h] at hb; cases hb
    obtain rfl : G = false := by rw [hG_h.out]; exact goodM_nt hN
    have hb_h := Lib.hid hb; have hN_h := Lib.hid hN; have hB1_h := Lib.hid hB1; have hb1_h := Lib.hid hb1; have hr1_h := Lib.hid hr1; clear hb hN hB1 hb1 hr1
    go_wp2_with (fail)
    go_ret
    exact ⟨rfl, hB1_h.out⟩
  · obtain ⟨t, hN⟩ : ∃ t, treeM l = some t := by cases h : treeM l with | none => rw [h] at hb; cases hb | some t => exact ⟨t, rfl⟩
    have hGe : G = l.all (overB p) := by rw [hG_h.out]; exact goodM_all hF_h.out.symm hN
    have hm4 : m ≤ 400 := by rw [hm_h.out, (treeM_some hN).1]; exact (treeM_some hN).2.2
    obtain ⟨k0_c, k0_f⟩ := bx1 k0_h.out
    have hb_h := Lib.hid hb; have hN_h := Lib.hid hN; have hB1_h := Lib.hid hB1; have hb1_h := Lib.hid hb1; have hr1_h := Lib.hid hr1; have hGe_h := Lib.hid hGe; clear hb hN hB1 hb1 hr1 hGe
    go_wp2_with (fail)
    go_loopw [18] (fun iv wr => ∃ k : Nat, k ≤ m ∧ iv = .int .i64 k ∧ (∀ j n, l[j]? = some n → j < k → overB p n = true) ∧ Below w.heap.size w wr ∧ Below w1.heap.size w1 wr) (fun iv _ => m - (intOf iv).toNat)
    case atStart => exact ⟨0, Nat.zero_le _, rfl, fun _ _ _ h => absurd h (Nat.not_lt_zero _), hB1_h.out, Below.refl _ _⟩
    case round =>
      obtain ⟨k, hk, rfl, hall, hB, hb2⟩ := hrel
      clear k0_c k0_f
      by_cases hlt : k < m
      · obtain ⟨ad, κ, v, s, rfl, hn, d0, d1, d2⟩ := (hr1_h.out.below hb2).at_ (j := k) (by rw [← hm_h.out]; exact hlt)
        have hkI : (k : Int) < (m : Int) := by omega
        obtain ⟨H, hH⟩ : ∃ H, H = hvB κ := ⟨_, rfl⟩
        have hV := fun W => hasValue_any κ W
        rw [← hH] at hV
        have hba := t_below_alloc wr (.cells #[.int .i64 κ, .int .i64 v, .string s] tNd)
        have hB2 := below_trans hB hba hB.size
        have hb3 := below_trans hb2 hba hb2.size
        have hn_h := Lib.hid hn; have hH_h := Lib.hid hH; have hV_h := Lib.hid hV; have hall_h := Lib.hid hall; have hB_h := Lib.hid hB; have hb2_h := Lib.hid hb2; have hba_h := Lib.hid hba; have hB2_h := Lib.hid hB2; have hb3_h := Lib.hid hb3; clear hn hH hV hall hB hb2 hba hB2 hb3
        by_cases ho : overB p (κ, v, s) = true
        · have hall2 : ∀ j n, l[j]? = some n → j < k + 1 → overB p n = true := fun j n hj hlt' => by
            by_cases e : j = k
            · subst e
              rw [hn_h.out] at hj
              rw [← Option.some.inj hj]; exact ho
            · exact hall_h.out j n hj (by omega)
          cases H
          · have ho_h := Lib.hid ho
            have hall2_h := Lib.hid hall2; clear ho hall2
            go_wp2_with (fail)
            refine (hV_h.out _).mono ?_
            rintro e w' ⟨rfl, rfl⟩
            go_wp2_with (fail)
            go_roundw
            case rel => exact ⟨k + 1, by omega, by go_num, hall2_h.out, hB2_h.out, hb3_h.out⟩
            case measure => simp [intOf]; omega
          · have hlt2 : ¬ p ≤ v := fun h => by
              simp [overB, ← hH_h.out, h] at ho
            have hlt3 : v < p := by omega
            have ho_h := Lib.hid ho; have hall2_h := Lib.hid hall2; clear ho hall2
            go_wp2_with (fail)
            refine (hV_h.out _).mono ?_
            rintro e w' ⟨rfl, rfl⟩
            go_wp2_with (fail)
            go_roundw
            case rel => exact ⟨k + 1, by omega, by go_num, hall2_h.out, hB2_h.out, hb3_h.out⟩
            case measure => simp [intOf]; omega
        · have ho2 : overB p (κ, v, s) = false := by simpa using ho
          obtain rfl : H = true := by
            cases H
            · simp [overB, ← hH_h.out] at ho2
            · rfl
          have hge : p ≤ v := by
            simp [overB, ← hH_h.out] at ho2; exact ho2
          obtain rfl : G = false := by rw [hGe_h.out]; exact all_no hn_h.out ho2
          have ho_h := Lib.hid ho; have ho2_h := Lib.hid ho2; clear ho ho2
          go_wp2_with (fail)
          refine (hV_h.out _).mono ?_
          rintro e w' ⟨rfl, rfl⟩
          go_wp2_with (fail)
          go_ret
          exact ⟨rfl, hB2_h.out⟩
      · obtain rfl : k = m := by omega
        obtain rfl : G = true := by rw [hGe_h.out]; exact all_yes (fun j n hj hl => hall j n hj (by rw [hm_h.out]; exact hl))
        have hall_h := Lib.hid hall; have hB_h := Lib.hid hB; have hb2_h := Lib.hid hb2; clear hall hB hb2
        go_wp2_with (fail)
        go_ret
        exact ⟨rfl, hB_h.out⟩
end Go.Proofs.YtahnhblodfdfhaaDoor
namespace Go.Proofs.YtahnhblodfdfhaaDoor
open Go.RowKit
set_option maxRecDepth 8000 in
set_option maxHeartbeats 4000000 in
theorem tmGood_any (p : Int) {v : Value} {l : List Nd} {w : World} (h : RdTm w v l) :
    Calls Tryd.prog 85 #[.int .i64 p, v] w fun e w' => e = .returned (.bool (goodM p l)) ∧ Below w.heap.size w w' := by
  obtain ⟨A, c, rfl, h⟩ := h
  obtain ⟨m, hm⟩ : ∃ m, m = l.length := ⟨_, rfl⟩
  obtain ⟨W, hW⟩ : ∃ W, W = w.alloc (.cells #[.slice A m c] tTerm) := ⟨_, rfl⟩
  have b0 := t_below_alloc w (.cells #[.slice A m c] tTerm)
  have k0 := heap_alloc_new w (.cells #[.slice A m c] tTerm)
  rw [← hW] at b0 k0
  have hr := h.below b0
  have hI := fun W => fdGood_any p W
  have hC := tmScan_any (v := .agg #[.slice A m c]) (l := l) (w := W) ⟨A, c, by rw [hm], hr⟩
  rw [← hm]
  obtain ⟨F, hF⟩ : ∃ F, F = fieldB p := ⟨_, rfl⟩
  obtain ⟨G, hG⟩ : ∃ G, G = goodM p l := ⟨_, rfl⟩
  rw [← hF] at hI
  rw [← hG]
  clear h; have b0_h := Lib.hid b0; have k0_h := Lib.hid k0; have hr_h := Lib.hid hr; have hI_h := Lib.hid hI; have hC_h := Lib.hid hC; have hF_h := Lib.hid hF; have hG_h := Lib.hid hG; have hm_h := Lib.hid hm; clear b0 k0 hr hI hC hF hG hm
  obtain ⟨k0_c, k0_f⟩ := bx1 k0_h.out
  go_enter Tryd.func85, Tryd.ntmps85
  go_wp2_with (fail)
  rw [← hW]
  clear hW
  refine (hC_h.out).mono ?_
  rintro e w1 ⟨A0, A1, A2, d0, d1, d2, n0, n1, n2, b, rfl, hb, ht, hb1⟩
  clear k0_c k0_f
  obtain ⟨W2, hW2⟩ : ∃ W2, W2 = w1.alloc (.cells #[.slice A0 n0 d0, .slice A1 n1 d1, .slice A2 n2 d2] tInfo) := ⟨_, rfl⟩
  have hb2 : Below w1.heap.size w1 W2 := by rw [hW2]; exact t_below_alloc _ _
  have hB1 := below_trans (below_trans b0_h.out hb1 b0_h.out.size) hb2 (Nat.le_trans b0_h.out.size hb1.size)
  replace k0_h := Lib.hid (t_box_below k0_h.out hb1)
  replace k0_h := Lib.hid (t_box_below k0_h.out hb2)
  have hr1 := (hr_h.out.below hb1).below hb2
  clear ht
  cases b
  · have hN : treeM l = none := by cases h : treeM l with | none => rfl | some t => rw [h] at hb; cases hb
    obtain rfl : G = false := by rw [hG_h.out]; exact goodM_nt hN
    have hb_h := Lib.hid hb; have hN_h := Lib.hid hN; have hB1_h := Lib.hid hB1; have hb1_h := Lib.hid hb1; have hb2_h := Lib.hid hb2; have hr1_h := Lib.hid hr1; clear hb hN hB1 hb1 hb2 hr1
    go_upto_region 2 with (fail)
    rw [← hW2]
    clear hW2
    go_wp2_with (fail)
    go_ret
    exact ⟨rfl, hB1_h.out⟩
  · obtain ⟨t, hN⟩ : ∃ t, treeM l = some t := by cases h : treeM l with | none => rw [h] at hb; cases hb | some t => exact ⟨t, rfl⟩
    have hm4 : m ≤ 400 := by rw [hm_h.out, (treeM_some hN).1]; exact (treeM_some hN).2.2
    cases F
    case false =>
      obtain rfl : G = false := by rw [hG_h.out]; exact goodM_nf hF_h.out.symm
      have hb_h := Lib.hid hb; have hN_h := Lib.hid hN; have hB1_h := Lib.hid hB1; have hb1_h := Lib.hid hb1; have hb2_h := Lib.hid hb2; have hr1_h := Lib.hid hr1; clear hb hN hB1 hb1 hb2 hr1
      go_upto_region 2 with (fail)
      rw [← hW2]
      clear hW2
      go_wp2_with (fail)
      refine (hI_h.out _).mono ?_
      rintro e w' ⟨rfl, rfl⟩
      go_wp2_with (fail)
      go_ret
      exact ⟨rfl, hB1_h.out⟩
    case true =>
    have hGe : G = l.all (overB p) := by rw [hG_h.out]; exact goodM_all hF_h.out.symm hN
    obtain ⟨k0_c, k0_f⟩ := bx1 k0_h.out
    have hb_h := Lib.hid hb; have hN_h := Lib.hid hN; have hB1_h := Lib.hid hB1; have hb1_h := Lib.hid hb1; have hb2_h := Lib.hid hb2; have hr1_h := Lib.hid hr1; have hGe_h := Lib.hid hGe; clear hb hN hB1 hb1 hb2 hr1 hGe
    go_upto_region 2 with (fail)
    rw [← hW2]
    clear hW2
    go_wp2_with (fail)
    refine (hI_h.out _).mono ?_
    rintro e w' ⟨rfl, rfl⟩
    go_wp2_with (fail)
    go_loopw [24] (fun iv wr => ∃ k : Nat, k ≤ m ∧ iv = .int .i64 k ∧ (∀ j n, l[j]? = some n → j < k → overB p n = true) ∧ Below w.heap.size w wr ∧ Below W2.heap.size W2 wr) (fun iv _ => m - (intOf iv).toNat)
    case atStart => exact ⟨0, Nat.zero_le _, rfl, fun _ _ _ h => absurd h (Nat.not_lt_zero _), hB1_h.out, Below.refl _ _⟩
    case round =>
      obtain ⟨k, hk, rfl, hall, hB, hb2⟩ := hrel
      clear k0_c k0_f
      by_cases hlt : k < m
      · obtain ⟨ad, κ, v, s, rfl, hn, d0, d1, d2⟩ := (hr1_h.out.below hb2).at_ (j := k) (by rw [← hm_h.out]; exact hlt)
        have hkI : (k : Int) < (m : Int) := by omega
        have hba := t_below_alloc wr (.cells #[.int .i64 κ, .int .i64 v, .string s] tNd)
        have hB2 := below_trans hB hba hB.size
        have hb3 := below_trans hb2 hba hb2.size
        have hn_h := Lib.hid hn; have hall_h := Lib.hid hall; have hB_h := Lib.hid hB; have hb2_h := Lib.hid hb2; have hba_h := Lib.hid hba; have hB2_h := Lib.hid hB2; have hb3_h := Lib.hid hb3; clear hn hall hB hb2 hba hB2 hb3
        by_cases ho : overB p (κ, v, s) = true
        · have hall2 : ∀ j n, l[j]? = some n → j < k + 1 → overB p n = true := fun j n hj hlt' => by
            by_cases e : j = k
            · subst e
              rw [hn_h.out] at hj
              rw [← Option.some.inj hj]; exact ho
            · exact hall_h.out j n hj (by omega)
          by_cases h7 : κ = 7
          · have e7 : (κ == 7) = true := by simp [h7]
            have hlt3 : v < p := by
              simp [overB, hvB, h7] at ho; omega
            have ho_h := Lib.hid ho; have hall2_h := Lib.hid hall2; have h7_h := Lib.hid h7; clear ho hall2 h7
            go_wp2_with (fail)
            go_roundw
            case rel => exact ⟨k + 1, by omega, by go_num, hall2_h.out, hB2_h.out, hb3_h.out⟩
            case measure => simp [intOf]; omega
          · have e7 : (κ == 7) = false := by simp [h7]
            by_cases h13 : κ = 13
            · have e13 : (κ == 13) = true := by simp [h13]
              have hlt3 : v < p := by
                simp [overB, hvB, h13] at ho; omega
              have ho_h := Lib.hid ho; have hall2_h := Lib.hid hall2; have h7_h := Lib.hid h7; have h13_h := Lib.hid h13; clear ho hall2 h7 h13
              go_wp2_with (fail)
              go_roundw
              case rel => exact ⟨k + 1, by omega, by go_num, hall2_h.out, hB2_h.out, hb3_h.out⟩
              case measure => simp [intOf]; omega
            · have e13 : (κ == 13) = false := by simp [h13]
              have ho_h := Lib.hid ho; have hall2_h := Lib.hid hall2; have h7_h := Lib.hid h7; have h13_h := Lib.hid h13; clear ho hall2 h7 h13
              go_wp2_with (fail)
              go_roundw
              case rel => exact ⟨k + 1, by omega, by go_num, hall2_h.out, hB2_h.out, hb3_h.out⟩
              case measure => simp [intOf]; omega
        · have ho2 : overB p (κ, v, s) = false := by simpa using ho
          have hge : p ≤ v := by
            simp [overB] at ho2; exact ho2.2
          have hv : κ = 7 ∨ κ = 13 := by
            simp [overB, hvB] at ho2; have := ho2.1; omega
          obtain rfl : G = false := by rw [hGe_h.out]; exact all_no hn_h.out ho2
          by_cases h7 : κ = 7
          · have e7 : (κ == 7) = true := by simp [h7]
            have ho_h := Lib.hid ho; have ho2_h := Lib.hid ho2; have h7_h := Lib.hid h7; have hv_h := Lib.hid hv; clear ho ho2 h7 hv
            go_wp2_with (fail)
            go_ret
            exact ⟨rfl, hB2_h.out⟩
          · have e7 : (κ == 7) = false := by simp [h7]
            have h13 : κ = 13 := by omega
            have e13 : (κ == 13) = true := by simp [h13]
            have ho_h := Lib.hid ho; have ho2_h := Lib.hid ho2; have h7_h := Lib.hid h7; have hv_h := Lib.hid hv; have h13_h := Lib.hid h13; clear ho ho2 h7 hv h13
            go_wp2_with (fail)
            go_ret
            exact ⟨rfl, hB2_h.out⟩
      · obtain rfl : k = m := by omega
        obtain rfl : G = true := by rw [hGe_h.out]; exact all_yes (fun j n hj hl => hall j n hj (by rw [hm_h.out]; exact hl))
        have hall_h := Lib.hid hall; have hB_h := Lib.hid hB; have hb2_h := Lib.hid hb2; clear hall hB hb2
        go_wp2_with (fail)
        go_ret
        exact ⟨rfl, hB_h.out⟩
end Go.Proofs.YtahnhblodfdfhaaDoor
namespace Go.Proofs.YtahnhblodfdfhaaDoor
open Go.RowKit
structure BoxS where
  i : Nat
  d : Tmp
  obj : Obj
section
variable {P : Program} {l : List Oper} {Q : Exit → Act → World → Prop} {md : Region.Mode} {S : World → Prop}
end
end Go.Proofs.YtahnhblodfdfhaaDoor
namespace Go.Proofs.YtahnhblodfdfhaaDoor
open Go.RowKit
def dnTmM (p : Int) (l : List Nd) : Sys × Bool := if goodM p l && l.all (fun n => noDl n.1) then (match treeM l with | some t => (den p t, true) | none => ((0, 0, []), false)) else ((0, 0, []), false)
end Go.Proofs.YtahnhblodfdfhaaDoor
namespace Go.Proofs.YtahnhblodfdfhaaDoor
open Go.RowKit
theorem isDelay_any (k : Int) (w : World) : Calls Tryd.prog 137 #[.int .i64 k] w fun e w' => e = .returned (.bool (!noDl k)) ∧ w' = w := by
  unfold noDl
  by_cases h8 : k = 8
  · subst h8
    go_enter Tryd.func137, Tryd.ntmps137
    go_wp2_with (fail)
    go_ret
    exact ⟨rfl, rfl⟩
  · have b8 : (k == 8) = false := by rw [beq_eq_false_iff_ne]; exact h8
    by_cases h14 : k = 14
    · subst h14
      go_enter Tryd.func137, Tryd.ntmps137
      go_wp2_with (fail)
      go_ret
      exact ⟨rfl, rfl⟩
    · have b14 : (k == 14) = false := by rw [beq_eq_false_iff_ne]; exact h14
      go_enter Tryd.func137, Tryd.ntmps137
      go_wp2_with (fail)
      go_ret
      exact ⟨by simp [h8, h14], rfl⟩
def statB (p : Int) (l : List Nd) : Bool := goodM p l && l.all fun n => noDl n.1
set_option maxRecDepth 100000 in
set_option maxHeartbeats 4000000 in
theorem isStatic_any (p : Int) {v : Value} {l : List Nd} (w : World) (h : RdTm w v l) (hT : Tab w) :
    Calls Tryd.prog 92 #[v, .int .i64 p] w fun e w' => e = .returned (.bool (statB p l)) ∧ Below w.heap.size w w' := by
  obtain ⟨A, c, rfl, h⟩ := h
  obtain ⟨m, hm⟩ : ∃ m, m = l.length := ⟨_, rfl⟩
  obtain ⟨W, hW⟩ : ∃ W, W = w.alloc (.cells #[.slice A m c] tTerm) := ⟨_, rfl⟩
  have b0 : Below w.heap.size w W := by rw [hW]; exact below_alloc _ _
  have k0 : W.heap[w.heap.size]? = some (.cells #[.slice A m c] tTerm) := by rw [hW]; exact heap_alloc_new _ _
  have hC := isOver_any p (v := .agg #[.slice A m c]) (l := l) (w := W) ⟨A, c, by rw [hm], h.below b0⟩ (hT.below b0 hT.lt)
  obtain ⟨c0, f0⟩ := bx1_d k0
  rw [← hm]
  have hr := h.below b0
  obtain ⟨D, hD⟩ : ∃ D, D = statB p l := ⟨_, rfl⟩
  rw [← hD]
  unfold statB at hD
  have hDY : goodM p l = true → l.all (fun n => noDl n.1) = true → D = true := fun h1 h2 => by rw [hD, h1, h2]; rfl
  have hDN : l.all (fun n => noDl n.1) = false → D = false := fun h2 => by rw [hD, h2, Bool.and_false]
  have hDG : goodM p l = false → D = false := fun h2 => by rw [hD, h2]; rfl
  have hgl : goodM p l = true → m ≤ 400 := fun h1 => by
    unfold goodM at h1
    simp only [Bool.and_eq_true] at h1
    obtain ⟨t, hv⟩ := Option.isSome_iff_exists.1 h1.2.1
    unfold treeM at hv
    split at hv
    · omega
    · cases hv
  obtain ⟨g, hg⟩ : ∃ g, g = goodM p l := ⟨_, rfl⟩
  rw [← hg] at hC hDY hDG hgl
  clear h hD hT hg; have b0_h := Lib.hid b0; have k0_h := Lib.hid k0; have hC_h := Lib.hid hC; have hm_h := Lib.hid hm; have hr_h := Lib.hid hr; have hDY_h := Lib.hid hDY; have hDN_h := Lib.hid hDN; have hDG_h := Lib.hid hDG; have hgl_h := Lib.hid hgl; clear b0 k0 hC hm hr hDY hDN hDG hgl
  go_enter Tryd.func92, Tryd.ntmps92
  go_upto_region 1 with (fail)
  rw [← hW]
  clear hW
  go_wp2_with (fail)
  refine (hC_h.out).mono ?_
  rintro e w2 ⟨rfl, hb2⟩
  clear c0 f0
  have k2 := box_below k0_h.out hb2
  have hB2 := below_trans b0_h.out hb2 b0_h.out.size
  have hr2 := hr_h.out.below hb2
  obtain ⟨c0, f0⟩ := bx1_d k2
  clear hb2 k2
  cases g
  · have hfin := hDG_h.out rfl
    subst hfin
    have hB2_h := Lib.hid hB2; have hr2_h := Lib.hid hr2; clear hB2 hr2
    go_wp2_with (fail)
    go_ret
    exact ⟨rfl, hB2_h.out⟩
  · have hDY2 := hDY_h.out rfl
    have hl400 := hgl_h.out rfl
    have hB2_h := Lib.hid hB2; have hr2_h := Lib.hid hr2; have hDY2_h := Lib.hid hDY2; clear hB2 hr2 hDY2
    go_wp2_with (fail)
    go_loopw [14] (fun iv wr => ∃ k : Nat, k ≤ m ∧ iv = .int .i64 k ∧ (∀ (j : Nat) (n : Nd), l[j]? = some n → j < k → noDl n.1 = true) ∧ Below w2.heap.size w2 wr) (fun iv _ => m - (intOf iv).toNat)
    case atStart => exact ⟨0, Nat.zero_le _, rfl, fun j n _ h => (by omega), Below.refl _ _⟩
    case round =>
      clear c0 f0
      obtain ⟨k, hk, rfl, hnd, hbo⟩ := hrel
      obtain ⟨wo, rfl⟩ : ∃ x, x = wr := ⟨_, rfl⟩
      have hbWo := below_trans hB2_h.out hbo hB2_h.out.size
      by_cases hlt : k < m
      · obtain ⟨ad, κ, v, s, rfl, hn, d0, d1, d2⟩ := (hr2_h.out.below hbo).at_ (j := k) (by rw [← hm_h.out]; exact hlt)
        have hkI : (k : Int) < (m : Int) := by omega
        obtain ⟨wN, hwN⟩ : ∃ wN, wN = wo.alloc (.cells #[.int .i64 κ, .int .i64 v, .string s] 69) := ⟨_, rfl⟩
        have hbN : Below wo.heap.size wo wN := by rw [hwN]; exact below_alloc _ _
        have kN : wN.heap[wo.heap.size]? = some (.cells #[.int .i64 κ, .int .i64 v, .string s] 69) := by rw [hwN]; exact heap_alloc_new _ _
        have hTm := fun W' => isDelay_any κ W'
        have hb3 := below_trans hbo hbN hbo.size
        have hb4 := below_trans hbWo hbN hbWo.size
        obtain ⟨⟨e0, e1, e2⟩, e3, e4, e5⟩ := box3 kN
        by_cases hdl : noDl κ = true
        · simp only [hdl] at hTm
          have hnd' : ∀ (j : Nat) (n : Nd), l[j]? = some n → j < k + 1 → noDl n.1 = true := fun j n h2 h3 => by
            rcases Nat.lt_or_ge j k with h4 | h4
            · exact hnd j n h2 h4
            · obtain rfl : j = k := by omega
              rw [hn] at h2
              obtain rfl := Option.some.inj h2
              exact hdl
          clear hnd hn hdl kN hbN hbo hbWo; have hnd'_h := Lib.hid hnd'; have hTm_h := Lib.hid hTm; have hb3_h := Lib.hid hb3; have hb4_h := Lib.hid hb4; clear hnd' hTm hb3 hb4
          go_upto_region 6 with (fail)
          rw [← hwN]
          clear hwN d0 d1 d2
          go_wp2_with (fail)
          refine (hTm_h.out _).mono ?_
          rintro e w' ⟨rfl, hw'⟩
          subst hw'
          go_wp2_with (fail)
          go_roundw
          case rel => exact ⟨k + 1, by omega, by go_num, hnd'_h.out, hb3_h.out⟩
          case measure => simp [intOf]; omega
        · have hdl' : noDl κ = false := by simpa using hdl
          simp only [hdl'] at hTm
          have hno : l.all (fun n => noDl n.1) = false := by
            rw [List.all_eq_false]
            exact ⟨_, List.mem_of_getElem? hn, by simp [hdl']⟩
          have hfin := hDN_h.out hno
          subst hfin
          clear hnd hn hdl hdl' hno kN hbN hbo hbWo; have hTm_h := Lib.hid hTm; have hb3_h := Lib.hid hb3; have hb4_h := Lib.hid hb4; clear hTm hb3 hb4
          go_upto_region 6 with (fail)
          rw [← hwN]
          clear hwN d0 d1 d2
          go_wp2_with (fail)
          refine (hTm_h.out _).mono ?_
          rintro e w' ⟨rfl, hw'⟩
          subst hw'
          go_wp2_with (fail)
          go_ret
          exact ⟨rfl, hb4_h.out⟩
      · obtain rfl : m = k := by omega
        have hyes : l.all (fun n => noDl n.1) = true := by
          rw [List.all_eq_true]
          intro n hn
          obtain ⟨j, hj⟩ := List.mem_iff_getElem?.1 hn
          exact hnd j n hj (by rw [hm_h.out]; exact (List.getElem?_eq_some_iff.1 hj).1)
        have hfin := hDY2_h.out hyes
        subst hfin
        clear hnd hyes; have hbWo_h := Lib.hid hbWo; clear hbWo
        go_wp2_with (fail)
        go_ret
        exact ⟨rfl, hbWo_h.out⟩
end Go.Proofs.YtahnhblodfdfhaaDoor
namespace Go.Proofs.YtahnhblodfdfhaaDoor
open Go.RowKit
theorem statB_parts {p : Int} {l : List Nd} (h : statB p l = true) : fieldB p = true ∧ (∃ t, treeM l = some t ∧ dnTmM p l = (den p t, true)) ∧ ∀ n, n ∈ l → okNd p n := by
  unfold statB at h
  simp only [Bool.and_eq_true] at h
  obtain ⟨hg, hnd⟩ := h
  have hg2 := hg
  unfold goodM at hg2
  simp only [Bool.and_eq_true] at hg2
  obtain ⟨hf, hsome, hover⟩ := hg2
  obtain ⟨t, hv⟩ := Option.isSome_iff_exists.1 hsome
  refine ⟨hf, ⟨t, hv, by unfold dnTmM; rw [hg, hnd, hv]; rfl⟩, fun n hn => ?_⟩
  have h1 := List.all_eq_true.1 hover n hn
  have h2 := List.all_eq_true.1 hnd n hn
  unfold noDl at h2
  simp only [Bool.and_eq_true, decide_eq_true_eq] at h2
  refine ⟨h2.1, h2.2, fun h7 => ?_⟩
  unfold overB hvB at h1
  simp [h7] at h1
  omega
theorem statB_no {p : Int} {l : List Nd} (h : statB p l = false) : dnTmM p l = ((0, 0, []), false) := by
  unfold statB at h
  unfold dnTmM
  rw [h]
  rfl
end Go.Proofs.YtahnhblodfdfhaaDoor
namespace Go.Proofs.YtahnhblodfdfhaaDoor
open Go.RowKit
def digit (j : Nat) : UInt8 := UInt8.ofNat (48 + j % 10)
def mkGo : Nat → Nat → ByteArray → ByteArray
  | 0, _, o => o
  | f + 1, j, o => if j = 0 then o else mkGo f (j / 10) (⟨#[digit j]⟩ ++ o)
def mkT (k : Nat) : ByteArray := ⟨#[109]⟩ ++ mkGo k k ⟨#[]⟩
def mkN (k : Nat) : Nd := ((k : Int), (k : Int) + 1, mkT (k + 2))
def marksN (k n : Nat) : List Nd := (List.range n).map fun i => mkN (k + 3 * i)
@[simp] theorem marksN_length (k n : Nat) : (marksN k n).length = n := by simp [marksN]
end Go.Proofs.YtahnhblodfdfhaaDoor
namespace Go.Proofs.YtahnhblodfdfhaaDoor
open Go.RowKit
def cntN (l : List Nd) : Nat := 3 * l.length
def OkN (l : List Nd) : Prop := l.length ≤ 1048576 ∧ True ∧ cntN l ≤ 3145728
theorem OkN.of {l : List Nd} (h : l.length ≤ 1048576) : OkN l := ⟨h, trivial, by unfold cntN; omega⟩
def HeTm (w : World) (v : Value) (l : List Nd) (k : Nat) (fp : List Nat) : Prop := ∃ A cap, v = .agg #[.slice A l.length cap] ∧ NS w A cap (marksN k l.length) ∧ fp = fpA A
section
variable {w w' : World} {v v' : Value} {l l' : List Nd} {k : Nat} {fp : List Nat} {K : Int}
theorem HeTm.below (h : HeTm w v l k fp) (hb : Below w.heap.size w w') : HeTm w' v l k fp := by obtain ⟨A, c, rfl, h, e⟩ := h; exact ⟨A, c, rfl, h.below hb, e⟩
theorem HeTm.keeps (h : HeTm w v l k fp) {S : Nat → Prop} (hk : Keeps S w w') (hS : ∀ b, b ∈ fp → ¬ S b) : HeTm w' v l k fp := by obtain ⟨A, c, rfl, h, rfl⟩ := h; exact ⟨A, c, rfl, h.keeps hk hS, rfl⟩
theorem RdTm.shape (h : RdTm w v l) : ∃ A n c, v = .agg #[.slice A n c] := by obtain ⟨A, c, rfl, _⟩ := h; exact ⟨A, _, c, rfl⟩
theorem OwTm.shape (h : OwTm w v l fp) : ∃ A n c, v = .agg #[.slice A n c] := h.rd.shape
end
end Go.Proofs.YtahnhblodfdfhaaDoor
namespace Go.Proofs.YtahnhblodfdfhaaDoor
open Go.RowKit
theorem okTr_flat {p : Int} : ∀ {t : Tr}, wt t → (∀ n, n ∈ flat t → okNd p n) → okTr p t
  | .leaf n, hw, h => ⟨hw, h n (by simp [flat])⟩
  | .node q a b, hw, h => ⟨okTr_flat hw.1 fun n hn => h n (by simp [flat, hn]), okTr_flat hw.2.1 fun n hn => h n (by simp [flat, hn])⟩
theorem statB_rel {p : Int} {l : List Nd} (h : statB p l = true) : RelOk p (dnTmM p l).1 ∧ (dnTmM p l).2 = true := by
  obtain ⟨hf, ⟨t, hv, hd⟩, hok⟩ := statB_parts h
  rw [hd]
  obtain ⟨rfl, hw, _⟩ := treeM_some hv
  exact ⟨(den_ok hf hw (okTr_flat hw hok)).1, rfl⟩
theorem RelOk.okR {p : Int} {s : Sys} (h : RelOk p s) : OkR s.2.2 := by
  have h1 := h.lo; have h2 := h.hi; have h3 := h.sum; have h4 := h.len
  exact okR_mat h.mat (by omega) (by omega)
theorem dnTmM_ok (p : Int) (l : List Nd) : OkR (dnTmM p l).1.2.2 := by
  by_cases hs : statB p l = true
  · exact (statB_rel hs).1.okR
  · rw [statB_no (by simpa using hs)]
    exact okR_nil
set_option maxRecDepth 100000 in
set_option maxHeartbeats 4000000 in
theorem iDenoteTerm_law (p : Int) {v : Value} {l : List Nd} {w : World} (h : RdTm w v l) (_ok : OkN l) (hT : Tab w) :
    Calls Tryd.prog 88 #[.int .i64 p, v] w fun e w' => ∃ v' fp, e = .returned (.tuple #[v', .bool (dnTmM p l).2]) ∧ OwSys w' v' (dnTmM p l).1 fp ∧ FreshL w.heap.size fp ∧ Below w.heap.size w w' := by
  obtain ⟨A, c, rfl, h⟩ := h
  obtain ⟨m, hm⟩ : ∃ m, m = l.length := ⟨_, rfl⟩
  obtain ⟨W, hW, b0, k0, k1⟩ := alloc2 w (.cells #[.slice A m c] tTerm) (.cells #[.int .i64 0, .int .i64 0, .slice none 0 0] tRelD)
  have hr : RdTm W (.agg #[.slice A m c]) l := ⟨A, c, by rw [hm], h.below b0⟩
  have hC := isStatic_any p W hr (hT.below b0 hT.lt)
  obtain ⟨c0, f0⟩ := bx1_d k0
  rw [← hm]
  obtain ⟨D, hD⟩ : ∃ D, D = dnTmM p l := ⟨_, rfl⟩
  rw [← hD]
  by_cases hs : statB p l = true
  · obtain ⟨hf, ⟨t, hv, hd⟩, hok⟩ := statB_parts hs
    rw [hd] at hD
    have hE := fun W' (hb : Below W.heap.size W W') => denote_any p W' ⟨A, c, by rw [hm], (h.below b0).below hb⟩ hf hv hok (v := .agg #[.slice A m c])
    rw [hs] at hC
    obtain ⟨R, hR⟩ : ∃ R, R = den p t := ⟨_, rfl⟩
    rw [← hR] at hD
    simp only [← hR] at hE
    subst hD
    clear h hT hs hf hv hd hok hr hR; have b0_h := Lib.hid b0; have k0_h := Lib.hid k0; have k1_h := Lib.hid k1; have hC_h := Lib.hid hC; have hm_h := Lib.hid hm; have hE_h := Lib.hid hE; clear b0 k0 k1 hC hm hE
    go_enter Tryd.func88, Tryd.ntmps88
    go_upto_region 1 with (fail)
    rw [← hW]
    clear hW
    go_wp2_with (fail)
    refine (hC_h.out).mono ?_
    rintro e w2 ⟨rfl, hb2⟩
    clear c0 f0
    replace k0_h := Lib.hid (box_below k0_h.out hb2)
    replace k1_h := Lib.hid (box_below k1_h.out hb2)
    have hB2 := below_trans b0_h.out hb2 b0_h.out.size
    obtain ⟨c0, f0⟩ := bx1_d k0_h.out
    have hb2_h := Lib.hid hb2; have hB2_h := Lib.hid hB2; clear hb2 hB2
    go_wp2_with (fail)
    refine (hE_h.out w2 hb2_h.out).mono ?_
    rintro e w3 ⟨v3, fp, rfl, hO, hf3, hb3⟩
    obtain ⟨A9, n9, c9, rfl⟩ := hO.shape
    have hw2 := box_lt k1_h.out
    replace k1_h := Lib.hid (box_below k1_h.out hb3)
    obtain ⟨⟨d0, d1, d2⟩, g0, g1, g2⟩ := box3 k1_h.out
    obtain ⟨s1, s2⟩ := set3 (a := .int .i64 R.1) (b := .int .i64 R.2.1) (c := .slice A9 n9 c9) k1_h.out
    have hB8 := below_trans hB2_h.out hb3 hB2_h.out.size
    have hB9 := below_keeps hB8 s2 hB8.size (fun k hk => by omega)
    have hO8 := hO.keeps s2 (fun k hk e => by have := hf3 k hk; omega)
    have hf8 := hf3.mono hB2_h.out.size
    clear hB8 hO hf3 hb3; have s1_h := Lib.hid s1; have s2_h := Lib.hid s2; have hB9_h := Lib.hid hB9; have hO8_h := Lib.hid hO8; have hf8_h := Lib.hid hf8; clear s1 s2 hB9 hO8 hf8
    go_wp2_with (fail)
    refine bodyPost_ret (results_cell_tmp rfl _ _ (w.heap.size + 1) _ _ (0, 0) _ rfl s1_h.out Tryd.underlying43 rfl (by kernel_rfl)) rfl ?_
    exact ⟨_, fp, rfl, hO8_h.out, hf8_h.out, hB9_h.out⟩
  · have hs' : statB p l = false := by simpa using hs
    rw [statB_no hs'] at hD
    rw [hs'] at hC
    subst hD
    clear h hT hs hs' hr; have b0_h := Lib.hid b0; have k0_h := Lib.hid k0; have k1_h := Lib.hid k1; have hC_h := Lib.hid hC; have hm_h := Lib.hid hm; clear b0 k0 k1 hC hm
    go_enter Tryd.func88, Tryd.ntmps88
    go_upto_region 1 with (fail)
    rw [← hW]
    clear hW
    go_wp2_with (fail)
    refine (hC_h.out).mono ?_
    rintro e w2 ⟨rfl, hb2⟩
    clear c0 f0
    have hzr := box_lt k1_h.out
    replace k0_h := Lib.hid (box_below k0_h.out hb2)
    replace k1_h := Lib.hid (box_below k1_h.out hb2)
    have hB2 := below_trans b0_h.out hb2 b0_h.out.size
    obtain ⟨⟨d0, d1, d2⟩, g0, g1, g2⟩ := box3 k1_h.out
    obtain ⟨s1, s2⟩ := set3 (a := .int .i64 0) (b := .int .i64 0) (c := .slice none 0 0) k1_h.out
    have hB9 := below_keeps hB2 s2 hB2.size (fun k hk => by omega)
    clear hb2; have hB2_h := Lib.hid hB2; have s1_h := Lib.hid s1; have s2_h := Lib.hid s2; have hB9_h := Lib.hid hB9; clear hB2 s1 s2 hB9
    go_wp2_with (fail)
    refine bodyPost_ret (results_cell_tmp rfl _ _ (w.heap.size + 1) _ _ (0, 0) _ rfl s1_h.out Tryd.underlying43 rfl (by kernel_rfl)) rfl ?_
    exact ⟨_, [], rfl, OwSys.zero _ 0 0, FreshL.nil _, hB9_h.out⟩
end Go.Proofs.YtahnhblodfdfhaaDoor
namespace Go.Proofs.YtahnhblodfdfhaaDoor
open Go.RowKit
abbrev tNdD : TypeId := 69
theorem one_nodeD (w : World) (k x : Int) (s : ByteArray) (T : Obj) : ∃ W, W = (w.alloc (.cells #[.int .i64 k, .int .i64 x, .string s] tNdD)).alloc T ∧ Below w.heap.size w W ∧ RdTm W (.agg #[.slice (some ⟨w.heap.size, 0, none⟩) 1 1]) [(k, x, s)] :=
  have b1 := below_alloc w (.cells #[.int .i64 k, .int .i64 x, .string s] tNdD)
  have b2 := below_alloc (w.alloc (.cells #[.int .i64 k, .int .i64 x, .string s] tNdD)) T
  ⟨_, rfl, below_trans b1 b2 b1.size, ⟨some ⟨w.heap.size, 0, none⟩, 1, rfl, RdN.below (Sl.rdc (Sl.laid w tNdD 3 1 #[.int .i64 k, .int .i64 x, .string s] (by unfold maxLen; omega) rfl)) b2⟩⟩
theorem flat_one {t : Tr} {n : Nd} (h : flat t = [n]) : t = .leaf n := by
  cases t with
  | leaf m => simp [flat] at h; rw [h]
  | node q a b =>
    have h1 := flat_ne a
    have h2 := congrArg List.length h
    simp [flat] at h2
    have : 0 < (flat a).length := List.length_pos_iff.2 h1
    omega
theorem leaf_ans {p : Int} {n : Nd} (h : statB p [n] = true) : fieldB p = true ∧ okLf p n ∧ dnTmM p [n] = (leafV p n, true) := by
  obtain ⟨hf, ⟨t, hv, hd⟩, hok⟩ := statB_parts h
  obtain ⟨hfl, hw, _⟩ := treeM_some hv
  obtain rfl := flat_one hfl.symm
  exact ⟨hf, okTr_flat (t := .leaf n) hw (by rw [← hfl]; exact hok), hd⟩
set_option maxRecDepth 100000 in
set_option maxHeartbeats 4000000 in
theorem sLeafRelation_law (p : Int) (k v : Int) (s : ByteArray) {w : World} :
    Calls Tryd.prog 39 #[.int .i64 p, .agg #[.int .i64 k, .int .i64 v, .string s]] w fun e w' => ∃ v' fp, e = .returned (.tuple #[v', .bool (dnTmM p [(k, v, s)]).2]) ∧ OwSys w' v' (dnTmM p [(k, v, s)]).1 fp ∧ FreshL w.heap.size fp ∧ Below w.heap.size w w' := by
  obtain ⟨W, hW, bW, k0, k1⟩ := alloc2 w (.cells #[.int .i64 k, .int .i64 v, .string s] tNdD) (.cells #[.int .i64 0, .int .i64 0, .slice none 0 0] tRelD)
  obtain ⟨W1, hW1, bW1, hT⟩ := one_nodeD W k v s (.cells #[.slice (some ⟨W.heap.size, 0, none⟩) 1 1] tTerm)
  have k2 : W1.heap[W.heap.size + 1]? = some (.cells #[.slice (some ⟨W.heap.size, 0, none⟩) 1 1] tTerm) := by
    rw [hW1]
    have := heap_alloc_new (W.alloc (.cells #[.int .i64 k, .int .i64 v, .string s] tNdD)) (.cells #[.slice (some ⟨W.heap.size, 0, none⟩) 1 1] tTerm)
    simp only [World.size_alloc] at this
    exact this
  have hG := tmGood_any p hT
  obtain ⟨D, hD⟩ : ∃ D, D = dnTmM p [(k, v, s)] := ⟨_, rfl⟩
  rw [← hD]
  have hz1 : w.heap.size + 1 < W1.heap.size := by
    have := bW1.size
    have := box_lt k1
    omega
  have k01 := box_below k0 bW1
  have k11 := box_below k1 bW1
  have hB1 := below_trans bW bW1 bW.size
  obtain ⟨g, hg⟩ : ∃ g, g = goodM p [(k, v, s)] := ⟨_, rfl⟩
  rw [← hg] at hG
  obtain ⟨⟨c0, c1, c2⟩, f0, f1, f2⟩ := box3 k0
  by_cases hs : statB p [(k, v, s)] = true
  · obtain ⟨hf, hok, hd⟩ := leaf_ans hs
    rw [hd] at hD
    subst hD
    have hgt : g = true := by
      unfold statB at hs
      simp only [Bool.and_eq_true] at hs
      rw [hg]; exact hs.1
    have hnd : noDl k = true := by
      unfold statB at hs
      simp only [Bool.and_eq_true] at hs
      simpa using hs.2
    subst hgt
    have hTl := fun W' => dnTimeless_any k W'
    rw [hnd] at hTl
    have hL := fun W' => dnLeaf_any (p := p) (k := k) (v := v) (s := s) W' hf hok
    obtain ⟨R, hR⟩ : ∃ R, R = leafV p (k, v, s) := ⟨_, rfl⟩
    rw [← hR] at hL ⊢
    clear hs hf hok hd hg hnd hR k0 k1 hT; have bW_h := Lib.hid bW; have bW1_h := Lib.hid bW1; have k01_h := Lib.hid k01; have k11_h := Lib.hid k11; have k2_h := Lib.hid k2; have hG_h := Lib.hid hG; have hB1_h := Lib.hid hB1; have hTl_h := Lib.hid hTl; have hL_h := Lib.hid hL; have hz1_h := Lib.hid hz1; clear bW bW1 k01 k11 k2 hG hB1 hTl hL hz1
    go_enter Tryd.func39, Tryd.ntmps39
    go_upto_region 1 with (fail)
    rw [← hW]
    clear hW
    go_upto_region 2 with (fail)
    rw [← hW1]
    clear hW1 c0 c1 c2 f0 f1 f2
    obtain ⟨e0, j0⟩ := bx1 k2_h.out
    go_wp2_with (fail)
    refine (hG_h.out).mono ?_
    rintro e w2 ⟨rfl, hb2⟩
    clear e0 j0
    replace k01_h := Lib.hid (box_below k01_h.out hb2)
    replace k11_h := Lib.hid (box_below k11_h.out hb2)
    have hB2 := below_trans hB1_h.out hb2 hB1_h.out.size
    have hz2 := Nat.lt_of_lt_of_le hz1_h.out hb2.size
    have hB2_h := Lib.hid hB2; have hz2_h := Lib.hid hz2; clear hB2 hz2; clear hb2
    obtain ⟨⟨c0, c1, c2⟩, f0, f1, f2⟩ := box3 k01_h.out
    go_wp2_with (fail)
    refine (hTl_h.out w2).mono ?_
    rintro e w3 ⟨rfl, hw3⟩
    subst hw3
    go_wp2_with (fail)
    refine (hL_h.out _).mono ?_
    rintro e w4 ⟨v4, fp, rfl, hO, hf4, hb4⟩
    obtain ⟨A9, n9, c9, rfl⟩ := hO.shape
    clear c0 c1 c2 f0 f1 f2
    replace k11_h := Lib.hid (box_below k11_h.out hb4)
    obtain ⟨⟨d0, d1, d2⟩, g0, g1, g2⟩ := box3 k11_h.out
    obtain ⟨s1, s2⟩ := set3 (a := .int .i64 R.1) (b := .int .i64 R.2.1) (c := .slice A9 n9 c9) k11_h.out
    have hB8 := below_trans hB2_h.out hb4 hB2_h.out.size
    have hB9 := below_keeps hB8 s2 hB8.size (fun k hk => by omega)
    have hO8 := hO.keeps s2 (fun k hk e => by have := hf4 k hk; have := hz2_h.out; omega)
    have hf8 := hf4.mono hB2_h.out.size
    clear hB8 hO hf4 hb4; have s1_h := Lib.hid s1; have s2_h := Lib.hid s2; have hB9_h := Lib.hid hB9; have hO8_h := Lib.hid hO8; have hf8_h := Lib.hid hf8; clear s1 s2 hB9 hO8 hf8
    go_wp2_with (fail)
    refine bodyPost_ret (results_cell_tmp rfl _ _ (w.heap.size + 1) _ _ (0, 0) _ rfl s1_h.out Tryd.underlying43 rfl (by kernel_rfl)) rfl ?_
    exact ⟨_, fp, rfl, hO8_h.out, hf8_h.out, hB9_h.out⟩
  · have hs' : statB p [(k, v, s)] = false := by simpa using hs
    rw [statB_no hs'] at hD
    subst hD
    have hor : g = false ∨ (g = true ∧ noDl k = false) := by
      unfold statB at hs'
      rw [← hg] at hs'
      cases g
      · exact .inl rfl
      · exact .inr ⟨rfl, by simpa using hs'⟩
    clear hs hs' hg k0 k1 hT
    rcases hor with rfl | ⟨rfl, hnd⟩
    · have bW_h := Lib.hid bW
      have bW1_h := Lib.hid bW1; have k01_h := Lib.hid k01; have k11_h := Lib.hid k11; have k2_h := Lib.hid k2; have hG_h := Lib.hid hG; have hB1_h := Lib.hid hB1; have hz1_h := Lib.hid hz1; clear bW bW1 k01 k11 k2 hG hB1 hz1
      go_enter Tryd.func39, Tryd.ntmps39
      go_upto_region 1 with (fail)
      rw [← hW]
      clear hW
      go_upto_region 2 with (fail)
      rw [← hW1]
      clear hW1 c0 c1 c2 f0 f1 f2
      obtain ⟨e0, j0⟩ := bx1 k2_h.out
      go_wp2_with (fail)
      refine (hG_h.out).mono ?_
      rintro e w2 ⟨rfl, hb2⟩
      clear e0 j0
      have hB2 := below_trans hB1_h.out hb2 hB1_h.out.size
      have hz2 := Nat.lt_of_lt_of_le hz1_h.out hb2.size
      replace k11_h := Lib.hid (box_below k11_h.out hb2)
      clear hb2
      obtain ⟨⟨d0, d1, d2⟩, g0, g1, g2⟩ := box3 k11_h.out
      obtain ⟨s1, s2⟩ := set3 (a := .int .i64 0) (b := .int .i64 0) (c := .slice none 0 0) k11_h.out
      have hB9 := below_keeps hB2 s2 hB2.size (fun k hk => by omega)
      have hB2_h := Lib.hid hB2; have s1_h := Lib.hid s1; have s2_h := Lib.hid s2; have hB9_h := Lib.hid hB9; clear hB2 s1 s2 hB9
      go_wp2_with (fail)
      refine bodyPost_ret (results_cell_tmp rfl _ _ (w.heap.size + 1) _ _ (0, 0) _ rfl s1_h.out Tryd.underlying43 rfl (by kernel_rfl)) rfl ?_
      exact ⟨_, [], rfl, OwSys.zero _ 0 0, FreshL.nil _, hB9_h.out⟩
    · have hTl := fun W' => dnTimeless_any k W'
      rw [hnd] at hTl
      clear hnd; have bW_h := Lib.hid bW; have bW1_h := Lib.hid bW1; have k01_h := Lib.hid k01; have k11_h := Lib.hid k11; have k2_h := Lib.hid k2; have hG_h := Lib.hid hG; have hB1_h := Lib.hid hB1; have hTl_h := Lib.hid hTl; have hz1_h := Lib.hid hz1; clear bW bW1 k01 k11 k2 hG hB1 hTl hz1
      go_enter Tryd.func39, Tryd.ntmps39
      go_upto_region 1 with (fail)
      rw [← hW]
      clear hW
      go_upto_region 2 with (fail)
      rw [← hW1]
      clear hW1 c0 c1 c2 f0 f1 f2
      obtain ⟨e0, j0⟩ := bx1 k2_h.out
      go_wp2_with (fail)
      refine (hG_h.out).mono ?_
      rintro e w2 ⟨rfl, hb2⟩
      clear e0 j0
      replace k01_h := Lib.hid (box_below k01_h.out hb2)
      replace k11_h := Lib.hid (box_below k11_h.out hb2)
      have hB2 := below_trans hB1_h.out hb2 hB1_h.out.size
      have hz2 := Nat.lt_of_lt_of_le hz1_h.out hb2.size
      have hB2_h := Lib.hid hB2; have hz2_h := Lib.hid hz2; clear hB2 hz2; clear hb2
      obtain ⟨⟨c0, c1, c2⟩, f0, f1, f2⟩ := box3 k01_h.out
      go_wp2_with (fail)
      refine (hTl_h.out w2).mono ?_
      rintro e w3 ⟨rfl, hw3⟩
      subst hw3
      clear c0 c1 c2 f0 f1 f2
      obtain ⟨⟨d0, d1, d2⟩, g0, g1, g2⟩ := box3 k11_h.out
      obtain ⟨s1, s2⟩ := set3 (a := .int .i64 0) (b := .int .i64 0) (c := .slice none 0 0) k11_h.out
      have hB9 := below_keeps hB2_h.out s2 hB2_h.out.size (fun k hk => by omega)
      have s1_h := Lib.hid s1; have s2_h := Lib.hid s2; have hB9_h := Lib.hid hB9; clear s1 s2 hB9
      go_wp2_with (fail)
      refine bodyPost_ret (results_cell_tmp rfl _ _ (w.heap.size + 1) _ _ (0, 0) _ rfl s1_h.out Tryd.underlying43 rfl (by kernel_rfl)) rfl ?_
      exact ⟨_, [], rfl, OwSys.zero _ 0 0, FreshL.nil _, hB9_h.out⟩
set_option maxRecDepth 100000 in
set_option maxHeartbeats 4000000 in
theorem iLeafRelation_law (p : Int) (k v : Int) (s : ByteArray) {w : World} (hT : Tab w) :
    Calls Tryd.prog 41 #[.int .i64 p, .agg #[.int .i64 k, .int .i64 v, .string s]] w fun e w' => ∃ v' fp, e = .returned (.tuple #[v', .bool (dnTmM p [(k, v, s)]).2]) ∧ OwSys w' v' (dnTmM p [(k, v, s)]).1 fp ∧ FreshL w.heap.size fp ∧ Below w.heap.size w w' := by
  obtain ⟨W, hW, bW, k0, k1⟩ := alloc2 w (.cells #[.int .i64 k, .int .i64 v, .string s] tNdD) (.cells #[.int .i64 0, .int .i64 0, .slice none 0 0] tRelD)
  have b1 := below_alloc W (.cells #[.int .i64 k, .int .i64 v, .string s] tNdD)
  obtain ⟨W1, hW1⟩ : ∃ W1, W1 = W.alloc (.cells #[.int .i64 k, .int .i64 v, .string s] tNdD) := ⟨_, rfl⟩
  rw [← hW1] at b1
  have hT1 : RdTm W1 (.agg #[.slice (some ⟨W.heap.size, 0, none⟩) 1 1]) [(k, v, s)] := by
    rw [hW1]
    exact ⟨some ⟨W.heap.size, 0, none⟩, 1, rfl, Sl.rdc (Sl.laid W tNdD 3 1 #[.int .i64 k, .int .i64 v, .string s] (by unfold maxLen; omega) rfl)⟩
  have hB1 := below_trans bW b1 bW.size
  have hC := iDenoteTerm_law p (w := W1) hT1 (by unfold OkN cntN; simp) (hT.below hB1 hT.lt)
  obtain ⟨R, hR⟩ : ∃ R, R = dnTmM p [(k, v, s)] := ⟨_, rfl⟩
  rw [← hR] at hC ⊢
  have hz1 : w.heap.size + 1 < W1.heap.size := by
    have := b1.size
    have := box_lt k1
    omega
  have k11 := box_below k1 b1
  obtain ⟨⟨c0, c1, c2⟩, f0, f1, f2⟩ := box3 k0
  clear hR k0 k1 hT1 hT b1 bW; have k11_h := Lib.hid k11; have hC_h := Lib.hid hC; have hB1_h := Lib.hid hB1; have hz1_h := Lib.hid hz1; clear k11 hC hB1 hz1
  go_enter Tryd.func41, Tryd.ntmps41
  go_upto_region 1 with (fail)
  rw [← hW]
  clear hW
  go_wp2_with (rw [← hW1])
  first
  | rw [← hW1]
  | skip
  clear hW1 c0 c1 c2 f0 f1 f2
  refine (hC_h.out).mono ?_
  rintro e w4 ⟨v4, fp, rfl, hO, hf4, hb4⟩
  obtain ⟨A9, n9, c9, rfl⟩ := hO.shape
  replace k11_h := Lib.hid (box_below k11_h.out hb4)
  obtain ⟨⟨d0, d1, d2⟩, g0, g1, g2⟩ := box3 k11_h.out
  obtain ⟨s1, s2⟩ := set3 (a := .int .i64 R.1.1) (b := .int .i64 R.1.2.1) (c := .slice A9 n9 c9) k11_h.out
  have hB8 := below_trans hB1_h.out hb4 hB1_h.out.size
  have hB9 := below_keeps hB8 s2 hB8.size (fun k hk => by omega)
  have hO8 := hO.keeps s2 (fun k hk e => by have := hf4 k hk; have := hz1_h.out; omega)
  have hf8 := hf4.mono hB1_h.out.size
  clear hB8 hO hf4 hb4; have s1_h := Lib.hid s1; have s2_h := Lib.hid s2; have hB9_h := Lib.hid hB9; have hO8_h := Lib.hid hO8; have hf8_h := Lib.hid hf8; clear s1 s2 hB9 hO8 hf8
  go_wp2_with (fail)
  refine bodyPost_ret (results_cell_tmp rfl _ _ (w.heap.size + 1) _ _ (0, 0) _ rfl s1_h.out Tryd.underlying43 rfl (by kernel_rfl)) rfl ?_
  exact ⟨_, fp, rfl, hO8_h.out, hf8_h.out, hB9_h.out⟩
end Go.Proofs.YtahnhblodfdfhaaDoor
namespace Go.Proofs.YtahnhblodfdfhaaDoor
open Go.ChangeShapes Go.WideShapes Go.ChangeAt Go.RowKit
def szNd (n : Nd) (left : Int) : Int := if left - n.2.2.size < 0 then -1 else left - n.2.2.size
def BigNode (n : Nd) : Prop := n.2.2.size ≤ maxLen
def RdNd (_w : World) (v : Value) (n : Nd) : Prop := v = .agg #[.int .i64 n.1, .int .i64 n.2.1, .string n.2.2]
theorem RdNd.shape {w : World} {v : Value} {n : Nd} (h : RdNd w v n) : ∃ _u : Unit, v = .agg #[.int .i64 n.1, .int .i64 n.2.1, .string n.2.2] := ⟨(), h⟩
theorem szNode_law (left : Int) (n : Nd) {w : World} (hB : BigNode n) (h0 : 0 ≤ left) (h1 : left ≤ 1048576) :
    Calls Tryd.prog 38 #[.agg #[.int .i64 n.1, .int .i64 n.2.1, .string n.2.2], .int .i64 left] w fun e w' => e = .returned (.int .i64 (szNd n left)) ∧ Below w.heap.size w w' :=
  szNode_any n.1 n.2.1 n.2.2 left w h0 h1 hB
set_option maxRecDepth 100000 in
theorem in_Node {H : Type} {enc : TypeId × Value → H} {W : World} {base : Nat} {v : Value} {d : DataW H} {p : List MemPlace} (hv : Value.okWide Tryd.prog W .any base 66 v) (h : DataW.Trod enc Tryd.prog W 0 (fun _ => true) true 66 v d p) :
    ∃ n : Nd, RdNd W v n ∧ BigNode n := by
  obtain ⟨cs, rfl, hsz⟩ := okWide_struct Tryd.underlying66 hv
  obtain ⟨fuel, hf⟩ := h
  obtain ⟨k, x, s, hc, hs⟩ := in_node (show DataW.trod enc Tryd.prog W 0 (fun _ => true) true fuel 66 cs.toList = some (d, p) from hf)
  refine ⟨(k, x, s), ?_, hs⟩
  have : cs = #[.int .i64 k, .int .i64 x, .string s] := by
    apply Array.ext'
    simpa using hc
  rw [this]
  rfl
end Go.Proofs.YtahnhblodfdfhaaDoor
namespace Go.Proofs.YtahnhblodfdfhaaDoor
open Go.ChangeShapes Go.WideShapes Go.ChangeAt Go.RowKit
theorem gTab : Tryd.prog.globalNamed "loop.example/g01073/impl.smallPrimes" = some 0 := by kernel_rfl
theorem gTabType : (Tryd.prog.globals[0]?).map (·.type) = some 167 := by kernel_rfl
theorem cellsTab : Tryd.prog.cellsOf 167 = 4 := by kernel_rfl
theorem tab_of_laid {W : World} (h : laidMetH Tryd.prog [("loop.example/g01073/impl.smallPrimes", Rows.laid_loop_example_g01073_impl_smallPrimes)] W) : Tab W := by
  have ht : Lib.TabIs Tryd.prog W "loop.example/g01073/impl.smallPrimes" .i64 [2, 3, 5, 7] :=
    Lib.tabIs_of_head (rest := []) gTab gTabType Tryd.underlying167 Tryd.underlying3 cellsInt cellsTab h
  exact ⟨ht.cell gTab 0 (by decide), ht.cell gTab 1 (by decide), ht.cell gTab 2 (by decide), ht.cell gTab 3 (by decide)⟩
section
variable {H : Type} {enc : TypeId × Value → H} {P : Program} {W W' : World}
end
theorem vars_ok : ∀ n ∈ ["loop.example/g01073/impl.smallPrimes"], ∀ g t, Tryd.prog.globalNamed n = some g → (Tryd.prog.globals[g]?).map (·.type) = some t → Tryd.prog.readableRec t = true ∧ t < Tryd.prog.types.size := by
  intro n hn g t h1 h2
  obtain rfl := List.mem_singleton.1 hn
  obtain rfl := Option.some.inj (gTab.symm.trans h1)
  obtain rfl := Option.some.inj (gTabType.symm.trans h2)
  exact ⟨by kernel_rfl, of_decide_eq_true (by kernel_rfl)⟩
noncomputable def laidWorld (os : Os) : World :=
  { World.holding Tryd.prog os ⟨#[], #[], []⟩ with heap := (World.holding Tryd.prog os ⟨#[], #[], []⟩).heap.modify 0 fun
      | .cells _ t frozen => .cells #[.int .i64 2, .int .i64 3, .int .i64 5, .int .i64 7] t frozen
      | o => o }
theorem laid_met (os : Os) (args : Array Value) : laidMet Tryd.prog [("loop.example/g01073/impl.smallPrimes", Rows.laid_loop_example_g01073_impl_smallPrimes)] ((laidWorld os).forCall (fun _ _ => 0) ⟨#[], args, []⟩).memory :=
  laidMet_of_run' 8 (by kernel_rfl) (by kernel_rfl)
end Go.Proofs.YtahnhblodfdfhaaDoor
namespace Go.Proofs.YtahnhblodfdfhaaDoor
open Go.RowKit
set_option maxHeartbeats 1000000 in
theorem eqRelation_law {v v' : Value} {s t : Sys} {w : World} (h : RdSysV w v s) (h' : RdSysV w v' t) (ok : OkR s.2.2) :
    Calls Tryd.prog 27 #[v, v'] w fun e w' => e = .returned (.bool (decide (s = t))) ∧ Below w.heap.size w w' := by
  obtain ⟨hn, hr, _⟩ := ok
  obtain ⟨A, c, hs, rfl, hL, hR⟩ := h
  obtain ⟨B, d, gs, rfl, hM, hS⟩ := h'
  obtain ⟨a1, b1, L⟩ := s
  obtain ⟨a2, b2, M⟩ := t
  have hL' : L = hs.map (fun h : Hd => h.2.2) := hL
  have hM' : M = gs.map (fun h : Hd => h.2.2) := hM
  subst hL' hM'
  have hb : Below w.heap.size w ((w.alloc (.cells #[.int .i64 a1, .int .i64 b1, .slice A hs.length c] 43)).alloc (.cells #[.int .i64 a2, .int .i64 b2, .slice B gs.length d] 43)) :=
    ((Below.refl _ _).alloc (Nat.le_refl _) _).alloc (by simp) _
  have hC := eqIntSS_any A B c d hs gs _ (hR.below hb) (hS.below hb) (by have : (hs.map fun h : Hd => h.2.2).length ≤ 1048576 := hn; simp at this; omega) (fun x hx => by have := hr _ (List.mem_map_of_mem hx); omega)
  have HC := Lib.hid hC; clear hC hL hM hR hS hr
  by_cases e0 : a1 = a2
  · have h0 : (a1 != a2) = false := by simp [e0]
    have E0 := Lib.hid e0; clear e0
    by_cases e1 : b1 = b2
    · have h1 : (b1 != b2) = false := by simp [e1]
      have E1 := Lib.hid e1; clear e1
      go_enter Tryd.func27, Tryd.ntmps27
      go_wp2_with (fail)
      have hC2 := HC.out
      by_cases e9 : (hs.map fun h : Hd => h.2.2) = gs.map fun h : Hd => h.2.2
      · rw [decide_eq_true e9] at hC2
        have E9 := Lib.hid e9; clear e9
        refine hC2.mono ?_
        clear hC2
        rintro e w1 ⟨rfl, n, rfl⟩
        go_wp2_with (fail)
        go_ret
        exact ⟨ret_bool (decide_eq_true (by rw [E0.out, E1.out, E9.out])).symm, below_drewN hb n⟩
      · rw [decide_eq_false e9] at hC2
        have E9 := Lib.hid e9; clear e9
        refine hC2.mono ?_
        clear hC2
        rintro e w1 ⟨rfl, n, rfl⟩
        go_wp2_with (fail)
        go_ret
        exact ⟨ret_bool (decide_eq_false (fun e => E9.out (congrArg (·.2.2) e))).symm, below_drewN hb n⟩
    · have h1 : (b1 != b2) = true := by simp [e1]
      have E1 := Lib.hid e1; clear e1
      go_enter Tryd.func27, Tryd.ntmps27
      go_wp2_with (fail)
      go_ret
      exact ⟨ret_bool (by have := E1.out; simp [this]), hb⟩
  · have h0 : (a1 != a2) = true := by simp [e0]
    have E0 := Lib.hid e0; clear e0
    go_enter Tryd.func27, Tryd.ntmps27
    go_wp2_with (fail)
    go_ret
    exact ⟨ret_bool (by have := E0.out; simp [this]), hb⟩
set_option maxHeartbeats 1000000 in
theorem markRelation_law {v : Value} {s : Sys} {fp : List Nat} {K : Int} {w : World} (k : Nat) (h : OwSys w v s fp) (hK : K = (k : Int)) (ok : OkR s.2.2) (hl : k + cntR s.2.2 ≤ 17592186044416) :
    Calls Tryd.prog 28 #[v, .int .i64 K] w fun e w' => e = .returned (.int .i64 (K + (cntR s.2.2 : Int))) ∧ HeSys w' v s k fp ∧ Keeps (· ∈ fp) w w' := by
  obtain ⟨A, c, hs, rfl, hL, hO, rfl⟩ := h
  subst hK
  have hb : Below w.heap.size w (w.alloc (.cells #[.int .i64 s.1, .int .i64 s.2.1, .slice A hs.length c] 43)) := below_alloc _ _
  have hlen : s.2.2.length = hs.length := by rw [hL, List.length_map]
  have hC := markIntSS_any A c hs.length s.2.2 (fpA A ++ fpR hs) k _ ⟨hs, hL, hO.below hb, fun b hb => hb⟩ hlen (by have := ok.1; omega) hl
  have HC := Lib.hid hC; have HL := Lib.hid hlen; clear hC hlen hL ok
  go_enter Tryd.func28, Tryd.ntmps28
  go_wp2_with (fail)
  refine HC.out.mono ?_
  rintro e w1 ⟨rfl, hR, hk⟩
  go_wp2_with (fail)
  go_ret
  obtain ⟨gs, hg, hO', hf⟩ := hR
  have hgl : gs.length = hs.length := by
    have := congrArg List.length hg
    rw [marksR_length, List.length_map, List.length_map, HL.out] at this; exact this.symm
  refine ⟨ret_int (by omega), ⟨A, c, gs, by rw [hgl], hg.symm, hO', hf⟩, (Keeps.of_below hb _).trans hk⟩
set_option maxHeartbeats 1000000 in
theorem heldRelation_law {v : Value} {s : Sys} {k : Nat} {fp : List Nat} {K : Int} {w : World} (h : HeSys w v s k fp) (hK : K = (k : Int)) (ok : OkR s.2.2) (hl : k + cntR s.2.2 ≤ 17592186044416) :
    Calls Tryd.prog 29 #[v, .int .i64 K] w fun e w' => e = .returned (.int .i64 (K + (cntR s.2.2 : Int))) ∧ Below w.heap.size w w' := by
  obtain ⟨A, c, hs, rfl, hL, hO, _⟩ := h
  subst hK
  have hb : Below w.heap.size w (w.alloc (.cells #[.int .i64 s.1, .int .i64 s.2.1, .slice A hs.length c] 43)) := below_alloc _ _
  have hlen : s.2.2.length = hs.length := by have := congrArg List.length hL; rw [List.length_map, marksR_length, List.length_map] at this; exact this.symm
  have hC := heldIntSS_any A c hs s.2.2 k _ (hO.rd.below hb) hL (by have := ok.1; omega) hl
  have HC := Lib.hid hC
  have hnn : ¬ ((k + cntR s.2.2 : Nat) : Int) < 0 := by omega
  clear hC hlen hL ok
  go_enter Tryd.func29, Tryd.ntmps29
  go_wp2_with (fail)
  refine HC.out.mono ?_
  rintro e w1 ⟨rfl, rfl⟩
  go_wp2_with (fail)
  go_ret
  exact ⟨ret_int (by omega), hb⟩
end Go.Proofs.YtahnhblodfdfhaaDoor
namespace Go.Proofs.YtahnhblodfdfhaaDoor
open Go.ChangeShapes Go.WideShapes Go.ChangeAt Go.RowKit
set_option maxHeartbeats 40000000 in
set_option maxRecDepth 100000 in
theorem lawLeafRelation_any (p : Int) (vn : Value) (n : Nd) (w : World) (hn : RdNd w vn n) (hgn : BigNode n) (_lop : -9223372036854775808 ≤ p) (_hip : p ≤ 9223372036854775807) (hT : Tab w) :
    Calls Tryd.prog 8 #[.int .i64 p, vn] w fun e w' => e = .returned (.bool true) ∧ Below w.heap.size w w' := by
  obtain ⟨_un, rfl⟩ := hn.shape
  obtain ⟨Sn, hSn⟩ : ∃ S, S = szNd (n) 1048576 := ⟨_, rfl⟩
  have HSn := Lib.hid hSn; clear hSn
  have hB0 : Below w.heap.size w w := Below.refl _ _
  have hb1 := below_alloc (w) (.cells #[.int .i64 (n).1, .int .i64 (n).2.1, .string (n).2.2] 66)
  have hB1 := below_trans hB0 hb1 hB0.size
  have bx1 := heap_alloc_new (w) (.cells #[.int .i64 (n).1, .int .i64 (n).2.1, .string (n).2.2] 66)
  have lt_pn : LtL ((w).alloc (.cells #[.int .i64 (n).1, .int .i64 (n).2.1, .string (n).2.2] 66)).heap.size [(w).heap.size] := fun b hb => by obtain rfl := List.mem_singleton.1 hb; exact box_lt bx1
  have fr_pn : FreshL (w).heap.size [(w).heap.size] := fun b hb => by obtain rfl := List.mem_singleton.1 hb; exact Nat.le_refl _
  have BX_pn_1 := Lib.hid bx1; clear bx1
  by_cases negn : Sn < 0
  case pos =>
    go_enter Tryd.func8, Tryd.ntmps8
    obtain ⟨⟨c1_0, c1_1, c1_2⟩, f1_0, f1_1, f1_2⟩ := box3 BX_pn_1.out
    go_wp2_with (fail)
    refine (szNode_law 1048576 n hgn (by omega) (by omega)).mono ?_
    rintro e w2 ⟨he2, hb2⟩
    have hB2 := below_trans hB1 hb2 hB1.size
    clear c1_0 c1_1 c1_2 f1_0 f1_1 f1_2
    rw [← HSn.out] at he2
    subst he2
    go_wp2_with (fail)
    go_ret
    exact ⟨rfl, hB2⟩
  go_enter Tryd.func8, Tryd.ntmps8
  obtain ⟨⟨c2_0, c2_1, c2_2⟩, f2_0, f2_1, f2_2⟩ := box3 BX_pn_1.out
  go_wp2_with (fail)
  refine (szNode_law 1048576 n hgn (by omega) (by omega)).mono ?_
  rintro e w2 ⟨he2, hb2⟩
  have hB2 := below_trans hB1 hb2 hB1.size
  clear c2_0 c2_1 c2_2 f2_0 f2_1 f2_2
  rw [← HSn.out] at he2
  subst he2
  have F3_pn_2 := Lib.hid (box_below BX_pn_1.out hb2)
  clear BX_pn_1
  obtain ⟨⟨c4_0, c4_1, c4_2⟩, f4_0, f4_1, f4_2⟩ := box3 F3_pn_2.out
  go_wp2_with (fail)
  refine (toNode_any (n).1 (n).2.1 (n).2.2 _).mono ?_
  rintro e w3 ⟨rfl, hb3⟩
  have hB3 := below_trans hB2 hb3 hB2.size
  clear c4_0 c4_1 c4_2 f4_0 f4_1 f4_2
  go_wp2_with (fail)
  refine (sLeafRelation_law p n.1 n.2.1 n.2.2  ).mono ?_
  rintro e w4 ⟨v4_0, fp4_0, rfl, o4r0, fr4_0, hb4⟩
  have hB4 := below_trans hB3 hb4 hB3.size
  obtain ⟨A4_0, n4_0, c4_0, rfl⟩ := o4r0.shape
  have lt_W0 := o4r0.lt
  have hb5 := below_alloc (w4) (.cells #[.int .i64 ((dnTmM p [(n.1, n.2.1, n.2.2)]).1).1, .int .i64 ((dnTmM p [(n.1, n.2.1, n.2.2)]).1).2.1, .slice A4_0 n4_0 c4_0] 43)
  have hB5 := below_trans hB4 hb5 hB4.size
  have bx5 := heap_alloc_new (w4) (.cells #[.int .i64 ((dnTmM p [(n.1, n.2.1, n.2.2)]).1).1, .int .i64 ((dnTmM p [(n.1, n.2.1, n.2.2)]).1).2.1, .slice A4_0 n4_0 c4_0] 43)
  have lt_bW0 : LtL ((w4).alloc (.cells #[.int .i64 ((dnTmM p [(n.1, n.2.1, n.2.2)]).1).1, .int .i64 ((dnTmM p [(n.1, n.2.1, n.2.2)]).1).2.1, .slice A4_0 n4_0 c4_0] 43)).heap.size [(w4).heap.size] := fun b hb => by obtain rfl := List.mem_singleton.1 hb; exact box_lt bx5
  have fr_bW0 : FreshL (w4).heap.size [(w4).heap.size] := fun b hb => by obtain rfl := List.mem_singleton.1 hb; exact Nat.le_refl _
  have BX_bW0_5 := Lib.hid bx5; clear bx5
  have F5_pn_3 := Lib.hid (box_below F3_pn_2.out hb3)
  clear F3_pn_2
  have F6_pn_4 := Lib.hid (box_below F5_pn_3.out hb4)
  clear F5_pn_3
  have F7_pn_5 := Lib.hid (box_below F6_pn_4.out hb5)
  clear F6_pn_4
  obtain ⟨⟨c8_0, c8_1, c8_2⟩, f8_0, f8_1, f8_2⟩ := box3 F7_pn_5.out
  go_wp2_with (fail)
  refine (toNode_any (n).1 (n).2.1 (n).2.2 _).mono ?_
  rintro e w6 ⟨rfl, hb6⟩
  have hB6 := below_trans hB5 hb6 hB5.size
  clear c8_0 c8_1 c8_2 f8_0 f8_1 f8_2
  go_wp2_with (fail)
  refine (iLeafRelation_law p n.1 n.2.1 n.2.2   (hT.below hB6 hT.lt)).mono ?_
  rintro e w7 ⟨v7_0, fp7_0, rfl, o7r0, fr7_0, hb7⟩
  have hB7 := below_trans hB6 hb7 hB6.size
  obtain ⟨A7_0, n7_0, c7_0, rfl⟩ := o7r0.shape
  have lt_G0 := o7r0.lt
  have hb8 := below_alloc (w7) (.cells #[.int .i64 ((dnTmM p [(n.1, n.2.1, n.2.2)]).1).1, .int .i64 ((dnTmM p [(n.1, n.2.1, n.2.2)]).1).2.1, .slice A7_0 n7_0 c7_0] 43)
  have hB8 := below_trans hB7 hb8 hB7.size
  have bx8 := heap_alloc_new (w7) (.cells #[.int .i64 ((dnTmM p [(n.1, n.2.1, n.2.2)]).1).1, .int .i64 ((dnTmM p [(n.1, n.2.1, n.2.2)]).1).2.1, .slice A7_0 n7_0 c7_0] 43)
  have lt_bG0 : LtL ((w7).alloc (.cells #[.int .i64 ((dnTmM p [(n.1, n.2.1, n.2.2)]).1).1, .int .i64 ((dnTmM p [(n.1, n.2.1, n.2.2)]).1).2.1, .slice A7_0 n7_0 c7_0] 43)).heap.size [(w7).heap.size] := fun b hb => by obtain rfl := List.mem_singleton.1 hb; exact box_lt bx8
  have fr_bG0 : FreshL (w7).heap.size [(w7).heap.size] := fun b hb => by obtain rfl := List.mem_singleton.1 hb; exact Nat.le_refl _
  have BX_bG0_8 := Lib.hid bx8; clear bx8
  have F9_G0_8 := o7r0.below hb8
  clear o7r0
  have F10_W0_5 := o4r0.below hb5
  clear o4r0
  have F11_W0_6 := F10_W0_5.below hb6
  clear F10_W0_5
  have F12_W0_7 := F11_W0_6.below hb7
  clear F11_W0_6
  have F13_W0_8 := F12_W0_7.below hb8
  clear F12_W0_7
  obtain ⟨⟨c14_0, c14_1, c14_2⟩, f14_0, f14_1, f14_2⟩ := box3 BX_bG0_8.out
  have F15_bW0_6 := Lib.hid (box_below BX_bW0_5.out hb6)
  clear BX_bW0_5
  have F16_bW0_7 := Lib.hid (box_below F15_bW0_6.out hb7)
  clear F15_bW0_6
  have F17_bW0_8 := Lib.hid (box_below F16_bW0_7.out hb8)
  clear F16_bW0_7
  obtain ⟨⟨c18_0, c18_1, c18_2⟩, f18_0, f18_1, f18_2⟩ := box3 F17_bW0_8.out
  go_wp2_with (fail)
  refine (eqRelation_law F9_G0_8.rd F13_W0_8.rd ((dnTmM_ok p [(n.1, n.2.1, n.2.2)]))).mono ?_
  rintro e w9 ⟨rfl, hb9⟩
  have hB9 := below_trans hB8 hb9 hB8.size
  clear c14_0 c14_1 c14_2 f14_0 f14_1 f14_2 c18_0 c18_1 c18_2 f18_0 f18_1 f18_2
  rw [decide_eq_true (rfl : (dnTmM p [(n.1, n.2.1, n.2.2)]).1 = (dnTmM p [(n.1, n.2.1, n.2.2)]).1)]
  have F19_G0_9 := F9_G0_8.below hb9
  clear F9_G0_8
  have F20_bG0_9 := Lib.hid (box_below BX_bG0_8.out hb9)
  clear BX_bG0_8
  obtain ⟨⟨c21_0, c21_1, c21_2⟩, f21_0, f21_1, f21_2⟩ := box3 F20_bG0_9.out
  go_wp2_with (fail)
  refine (markRelation_law (1) F19_G0_9 (by omega) ((dnTmM_ok p [(n.1, n.2.1, n.2.2)])) (by have := ((dnTmM_ok p [(n.1, n.2.1, n.2.2)])).2.2; omega)).mono ?_
  rintro e w10 ⟨rfl, he10, hk10⟩
  have hB10 := below_keeps hB9 hk10 hB9.size (fun b hb => Nat.le_trans hB6.size (fr7_0 b hb))
  clear c21_0 c21_1 c21_2 f21_0 f21_1 f21_2
  have F22_bG0_10 := Lib.hid (box_keeps F20_bG0_9.out hk10 (fun hh => (apart_of' lt_G0 (fr_bG0)) _ (List.mem_singleton.2 rfl) hh))
  clear F20_bG0_9
  obtain ⟨⟨c23_0, c23_1, c23_2⟩, f23_0, f23_1, f23_2⟩ := box3 F22_bG0_10.out
  go_wp2_with (fail)
  refine (heldRelation_law he10 (by omega) ((dnTmM_ok p [(n.1, n.2.1, n.2.2)])) (by have := ((dnTmM_ok p [(n.1, n.2.1, n.2.2)])).2.2; omega)).mono ?_
  rintro e w11 ⟨rfl, hb11⟩
  have hB11 := below_trans hB10 hb11 hB10.size
  clear c23_0 c23_1 c23_2 f23_0 f23_1 f23_2
  have F24_pn_6 := Lib.hid (box_below F7_pn_5.out hb6)
  clear F7_pn_5
  have F25_pn_7 := Lib.hid (box_below F24_pn_6.out hb7)
  clear F24_pn_6
  have F26_pn_8 := Lib.hid (box_below F25_pn_7.out hb8)
  clear F25_pn_7
  have F27_pn_9 := Lib.hid (box_below F26_pn_8.out hb9)
  clear F26_pn_8
  have F28_pn_10 := Lib.hid (box_keeps F27_pn_9.out hk10 (fun hh => (apart_of lt_pn (fr7_0.mono (Nat.le_trans (Nat.le_trans (Nat.le_trans (Nat.le_trans (Nat.le_trans (Nat.le_refl _) hb2.size) hb3.size) hb4.size) hb5.size) hb6.size))) _ (List.mem_singleton.2 rfl) hh))
  clear F27_pn_9
  have F29_pn_11 := Lib.hid (box_below F28_pn_10.out hb11)
  clear F28_pn_10
  obtain ⟨⟨c30_0, c30_1, c30_2⟩, f30_0, f30_1, f30_2⟩ := box3 F29_pn_11.out
  go_wp2_with (fail)
  refine (toNode_any (n).1 (n).2.1 (n).2.2 _).mono ?_
  rintro e w12 ⟨rfl, hb12⟩
  have hB12 := below_trans hB11 hb12 hB11.size
  clear c30_0 c30_1 c30_2 f30_0 f30_1 f30_2
  go_wp2_with (fail)
  refine (iLeafRelation_law p n.1 n.2.1 n.2.2   (hT.below hB12 hT.lt)).mono ?_
  rintro e w13 ⟨v13_0, fp13_0, rfl, o13r0, fr13_0, hb13⟩
  have hB13 := below_trans hB12 hb13 hB12.size
  obtain ⟨A13_0, n13_0, c13_0, rfl⟩ := o13r0.shape
  have lt_H0 := o13r0.lt
  have hb14 := below_alloc (w13) (.cells #[.int .i64 ((dnTmM p [(n.1, n.2.1, n.2.2)]).1).1, .int .i64 ((dnTmM p [(n.1, n.2.1, n.2.2)]).1).2.1, .slice A13_0 n13_0 c13_0] 43)
  have hB14 := below_trans hB13 hb14 hB13.size
  have bx14 := heap_alloc_new (w13) (.cells #[.int .i64 ((dnTmM p [(n.1, n.2.1, n.2.2)]).1).1, .int .i64 ((dnTmM p [(n.1, n.2.1, n.2.2)]).1).2.1, .slice A13_0 n13_0 c13_0] 43)
  have lt_bH0 : LtL ((w13).alloc (.cells #[.int .i64 ((dnTmM p [(n.1, n.2.1, n.2.2)]).1).1, .int .i64 ((dnTmM p [(n.1, n.2.1, n.2.2)]).1).2.1, .slice A13_0 n13_0 c13_0] 43)).heap.size [(w13).heap.size] := fun b hb => by obtain rfl := List.mem_singleton.1 hb; exact box_lt bx14
  have fr_bH0 : FreshL (w13).heap.size [(w13).heap.size] := fun b hb => by obtain rfl := List.mem_singleton.1 hb; exact Nat.le_refl _
  have BX_bH0_14 := Lib.hid bx14; clear bx14
  have F31_H0_14 := o13r0.below hb14
  clear o13r0
  have F32_W0_9 := F13_W0_8.below hb9
  clear F13_W0_8
  have F33_W0_10 := F32_W0_9.keeps hk10 (apart_of lt_W0 (fr7_0.mono (Nat.le_trans (Nat.le_trans (Nat.le_refl _) hb5.size) hb6.size)))
  clear F32_W0_9
  have F34_W0_11 := F33_W0_10.below hb11
  clear F33_W0_10
  have F35_W0_12 := F34_W0_11.below hb12
  clear F34_W0_11
  have F36_W0_13 := F35_W0_12.below hb13
  clear F35_W0_12
  have F37_W0_14 := F36_W0_13.below hb14
  clear F36_W0_13
  obtain ⟨⟨c38_0, c38_1, c38_2⟩, f38_0, f38_1, f38_2⟩ := box3 BX_bH0_14.out
  have F39_bW0_9 := Lib.hid (box_below F17_bW0_8.out hb9)
  clear F17_bW0_8
  have F40_bW0_10 := Lib.hid (box_keeps F39_bW0_9.out hk10 (fun hh => (apart_of lt_bW0 (fr7_0.mono (Nat.le_trans (Nat.le_refl _) hb6.size))) _ (List.mem_singleton.2 rfl) hh))
  clear F39_bW0_9
  have F41_bW0_11 := Lib.hid (box_below F40_bW0_10.out hb11)
  clear F40_bW0_10
  have F42_bW0_12 := Lib.hid (box_below F41_bW0_11.out hb12)
  clear F41_bW0_11
  have F43_bW0_13 := Lib.hid (box_below F42_bW0_12.out hb13)
  clear F42_bW0_12
  have F44_bW0_14 := Lib.hid (box_below F43_bW0_13.out hb14)
  clear F43_bW0_13
  obtain ⟨⟨c45_0, c45_1, c45_2⟩, f45_0, f45_1, f45_2⟩ := box3 F44_bW0_14.out
  go_wp2_with (fail)
  refine (eqRelation_law F31_H0_14.rd F37_W0_14.rd ((dnTmM_ok p [(n.1, n.2.1, n.2.2)]))).mono ?_
  rintro e w15 ⟨rfl, hb15⟩
  have hB15 := below_trans hB14 hb15 hB14.size
  clear c38_0 c38_1 c38_2 f38_0 f38_1 f38_2 c45_0 c45_1 c45_2 f45_0 f45_1 f45_2
  rw [decide_eq_true (rfl : (dnTmM p [(n.1, n.2.1, n.2.2)]).1 = (dnTmM p [(n.1, n.2.1, n.2.2)]).1)]
  have F46_G0_11 := he10.below hb11
  clear he10
  have F47_G0_12 := F46_G0_11.below hb12
  clear F46_G0_11
  have F48_G0_13 := F47_G0_12.below hb13
  clear F47_G0_12
  have F49_G0_14 := F48_G0_13.below hb14
  clear F48_G0_13
  have F50_G0_15 := F49_G0_14.below hb15
  clear F49_G0_14
  have F51_bG0_11 := Lib.hid (box_below F22_bG0_10.out hb11)
  clear F22_bG0_10
  have F52_bG0_12 := Lib.hid (box_below F51_bG0_11.out hb12)
  clear F51_bG0_11
  have F53_bG0_13 := Lib.hid (box_below F52_bG0_12.out hb13)
  clear F52_bG0_12
  have F54_bG0_14 := Lib.hid (box_below F53_bG0_13.out hb14)
  clear F53_bG0_13
  have F55_bG0_15 := Lib.hid (box_below F54_bG0_14.out hb15)
  clear F54_bG0_14
  obtain ⟨⟨c56_0, c56_1, c56_2⟩, f56_0, f56_1, f56_2⟩ := box3 F55_bG0_15.out
  go_wp2_with (fail)
  refine (heldRelation_law F50_G0_15 (by omega) ((dnTmM_ok p [(n.1, n.2.1, n.2.2)])) (by have := ((dnTmM_ok p [(n.1, n.2.1, n.2.2)])).2.2; omega)).mono ?_
  rintro e w16 ⟨rfl, hb16⟩
  have hB16 := below_trans hB15 hb16 hB15.size
  clear c56_0 c56_1 c56_2 f56_0 f56_1 f56_2
  go_wp2_with (fail)
  go_ret
  exact ⟨rfl, hB16⟩
set_option maxRecDepth 100000 in
theorem contractLeafRelation (H : Type) (enc : TypeId × Value → H) (W : World) (args : Array Value) (ds gs : List (DataW H)) (before : List MemPlace)
    (hval : ∀ (j : Nat) t v, Tryd.f8.params[j]? = some t → args[j]? = some v → Value.okWide Tryd.prog W .any 0 t v)
    (hW : DataW.Whole enc Tryd.prog Tryd.f8.params.toList Rows.fnExactLeafRelationSpec.vars false W args.toList ds gs before) (hL : laidMetH Tryd.prog Rows.fnExactLeafRelationRow.laid W) :
    Calls Tryd.prog 8 args W fun e W' => ∃ v, e = .returned v ∧ Rows.fnExactLeafRelationSpec.post enc Tryd.prog Tryd.f8 false true false false W args v W' := by
  have hW' := hW
  obtain ⟨p, q, hA0, hV, rfl, hfz, hnd⟩ := hW
  have hA : DataW.TrodAll enc Tryd.prog W 0 (fun _ => true) true Tryd.f8.params.toList args.toList ds p := hA0
  have hr : ∀ t ∈ Tryd.f8.params.toList, Tryd.prog.readableRec t = true ∧ t < Tryd.prog.types.size := by
    rw [Tryd.params8]
    intro t ht
    have ht' : t ∈ ([3, 66] : List TypeId) := ht
    rcases List.mem_cons.1 ht' with rfl | ht'
    · exact ⟨by kernel_rfl, of_decide_eq_true (by kernel_rfl)⟩
    rcases List.mem_cons.1 ht' with rfl | ht'
    · exact ⟨by kernel_rfl, of_decide_eq_true (by kernel_rfl)⟩
    cases ht'
  rw [Tryd.params8] at hA hval
  obtain ⟨v0, vs0, d0, ds0, p0, q0, hargs, rfl, rfl, t0, r0⟩ := trodAll_cons hA
  obtain ⟨v1, vs1, d1, ds1, p1, q1, rfl, rfl, rfl, t1, r1⟩ := trodAll_cons r0
  obtain ⟨rfl, rfl, rfl⟩ := trodAll_nil r1
  obtain rfl : args = #[v0, v1] := by cases args; simp_all
  obtain ⟨g, _, _, _, dg, pg, rfl, _⟩ := trodVars_one hV
  obtain ⟨x0, rfl, lo0, hi0⟩ := in_int (hval 0 _ v0 rfl rfl) t0
  obtain ⟨m1, hl1, hg1⟩ := in_Node (hval 1 _ v1 rfl rfl) t1
  refine (lawLeafRelation_any x0 v1 m1 W hl1 hg1 lo0 hi0 (tab_of_laid hL)).mono fun e W' ⟨he, hb⟩ => ?_
  subst he
  exact ⟨_, rfl, post_true laidOut hW' hb hr vars_ok rfl rfl Tryd.underlying4⟩
set_option maxRecDepth 100000 in
theorem liftedLeafRelation (os : Os) (started : os.Started) (H : Type) (enc : TypeId × Value → H) (F : Stop.Interp) :
    ReturnsInHanded {} Tryd.checked os 8 .any ((OpenSpec.ofChange Rows.fnExactLeafRelationSpec).preRow enc Tryd.prog Tryd.f8 Rows.fnExactLeafRelationRow.domain false Rows.fnExactLeafRelationRow.laid) (((OpenSpec.ofChange Rows.fnExactLeafRelationSpec).at F).post enc Tryd.prog Tryd.f8 false true false false) := by
  obtain ⟨ds, gs, places, hx⟩ : ∃ ds gs places, DataW.whole enc Tryd.prog ((laidWorld os).forCall (fun _ _ => 0) ⟨#[], #[.int .i64 0, .agg #[.int .i64 0, .int .i64 0, .string .empty]], []⟩).memory Tryd.f8.params.toList Rows.fnExactLeafRelationSpec.vars false (#[.int .i64 0, .agg #[.int .i64 0, .int .i64 0, .string .empty]] : Array Value).toList 8 = some (ds, gs, places) :=
    ⟨[.lit (.int .i64 0), .agg [.lit (.int .i64 0), .lit (.int .i64 0), .lit (.string [])]], [Rows.laid_loop_example_g01073_impl_smallPrimes], MemPlace.row ⟨0, 0, none⟩ 4, by kernel_rfl⟩
  refine returnsInHanded_of_row (C := Tryd.checked) (s := OpenSpec.ofChange Rows.fnExactLeafRelationSpec) own started (by kernel_rfl) Tryd.func8
    (witness_row_at (enc := enc) (C := Tryd.checked) false (laidWorld os) #[.int .i64 0, .agg #[.int .i64 0, .int .i64 0, .string .empty]] rfl (by kernel_rfl) (by kernel_rfl) (by kernel_rfl)
      (OpenSpec.preRow_of_cond 8 hx (by kernel_rfl) (fun k hk => by cases hk) (by kernel_rfl) (laid_met os _))) ?_
  intro W base args ds gs before hval hW _ _ _ hL _ _
  exact contractLeafRelation H enc W args ds gs before hval hW hL
theorem saidLeafRelation : Rows.FnExactLeafRelationSaid :=
  OpenClaim.holds_of_cond 8 Tryd.f8 rfl rfl rfl rfl rfl rfl rfl ⟨rfl, rfl, rfl, rfl, rfl⟩ rfl rfl rfl rfl rfl (by kernel_rfl) Tryd.func8 (by kernel_rfl)
    (of_decide_eq_true (by kernel_rfl)) (by unfold Func.isWrapper; first | (rw [if_pos (by decide +kernel)]; kernel_rfl) | (rw [if_neg (by decide +kernel)]; exact ⟨rfl, rfl⟩))
    (fun os started H enc _ F => by rw [OpenClaim.pre_eq_preRow]; exact liftedLeafRelation os started H enc F)
theorem plainLeafRelation (f : FuncId) (fn : Func) (hf : Tryd.pinned.checked.prog.funcNamed "loop.example/g01073/laws.FnExactLeafRelation" = some f) (hfn : Tryd.pinned.checked.prog.funcs[f]? = some fn) :
    false = Tryd.pinned.checked.prog.looks [] ∧ ∀ (j : Nat) t, fn.params[j]? = some t → Tryd.pinned.checked.prog.wantsStandIn t = false := by
  obtain rfl : f = 8 := Option.some.inj ((show Tryd.prog.funcNamed "loop.example/g01073/laws.FnExactLeafRelation" = some 8 by kernel_rfl).symm.trans hf) |>.symm
  obtain rfl : fn = Tryd.f8 := (Option.some.inj (Tryd.func8.symm.trans hfn)).symm
  refine ⟨by kernel_rfl, fun j t ht => ?_⟩
  rw [Tryd.params8] at ht
  have ht' : t ∈ ([3, 66] : List TypeId) := by have := Array.mem_of_getElem? ht; simpa using this
  rcases List.mem_cons.1 ht' with rfl | ht'
  · exact (show Tryd.prog.wantsStandIn 3 = false by kernel_rfl)
  rcases List.mem_cons.1 ht' with rfl | ht'
  · exact (show Tryd.prog.wantsStandIn 66 = false by kernel_rfl)
  cases ht'
theorem cardLeafRelation : Rows.FnExactLeafRelationCardSaid :=
  Claim7.holds_tied_plain_at .later [] _ _ _ _ saidLeafRelation (fun _ h => by cases h) (by kernel_rfl) (fun _ h => by cases h) fnExactLeafRelation_row_tie rfl ⟨rfl, rfl⟩ (by kernel_rfl) rfl plainLeafRelation (by kernel_rfl)
#print axioms cardLeafRelation
end Go.Proofs.YtahnhblodfdfhaaDoor
